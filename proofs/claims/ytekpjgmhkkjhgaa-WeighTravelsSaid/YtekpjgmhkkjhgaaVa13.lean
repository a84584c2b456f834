/- Travels Part 13 of the proof. -/
import Derived.Test.YtekpjgmhkkjhgaaVa12
set_option linter.all false
section
namespace Go.Proofs.Ytekpjgmhkkjhgaa
open Go.Lf
def Xj (w:Zb) (n h:Int):Nat ->Int ->Bool
 | 0,a=>a==h
 | k + 1,a=>bif a==h then true else match cellOf w a.toNat n with
   | none=>false
   | some c=>bif decide (c.from_ < 0) then false else Xj w n h k c.from_
def Ki (w:Zb) (n h:Int):Bool:= !((List.range w.cells.length).any fun m=>(cellOf w m n).isSome && !(Xj w n h w.cells.length m))
theorem Shp.from_ {w:Zb} (sh:Shp w) {m:Nat} {n:Int} {c:Za} (h:cellOf w m n=some c) (h0:¬ c.from_ < 0):0 <=c.from_∧c.from_ < (w.cells.length:Int):=by
 obtain⟨row,k,h1,h2⟩:=Zae h;have:= (sh.cell m row k c h1 h2).1;unfold Kk at this;rw [Ba0] at this;have:=this.2;have e:(c.from_==-1)=false:=by simp;omega
 rw [e] at this;cases hr:c.root
 ·rw [hr] at this;simp only [Bool.or_self,Cq0,Ba0] at this;have:=this.1.1;unfold Zaz at this
  simpa using this
 ·rw [hr] at this;simp at this
section
theorem Zpc {F:Nat} (hF:1000 <=F) {w:Zb} (sm:Small w) (sh:Shp w) {st:Store} (so:Qx w st) (n h:Int):ZsE F st n h=some (Ki w n h):=by
 have hc:=sm.cells;have h6:=sh.c6
 let z:Za:=Za.mk 0 false 0 0 0 false
 have key:∀ (d i F' m:Nat) (next:Int ->Option Bool) (a:Int),i + d=w.cells.length ->d < F' ->0 <=a ->a < (w.cells.length:Int) ->
  loop F' (Zix st n h m next) (a,(cellOf w a.toNat n).isSome,(i:Int),((cellOf w a.toNat n).getD z).name,((cellOf w a.toNat n).getD z).root,((cellOf w a.toNat n).getD z).from_,((cellOf w a.toNat n).getD z).has,((cellOf w a.toNat n).getD z).out,((cellOf w a.toNat n).getD z).use)=bif Xj w n h d a then next (ZP ((m:Int) + 1)) else some false:=by
  intro d
  induction d with
  | zero=>
    intro i F' m next a hi hF' h0 h1;obtain⟨F',rfl⟩:=Ne0 (n:=F') (by omega);rw [Yi];simp only [Zix,Xj,so.m];rw [decide_eq_false (by omega),Cq0];have:(a !=h)= !(a==h):=rfl;rw [this];cases a==h <;> rfl
  | succ d ih=>
    intro i F' m next a hi hF' h0 h1;obtain⟨F',rfl⟩:=Ne0 (n:=F') (by omega);rw [Yi];simp only [Zix,Xj,so.m];rw [decide_eq_true (by omega),Cq1];cases a==h
    ·simp only [Cq0];cases hq:cellOf w a.toNat n with
     | none=>rfl
     | some c=>
       simp only [Option.isSome_some,Bool.not_true,Bool.false_or,Option.getD_some];by_cases hf:c.from_ < 0
       ·rw [decide_eq_true hf];rfl
       ·rw [decide_eq_false hf];simp only [Cq0];have hv:=sh.from_ hq hf;unfold Zav;rw [so.cells,if_pos hv,Bq0,Xd (by omega)];exact ih (i + 1) F' m next c.from_ (by omega) (by omega) hv.1 hv.2
    ·rfl
 unfold ZsE;refine(ZbJ w.cells.length (fun v (_:Unit)=>v) (Ziy F st n h) (fun m s next=>bif(cellOf w m n).isSome && !(Xj w n h w.cells.length m) then some false else next ()) (fun _=>some true) (by omega) (fun m s next hm=>?_) (fun s next=>?_) (by omega) ()).trans ?_
 ·simp only [Ziy,so.m];rw [decide_eq_true (by omega),Cq1];unfold Zav;rw [so.cells,if_pos (by omega),Bq0,Int.toNat_natCast];have:=key w.cells.length 0 F m next (m:Int) (by omega) (by omega) (by omega) (by omega);rw [Int.toNat_natCast] at this;cases hq:cellOf w m n with
  | none=>rfl
  | some c=>
    rw [hq] at this;simp only [Option.isSome_some,Bool.not_true,Cq0,Bool.true_and,Option.getD_some];refine Eq.trans this ?_;cases Xj w n h w.cells.length m <;> rfl
 ·simp only [Ziy,so.m];rw [decide_eq_false (by omega),Cq0]
 ·rw [K4 (r:=some false) (fun _ m=>(cellOf w m n).isSome && !(Xj w n h w.cells.length m)) (fun _ _ _ _=>rfl),Ze6];unfold Ki;cases (List.range w.cells.length).any fun m=>(cellOf w m n).isSome && !(Xj w n h w.cells.length m) <;> rfl
end
def Zmh (w:Zb) (m:Nat) (n:Int):Nat:=Zcu w m n + (match cellOf w m n with | some c=>bif c.root then 1 else 0 | none=>0)
def Ka (w:Zb) (n:Int) (q:Int×Int) (m:Nat):Int×Int:=bif decide ((Zmh w m n:Int) > 0) then(ZP (q.1 + (Zmh w m n:Int)),(m:Int)) else q
theorem UZ {α σ:Type} (P:σ ->Prop) (f:σ ->α ->σ) (l:List α) (h:∀ s x,x ∈ l ->P s ->P (f s x)) (s:σ) (h0:P s):P (l.foldl f s):=by
 induction l generalizing s with
 | nil=>exact h0
 | cons x l ih=>exact ih (fun s y hy=>h s y (by simp [hy])) _ (h s x (by simp) h0)
theorem ZbK {w:Zb} (sh:Shp w) (n:Int):∀ x ∈ Y0 w n,0 <=x∧x < (w.cells.length:Int):=by
 unfold Y0;refine UZ (fun s:List Int=>∀ x ∈ s,0 <=x∧x < (w.cells.length:Int)) _ _ (fun s x hx hs=>?_) _ ?_
 ·cases h:(x.kind==3) && (x.name==n)
  ·exact hs
  ·intro y hy;simp only [Cq1,List.mem_append,List.mem_singleton] at hy;rcases hy with hy | hy
   ·exact hs y hy
   ·subst hy;have:=sh.note x hx;unfold Ke Zaz at this;simp only [Ba0,decide_eq_true_eq] at this;exact this.1.1.1
 ·refine UZ (fun s:List Int=>∀ x ∈ s,0 <=x∧x < (w.cells.length:Int)) _ _ (fun s m hm hs=>?_) _ (by simp);rw [List.mem_range] at hm;cases cellOf w m n with
  | none=>exact hs
  | some c=>
    dsimp only;cases c.root
    ·exact hs
    ·intro y hy;simp only [Cq1,List.mem_append,List.mem_singleton] at hy;rcases hy with hy | hy
     ·exact hs y hy
     ·subst hy;omega
theorem Zpp {w:Zb} (sh:Shp w) (n:Int):(Y0 w n).length <=100:=by
 have h:(Y0 w n).length <=w.cells.length + w.notes.length:=by
  unfold Y0;refine Nat.le_trans (Zkf _ (fun s x=>?_) w.notes _) (Nat.add_le_add_right (Nat.le_trans (Zkf _ (fun s m=>?_) (List.range w.cells.length) []) (by simp)) _)
  ·cases (x.kind==3) && (x.name==n) <;> simp
  ·cases cellOf w m n with
   | none=>simp
   | some c=>dsimp only;cases c.root <;> simp
 have:=sh.c6;have:=sh.notes;omega
theorem ZsS {c:Zd ->Bool} (l:List Zd) (k:Nat):l.foldl (fun(k:Nat) x=>bif c x then k + 1 else k) k=k + l.countP c:=by
 induction l generalizing k with
 | nil=>rfl
 | cons x l ih=>
   rw [List.foldl_cons,ih,List.countP_cons];cases c x <;> simp;omega
theorem KF {w:Zb} {m:Nat} (hm:m < w.cells.length) (n:Int):(Y0 w n).count (m:Int)=Zmh w m n:=by
 unfold Y0
 rw [U0 (fun s:List Int=>s.count (m:Int)) (g:=fun(k:Nat) (x:Zd)=>bif((x.kind==3) && (x.Zx== (m:Int))) && (x.name==n) then k + 1 else k) (fun s x hx=>by
  cases h1:x.kind==3 <;> cases h2:x.name==n <;> cases h3:x.Zx== (m:Int) <;> simp [List.count_append,List.count_singleton,h3])]
 rw [ZsS]
 rw [U0 (fun s:List Int=>s.count (m:Int)) (g:=fun(k:Nat) (m':Nat)=>match cellOf w m' n with | some c=>bif c.root && (m'==m) then k + 1 else k | none=>k) (fun s m' hx=>by
  cases cellOf w m' n with
  | none=>rfl
  | some c=>
    dsimp only;cases c.root
    ·rfl
    ·by_cases e:m'=m
     ·subst e;simp
     ·have e1:(m'==m)=false:=by simp [e]
      have e2:¬ (m':Int)= (m:Int):=by omega
      simp [e1,List.count_append,List.count_singleton,e2])]
 have:=ZeN (V:=id) (fun m' (k:Nat)=>match cellOf w m' n with | some c=>bif c.root && (m'==m) then k + 1 else k | none=>k) (fun k=>match cellOf w m n with | some c=>bif c.root then k + 1 else k | none=>k) hm (fun i s hi hne=>by
  simp only [id];cases cellOf w i n with
  | none=>rfl
  | some c=>
    have e1:(i==m)=false:=by simp [hne]
    dsimp only;rw [e1,Bool.and_false];rfl) (fun s=>by
  simp only [id];cases cellOf w m n with
  | none=>rfl
  | some c=>simp) 0
 simp only [id] at this;rw [List.count_nil,this];unfold Zmh Zcu;cases cellOf w m n with
 | none=>simp
 | some c=>cases c.root <;> simp <;> omega
theorem Zod (L:List Int) (h:∀ x ∈ L,0 <=x) (M:Nat):L.countP (fun x=>decide (x < ((M + 1:Nat):Int)))=L.countP (fun x=>decide (x < (M:Int))) + L.count (M:Int):=by
 induction L with
 | nil=>rfl
 | cons x L ih=>
   have:=ih (fun y hy=>h y (by simp [hy]));rw [List.countP_cons,List.countP_cons,List.count_cons,this];have h0:=h x (by simp);by_cases e:x= (M:Int)
   ·subst e;have a1:decide ((M:Int) < ((M + 1:Nat):Int))=true:=by simp;omega
    have a2:decide ((M:Int) < (M:Int))=false:=by simp
    rw [a1,a2];simp;omega
   ·have a3:(x== (M:Int))=false:=by simp [e]
    by_cases l:x < (M:Int)
    ·have a1:decide (x < ((M + 1:Nat):Int))=true:=by simp;omega
     have a2:decide (x < (M:Int))=true:=by simp [l]
     rw [a1,a2,a3];simp;omega
    ·have a1:decide (x < ((M + 1:Nat):Int))=false:=by simp;omega
     have a2:decide (x < (M:Int))=false:=by simp;omega
     rw [a1,a2,a3];simp
theorem Zfr {w:Zb} (sh:Shp w) (n:Int):((List.range w.cells.length).foldl (Ka w n) (0,0)).1= ((Y0 w n).length:Int)∧∀ h,Y0 w n= [h] ->((List.range w.cells.length).foldl (Ka w n) (0,0)).2=h:=by
 have hl:=Zpp sh n;have hr:=ZbK sh n
 have key:∀ M,M <=w.cells.length ->((List.range M).foldl (Ka w n) (0,0)).1= ((Y0 w n).countP (fun x=>decide (x < (M:Int))):Int)∧(((List.range M).foldl (Ka w n) (0,0)).1 ≠ 0 ->((List.range M).foldl (Ka w n) (0,0)).2 ∈ Y0 w n):=by
  intro M
  induction M with
  | zero=>
    intro _
    have:(Y0 w n).countP (fun x=>decide (x < ((0:Nat):Int)))=0:=by
     rw [List.countP_eq_zero];intro x hx;have:= (hr x hx).1;simp;omega
    rw [this];exact⟨rfl,fun h=>absurd rfl h⟩
  | succ M ih=>
    intro hM;obtain⟨i1,i2⟩:=ih (by omega);rw [List.range_succ,List.foldl_append];simp only [List.foldl_cons,List.foldl_nil];rw [Zod _ (fun x hx=>(hr x hx).1)];have hc:=KF (w:=w) (m:=M) (by omega) n;have hle:=List.countP_le_length (p:=fun x=>decide (x < (M:Int))) (l:=Y0 w n);have hle2:=List.count_le_length (a:= (M:Int)) (l:=Y0 w n);generalize (List.range M).foldl (Ka w n) (0,0)=q at i1 i2 ⊢;unfold Ka;rw [← hc];by_cases h0:(Y0 w n).count (M:Int)=0
    ·have:decide ((((Y0 w n).count (M:Int):Nat):Int) > 0)=false:=by simp [h0]
     rw [this,Cq0,h0];exact⟨i1,i2⟩
    ·have:decide ((((Y0 w n).count (M:Int):Nat):Int) > 0)=true:=decide_eq_true (by omega);rw [this,Cq1];refine⟨?_,fun _=>?_⟩
     ·show ZP (q.1 + _)=_;rw [i1,YP] <;> omega
     ·have hp:0 < (Y0 w n).count (M:Int):=Nat.pos_of_ne_zero h0;exact List.count_pos_iff.1 hp
 obtain⟨k1,k2⟩:=key w.cells.length (Nat.le_refl _)
 have e:(Y0 w n).countP (fun x=>decide (x < (w.cells.length:Int)))= (Y0 w n).length:=by
  rw [List.countP_eq_length];intro x hx
  simpa using (hr x hx).2
 rw [e] at k1;refine⟨k1,fun h hh=>?_⟩;have:=k2 (by rw [k1,hh];simp);rw [hh] at this
 simpa using this
end Go.Proofs.Ytekpjgmhkkjhgaa
end
section
namespace Go.Proofs.Ytekpjgmhkkjhgaa
open Go.Lf
def Zs6 (w:Zb) (n:Int) (m:Nat):Bool:= (J4 w m n !=Zd5 w m n) || decide (J4 w m n > 1000000)
def QR (w:Zb) (n:Int):Int×Int:= (List.range w.cells.length).foldl (Ka w n) (0,0)
def WQ (w:Zb) (n:Int):Bool:= !((List.range w.cells.length).any (Zs6 w n)) && ((QR w n).1==1 && Ki w n (QR w n).2)
def Zar (w:Zb):Bool:=Zb8 w && (!(anyI (K6 w) 0 w.freed) && (Zdw w && KX w))
def Zby (w:Zb):Bool:=Zar w && !((List.range w.names.toNat).any fun n=>Yr w n && !(WQ w n))
theorem Zgy {w:Zb} (h:Zar w=true):Shp w:=by
 unfold Zar at h;simp only [Ba0] at h;exact ZtO h.1 h.2.2.1 h.2.2.2
section
theorem Zuu {F:Nat} (hF:1000 <=F) {w:Zb} (sm:Small w) (sh:Shp w) (n:Int):(((Y0 w n).length:Int)==1)= ((QR w n).1==1)∧((Y0 w n).length=1 ->Y0 w n= [(QR w n).2]):=by
 obtain⟨h1,h2⟩:=Zfr sh n;unfold QR;refine⟨by rw [h1],fun hl=>?_⟩;obtain⟨h,hh⟩:=List.length_eq_one_iff.1 hl;rw [h2 h hh];exact hh
theorem Zyy {F:Nat} (hF:1000 <=F) {w:Zb} (sm:Small w):ZvP F w=some (Zby w):=by
 unfold ZvP;have hf:=sm.freed;have hc:=sm.cells;have hn:=sm.notes
 have e0:((((((decide ((w.cells.length:Int) < 1)) || (decide ((w.cells.length:Int) > 6))) || (decide (w.names < 0))) || (decide (w.names > 12))) || (decide ((w.notes.length:Int) > 80))) || (decide ((w.freed.length:Int) > w.names)))= !(Zb8 w):=by
  unfold Zb8;rw [Bool.eq_iff_iff];simp only [Bool.or_eq_true,decide_eq_true_eq,Bool.not_eq_true',← Bool.not_eq_true,Ba0];omega
 rw [e0];cases h0:Zb8 w
 ·unfold Zby Zar;rw [h0];rfl
 ·have h0':=h0;unfold Zb8 at h0';simp only [Ba0,decide_eq_true_eq] at h0';have en:((w.names.toNat:Nat):Int)=w.names:=by omega
  simp only [Bool.not_true,Cq0];refine(Xf w.freed (fun v (_:Unit)=>v) (ZiH F w) (fun k x s next=>bif K6 w k x then some false else next ()) (fun _=>bif Zdw w && KX w then some (!((List.range w.names.toNat).any fun n=>Yr w n && !(WQ w n))) else some false) (by omega) (fun k y s next hy hk=>?_) (fun s next=>?_) (by omega) ()).trans ?_
  ·have hk':k < w.freed.length:=by omega
   simp only [ZiH,Z5,hy,hk,decide_true,Cq1,Bq0,Zq8 _ hk' (by omega)];unfold K6;have a1:decide (y < 0)= !decide (0 <=y):=by rw [← decide_not];exact decide_eq_decide.2 (by omega)
   have a2:decide (y >=w.names)= !decide (y < w.names):=by rw [← decide_not];exact decide_eq_decide.2 (by omega)
   rw [a1,a2];cases decide (0 <=y) <;> cases decide (y < w.names) <;> cases decide ((k:Int) > 0) <;> rfl
  ·simp only [ZiH];rw [decide_eq_false (by omega),Cq0,ZsB hF sm _ rfl rfl rfl,Bq0];cases hr:Zdw w && KX w
   ·rfl
   ·simp only [Bool.not_true,Cq0,Cq1];rw [Ba0] at hr;have sh:=ZtO h0 hr.1 hr.2;obtain⟨cs,q1,q2⟩:=ZqF hF sm sh;have so:Qx w ⟨(w.cells.length:Int),w.names,cs,w.notes,w.freed⟩:= ⟨rfl,rfl,rfl,rfl,q2⟩
    rw [q1,Bq0,ZrN hF sm sh.szd so,Bq0];generalize hst:(⟨(w.cells.length:Int),w.names,cs,w.notes,w.freed⟩:Store)=st at so;refine(ZbJ w.names.toNat (fun v (_:Unit)=>v) (ZiG F st (ZcV w)) (fun n s next=>bif Yr w n && !(WQ w n) then some false else next ()) (fun _=>some true) (by omega) (fun n s next hnn=>?_) (fun s next=>?_) (by omega) ()).trans ?_
    ·have ZBt:(n:Int) < w.names:=by omega
     simp only [ZiG,so.n];rw [decide_eq_true ZBt,Cq1,ZfA hF sm st so.n so.freed,Bq0];cases Yr w n
     ·rfl
     ·simp only [Bool.not_true,Cq0,Bool.true_and];rw [Zpn hF sm sh so ZBt,Bq0];obtain⟨n1,n2⟩:=Zuu hF sm sh (n:Int);have e5:(((Y0 w n).length:Int) !=1)= !((QR w n).1==1):=by rw [← n1];rfl
      rw [e5,Bool.not_not];unfold WQ;cases h1:(QR w n).1==1
      ·simp only [ZnE,Bq0,Bool.not_false,Bool.true_or,Cq1,Bool.false_and,Bool.and_false]
      ·rw [h1] at n1
       have hl:(Y0 w n).length=1:=by
        have:=eq_of_beq n1;omega
       rw [n2 hl];have eg:Ym [(QR w n).2] 0=some (QR w n).2:=rfl;simp only [ZeL,eg,Bq0,Zpc hF sm sh so,Bool.not_true,Bool.false_or,Bool.true_and];cases Ki w n (QR w n).2
       ·simp only [Bool.not_false,Cq1,Bool.and_false]
       ·simp only [Bool.not_true,Cq0,Bool.and_true,Bool.not_not];refine(ZbJ w.cells.length (fun v (_:Unit)=>v) (ZiF st (ZcV w) n next) (fun m s nx=>bif Zs6 w n m then some false else nx ()) (fun _=>next (ZP ((n:Int) + 1))) (by omega) (fun m s nx hm=>?_) (fun s nx=>?_) (by omega) ()).trans ?_
        ·simp only [ZiF,so.m];obtain⟨g1,g2⟩:=Zmv sh.szd hm ZBt;rw [decide_eq_true (by omega),Cq1];have p1:ZaT (ZcV w).1 ⟨(m:Int),(n:Int)⟩ 0=some (J4 w m n):=by rw [← g1];rfl
         have p2:ZaT (ZcV w).2 ⟨(m:Int),(n:Int)⟩ 0=some (Zd5 w m n):=by rw [← g2];rfl
         simp only [p1,p2,Bq0,ZnD];unfold Zs6;cases J4 w m n !=Zd5 w m n <;> rfl
        ·simp only [ZiF,so.m,ZiE];rw [decide_eq_false (by omega),Cq0]
        ·rw [K4 (r:=some false) (fun _ m=>Zs6 w n m) (fun _ _ _ _=>rfl),Ze6]
    ·simp only [ZiG,so.n];rw [decide_eq_false (by omega),Cq0]
    ·rw [K4 (r:=some false) (fun _ (n:Nat)=>Yr w n && !(WQ w n)) (fun _ _ _ _=>rfl),Ze6];cases (List.range w.names.toNat).any fun n=>Yr w n && !(WQ w n) <;> rfl
  ·rw [K4 (r:=some false) (K6 w) (fun k _ _ _=>by rw [Nat.zero_add])];unfold Zby Zar;rw [h0];cases anyI (K6 w) 0 w.freed
   ·cases Zdw w && KX w <;> rfl
   ·rfl
end
end Go.Proofs.Ytekpjgmhkkjhgaa
end
section
namespace Go.Proofs.Ytekpjgmhkkjhgaa
open Go.Lf
abbrev Row:=List Za
def Ug (r:Row):Prop:=r.Pairwise fun a b=>a.name < b.name
def UI (r:Row) (n:Int):Option Za:=r.find? fun c=>c.name==n
def put (c:Za):Row ->Row
 | []=>[c]
 | d::r=>if d.name < c.name then d::put c r else if d.name=c.name then c::r else c::d::r
def rmv (n:Int) (r:Row):Row:=r.filter fun c=>!(c.name==n)
theorem Qq {r:Row} {n:Int} {c:Za} (h:UI r n=some c):c.name=n:=by
 unfold UI at h;have:=List.find?_some h;simpa using this
theorem ZbM {r:Row} {n:Int} {c:Za} (h:UI r n=some c):c ∈ r:=List.mem_of_find?_eq_some h
theorem YS (d:Za) (r:Row) (n:Int):UI (d::r) n=if d.name=n then some d else UI r n:=by
 unfold UI;rw [List.find?_cons];by_cases h:d.name=n
 ·have:(d.name==n)=true:=by simp [h]
  rw [this,if_pos h]
 ·have:(d.name==n)=false:=by simp [h]
  rw [this,if_neg h]
theorem Zlw (n:Int):UI [] n=none:=rfl
theorem Ug.tail {d:Za} {r:Row} (s:Ug (d::r)):Ug r:= (List.pairwise_cons.1 s).2
theorem Ug.head {d:Za} {r:Row} (s:Ug (d::r)):∀ c ∈ r,d.name < c.name:= (List.pairwise_cons.1 s).1
theorem Zcz {r:Row} {n:Int} (h:∀ c ∈ r,n < c.name):UI r n=none:=by
 unfold UI;rw [List.find?_eq_none];intro c hc;have:=h c hc;simp;omega
theorem Zlv {r:Row} (s:Ug r) {c:Za} (h:c ∈ r):UI r c.name=some c:=by
 induction r with
 | nil=>simp at h
 | cons d r ih=>
   rw [YS];rcases List.mem_cons.1 h with rfl | h
   ·rw [if_pos rfl]
   ·have:=s.head c h;rw [if_neg (by omega)];exact ih s.tail h
theorem ZaB (c:Za) {r:Row} (s:Ug r) (n:Int):UI (put c r) n=if n=c.name then some c else UI r n:=by
 induction r with
 | nil=>rw [put,YS,Zlw];by_cases h:n=c.name <;> simp [h];exact fun e=>h e.symm
 | cons d r ih=>
   unfold put;by_cases h1:d.name < c.name
   ·rw [if_pos h1,YS,YS,ih s.tail];by_cases h2:d.name=n
    ·rw [if_pos h2,if_pos h2,if_neg (by omega)]
    ·rw [if_neg h2,if_neg h2]
   ·rw [if_neg h1];by_cases h2:d.name=c.name
    ·rw [if_pos h2,YS,YS];by_cases h3:n=c.name
     ·rw [if_pos h3.symm,if_pos h3]
     ·rw [if_neg (fun e=>h3 e.symm),if_neg h3,if_neg (by omega)]
    ·rw [if_neg h2,YS];by_cases h3:n=c.name
     ·rw [if_pos h3.symm,if_pos h3]
     ·rw [if_neg (fun e=>h3 e.symm),if_neg h3]
theorem ZxB {c x:Za} {r:Row} (h:x ∈ put c r):x=c∨x ∈ r:=by
 induction r with
 | nil=>simp [put] at h;exact .inl h
 | cons d r ih=>
   unfold put at h;split at h
   ·rcases List.mem_cons.1 h with rfl | h
    ·exact .inr (by simp)
    ·exact(ih h).imp id fun z=>by simp [z]
   ·split at h
    ·rcases List.mem_cons.1 h with rfl | h
     ·exact .inl rfl
     ·exact .inr (by simp [h])
    ·rcases List.mem_cons.1 h with rfl | h
     ·exact .inl rfl
     ·exact .inr h
theorem Ug.put {c:Za} {r:Row} (s:Ug r):Ug (put c r):=by
 induction r with
 | nil=>exact List.pairwise_singleton _ _
 | cons d r ih=>
   unfold Go.Proofs.Ytekpjgmhkkjhgaa.put;by_cases h1:d.name < c.name
   ·rw [if_pos h1];refine List.pairwise_cons.2 ⟨fun x hx=>?_,ih s.tail⟩;rcases ZxB hx with rfl | hx
    ·exact h1
    ·exact s.head x hx
   ·rw [if_neg h1];by_cases h2:d.name=c.name
    ·rw [if_pos h2];exact List.pairwise_cons.2 ⟨fun x hx=>by have:=s.head x hx;omega,s.tail⟩
    ·rw [if_neg h2];refine List.pairwise_cons.2 ⟨fun x hx=>?_,s⟩;rcases List.mem_cons.1 hx with rfl | hx
     ·omega
     ·have:=s.head x hx;omega
theorem Zq9 (n:Int) (r:Row) (k:Int):UI (rmv n r) k=if k=n then none else UI r k:=by
 induction r with
 | nil=>simp [rmv,UI]
 | cons d r ih=>
   unfold rmv at ih ⊢;rw [List.filter_cons];by_cases h:d.name=n
   ·have:(!(d.name==n))=false:=by simp [h]
    rw [if_neg (by simp [h]),ih,YS];by_cases hk:k=n
    ·rw [if_pos hk,if_pos hk]
    ·rw [if_neg hk,if_neg hk,if_neg (by omega)]
   ·rw [if_pos (by simp [h]),YS,ih,YS];by_cases hk:k=n
    ·rw [if_pos hk,if_pos hk,if_neg (by omega)]
    ·rw [if_neg hk,if_neg hk]
theorem Ug.rmv {r:Row} (s:Ug r) (n:Int):Ug (rmv n r):=List.Pairwise.filter _ s
theorem Ug.ext:∀ {r q:Row},Ug r ->Ug q ->(∀ n,UI r n=UI q n) ->r=q
 | [],[],_,_,_=>rfl
 | [],d::q,_,_,h=>by have:=h d.name;rw [YS,if_pos rfl] at this;simp [UI] at this
 | d::r,[],_,_,h=>by have:=h d.name;rw [YS,if_pos rfl] at this;simp [UI] at this
 | d::r,e::q,s,t,h=>by
   have hde:d=e:=by
    have h1:=h d.name;have h2:=h e.name;rw [YS,if_pos rfl,YS] at h1;rw [YS,YS,if_pos rfl] at h2;by_cases hn:e.name=d.name
    ·rw [if_pos hn] at h1;exact Oi0 h1
    ·rw [if_neg hn] at h1;rw [if_neg (fun z=>hn z.symm)] at h2;have m1:=t.head d (ZbM h1.symm);have m2:=s.head e (ZbM h2);omega
   subst hde;congr 1;refine Ug.ext s.tail t.tail fun n=>?_
   have:=h n;rw [YS,YS] at this;by_cases hn:d.name=n
   ·rw [Zcz (fun c hc=>by have:=s.head c hc;omega),Zcz (fun c hc=>by have:=t.head c hc;omega)]
   ·rwa [if_neg hn,if_neg hn] at this
def blank (n:Int):Za:= ⟨n,false,-1,0,0,false⟩
def look (r:Row) (n:Int):Za:= (UI r n).getD (blank n)
def cw (w:Zb) (m:Nat) (r:Row):Zb:= ⟨w.cells.set m r,w.notes,w.names,w.freed⟩
theorem set_self {α:Type} {l:List α} {m:Nat} {x:α} (h:l[m]? =some x):l.set m x=l:=by
 apply List.ext_getElem?;intro k;rw [List.getElem?_set];by_cases hk:m=k
 ·subst hk;have:= (Li0 h).1;rw [if_pos rfl,if_pos this,h]
 ·rw [if_neg hk]
def JC (n:Int):List Int ->List Int
 | []=>[n]
 | x::l=>if x > n then n::x::l else x::JC n l
def Xn (w:Zb) (m:Nat) (n:Int) (c:Za):Zb:=
 bif c.use || (c.out !=0) then w else
  ⟨w.cells.set m (rmv n (rowOf w m)),bif c.root then w.notes else bif decide (c.from_ >=0) then w.notes ++ [⟨2,c.from_,n,0,c.has⟩] else w.notes,w.names,bif c.root then JC n w.freed else w.freed⟩
theorem J2 (r:Row) (n:Int):(look r n).name=n:=by
 unfold look;cases h:UI r n with
 | none=>rfl
 | some c=>exact Qq h
theorem ZqA {r:Row} (s:Ug r) {c d:Za} (h:c.name=d.name):put c (put d r)=put c r:=by
 refine Ug.ext s.put.put s.put fun k=>?_
 rw [ZaB _ s.put,ZaB _ s,ZaB _ s];by_cases hk:k=c.name
 ·rw [if_pos hk,if_pos hk]
 ·rw [if_neg hk,if_neg hk,if_neg (by omega)]
theorem QD {w:Zb} {m:Nat} (hm:m < w.cells.length) (r:Row):rowOf (cw w m r) m=r:=by
 unfold rowOf cw;simp [hm]
theorem Zhj {c:Za} (r:Row):(put c r).length <=r.length + 1:=by
 induction r with
 | nil=>simp [put]
 | cons d r ih=>
   unfold put;split
   ·simp;omega
   ·split
    ·simp
    ·simp
def sent (w:Zb) (x:Zd):Zb:= ⟨w.cells,w.notes ++ [x],w.names,w.freed⟩
def XA (w:Zb) (m:Nat) (n Zx x:Int):Zb:=
 bif Zx != (m:Int) then sent w ⟨2,Zx,n,0,x⟩ else cw w m (put {look (rowOf w m) n with out:=ZP ((look (rowOf w m) n).out - x)} (rowOf w m))
theorem Small.cw {w:Zb} (s:Small w) {m:Nat} {r:Row} (h:r.length < 1000):Small (cw w m r):=by
 refine⟨by show(w.cells.set m r).length < 1000;simp;exact s.cells,fun q hq=>?_,s.notes,s.freed⟩;have hq:q ∈ w.cells.set m r:=hq;rcases List.mem_or_eq_of_mem_set hq with z | z
 ·exact s.rows q z
 ·rw [z];exact h
def Qs (w:Zb) (x:Zd):Zb:=
 let m:=x.Zx.toNat
 let r:=rowOf w m
 let c:=look r x.name
 let a:=cw w m
 bif x.kind==1 then
  bif(!c.root && (c.from_==-1)) && (x.via !=x.Zx) then a (put ⟨c.name,c.root,x.via,x.w,c.out,true⟩ r)
  else bif(!c.root && decide (c.from_ >=0)) && (c.from_==x.via) then a (put ⟨c.name,c.root,c.from_,ZP (c.has + x.w),c.out,true⟩ r)
  else XA (a (put ⟨c.name,c.root,c.from_,c.has,c.out,true⟩ r)) m x.name x.via x.w
 else bif x.kind==2 then
  let d:Za:= ⟨c.name,c.root,c.from_,c.has,ZP (c.out - x.w),c.use⟩
  Xn (a (put d r)) m x.name d
 else
  let d:Za:= ⟨c.name,true,-1,0,ZP (c.out + 16),c.use⟩
  let b:=a (put d r)
  let e:=bif decide (c.from_ >=0) then XA b m x.name c.from_ c.has else b
  Xn e m x.name (look (rowOf e m) x.name)
theorem Yh {w:Zb} {m:Nat} {r:Row}:(cw w m r).cells.length=w.cells.length:=by unfold cw;simp
theorem ZAt (w:Zb) (m:Nat) (r q:Row):cw (cw w m r) m q=cw w m q:=by unfold cw;simp
theorem Zdl {w:Zb} {m:Nat} (hm:m < w.cells.length) (n Zx x:Int):rowOf (XA w m n Zx x) m=rowOf w m∨rowOf (XA w m n Zx x) m=put {look (rowOf w m) n with out:=ZP ((look (rowOf w m) n).out - x)} (rowOf w m):=by
 unfold XA;cases (Zx != (m:Int))
 ·right;rw [Cq0,QD hm]
 ·left;rfl
theorem Zs9 {w:Zb} {m:Nat} (n Zx x:Int):(XA w m n Zx x).cells.length=w.cells.length:=by
 unfold XA;cases (Zx != (m:Int))
 ·rw [Cq0,Yh]
 ·rfl
theorem Zoq {w:Zb} {m:Nat} (s:Small w) (hr:(rowOf w m).length < 990) (hn:w.notes.length < 990) (n Zx x:Int):Small (XA w m n Zx x):=by
 unfold XA;cases (Zx != (m:Int))
 ·rw [Cq0];exact s.cw (by have:=Zhj (c:= {look (rowOf w m) n with out:=ZP ((look (rowOf w m) n).out - x)}) (rowOf w m);omega)
 ·exact⟨s.cells,s.rows,by show(w.notes ++ [_]).length < 1000;simp;omega,s.freed⟩
section
variable {F:Nat} {w:Zb} {m:Nat} {n:Int}
theorem ZfN (hm:m < w.cells.length) (Yx:Ug (rowOf w m)) {d:Za} (hd:d.name=n):UI (rowOf (cw w m (put d (rowOf w m))) m) n=some d:=by
 rw [QD hm,ZaB _ Yx,if_pos hd.symm]
theorem QE {r:Row} {d:Za} (h:UI r n=some d):look r n=d:=by unfold look;rw [h];rfl
structure At1 (w:Zb) (m:Nat) (n:Int):Prop where
 sm:Small w
 hm:m < w.cells.length
 Yx:Ug (rowOf w m)
 rl:(rowOf w m).length < 950
 nl:w.notes.length < 950
 has:∃ d,UI (rowOf w m) n=some d
theorem At1.put (sm:Small w) (hm:m < w.cells.length) (Yx:Ug (rowOf w m)) (hr:(rowOf w m).length < 940) (hn:w.notes.length < 940) {d:Za} (hd:d.name=n):At1 (cw w m (put d (rowOf w m))) m n:=by
 have hl:=Zhj (c:=d) (rowOf w m);exact⟨sm.cw (by omega),by rw [Yh];exact hm,by rw [QD hm];exact Yx.put,by rw [QD hm];omega,by show w.notes.length < 950;omega,d,ZfN hm Yx hd⟩
theorem Zwk (sm:Small w) (hm:m < w.cells.length) (Yx:Ug (rowOf w m)) (hr:(rowOf w m).length < 945) (hn:w.notes.length < 945) (Zx x:Int) (hd:∃ d,UI (rowOf w m) n=some d):At1 (XA w m n Zx x) m n:=by
 refine⟨Zoq sm (by omega) (by omega) n Zx x,by rw [Zs9];exact hm,?_,?_,?_,?_⟩
 ·rcases Zdl hm n Zx x with h | h <;> rw [h]
  ·exact Yx
  ·exact Yx.put
 ·have hl:=Zhj (c:= {look (rowOf w m) n with out:=ZP ((look (rowOf w m) n).out - x)}) (rowOf w m);rcases Zdl hm n Zx x with h | h <;> rw [h] <;> omega
 ·unfold XA;cases (Zx != (m:Int))
  ·rw [Cq0];show w.notes.length < 950;omega
  ·rw [Cq1];show(w.notes ++ [_]).length < 950;simp;omega
 ·rcases Zdl hm n Zx x with h | h <;> rw [h]
  ·exact hd
  ·exact⟨_,by rw [ZaB _ Yx,if_pos (by exact(J2 _ _).symm)]⟩
end
end Go.Proofs.Ytekpjgmhkkjhgaa
end
section
namespace Go.Proofs.Ytekpjgmhkkjhgaa
open Go.Lf
section
variable {w:Zb} {st:Store} {m:Nat} {n:Int}
theorem Xb (w:Zb) (a:Nat) (b:Int):cellOf w a b=UI (rowOf w a) b:=rfl
theorem Qx.get (s:Qx w st) (hm:m < w.cells.length):XC st.cells ⟨m,n⟩=UI (rowOf w m) n:=by
 rw [s.cells,if_pos (by omega),Int.toNat_natCast,Xb]
theorem Ze0 (s:Qx w st) (hm:m < w.cells.length):ZgU st m n=some (look (rowOf w m) n):=by
 unfold ZgU Zav;rw [s.get hm];cases h:UI (rowOf w m) n with
 | none=>
   rw [show look (rowOf w m) n=blank n by unfold look;rw [h];rfl]
   rfl
 | some c=>
   rw [QE h]
   rfl
theorem UQ {a:Nat} (h:a ≠ m) (r:Row):rowOf (cw w m r) a=rowOf w a:=by
 unfold rowOf cw;simp only;rw [List.getElem?_set_ne (fun z=>h z.symm)]
theorem MapOf.put {l:List (Zf×Za)} (s:MapOf w l) (hm:m < w.cells.length) (Yx:Ug (rowOf w m)) {c:Za} (hc:c.name=n):MapOf (cw w m (put c (rowOf w m))) (Y9 l ⟨m,n⟩ c):=by
 intro a b;rw [ZfC,Yh,s a b];by_cases ha:0 <=a∧a < (w.cells.length:Int)
 ·rw [if_pos ha,if_pos ha,Xb,Xb];by_cases he:a= (m:Int)
  ·subst he;rw [Int.toNat_natCast,QD hm,ZaB _ Yx];by_cases hb:b=n
   ·subst hb;rw [if_pos rfl,if_pos hc.symm]
   ·rw [if_neg (fun z=>hb (by injection z)),if_neg (fun z=>hb (z.trans hc))]
  ·rw [if_neg (fun z=>he (by injection z)),UQ (by omega)]
 ·rw [if_neg ha,if_neg ha,if_neg (fun z=>ha (by injection z with z1 _;rw [z1];omega))]
theorem Qx.put (s:Qx w st) (hm:m < w.cells.length) (Yx:Ug (rowOf w m)) {c:Za} (hc:c.name=n):Qx (cw w m (Go.Proofs.Ytekpjgmhkkjhgaa.put c (rowOf w m))) ⟨st.machines,st.names,Y9 st.cells ⟨m,n⟩ c,st.notes,st.freed⟩:=
 ⟨by rw [Yh];exact s.m,s.n,s.notes,s.freed,s.cells.put hm Yx hc⟩
theorem Qx.sent (s:Qx w st) (hn:w.notes.length < 1000) (x:Zd):∃ st',ZaE st x=some st'∧Qx (sent w x) st':=by
 unfold ZaE;rw [s.notes,XK (by simp;omega) (by decide)];exact⟨_,rfl,s.m,s.n,rfl,s.freed,s.cells⟩
theorem Zs7 (s:Qx w st) (hm:m < w.cells.length) (Yx:Ug (rowOf w m)) (hn:w.notes.length < 1000) (Zx x:Int):∃ st',ZgT st m n Zx x=some st'∧Qx (XA w m n Zx x) st':=by
 unfold ZgT XA;cases (Zx != (m:Int))
 ·simp only [Cq0];rw [Ze0 s hm,Bq0];exact⟨_,rfl,s.put hm Yx (by exact J2 _ _)⟩
 ·simp only [Cq1];obtain⟨st',h1,h2⟩:=s.sent hn ⟨2,Zx,n,0,x⟩;rw [h1];exact⟨st',rfl,h2⟩
end
end Go.Proofs.Ytekpjgmhkkjhgaa
end
section
namespace Go.Proofs.Ytekpjgmhkkjhgaa
open Go.Lf
section
variable {κ ν:Type} [DecidableEq κ]
def UK (l:List (κ×ν)):Prop:= (l.map (·.1)).Nodup
theorem UK.nil:UK ([]:List (κ×ν)):=List.nodup_nil
theorem UK.Y9 {l:List (κ×ν)} (u:UK l) (k:κ) (x:ν):UK (Y9 l k x):=by
 unfold Go.Lf.Y9;cases e:Yg l k with
 | some q=>
   unfold UK at u ⊢
   have:(l.modify q.1 fun p=>(p.1,x)).map (·.1)=l.map (·.1):=by
    apply List.ext_getElem?;intro i;rw [List.getElem?_map,List.getElem?_map,List.getElem?_modify];cases l[i]? with
    | none=>rfl
    | some p=>simp only [Option.map_some];split <;> rfl
   dsimp only;rw [this];exact u
 | none=>
   unfold UK at u ⊢;dsimp only;rw [List.map_append,List.nodup_append];refine⟨u,by simp,fun a ha b hb=>?_⟩;simp at hb;subst hb;obtain⟨p,hp,rfl⟩:=List.mem_map.1 ha;exact ZbH.1 e p hp
theorem UK.Za9 {l:List (κ×ν)} (u:UK l) (k:κ):UK (Za9 l k):=by
 unfold Go.Lf.Za9;cases e:Yg l k with
 | some q=>
   unfold UK at u ⊢;dsimp only;exact u.sublist ((List.eraseIdx_sublist l q.1).map _)
 | none=>exact u
theorem K3 (p:κ×ν) (l:List (κ×ν)) (k:κ):Yg (p::l) k=if p.1=k then some (0,p.2) else(Yg l k).map fun q=>(q.1 + 1,q.2):=rfl
theorem Zj9:∀ {l:List (κ×ν)},UK l ->∀ k k':κ,XC (Za9 l k) k'=if k'=k then none else XC l k'
 | [],_,k,k'=>by simp [Za9,XC,Yg]
 | p::l,u,k,k'=>by
   have u':p.1 ∉ l.map (·.1)∧UK l:=List.nodup_cons.1 u;have ih:=Zj9 u'.2 k k';unfold Za9 XC at ih ⊢;rw [K3 p l k,K3 p l k'];have hmm:∀ o:Option (Nat×ν),Option.map (·.2) (Option.map (fun q=>(q.1 + 1,q.2)) o)=Option.map (·.2) o:=fun o=>by cases o <;> rfl
   by_cases hp:p.1=k
   ·rw [if_pos hp];show Option.map _ (Yg ((p::l).eraseIdx 0) k')=_;rw [List.eraseIdx_cons_zero];by_cases hk:k'=k
    ·rw [if_pos hk,hk];have:Yg l k=none:=ZbH.2 fun q hq e=>u'.1 (List.mem_map.2 ⟨q,hq,e.trans hp.symm⟩)
     rw [this];rfl
    ·rw [if_neg hk,if_neg (fun z=>hk (z.symm.trans hp)),hmm]
   ·rw [if_neg hp];cases e:Yg l k with
    | none=>
      rw [e] at ih;dsimp only [Option.map_none] at ih ⊢;rw [K3];by_cases hk:k'=k
      ·rw [if_pos hk] at ih ⊢;rw [if_neg (fun z=>hp (z.trans hk)),hmm];exact ih
      ·rw [if_neg hk]
    | some q=>
      rw [e] at ih;dsimp only [Option.map_some] at ih ⊢;rw [List.eraseIdx_cons_succ,K3];by_cases h3:p.1=k'
      ·rw [if_pos h3,if_neg (fun z=>hp (h3.trans z)),if_pos h3]
      ·rw [if_neg h3,if_neg h3,hmm,hmm];exact ih
end
theorem MapOf.rmv {w:Zb} {m:Nat} {n:Int} {l:List (Zf×Za)} (s:MapOf w l) (u:UK l) (hm:m < w.cells.length):MapOf (cw w m (rmv n (rowOf w m))) (Za9 l ⟨m,n⟩):=by
 intro a b;rw [Zj9 u,Yh,s a b];by_cases ha:0 <=a∧a < (w.cells.length:Int)
 ·rw [if_pos ha,if_pos ha,Xb,Xb];by_cases he:a= (m:Int)
  ·subst he;rw [Int.toNat_natCast,QD hm,Zq9];by_cases hb:b=n
   ·subst hb;rw [if_pos rfl,if_pos rfl]
   ·rw [if_neg (fun z=>hb (by injection z)),if_neg hb]
  ·rw [if_neg (fun z=>he (by injection z)),UQ (by omega)]
 ·rw [if_neg ha,if_neg ha];split <;> rfl
end Go.Proofs.Ytekpjgmhkkjhgaa
end
section
namespace Go.Proofs.Ytekpjgmhkkjhgaa
open Go.Lf
def Asc (l:List Int):Prop:=l.Pairwise (· <=·)
theorem ZxC (a b:Int):ZgR a b=some (decide (a < b)):=by
 unfold ZgR Zkr;simp [gd]
theorem Zij {x:Int}:∀ {l:List Int},(∀ y ∈ l,y <=x) ->JC x l=l ++ [x]
 | [],_=>rfl
 | y::l,h=>by
   have:=h y (by simp);rw [JC,if_neg (by omega),Zij (fun z hz=>h z (by simp [hz]))];rfl
theorem Zkb {x y:Int} (h:x < y):∀ {l:List Int},JC x (l ++ [y])=JC x l ++ [y]
 | []=>by
   have h':y > x:=h;show(if y > x then x::y:: [] else y::JC x [])=_;rw [if_pos h'];rfl
 | z::l=>by
   rw [List.cons_append,JC,JC];by_cases hz:z > x
   ·rw [if_pos hz,if_pos hz];rfl
   ·rw [if_neg hz,if_neg hz,Zkb h];rfl
theorem ZeH {x z:Int}:∀ {l:List Int},z ∈ JC x l ->z=x∨z ∈ l
 | [],h=>by simp [JC] at h;exact .inl h
 | y::l,h=>by
   rw [JC] at h;split at h
   ·rcases List.mem_cons.1 h with h | h
    ·exact .inl h
    ·exact .inr h
   ·rcases List.mem_cons.1 h with h | h
    ·exact .inr (by simp [h])
    ·exact(ZeH h).imp id fun q=>by simp [q]
theorem Asc.JC {x:Int}:∀ {l:List Int},Asc l ->Asc (JC x l)
 | [],_=>List.pairwise_singleton _ _
 | y::l,s=>by
   have s':=List.pairwise_cons.1 s;unfold Go.Proofs.Ytekpjgmhkkjhgaa.JC;by_cases h:y > x
   ·rw [if_pos h];refine List.pairwise_cons.2 ⟨fun z hz=>?_,s⟩;rcases List.mem_cons.1 hz with rfl | hz
    ·omega
    ·have:=s'.1 z hz;omega
   ·rw [if_neg h];refine List.pairwise_cons.2 ⟨fun z hz=>?_,Asc.JC s'.2⟩;rcases ZeH hz with rfl | hz
    ·omega
    ·exact s'.1 z hz
theorem Zii (x:Int):∀ l:List Int,(JC x l).length=l.length + 1
 | []=>rfl
 | y::l=>by
   rw [JC];split
   ·rfl
   ·simp [Zii x l]
theorem Zq7 {α:Type} (p s:List α) (x:α):(p ++ x::s)[p.length]? =some x:=by simp
theorem Zpe (i:Int) (next:Int×List Int ->Option (List Int)):∀ (k:Nat) (pre suf:List Int) (x:Int) (F:Nat),pre.length=k ->k < F ->k < 100000 ->Asc pre ->loop F (Zhw 0 i next) ((k:Int),pre ++ x::suf)=next (ZP (i + 1),JC x pre ++ suf):=by
 intro k
 induction k with
 | zero=>
   intro pre suf x F hp hF _ _;obtain⟨F,rfl⟩:=Ne0 (n:=F) (by omega);have:pre= []:=List.eq_nil_of_length_eq_zero hp;subst this;rw [Yi]
   rfl
 | succ k ih=>
   intro pre suf x F hp hF hk hs;obtain⟨F,rfl⟩:=Ne0 (n:=F) (by omega)
   obtain⟨p,y,rfl⟩:∃ p y,pre=p ++ [y]:=by
    refine⟨pre.dropLast,pre.getLast (by intro z;rw [z] at hp;simp at hp),?_⟩;exact(List.dropLast_concat_getLast _).symm
   have hpl:p.length=k:=by simpa using hp
   have hs':=List.pairwise_append.1 hs;rw [Yi];have e0:(p ++ [y]) ++ x::suf=p ++ y::x::suf:=by simp
   rw [e0]
   have g1:Ym (p ++ y::x::suf) ((k + 1:Nat):Int)=some x:=by
    rw [Z5,← hpl];rw [List.getElem?_append_right (by omega)];simp
   have g2:Ym (p ++ y::x::suf) (k:Int)=some y:=by rw [Z5,← hpl];exact Zq7 _ _ _
   have ew:ZP (((k + 1:Nat):Int) - 1)= (k:Int):=by rw [ZmK (by omega) (by omega)];rfl
   have hgt:decide (((k + 1:Nat):Int) > 0)=true:=decide_eq_true (by omega);simp only [Zhw,hgt,gd,Cq1,g1,g2,ew,Bq0,ZxC,Bool.true_and];cases hlt:decide (x < y)
   ·rw [Cq0];have hle:y <=x:=by simpa using hlt
    rw [Zij (fun z hz=>by
     rcases List.mem_append.1 hz with hz | hz
     ·have:=hs'.2.2 z hz y (by simp);omega
     ·simp at hz;omega)]
    simp
   ·rw [Cq1];have hxy:x < y:=by simpa using hlt
    have s1:JG (p ++ y::x::suf) ((k + 1:Nat):Int) y=p ++ y::y::suf:=by
     unfold JG;rw [Int.toNat_natCast,← hpl,List.set_append_right _ _ (by omega)];simp
    have g3:Ym (p ++ y::y::suf) (k:Int)=some y:=by rw [Z5,← hpl];exact Zq7 _ _ _
    have s2:JG (p ++ y::y::suf) (k:Int) x=p ++ x::y::suf:=by
     unfold JG;rw [Int.toNat_natCast,← hpl,List.set_append_right _ _ (by omega)];simp
    rw [s1,g3,Bq0,s2,ih p (y::suf) x F hpl (by omega) (by omega) hs'.1,Zkb hxy];simp
theorem Zh4 {F:Nat} (hF:100 <=F):∀ (d:Nat) (S rest:List Int) (n F':Nat),rest.length=d ->S.length + d=n ->n <=90 ->d < F' ->Asc S ->loop F' (Zdf F 0 n) ((S.length:Int),S ++ rest)=some (rest.foldl (fun S x=>JC x S) S):=by
 intro d
 induction d with
 | zero=>
   intro S rest n F' hr hn hn9 hF' hs;obtain⟨F',rfl⟩:=Ne0 (n:=F') (by omega);have:rest= []:=List.eq_nil_of_length_eq_zero hr;subst this;rw [Yi];simp only [Zdf];rw [decide_eq_false (by omega),Cq0];simp
 | succ d ih=>
   intro S rest n F' hr hn hn9 hF' hs;obtain⟨F',rfl⟩:=Ne0 (n:=F') (by omega)
   match rest,hr with
   | x::r,hr=>
     rw [Yi];simp only [Zdf];rw [decide_eq_true (by omega),Cq1,Zpe _ _ S.length S r x F rfl (by omega) (by omega) hs,Xd (by omega),List.foldl_cons];have:=ih (JC x S) r n F' (by simpa using hr) (by rw [Zii];omega) hn9 (by omega) hs.JC;rw [Zii] at this;exact this
theorem ZnK:∀ (l S:List Int),Asc (S ++ l) ->l.foldl (fun S x=>JC x S) S=S ++ l
 | [],S,_=>by simp
 | x::l,S,h=>by
   rw [List.foldl_cons,Zij (fun y hy=>(List.pairwise_append.1 h).2.2 y hy x (by simp)),ZnK l _ (by simpa using h)];simp
theorem Zxi {F:Nat} (hF:100 <=F) {l:List Int} (hl:l.length <=11) (hs:Asc l) (n:Int):ZnR F (l ++ [n])=some (JC n l):=by
 have hlen:(l ++ [n]).length=l.length + 1:=by simp
 unfold ZnR ZvV
 have e1:∃ q,Qo (IntKind.wrap .u64 ((l ++ [n]).length:Int))=some q:=by
  rw [hlen];have hw:∀ k:Nat,k <=12 ->IntKind.wrap .u64 (k:Int)= (k:Int):=by decide
  have:=hw (l.length + 1) (by omega);rw [this];unfold Qo;rw [decide_eq_true (by omega),decide_eq_true (by omega)];exact⟨_,rfl⟩
 obtain⟨q,e1⟩:=e1;rw [e1,Bq0];unfold Zrn;obtain⟨F',rfl⟩:=Ne0 (n:=F) (by omega);rw [Yi];simp only [ZlV];have ew:ZP (((l ++ [n]).length:Int) - 0)= ((l.length + 1:Nat):Int):=by rw [hlen];exact YP (by omega) (by omega)
 rw [ew,decide_eq_true (by omega),Cq1];unfold Zrm;have e2:ZP ((0:Int) + 1)=1:=by rw [show(0:Int) + 1=1 from rfl];exact YP (by omega) (by omega)
 rw [e2]
 have key:loop (F' + 1) (Zdf (F' + 1) 0 ((l ++ [n]).length:Int)) (1,l ++ [n])=some (JC n l):=by
  match l,hl,hs,hlen with
  | [],_,_,_=>exact Zh4 (F:=F' + 1) hF 0 [n] [] 1 (F' + 1) rfl rfl (by omega) (by omega) (List.pairwise_singleton _ _)
  | x::r,hl,hs,hlen=>
    have:=Zh4 (F:=F' + 1) hF (r.length + 1) [x] (r ++ [n]) ((x::r ++ [n]).length) (F' + 1) (by simp) (by simp;omega) (by simp at hl ⊢;omega) (by simp at hl;omega) (List.pairwise_singleton _ _);rw [List.foldl_append,ZnK r [x] hs] at this;exact this
 rw [key];rfl
def CI (c:Za):Prop:= (c.from_ >=0∧c.root=false)∨(c.from_=-1∧c.has=0)
theorem ZvY {c:Za} {n:Int} (hn:c.name=n) (hu:c.use=false) (ho:c.out=0) (hr:c.root=false) (hi:CI c):ZaF c (blank n)= !decide (c.from_ >=0):=by
 unfold ZaF blank;rcases hi with⟨h,_⟩ | ⟨h1,h2⟩
 ·rw [decide_eq_true h];have:(c.from_==-1)=false:=by simp;omega
  simp [this]
 ·rw [decide_eq_false (by omega)];simp [hn,hu,ho,hr,h1,h2]
theorem Zat {F:Nat} (hF:100 <=F) {w:Zb} {st:Store} {m:Nat} {n:Int} (s:Qx w st) (u:UK st.cells) (hm:m < w.cells.length) (hnl:w.notes.length < 1000) {c:Za} (hc:UI (rowOf w m) n=some c) (hi:CI c) (ha:Asc w.freed) (hf:w.freed.length <=11):
 ∃ st',ZgS F st m n=some st'∧Qx (Xn w m n c) st'∧UK st'.cells:=by
 have hcn:=Qq hc;unfold ZgS Xn;rw [Ze0 s hm,QE hc,Bq0];cases hu:(c.use || (c.out !=0))
 ·simp only [Cq0]
  have hu1:c.use=false:=by
   cases h:c.use
   ·rfl
   ·rw [h] at hu;cases hu
  have hu2:c.out=0:=by
   rw [hu1,Bool.false_or] at hu
   simpa using hu
  have hmap:MapOf (cw w m (rmv n (rowOf w m))) (Za9 st.cells ⟨m,n⟩):=s.cells.rmv u hm;cases hr:c.root
  ·simp only [Cq0];unfold ZnS;rw [Bq0];have he:=ZvY hcn hu1 hu2 hr hi;unfold blank at he;rw [he];cases hfr:decide (c.from_ >=0)
   ·refine⟨_,rfl,⟨by show st.machines=_;rw [s.m];simp,s.n,s.notes,s.freed,hmap⟩,u.Za9 _⟩
   ·simp only [Bool.not_true,Bool.not_false,Cq1];unfold ZaE;dsimp only;rw [s.notes,XK (by simp;omega) (by decide)];refine⟨_,rfl,⟨by show st.machines=_;rw [s.m];simp,s.n,rfl,s.freed,hmap⟩,u.Za9 _⟩
  ·simp only [Cq1];rw [s.freed,XK (by simp;omega) (by decide),Bq0,Zxi hF hf ha,Bq0];refine⟨_,rfl,⟨by show st.machines=_;rw [s.m];simp,s.n,s.notes,rfl,hmap⟩,u.Za9 _⟩
 ·simp only [Cq1];exact⟨st,rfl,s,u⟩
theorem CI.blank (n:Int):CI (blank n):= .inr ⟨rfl,rfl⟩
theorem ZrG {F:Nat} {w:Zb} {st:Store} {m:Nat} {n:Int} (s:Qx w st) (u:UK st.cells) (hm:m < w.cells.length) (Yx:Ug (rowOf w m)) (hn:w.notes.length < 1000) (Zx x:Int):∃ st',ZgT st m n Zx x=some st'∧Qx (XA w m n Zx x) st'∧UK st'.cells:=by
 obtain⟨st',h1,h2⟩:=Zs7 s hm Yx hn Zx x (n:=n);refine⟨st',h1,h2,?_⟩;unfold ZgT ZaE at h1;cases ht:(Zx != (m:Int))
 ·rw [ht,Cq0,Ze0 s hm,Bq0] at h1;cases h1;exact u.Y9 _ _
 ·rw [ht,Cq1,s.notes,XK (by simp;omega) (by decide)] at h1;cases h1;exact u
theorem Zs8 {w:Zb} {m:Nat} {n:Int} (hm:m < w.cells.length) (Yx:Ug (rowOf w m)) (Zx x:Int) (hi:CI (look (rowOf w m) n)):CI (look (rowOf (XA w m n Zx x) m) n):=by
 rcases Zdl hm n Zx x with h | h <;> rw [h]
 ·exact hi
 ·rw [QE (by rw [ZaB _ Yx,if_pos (by exact(J2 _ _).symm)])];exact hi
theorem Zp6 {F:Nat} (hF:100 <=F) {w:Zb} {st:Store} (s:Qx w st) (u:UK st.cells) (sm:Small w) {m:Nat} (hm:m < w.cells.length) (hrl:(rowOf w m).length < 900) (hnl:w.notes.length < 900) (x:Zd) (hto:x.Zx= (m:Int)) (Yx:Ug (rowOf w m)) (hi:CI (look (rowOf w m) x.name)) (ha:Asc w.freed) (hf:w.freed.length <=11):
 ∃ st',ZvN F st x=some st'∧Qx (Qs w x) st'∧UK st'.cells:=by
 have hln:=J2 (rowOf w m) x.name;have hat:∀ {d:Za},d.name=x.name ->At1 (cw w m (put d (rowOf w m))) m x.name:=fun hd=>At1.put sm hm Yx (by omega) (by omega) hd
 have hst:∀ {d:Za},d.name=x.name ->Qx (cw w m (put d (rowOf w m))) ⟨st.machines,st.names,Y9 st.cells ⟨m,x.name⟩ d,st.notes,st.freed⟩:=fun hd=>s.put hm Yx hd
 unfold ZvN Qs;rw [hto,Ze0 s hm];simp only [Bq0,Int.toNat_natCast];obtain⟨c,hcc⟩:∃ c,look (rowOf w m) x.name=c:= ⟨_,rfl⟩
 rw [hcc] at hln hi;simp only [hcc]
 have hlt:decide (c.from_ < 0)= (c.from_==-1):=by
  rcases hi with⟨h,_⟩ | ⟨h,_⟩
  ·rw [decide_eq_false (by omega)];symm;simp;omega
  ·rw [decide_eq_true (by omega),h];rfl
 have hge:(decide (c.from_ >=0) && (c.from_==x.via))= ((!c.root && decide (c.from_ >=0)) && (c.from_==x.via)):=by
  rcases hi with⟨h,h2⟩ | ⟨h,_⟩
  ·rw [h2];simp
  ·rw [decide_eq_false (by omega)];simp
 cases hk1:(x.kind==1)
 ·simp only [Cq0];cases hk2:(x.kind==2)
  ·simp only [Cq0];have h1:=hst (d:= ⟨c.name,true,-1,0,ZP (c.out + 16),c.use⟩) hln;have hA:=hat (d:= ⟨c.name,true,-1,0,ZP (c.out + 16),c.use⟩) hln;have u1:=u.Y9 (⟨m,x.name⟩:Zf) (⟨c.name,true,-1,0,ZP (c.out + 16),c.use⟩:Za);have hd:(⟨c.name,true,-1,0,ZP (c.out + 16),c.use⟩:Za).name=x.name:=hln;have hlk:=QE (ZfN hm Yx hd);cases hfr:decide (c.from_ >=0)
   ·simp only [Cq0];unfold ZfX;rw [hto];obtain⟨d,hdd⟩:=hA.has;obtain⟨st',q1,q2,q3⟩:=Zat hF h1 u1 hA.hm (by show w.notes.length < 1000;omega) hdd (by rw [← QE hdd,hlk];exact .inr ⟨rfl,rfl⟩) ha hf;rw [show st.notes=w.notes from s.notes,show st.freed=w.freed from s.freed] at q1;rw [show st.notes=w.notes from s.notes,show st.freed=w.freed from s.freed];refine⟨st',(congrArg (fun o=>Option.bind o fun x61=>some x61) q1).trans rfl,?_,q3⟩;rw [QE hdd];exact q2
   ·simp only [Cq1];obtain⟨st1,p1,p2,p3⟩:=ZrG (F:=F) (n:=x.name) h1 u1 hA.hm hA.Yx (by show w.notes.length < 1000;omega) c.from_ c.has;rw [p1,Bq0];have hbh:=Zwk hA.sm hA.hm hA.Yx (by have:=Zhj (c:= (⟨c.name,true,-1,0,ZP (c.out + 16),c.use⟩:Za)) (rowOf w m);rw [QD hm];omega) (by show w.notes.length < 945;omega) c.from_ c.has hA.has;have hci:CI (look (rowOf (XA (cw w m (put (⟨c.name,true,-1,0,ZP (c.out + 16),c.use⟩:Za) (rowOf w m))) m x.name c.from_ c.has) m) x.name):=Zs8 hA.hm hA.Yx _ _ (by rw [hlk];exact .inr ⟨rfl,rfl⟩);obtain⟨d,hdd⟩:=hbh.has
    have hfree:(XA (cw w m (put (⟨c.name,true,-1,0,ZP (c.out + 16),c.use⟩:Za) (rowOf w m))) m x.name c.from_ c.has).freed=w.freed:=by
     unfold XA;cases (c.from_ != (m:Int)) <;> rfl
    obtain⟨st',q1,q2,q3⟩:=Zat hF p2 p3 hbh.hm (by have:=hbh.nl;omega) hdd (by rw [← QE hdd];exact hci) (by rw [hfree];exact ha) (by rw [hfree];exact hf);unfold ZfX;rw [hto];refine⟨st',(congrArg (fun o=>Option.bind o fun x61=>some x61) q1).trans rfl,?_,q3⟩;rw [QE hdd];exact q2
  ·simp only [Cq1];have h1:=hst (d:= ⟨c.name,c.root,c.from_,c.has,ZP (c.out - x.w),c.use⟩) hln;have hd:(⟨c.name,c.root,c.from_,c.has,ZP (c.out - x.w),c.use⟩:Za).name=x.name:=hln;have u1:=u.Y9 (⟨m,x.name⟩:Zf) (⟨c.name,c.root,c.from_,c.has,ZP (c.out - x.w),c.use⟩:Za);obtain⟨st',q1,q2,q3⟩:=Zat hF h1 u1 (hat hd).hm (by show w.notes.length < 1000;omega) (ZfN hm Yx hd) hi ha hf;exact⟨st',(congrArg (fun o=>Option.bind o fun x61=>some x61) q1).trans rfl,q2,q3⟩
 ·simp only [Cq1];rw [hlt,hge];cases hc1:((!c.root && (c.from_==-1)) && (x.via != (m:Int)))
  ·simp only [Cq0];cases hc2:((!c.root && decide (c.from_ >=0)) && (c.from_==x.via))
   ·simp only [Cq0];have h1:=hst (d:= ⟨c.name,c.root,c.from_,c.has,c.out,true⟩) hln;have hA:=hat (d:= ⟨c.name,c.root,c.from_,c.has,c.out,true⟩) hln;obtain⟨st1,p1,p2,p3⟩:=ZrG (F:=F) (n:=x.name) h1 (u.Y9 _ _) hA.hm hA.Yx (by show w.notes.length < 1000;omega) x.via x.w;exact⟨st1,(congrArg (fun o=>Option.bind o fun x18=>some x18) p1).trans rfl,p2,p3⟩
   ·simp only [Cq1];exact⟨_,rfl,hst (d:= ⟨c.name,c.root,c.from_,ZP (c.has + x.w),c.out,true⟩) hln,u.Y9 _ _⟩
  ·simp only [Cq1];exact⟨_,rfl,hst (d:= ⟨c.name,c.root,x.via,x.w,c.out,true⟩) hln,u.Y9 _ _⟩
def Zex (w:Zb) (d:Zo) (m:Nat) (c:Za):Zb:=
 bif decide (c.from_ >=0) && decide (c.has >=2) then sent (cw w m (put ⟨c.name,c.root,c.from_,ZP (c.has - ZP (c.has.tdiv 2)),c.out,c.use⟩ (rowOf w m))) ⟨1,d.Zx,d.name,c.from_,ZP (c.has.tdiv 2)⟩
 else sent (cw w m (put ⟨c.name,c.root,c.from_,c.has,ZP (c.out + 16),c.use⟩ (rowOf w m))) ⟨1,d.Zx,d.name,d.at_,16⟩
theorem ZIh (a:Int):Zr8 a 2=some (ZP (a.tdiv 2)):=rfl
theorem ZtR {w:Zb} {st:Store} (s:Qx w st) (u:UK st.cells) {m:Nat} (hm:m < w.cells.length) (Yx:Ug (rowOf w m)) (hnl:w.notes.length < 1000) (d:Zo) (hat:d.at_= (m:Int)) {c:Za} (hc:UI (rowOf w m) d.name=some c):
 ∃ st',ZnU st d=some st'∧Qx (Zex w d m c) st'∧UK st'.cells:=by
 have hn:=Qq hc;unfold ZnU Zex;rw [hat,Ze0 s hm,QE hc,Bq0];simp only [ZIh,Bq0];cases (decide (c.from_ >=0) && decide (c.has >=2))
 ·simp only [Cq0];unfold Zdg;rw [hat];have h1:=s.put hm Yx (c:= ⟨c.name,c.root,c.from_,c.has,ZP (c.out + 16),c.use⟩) hn;obtain⟨st',q1,q2⟩:=h1.sent (by show w.notes.length < 1000;exact hnl) ⟨1,d.Zx,d.name,(m:Int),16⟩;refine⟨st',(congrArg (fun o=>Option.bind o fun x21=>some x21) q1).trans rfl,q2,?_⟩;unfold ZaE at q1;dsimp only at q1;rw [s.notes,XK (by simp;omega) (by decide)] at q1;cases q1;exact u.Y9 _ _
 ·simp only [Cq1];unfold Zdg;rw [hat];have h1:=s.put hm Yx (c:= ⟨c.name,c.root,c.from_,ZP (c.has - ZP (c.has.tdiv 2)),c.out,c.use⟩) hn;obtain⟨st',q1,q2⟩:=h1.sent (by show w.notes.length < 1000;exact hnl) ⟨1,d.Zx,d.name,c.from_,ZP (c.has.tdiv 2)⟩;refine⟨st',(congrArg (fun o=>Option.bind o fun x21=>some x21) q1).trans rfl,q2,?_⟩;unfold ZaE at q1;dsimp only at q1;rw [s.notes,XK (by simp;omega) (by decide)] at q1;cases q1;exact u.Y9 _ _
theorem KV {α:Type} {xs:List α} {a b:Nat} (h1:a <=b) (h2:b <=xs.length):slL xs (a:Int) (b:Int)=some ((xs.take b).drop a):=by
 unfold slL;rw [decide_eq_true (by omega),decide_eq_true (by omega),decide_eq_true (by omega)];simp
theorem Zuc {l:List Zd} {k:Nat} (hk:k < l.length) (hl:l.length < 1000):ZnT l (k:Int) (ZP ((k:Int) + 1))=some (l.take k ++ l.drop (k + 1)):=by
 unfold ZnT;have e0:slL l 0 (k:Int)=some ((l.take k).drop 0):=KV (a:=0) (Nat.zero_le k) (by omega);rw [Xd (by omega),KV (by omega) (by omega),Bq0,e0,KV (by omega) (Nat.le_refl _)];have:((k:Int)== ((k + 1:Nat):Int))=false:=by simp;omega
 rw [this,Cq0];simp only [Bq0,List.drop_zero,List.take_length];rw [XK (by simp;omega) (by decide)]
 rfl
def Zfz (w:Zb):Za:= ⟨w.names,true,-1,0,0,true⟩
def ZeD (w:Zb) (m:Nat):Zb:= ⟨w.cells.set m (put (Zfz w) (rowOf w m)),w.notes,ZP (w.names + 1),w.freed⟩
theorem Zus {w:Zb} {st:Store} (s:Qx w st) (u:UK st.cells) {m:Nat} (hm:m < w.cells.length) (Yx:Ug (rowOf w m)):Qx (ZeD w m) ⟨st.machines,ZP (st.names + 1),Y9 st.cells ⟨m,w.names⟩ (Zfz w),st.notes,st.freed⟩∧UK (Y9 st.cells (⟨m,w.names⟩:Zf) (Zfz w)):=by
 have h:=s.put hm Yx (c:=Zfz w) (n:=w.names) rfl;refine⟨⟨?_,by show ZP (st.names + 1)=ZP (w.names + 1);rw [s.n],s.notes,s.freed,?_⟩,u.Y9 _ _⟩
 ·show st.machines=_;rw [s.m];unfold ZeD;simp
 ·exact h.cells
def ZaG (c:Za):Za:= ⟨c.name,c.root,c.from_,c.has,c.out,false⟩
def ZgX (w:Zb) (m:Nat) (n:Int) (c:Za):Zb:=Xn (cw w m (put (ZaG c) (rowOf w m))) m n (ZaG c)
theorem ZsQ {F:Nat} (hF:100 <=F) {w:Zb} {st:Store} (s:Qx w st) (u:UK st.cells) {m:Nat} (hm:m < w.cells.length) (Yx:Ug (rowOf w m)) (hnl:w.notes.length < 1000) {n:Int} {c:Za} (hc:UI (rowOf w m) n=some c) (hi:CI c) (ha:Asc w.freed) (hf:w.freed.length <=11):
 ∃ st',ZgS F ⟨st.machines,st.names,Y9 st.cells ⟨m,n⟩ (ZaG c),st.notes,st.freed⟩ m n=some st'∧Qx (ZgX w m n c) st'∧UK st'.cells:=by
 have hn:=Qq hc;have h1:=s.put hm Yx (c:=ZaG c) (n:=n) hn;exact Zat hF h1 (u.Y9 _ _) (by rw [Yh];exact hm) hnl (ZfN hm Yx (show(ZaG c).name=n from hn)) hi ha hf
def goC (c:Za) (Zx:Int):Za:= ⟨c.name,false,Zx,16,c.out,c.use⟩
def goW (w:Zb) (d:Zo) (m:Nat) (c:Za):Zb:=sent (cw w m (put (goC c d.Zx) (rowOf w m))) ⟨3,d.Zx,d.name,0,16⟩
theorem Zyd {w:Zb} {st:Store} (s:Qx w st) (u:UK st.cells) {m:Nat} (hm:m < w.cells.length) (Yx:Ug (rowOf w m)) (hnl:w.notes.length < 1000) (d:Zo) {c:Za} (hc:UI (rowOf w m) d.name=some c):
 ∃ st',ZaE ⟨st.machines,st.names,Y9 st.cells ⟨m,d.name⟩ (goC c d.Zx),st.notes,st.freed⟩ ⟨3,d.Zx,d.name,0,16⟩=some st'∧Qx (goW w d m c) st'∧UK st'.cells:=by
 have hn:=Qq hc;have h1:=s.put hm Yx (c:=goC c d.Zx) (n:=d.name) hn;obtain⟨st',q1,q2⟩:=h1.sent (by show w.notes.length < 1000;exact hnl) ⟨3,d.Zx,d.name,0,16⟩;refine⟨st',q1,q2,?_⟩;unfold ZaE at q1;dsimp only at q1;rw [s.notes,XK (by simp;omega) (by decide)] at q1;cases q1;exact u.Y9 _ _
def YH (w:Zb) (d:Zo) (m:Nat):Int:=
 bif d.ZT==1 then(bif decide (w.names >=12) then 3 else 0) else bif d.ZT==5 then(bif decide (d.at_ >= (w.notes.length:Int)) then 5 else 0) else
  match UI (rowOf w m) d.name with
  | none=>7
  | some c=>bif d.ZT==4 then(bif !c.root then 7 else 0) else(bif !c.use then 7 else 0)
theorem Zp4 {w:Zb} {st:Store} (s:Qx w st) {m:Nat} (hm:m < w.cells.length) (d:Zo) (hat:d.ZT=1∨d.ZT=5∨d.at_= (m:Int)):ZnV st d=some (bif YH w d m==0 then .ok () else .Ju (YH w d m)):=by
 unfold ZnV YH Zav;rw [Bq0,s.n,s.notes];cases h1:(d.ZT==1)
 ·cases h5:(d.ZT==5)
  ·have ha:d.at_= (m:Int):=by
    rcases hat with h | h | h
    ·rw [h] at h1;cases h1
    ·rw [h] at h5;cases h5
    ·exact h
   rw [ha,s.get hm];simp only [Cq0];cases hf:UI (rowOf w m) d.name with
   | none=>
     cases (d.ZT==4) <;> rfl
   | some c=>
     cases (d.ZT==4)
     ·cases hu:c.use <;> simp [hu]
     ·cases hr:c.root <;> simp [hr]
  ·simp only [Cq0,Cq1];cases decide (d.at_ >= (w.notes.length:Int)) <;> rfl
 ·simp only [Cq1];cases decide (w.names >=12) <;> rfl
theorem Zxv {F:Nat} (hF:1000 <=F) {w:Zb} (sm:Small w):∃ cs,ZjC F w=some ⟨(w.cells.length:Int),w.names,cs,w.notes,w.freed⟩∧UK cs:=by
 have hc:=sm.cells;have hn:=sm.notes;have hf:=sm.freed;unfold ZjC ZpK ZpJ;rw [XK (by simp only [List.length_nil];omega) (by decide),XK (by simp only [List.length_nil];omega) (by decide)];simp only [Bq0,List.nil_append]
 have inner:∀ (m:Nat) (row:List Za) (next:Int×(List (Zf×Za)) ->Option Store) (l:List (Zf×Za)),w.cells[m]? =some row ->UK l ->∃ l',UK l'∧loop F (ZaV m next row) (0,l)=next (ZP ((m:Int) + 1),l'):=by
  intro m row next l hm hI;have hr:=sm.rows row (List.mem_of_getElem? hm)
  have e:=Xf row (fun v s=>(v,s)) (ZaV m next row) (fun _ c s nx=>nx (Y9 s (Zf.mk m c.name) c)) (fun s=>next (ZP ((m:Int) + 1),s)) (by omega) (fun k y s nx hy hk=>by
   simp only [ZaV,Z5,hy,hk,decide_true,Cq1,Bq0]) (fun s nx=>by simp only [ZaV];rw [decide_eq_false (by omega),Cq0]) (by omega:row.length < F) l
  obtain⟨e2,hJ⟩:=J3 (d:=fun s=>next (ZP ((m:Int) + 1),s)) (g:=fun(_:Nat) (c:Za) s nx=>nx (Y9 s (Zf.mk m c.name) c)) (fun _ c s=>Y9 s (Zf.mk m c.name) c) (fun _ s=>UK s) (l:=row) (i:=0) (s:=l) hI (fun k c s nx hk hJ=>⟨rfl,hJ.Y9 _ _⟩);exact⟨_,hJ,e.trans e2⟩
 have key:∀ (d m:Nat) (F':Nat) (l:List (Zf×Za)),m + d=w.cells.length ->d < F' ->UK l ->∃ cs,loop F' (ZaW F w w.notes w.freed) ((m:Int),l)=some ⟨(w.cells.length:Int),w.names,cs,w.notes,w.freed⟩∧UK cs:=by
  intro d
  induction d with
  | zero=>
    intro m F' l hm hF' hI;obtain⟨F',rfl⟩:=Ne0 (n:=F') (by omega);refine⟨l,?_,hI⟩;rw [Yi];simp only [ZaW];rw [decide_eq_false (by omega),Cq0]
  | succ d ih=>
    intro m F' l hm hF' hI;obtain⟨F',rfl⟩:=Ne0 (n:=F') (by omega);have hr:=QJ (w:=w) (m:=m) (by omega);obtain⟨l',q1,q2⟩:=inner m _ (loop F' (ZaW F w w.notes w.freed)) l hr hI;obtain⟨cs,q3,q4⟩:=ih (m + 1) F' l' (by omega) (by omega) q1;refine⟨cs,?_,q4⟩;rw [Yi];simp only [ZaW];rw [decide_eq_true (by omega),Cq1,Z5,hr,Bq0,q2,Xd (by omega),q3]
 exact key w.cells.length 0 F [] (by omega) (by omega) UK.nil
def YX (w:Zb) (n:Int):CV:=fun a=>if 0 <=a∧a < (w.cells.length:Int) then cellOf w a.toNat n else none
def Jh (w:Zb) (n:Int):List Zd:=w.notes.filter fun x=>x.name==n
def Mst (M:Nat) (cv:CV) (ns:List Zd):Prop:=∀ a:Int,0 <=a ->a < M ->Uf cv ns a <=1000000
structure Rt (w:Zb):Prop where
 c1:1 <=w.cells.length
 c6:w.cells.length <=6
 n0:0 <=w.names
 n12:w.names <=12
 KA:w.notes.length <=80
 fr:w.freed.Pairwise (· < ·)
 frr:∀ x ∈ w.freed,0 <=x∧x < w.names
 Yx:∀ m,m < w.cells.length ->Ug (rowOf w m)
 cn:∀ m,m < w.cells.length ->∀ c ∈ rowOf w m,Yr w c.name=true∧(c.use=true∨c.out ≠ 0)
 nn:∀ x ∈ w.notes,Yr w x.name=true
 nm:∀ n,Yr w n=true ->∃ h,Nm w.cells.length n (YX w n) (Jh w n) h∧Mst w.cells.length (YX w n) (Jh w n)
section
variable {w:Zb} {n:Int}
theorem Jz {m:Nat} (hm:m < w.cells.length) (n:Int):YX w n (m:Int)=cellOf w m n:=by
 unfold YX;rw [if_pos (by omega)]
 rfl
theorem Qr {a:Int} {c:Za} (h:YX w n a=some c):(0 <=a∧a < (w.cells.length:Int))∧cellOf w a.toNat n=some c:=by
 unfold YX at h;split at h
 ·rename_i z;exact⟨z,h⟩
 ·cases h
theorem ZdL (w:Zb) (m n:Int):YQ (YT m) (Jh w n)=16 * (Zcu w m n:Int):=by
 unfold Jh Zcu
 induction w.notes with
 | nil=>rfl
 | cons x l ih=>
   rw [List.countP_cons,List.filter_cons];by_cases hn:x.name=n
   ·have:(x.name==n)=true:=by simp [hn]
    rw [this,if_pos rfl];simp only [YQ,ih,Bool.and_true];unfold YT;by_cases z:x.kind=3∧x.Zx=m
    ·rw [if_pos z,if_pos (by simp [z.1,z.2])];omega
    ·rw [if_neg z,if_neg (by simpa using z)];omega
   ·have:(x.name==n)=false:=by simp [hn]
    rw [this,if_neg (by simp),ih];simp
theorem Zd7 (w:Zb) {m:Nat} (hm:m < w.cells.length) (n:Int):J4 w m n=ZP (Uf (YX w n) (Jh w n) m):=by
 unfold J4 Uf;rw [ZdL,Jz hm];unfold ZqE Qf;congr 1;cases cellOf w m n <;> dsimp only <;> omega
theorem Zps (m n:Int) (l:List Zd) (t:Int):l.foldl (fun s x=>ZgN m n x s) (ZP t)=ZP (t + YQ (Wm m) (l.filter fun x=>x.name==n)):=by
 induction l generalizing t with
 | nil=>simp [YQ]
 | cons x l ih=>
   rw [List.foldl_cons,List.filter_cons];by_cases hn:x.name=n
   ·have hb:(x.name==n)=true:=by simp [hn]
    rw [hb,if_pos rfl];unfold ZgN;rw [hb,Bool.true_and];simp only [YQ];rw [show Wm m x=if(x.kind=1∧x.via=m)∨(x.kind=2∧x.Zx=m) then x.w else 0 from rfl];by_cases z:(x.kind=1∧x.via=m)∨(x.kind=2∧x.Zx=m)
    ·have:((x.kind==1) && (x.via==m) || (x.kind==2) && (x.Zx==m))=true:=by simpa using z
     rw [this,Cq1,ZkR,if_pos z];refine(ih _).trans ?_;congr 1;omega
    ·have:((x.kind==1) && (x.via==m) || (x.kind==2) && (x.Zx==m))=false:=by
      rw [← Bool.not_eq_true];simpa using z
     rw [this,Cq0,if_neg z];refine(ih _).trans ?_;congr 1;omega
   ·have hb:(x.name==n)=false:=by simp [hn]
    rw [hb,if_neg (by simp)];have:ZgN m n x (ZP t)=ZP t:=by unfold ZgN;rw [hb];rfl
    rw [this];exact ih t
theorem Zpt (w:Zb) (m n:Int) {M:Nat} (hM:M <=w.cells.length):(List.range M).foldl (fun s k=>Znu w m n k s) 0=ZP (Ko (fun k=>Wu m (YX w n k)) M):=by
 induction M with
 | zero=>rfl
 | succ M ih=>
   rw [List.range_succ,List.foldl_append,ih (by omega)];simp only [List.foldl_cons,List.foldl_nil,Ko];rw [Jz (by omega)];unfold Znu Wu;cases cellOf w M n with
   | none=>simp
   | some c=>
     dsimp only;by_cases z:c.from_=m
     ·rw [if_pos z,show(c.from_==m)=true by simp [z],Cq1,ZkR]
     ·rw [if_neg z,show(c.from_==m)=false by simp [z],Cq0];simp
theorem Zsp (w:Zb) (m n:Int):Zd5 w m n=ZP (Jl w.cells.length (YX w n) (Jh w n) m):=by
 unfold Zd5 Jl Jh;rw [Zpt w m n (Nat.le_refl _),Zps]
theorem ZhO {f:Zd ->Int} {l:List Zd} {B:Int} (h:∀ x ∈ l,0 <=f x∧f x <=B):0 <=YQ f l∧YQ f l <=B * (l.length:Int):=by
 induction l with
 | nil=>simp [YQ]
 | cons x l ih=>
   have h1:=h x (by simp);have h2:=ih fun y hy=>h y (by simp [hy])
   simp only [YQ,List.length_cons]
   have:B * ((l.length + 1:Nat):Int)=B * (l.length:Int) + B:=by
    rw [Int.natCast_add,Int.mul_add];simp
   omega
theorem ZoT {f:Nat ->Int} {B:Int} {M:Nat} (h:∀ m,m < M ->0 <=f m∧f m <=B):0 <=Ko f M∧Ko f M <=B * (M:Int):=by
 induction M with
 | zero=>simp [Ko]
 | succ M ih=>
   have h1:=h M (by omega);have h2:=ih fun m hm=>h m (by omega)
   simp only [Ko]
   have:B * ((M + 1:Nat):Int)=B * (M:Int) + B:=by
    rw [Int.natCast_add,Int.mul_add];simp
   omega
theorem Zbj {m:Int} {c:Za} (h:Kk w m c=true):Yr w c.name=true∧(-16 <=c.out∧c.out <=1000000)∧(c.use=true∨c.out ≠ 0)∧
 ((c.root=false∧0 <=c.from_∧c.from_ < (w.cells.length:Int)∧c.from_ ≠ m∧1 <=c.has∧c.has <=1000000)∨(c.from_=-1∧c.has=0)):=by
 unfold Kk Zaz at h;rw [Ba0,Ba0,Ba0] at h;obtain⟨⟨⟨h1,h2⟩,h3⟩,h4⟩:=h;refine⟨h1,by simpa using h2,?_,?_⟩
 ·simpa using h3
 ·cases hr:(c.root || c.from_==-1)
  ·rw [hr,Cq0] at h4;simp at h4 hr;exact .inl ⟨hr.1,by omega,by omega,h4.1.2,by omega,by omega⟩
  ·rw [hr,Cq1] at h4;simp at h4;exact .inr h4
theorem Zwc {m:Int} {c:Za} (h1:Yr w c.name=true) (h2:-16 <=c.out∧c.out <=1000000) (h3:c.use=true∨c.out ≠ 0)
 (h4:(c.root=false∧0 <=c.from_∧c.from_ < (w.cells.length:Int)∧c.from_ ≠ m∧1 <=c.has∧c.has <=1000000)∨(c.from_=-1∧c.has=0)):Kk w m c=true:=by
 unfold Kk Zaz;rw [Ba0,Ba0,Ba0];refine⟨⟨⟨h1,by simpa using h2⟩,by simpa using h3⟩,?_⟩;rcases h4 with⟨q1,q2,q3,q4,q5,q6⟩ | ⟨q1,q2⟩
 ·have:(c.root || c.from_==-1)=false:=by simp [q1];omega
  rw [this,Cq0];simp;exact⟨⟨⟨q2,q3⟩,q4⟩,q5,q6⟩
 ·have:(c.root || c.from_==-1)=true:=by simp [q1]
  rw [this,Cq1];simp [q1,q2]
theorem Za7 {x:Zd} (h:Ke w x=true):(0 <=x.Zx∧x.Zx < (w.cells.length:Int))∧Yr w x.name=true∧(1 <=x.w∧x.w <=1000000)∧
 ((x.kind=1∧0 <=x.via∧x.via < (w.cells.length:Int))∨(x.kind=2∧x.via=0)∨(x.kind=3∧x.via=0∧x.w=16)):=by
 unfold Ke Zaz at h;rw [Ba0,Ba0,Ba0] at h;obtain⟨⟨⟨h1,h2⟩,h3⟩,h4⟩:=h;refine⟨by simpa using h1,h2,by simpa using h3,?_⟩;cases k1:(x.kind==1)
 ·rw [k1,Cq0] at h4;cases k2:(x.kind==2)
  ·rw [k2,Cq0] at h4;simp at h4;exact .inr (.inr ⟨h4.1.1,h4.1.2,h4.2⟩)
  ·rw [k2,Cq1] at h4;exact .inr (.inl ⟨by simpa using k2,by simpa using h4⟩)
 ·rw [k1,Cq1] at h4;exact .inl ⟨by simpa using k1,by simpa using h4⟩
theorem Zuh {x:Zd} (h1:0 <=x.Zx∧x.Zx < (w.cells.length:Int)) (h2:Yr w x.name=true) (h3:1 <=x.w∧x.w <=1000000)
 (h4:(x.kind=1∧0 <=x.via∧x.via < (w.cells.length:Int))∨(x.kind=2∧x.via=0)∨(x.kind=3∧x.via=0∧x.w=16)):Ke w x=true:=by
 unfold Ke Zaz;rw [Ba0,Ba0,Ba0];refine⟨⟨⟨by simpa using h1,h2⟩,by simpa using h3⟩,?_⟩;rcases h4 with⟨k,v⟩ | ⟨k,v⟩ | ⟨k,v,u⟩
 ·rw [k];simpa using v
 ·rw [k];simpa using v
 ·rw [k];simp [v,u]
theorem Shp.Zgx (sh:Shp w) {m:Nat} (hm:m < w.cells.length) (n:Int):J4 w m n=Uf (YX w n) (Jh w n) m:=by
 rw [Zd7 w hm];have h1:=ZhO (f:=YT (m:Int)) (l:=Jh w n) (B:=16) (fun x _=>by unfold YT;split <;> omega);have h2:(Jh w n).length <=w.notes.length:=List.length_filter_le _ _;have h3:=sh.notes
 have h4:-16 <=Qf (YX w n m)∧Qf (YX w n m) <=1000000:=by
  rw [Jz hm];cases e:cellOf w m n with
  | none=>simp [Qf]
  | some c=>
    obtain⟨row,k,r1,r2⟩:=Zae e;exact(Zbj (sh.cell m row k c r1 r2).1).2.1
 unfold Uf;rw [YP] <;> omega
theorem Shp.ZhQ (sh:Shp w) {m:Nat} (hm:m < w.cells.length) (n:Int):Zd5 w m n=Jl w.cells.length (YX w n) (Jh w n) m:=by
 rw [Zsp w]
 have h1:=ZhO (f:=Wm (m:Int)) (l:=Jh w n) (B:=1000000) (fun x hx=>by
  have:=Za7 (sh.note x (List.mem_filter.1 hx).1);unfold Wm;split <;> omega)
 have h2:(Jh w n).length <=w.notes.length:=List.length_filter_le _ _;have h3:=sh.notes
 have h4:=ZoT (f:=fun k=>Wu (m:Int) (YX w n k)) (B:=1000000) (M:=w.cells.length) (fun k hk=>by
  rw [Jz hk];cases e:cellOf w k n with
  | none=>simp [Wu]
  | some c=>
    obtain⟨row,j,r1,r2⟩:=Zae e;have:= (Zbj (sh.cell k row j c r1 r2).1).2.2.2;unfold Wu;dsimp only;split <;> omega)
 have:=sh.c6;unfold Jl;rw [YP] <;> omega
theorem Kh (n h:Int) (k:Nat):Xj w n h k h=true:=by cases k <;> simp [Xj]
theorem ZgM {h:Int}:∀ {k:Nat} {a:Int},Xj w n h k a=true ->Xj w n h (k + 1) a=true
 | 0,a,q=>by
   have:a=h:=by simpa [Xj] using q
   subst this;exact Kh _ _ _
 | k + 1,a,q=>by
   rw [Xj] at q ⊢;cases e:(a==h)
   ·rw [e,Cq0] at q;rw [Cq0];cases ec:cellOf w a.toNat n with
    | none=>rw [ec] at q;cases q
    | some c=>
      rw [ec] at q;dsimp only at q ⊢;cases ef:decide (c.from_ < 0)
      ·rw [ef,Cq0] at q;exact ZgM q
      ·rw [ef] at q;cases q
   ·rfl
theorem Zlc {h:Int} {k:Nat} {a:Int} (q:Xj w n h k a=true):a=h∨cellOf w a.toNat n ≠ none:=by
 by_cases e:a=h
 ·exact .inl e
 ·right;intro z;cases k with
  | zero=>exact e (by simpa [Xj] using q)
  | succ k=>
    rw [Xj,z,show(a==h)=false by simp [e]] at q;cases q
theorem UX {h:Int} {k:Nat} {a:Int} {c:Za} (ha:a ≠ h) (hc:cellOf w a.toNat n=some c):Xj w n h (k + 1) a= (!decide (c.from_ < 0) && Xj w n h k c.from_):=by
 rw [Xj,hc,show(a==h)=false by simp [ha],Cq0];dsimp only;cases decide (c.from_ < 0) <;> rfl
theorem Zgb {α:Type} {p q:α ->Bool} {l:List α} (h:∀ x ∈ l,p x=true ->q x=true) {x:α} (hx:x ∈ l) (h1:p x=false) (h2:q x=true):l.countP p < l.countP q:=by
 induction l with
 | nil=>simp at hx
 | cons y l ih=>
   rw [List.countP_cons,List.countP_cons];have hm:l.countP p <=l.countP q:=List.countP_mono_left fun z hz=>h z (by simp [hz])
   have hy:=h y (by simp);rcases List.mem_cons.1 hx with rfl | hx
   ·rw [h1,h2];simp;omega
   ·have:=ih (fun z hz=>h z (by simp [hz])) hx;cases ep:p y
    ·simp;omega
    ·rw [hy ep];simp;omega
theorem switch {f:Nat ->Bool}:∀ {K:Nat},f 0=false ->f (K + 1)=true ->∃ j,j <=K∧f j=false∧f (j + 1)=true
 | 0,h0,h1=>⟨0,Nat.le_refl _,h0,h1⟩
 | K + 1,h0,h1=>by
   cases e:f (K + 1) with
   | false=>exact⟨K + 1,Nat.le_refl _,e,h1⟩
   | true=>
     obtain⟨j,j1,j2⟩:=switch h0 e;exact⟨j,by omega,j2⟩
theorem ZxE {h:Int} (sh:Shp w) (L:Ki w n h=true):∃ dep:Int ->Nat,∀ m c,YX w n m=some c ->m ≠ h ->0 <=c.from_∧(YX w n c.from_ ≠ none∨c.from_=h)∧dep c.from_ < dep m:=by
 have all:∀ m:Nat,m < w.cells.length ->cellOf w m n ≠ none ->Xj w n h w.cells.length m=true:=by
  intro m hm hc;unfold Ki at L;rw [Bool.not_eq_true',List.any_eq_false] at L;have:=L m (List.mem_range.2 hm);cases e:Xj w n h w.cells.length m with
  | true=>rfl
  | false=>
    exfalso;apply this;rw [e];cases ec:cellOf w m n with
    | none=>exact absurd ec hc
    | some c=>rfl
 refine⟨fun a=>(List.range (w.cells.length + 1)).countP fun k=>!Xj w n h k a,fun m c hc hm=>?_⟩;obtain⟨hr,hc'⟩:=Qr hc;have hmn:((m.toNat:Nat):Int)=m:=by omega
 have q:=all m.toNat (by omega) (by rw [hc'];simp);rw [hmn] at q;have hM:=sh.c1;obtain⟨K,hK⟩:=Ne0 (n:=w.cells.length) (by omega);rw [hK,UX hm hc',Ba0] at q;have hf:0 <=c.from_:=by have:=q.1;simp at this;omega
 have hfr:=sh.from_ hc' (by omega);refine⟨hf,?_,?_⟩
 ·rcases Zlc q.2 with z | z
  ·exact .inr z
  ·left;unfold YX;rw [if_pos hfr];exact z
 ·have hp:w.cells.length=K + 1:=hK
  obtain⟨j,j1,j2,j3⟩:=switch (f:=fun k=>Xj w n h k m) (K:=K) (by simp [Xj,hm]) (by
   show Xj w n h (K + 1) m=true;rw [UX hm hc',Ba0];exact q)
  rw [UX hm hc',Ba0] at j3;refine Zgb (x:=j) (fun k hk hp=>?_) (List.mem_range.2 (by omega)) (by rw [j3.2];rfl) (by rw [j2];rfl);rw [Bool.not_eq_true'] at hp ⊢;cases k with
  | zero=>simp [Xj,hm]
  | succ k=>
    rw [UX hm hc',Bool.and_eq_false_iff];right;cases e:Xj w n h k c.from_ with
    | false=>rfl
    | true=>rw [ZgM e] at hp;cases hp
theorem ZxD {h:Int} (L:∃ dep:Int ->Nat,∀ m c,YX w n m=some c ->m ≠ h ->0 <=c.from_∧(YX w n c.from_ ≠ none∨c.from_=h)∧dep c.from_ < dep m):Ki w n h=true:=by
 obtain⟨dep,L⟩:=L
 let S:Int ->Nat ->Bool:=fun a k=>(YX w n (k:Int)).isSome && decide (dep k < dep a)
 let rk:Int ->Nat:=fun a=>(List.range w.cells.length).countP (S a)
 have key:∀ k a c,rk a <=k ->YX w n a=some c ->Xj w n h (k + 1) a=true:=by
  intro k
  induction k with
  | zero=>
    intro a c hk hc;by_cases ha:a=h
    ·subst ha;exact Kh _ _ _
    ·obtain⟨l1,l2,l3⟩:=L a c hc ha;rw [UX ha (Qr hc).2,Ba0];refine⟨by simp;omega,?_⟩;by_cases z:c.from_=h
     ·rw [z];exact Kh _ _ _
     ·exfalso;have l2:YX w n c.from_ ≠ none:=by rcases l2 with q | q;exact q;exact absurd q z
      obtain⟨d,hd⟩:=Option.ne_none_iff_exists'.1 l2;have hr:= (Qr hd).1;have hf:((c.from_.toNat:Nat):Int)=c.from_:=by omega
      have:0 < rk a:=by
       refine List.countP_pos_iff.2 ⟨c.from_.toNat,List.mem_range.2 (by omega),?_⟩;show((YX w n ((c.from_.toNat:Nat):Int)).isSome && decide (dep ((c.from_.toNat:Nat):Int) < dep a))=true
       rw [hf,hd];simpa using l3
      omega
  | succ k ih=>
    intro a c hk hc;by_cases ha:a=h
    ·subst ha;exact Kh _ _ _
    ·obtain⟨l1,l2,l3⟩:=L a c hc ha;rw [UX ha (Qr hc).2,Ba0];refine⟨by simp;omega,?_⟩;by_cases z:c.from_=h
     ·rw [z];exact Kh _ _ _
     ·have l2:YX w n c.from_ ≠ none:=by rcases l2 with q | q;exact q;exact absurd q z
      obtain⟨d,hd⟩:=Option.ne_none_iff_exists'.1 l2;have hr:= (Qr hd).1;have hf:((c.from_.toNat:Nat):Int)=c.from_:=by omega
      refine ih c.from_ d ?_ hd
      have:rk c.from_ < rk a:=by
       refine Zgb (x:=c.from_.toNat) (fun j hj hp=>?_) (List.mem_range.2 (by omega)) ?_ ?_
       ·have hp:((YX w n (j:Int)).isSome && decide (dep j < dep c.from_))=true:=hp;show((YX w n (j:Int)).isSome && decide (dep j < dep a))=true;rw [Ba0,decide_eq_true_eq] at hp ⊢;exact⟨hp.1,by omega⟩
       ·show((YX w n ((c.from_.toNat:Nat):Int)).isSome && decide (dep ((c.from_.toNat:Nat):Int) < dep c.from_))=false
        rw [hf];simp
       ·show((YX w n ((c.from_.toNat:Nat):Int)).isSome && decide (dep ((c.from_.toNat:Nat):Int) < dep a))=true
        rw [hf,hd];simpa using l3
      omega
 unfold Ki;rw [Bool.not_eq_true',List.any_eq_false];intro m hm;rw [List.mem_range] at hm;rw [Bool.not_eq_true];cases e:cellOf w m n with
 | none=>rfl
 | some c=>
   have hc:YX w n m=some c:=by rw [Jz hm];exact e
   have:rk m < w.cells.length:=by
    have:=Zgb (p:=S m) (q:=fun _=>true) (l:=List.range w.cells.length) (fun _ _ _=>rfl) (x:=m) (List.mem_range.2 hm) (by show((YX w n (m:Int)).isSome && decide (dep m < dep m))=false;simp) rfl
    simpa [rk] using this
   obtain⟨K,hK⟩:=Ne0 (n:=w.cells.length) (by omega);have:=key K m c (by omega) hc;rw [hK,this];rfl
end
end Go.Proofs.Ytekpjgmhkkjhgaa
end
section
namespace Go.Proofs.Ytekpjgmhkkjhgaa
open Go.Lf
theorem ZrH {α:Type} [Inhabited α] (f:α ->Int) {l:List α} (h:∀ k x,l[k]? =some x ->0 < k ->f (QV l k) < f x):l.Pairwise fun a b=>f a < f b:=by
 rw [List.pairwise_iff_getElem]
 have key:∀ (j i:Nat) (hi:i < l.length) (hj:j < l.length),i < j ->f l[i] < f l[j]:=by
  intro j
  induction j with
  | zero=>intro i hi hj h;omega
  | succ j ih=>
    intro i hi hj hij;have q:=h (j + 1) l[j + 1] (by simp [hj]) (by omega)
    have e:QV l (j + 1)=l[j]'(by omega):=by
     unfold QV;rw [Nat.add_sub_cancel,List.getElem?_eq_getElem (by omega)];rfl
    rw [e] at q;by_cases z:i=j
    ·subst z;exact q
    ·have:=ih i hi (by omega) (by omega);omega
 exact fun i j hi hj hij=>key j i hi hj hij
theorem ZrJ {α:Type} [Inhabited α] (f:α ->Int) {l:List α} (h:l.Pairwise fun a b=>f a < f b) {k:Nat} {x:α} (hk:l[k]? =some x) (h0:0 < k):f (QV l k) < f x:=by
 rw [List.pairwise_iff_getElem] at h;obtain⟨hl,rfl⟩:=Li0 hk
 have e:QV l k=l[k - 1]'(by omega):=by
  unfold QV;rw [List.getElem?_eq_getElem (by omega)];rfl
 rw [e];exact h _ _ _ _ (by omega)
theorem Zbl {b:Int}:∀ {l:List Int} {a:Int},l.Pairwise (· < ·) ->(∀ x ∈ l,a <=x∧x < b) ->a <=b ->a + (l.length:Int) <=b
 | [],a,_,_,h=>by simp;exact h
 | x::l,a,p,hr,h=>by
   rw [List.pairwise_cons] at p;have h0:=hr x (by simp);have:=Zbl (l:=l) (a:=x + 1) (b:=b) p.2 (fun y hy=>by have h1:=p.1 y hy;have h2:=hr y (by simp [hy]);omega) (by omega);simp only [List.length_cons];omega
theorem Zei {α:Type} {c:Nat ->α ->Bool} {l:List α} (h:∀ k x,l[k]? =some x ->c k x=false):anyI c 0 l=false:=by
 rw [← Bool.not_eq_true,ZcQ];rintro⟨k,x,h1,h2⟩;rw [Nat.zero_add,h k x h1] at h2;cases h2
theorem Zzb {α:Type} {c:Nat ->α ->Bool} {l:List α} (h:anyI c 0 l=false) {k:Nat} {x:α} (hk:l[k]? =some x):c k x=false:=by
 rw [← Bool.not_eq_true,ZcQ] at h;cases e:c k x with
 | false=>rfl
 | true=>exact absurd ⟨k,x,hk,by rw [Nat.zero_add];exact e⟩ h
section
variable {w:Zb} {n:Int}
theorem Zxq {m:Nat} (hm:m < w.cells.length) {c:Za} (hc:c ∈ rowOf w m):∃ k:Nat,w.cells[m]? =some (rowOf w m)∧(rowOf w m)[k]? =some c:=by
 obtain⟨k,hk⟩:=List.getElem?_of_mem hc;exact⟨k,QJ hm,hk⟩
theorem Zmg {m:Nat} (hm:m < w.cells.length) (n:Int):Zmh w m n=Zcu w m n + Jy (YX w n m):=by
 rw [Jz hm];unfold Zmh Jy;cases cellOf w m n with
 | none=>rfl
 | some c=>dsimp only;cases c.root <;> rfl
theorem Zpo {m:Int} {x:Zd} (hx:x ∈ Jh w n) (k:x.kind=3) (h:x.Zx=m):1 <=Zcu w m n:=by
 unfold Jh at hx;rw [List.mem_filter] at hx;refine List.countP_pos_iff.2 ⟨x,hx.1,?_⟩;simp [k,h];simpa using hx.2
theorem Rt.of (h:Zby w=true):Rt w:=by
 unfold Zby at h;rw [Ba0] at h;obtain⟨hs,hn⟩:=h;have sh:=Zgy hs;unfold Zar at hs;simp only [Ba0,Bool.not_eq_true'] at hs;obtain⟨s1,s2,s3,s4⟩:=hs
 have hfr:∀ k x,w.freed[k]? =some x ->(0 <=x∧x < w.names)∧(0 < k ->QV w.freed k < x):=by
  intro k x hk;have:=Zzb s2 hk;unfold K6 at this;simp at this;exact⟨this.1,fun h0=>this.2 h0⟩
 refine⟨sh.c1,sh.c6,sh.n0,sh.n12,sh.notes,ZrH (fun x=>x) (fun k x hk h0=>(hfr k x hk).2 h0),?_,?_,?_,?_,?_⟩
 ·intro x hx;obtain⟨k,hk⟩:=List.getElem?_of_mem hx;exact(hfr k x hk).1
 ·intro m hm;exact ZrH (fun c:Za=>c.name) (fun k c hk h0=>(sh.cell m _ k c (QJ hm) hk).2 h0)
 ·intro m hm c hc;obtain⟨k,r1,r2⟩:=Zxq hm hc;have:=Zbj (sh.cell m _ k c r1 r2).1;exact⟨this.1,this.2.2.1⟩
 ·exact fun x hx=>(Za7 (sh.note x hx)).2.1
 ·intro n hnn
  have hr:0 <=n∧n < w.names:=by
   have:=hnn;unfold Yr at this;simp at this;exact this.1
  rw [Bool.not_eq_true',List.any_eq_false] at hn
  have hro:WQ w n=true:=by
   have:=hn n.toNat (List.mem_range.2 (by omega));rw [show((n.toNat:Nat):Int)=n by omega,hnn] at this;cases e:WQ w n with
   | true=>rfl
   | false=>rw [e] at this;exact absurd rfl this
  unfold WQ at hro;simp only [Ba0,Bool.not_eq_true',beq_iff_eq] at hro;obtain⟨h1,h2,h3⟩:=hro;rw [List.any_eq_false] at h1
  have hbad:∀ m:Nat,m < w.cells.length ->Uf (YX w n) (Jh w n) m=Jl w.cells.length (YX w n) (Jh w n) m∧Uf (YX w n) (Jh w n) m <=1000000:=by
   intro m hm;have:=h1 m (List.mem_range.2 hm);unfold Zs6 at this;rw [sh.Zgx hm,sh.ZhQ hm] at this
   simpa using this
  obtain⟨f1,f2⟩:=Zfr sh n
  have hL:Y0 w n= [(QR w n).2]:=by
   have:(Y0 w n).length=1:=by
    unfold QR at h2;rw [f1] at h2;omega
   obtain⟨z,hz⟩:=List.length_eq_one_iff.1 this;rw [show(QR w n).2=z from f2 z hz];exact hz
  obtain⟨z,hz⟩:∃ z,(QR w n).2=z:= ⟨_,rfl⟩
  rw [hz] at hL h3;have hzr:=ZbK sh n z (by rw [hL];simp)
  have hcnt:∀ m:Nat,m < w.cells.length ->Zmh w m n=if(m:Int)=z then 1 else 0:=by
   intro m hm;rw [← KF hm,hL];by_cases e:(m:Int)=z
   ·rw [if_pos e,e];simp
   ·rw [if_neg e];rw [List.count_eq_zero];simp;exact e
  have hcell:∀ m c,YX w n m=some c ->∃ (row:List Za) (k:Nat),w.cells[m.toNat]? =some row∧row[k]? =some c∧Kk w m.toNat c=true:=by
   intro m c hc;obtain⟨row,k,r1,r2⟩:=Zae (Qr hc).2;exact⟨row,k,r1,r2,(sh.cell _ row k c r1 r2).1⟩
  have h3n:∀ x ∈ Jh w n,x.kind=3 ->x.Zx=z:=by
   intro x hx k;have hx':=Za7 (sh.note x (List.mem_filter.1 hx).1);have:=Zpo hx k (m:= ((x.Zx.toNat:Nat):Int)) (by omega);have hc:=hcnt x.Zx.toNat (by omega);rw [Zmg (by omega)] at hc;by_cases e:((x.Zx.toNat:Nat):Int)=z
   ·omega
   ·rw [if_neg e] at hc;omega
  refine⟨z,⟨?_,?_,?_,?_,hzr,?_,?_,?_,?_⟩,?_⟩
  ·exact fun m c hc=>(Qr hc).1
  ·exact fun m c hc=>QG (Qr hc).2
  ·intro m c hc;have hr:= (Qr hc).1;obtain⟨_,_,_,_,q⟩:=hcell m c hc;have:= (Zbj q).2.2.2;rw [show((m.toNat:Nat):Int)=m by omega] at this;rcases this with⟨a1,a2,a3,a4,a5,a6⟩ | a
   ·exact .inl ⟨a1,a2,a3,a4,a5⟩
   ·exact .inr a
  ·intro x hx;have hx':=Za7 (sh.note x (List.mem_filter.1 hx).1);refine⟨hx'.1,by simpa using (List.mem_filter.1 hx).2,hx'.2.2.1.1,?_⟩;rcases hx'.2.2.2 with a | a | a
   ·exact .inl a
   ·exact .inr (.inl a)
   ·exact .inr (.inr ⟨a.1,a.2.1,a.2.2,h3n x hx a.1⟩)
  ·intro m c hc hrt;have hr:= (Qr hc).1;have q:=hcnt m.toNat (by omega);unfold Zmh at q;rw [(Qr hc).2] at q;dsimp only at q;rw [hrt,Cq1] at q;split at q <;> omega
  ·have q:=hcnt z.toNat (by omega);have hzn:((z.toNat:Nat):Int)=z:=by omega
   rw [if_pos hzn,Zmg (by omega)] at q;rw [hzn] at q;have g1:=ZdL w z n;rw [ZhP h3n,if_pos rfl] at g1;omega
  ·intro a a0 a1;have:= (hbad a.toNat (by omega)).1;rw [show((a.toNat:Nat):Int)=a by omega] at this;exact this
  ·exact ZxE sh h3
  ·intro a a0 a1;have:= (hbad a.toNat (by omega)).2;rw [show((a.toNat:Nat):Int)=a by omega] at this;exact this
theorem Rt.Zkl (R:Rt w):(w.freed.length:Int) <=w.names:=by
 have:=Zbl R.fr R.frr R.n0;omega
theorem Rt.Zgj (R:Rt w) {m:Nat} (hm:m < w.cells.length) {c:Za} (hc:c ∈ rowOf w m):YX w c.name m=some c:=by
 rw [Jz hm];exact Zlv (R.Yx m hm) hc
theorem Rt.Kk (R:Rt w) {m:Nat} (hm:m < w.cells.length) {c:Za} (hc:c ∈ rowOf w m):Kk w m c=true:=by
 obtain⟨q1,q2⟩:=R.cn m hm c hc;obtain⟨h,H,Mx⟩:=R.nm _ q1;have e:=R.Zgj hm hc;have ho:=H.Zh5 e;have hmx:=Mx m (by omega) (by omega);rw [H.giv,e] at hmx;simp only [Qf] at hmx;refine Zwc q1 ⟨ho.1,?_⟩ q2 ?_
 ·split at hmx <;> omega
 ·rcases H.cel m c e with⟨a1,a2,a3,a4,a5⟩ | a
  ·have h1:=H.Zdc e a2;have h2:=H.acc c.from_ a2 a3;have h3:=Mx c.from_ a2 a3;exact .inl ⟨a1,a2,a3,a4,a5,by omega⟩
  ·exact .inr a
theorem Rt.Ke (R:Rt w) {x:Zd} (hx:x ∈ w.notes):Ke w x=true:=by
 have q1:=R.nn x hx;obtain⟨h,H,Mx⟩:=R.nm _ q1;have hx':x ∈ Jh w x.name:=List.mem_filter.2 ⟨hx,by simp⟩;obtain⟨a1,a2,a3,a4⟩:=H.KA x hx';refine Zuh a1 q1 ⟨a3,?_⟩ ?_
 ·rcases a4 with z | z | z
  ·have h1:=H.UY z.2.1 hx';rw [WS z.1,if_pos rfl] at h1;have h2:=H.acc _ z.2.1 z.2.2;have h3:=Mx _ z.2.1 z.2.2;omega
  ·have h1:=H.UY a1.1 hx';rw [ZbF z.1,if_pos rfl] at h1;have h2:=H.acc _ a1.1 a1.2;have h3:=Mx _ a1.1 a1.2;omega
  ·omega
 ·rcases a4 with z | z | z
  ·exact .inl z
  ·exact .inr (.inl z)
  ·exact .inr (.inr ⟨z.1,z.2.1,z.2.2.1⟩)
theorem Rt.shaped (R:Rt w):Zar w=true:=by
 have hfl:=R.Zkl;have:=R.c1;have:=R.c6;have:=R.n0;have:=R.n12;have:=R.KA;unfold Zar;simp only [Ba0,Bool.not_eq_true'];refine⟨?_,?_,?_,?_⟩
 ·unfold Zb8;simp only [Ba0,decide_eq_true_eq];omega
 ·refine Zei fun k x hk=>?_
  have h1:=R.frr x (List.mem_of_getElem? hk);unfold K6;have h2:0 < k ->QV w.freed k < x:=fun h0=>ZrJ (fun x=>x) R.fr hk h0
  simp;exact⟨h1,h2⟩
 ·unfold Zdw;rw [Bool.not_eq_true'];refine Zei fun m row hm=>?_
  have hml:m < w.cells.length:= (Li0 hm).1;have hro:row=rowOf w m:=by have:=QJ hml;rw [hm] at this;exact Oi0 this
  subst hro;refine Zei fun k c hk=>?_
  unfold KW;rw [R.Kk hml (List.mem_of_getElem? hk)];simp;exact fun h0=>ZrJ (fun c:Za=>c.name) (R.Yx m hml) hk h0
 ·unfold KX;rw [Bool.not_eq_true',List.any_eq_false];intro x hx;rw [R.Ke hx];simp
theorem Rt.shp (R:Rt w):Shp w:=Zgy R.shaped
theorem Rt.right (R:Rt w):Zby w=true:=by
 have sh:=R.shp;unfold Zby;rw [Ba0];refine⟨R.shaped,?_⟩;rw [Bool.not_eq_true',List.any_eq_false];intro k hk;rw [Bool.not_eq_true];cases hn:Yr w k with
 | false=>rfl
 | true=>
   obtain⟨h,H,Mx⟩:=R.nm _ hn;rw [Bool.true_and,Bool.not_eq_false']
   have hcnt:∀ m:Nat,m < w.cells.length ->Zmh w m k=if(m:Int)=h then 1 else 0:=by
    intro m hm;have g1:=ZdL w m k;rw [ZhP (h:=h) (fun x hx k3=>by rcases(H.KA x hx).2.2.2 with z | z | z <;> omega)] at g1;have o:=H.one;rw [Zmg hm];by_cases e:(m:Int)=h
    ·rw [if_pos e] at g1 ⊢;rw [e];rw [e] at g1;omega
    ·rw [if_neg e] at g1 ⊢
     have:Jy (YX w k m)=0:=by
      cases ec:YX w k m with
      | none=>rfl
      | some c=>
        show(if c.root=true then 1 else 0)=0;rw [if_neg (fun z=>e (H.rt m c ec z))]
     omega
   have hr:=ZbK sh (k:Int)
   have hL:Y0 w k= [h]:=by
    have c1:∀ x ∈ Y0 w (k:Int),x=h:=by
     intro x hx;have h1:=hr x hx;have h2:=KF (w:=w) (m:=x.toNat) (by omega) (k:Int);rw [hcnt x.toNat (by omega),show((x.toNat:Nat):Int)=x by omega] at h2;have h3:0 < (Y0 w (k:Int)).count x:=List.count_pos_iff.2 hx;by_cases e:x=h
     ·exact e
     ·rw [if_neg e] at h2;omega
    have c2:(Y0 w (k:Int)).count h=1:=by
     have hh:=H.hM;have h2:=KF (w:=w) (m:=h.toNat) (by omega) (k:Int);rw [hcnt h.toNat (by omega),show((h.toNat:Nat):Int)=h by omega,if_pos rfl] at h2;exact h2
    have c3:(Y0 w (k:Int)).length=1:=by
     rw [← c2]
     symm
     rw [List.count_eq_length];exact fun x hx=>(c1 x hx).symm
    obtain⟨z,hz⟩:=List.length_eq_one_iff.1 c3;rw [hz];rw [c1 z (by rw [hz];simp)]
   obtain⟨f1,f2⟩:=Zfr sh (k:Int);unfold WQ;simp only [Ba0,Bool.not_eq_true',beq_iff_eq];refine⟨?_,?_,?_⟩
   ·rw [List.any_eq_false];intro m hm;rw [List.mem_range] at hm;unfold Zs6;rw [sh.Zgx hm,sh.ZhQ hm,H.acc m (by omega) (by omega)];have:=Mx m (by omega) (by omega);rw [H.acc m (by omega) (by omega)] at this;simp;exact this
   ·unfold QR;rw [f1,hL];rfl
   ·have:(QR w (k:Int)).2=h:=f2 h hL;rw [this];exact ZxD H.lead
end
end Go.Proofs.Ytekpjgmhkkjhgaa
end
section
namespace Go.Proofs.Ytekpjgmhkkjhgaa
open Go.Lf
def flN (n:Int) (fl:List Zd):List Zd:=fl.filter fun x=>x.name==n
structure Rx (w:Zb) (ex:Int ->Int ->Prop) (fl:List Zd):Prop where
 c1:1 <=w.cells.length
 c6:w.cells.length <=6
 n0:0 <=w.names
 n12:w.names <=12
 fr:w.freed.Pairwise (· < ·)
 frr:∀ x ∈ w.freed,0 <=x∧x < w.names
 Yx:∀ m,m < w.cells.length ->Ug (rowOf w m)
 cn:∀ n m c,YX w n m=some c ->Yr w n=true∧(c.use=true∨c.out ≠ 0∨ex m n)
 nn:∀ x ∈ fl ++ w.notes,Yr w x.name=true
 nm:∀ n,Yr w n=true ->∃ h,Nm w.cells.length n (YX w n) (flN n fl ++ Jh w n) h
def Mw (w:Zb) (fl:List Zd):Prop:=∀ n,Yr w n=true ->Mst w.cells.length (YX w n) (flN n fl ++ Jh w n)
def Kr:Int ->Int ->Prop:=fun _ _=>False
theorem Rt.rx {w:Zb} (R:Rt w):Rx w Kr []∧Mw w []:=by
 refine⟨⟨R.c1,R.c6,R.n0,R.n12,R.fr,R.frr,R.Yx,fun n m c hc=>?_,R.nn,fun n hn=>?_⟩,fun n hn=>?_⟩
 ·obtain⟨h1,h2⟩:=Qr hc;have hm:m.toNat < w.cells.length:=by omega
  obtain⟨row,k,r1,r2⟩:=Zae h2;have:row=rowOf w m.toNat:=by have:=QJ hm;rw [r1] at this;exact Oi0 this
  subst this;have q:=R.cn _ hm c (List.mem_of_getElem? r2);rw [QG h2] at q;exact⟨q.1,q.2.elim .inl fun z=>.inr (.inl z)⟩
 ·obtain⟨h,H,_⟩:=R.nm n hn;exact⟨h,H⟩
 ·obtain⟨h,_,H⟩:=R.nm n hn;exact H
theorem Rx.rt {w:Zb} (R:Rx w Kr []) (Mx:Mw w []) (hl:w.notes.length <=80):Rt w:=by
 refine⟨R.c1,R.c6,R.n0,R.n12,hl,R.fr,R.frr,R.Yx,fun m hm c hc=>?_,R.nn,fun n hn=>?_⟩
 ·have e:YX w c.name m=some c:=by rw [Jz hm];exact Zlv (R.Yx m hm) hc
  obtain⟨q1,q2⟩:=R.cn _ _ _ e;refine⟨q1,?_⟩;rcases q2 with q | q | q
  ·exact .inl q
  ·exact .inr q
  ·exact q.elim
 ·obtain⟨h,H⟩:=R.nm n hn;exact⟨h,H,Mx n hn⟩
structure Upd (w w':Zb) (n:Int):Prop where
 len:w'.cells.length=w.cells.length
 nms:w'.names=w.names
 fre:w'.freed=w.freed
 Yx:∀ m,m < w.cells.length ->Ug (rowOf w' m)
 oc:∀ k,k ≠ n ->YX w' k=YX w k
 on:∀ k,k ≠ n ->Jh w' k=Jh w k
theorem Upd.trans {w w1 w2:Zb} {n:Int} (a:Upd w w1 n) (b:Upd w1 w2 n):Upd w w2 n:=
 ⟨b.len.trans a.len,b.nms.trans a.nms,b.fre.trans a.fre,fun m hm=>b.Yx m (by rw [a.len];exact hm),fun k hk=>(b.oc k hk).trans (a.oc k hk),fun k hk=>(b.on k hk).trans (a.on k hk)⟩
theorem Zcn {w w':Zb} (h1:w'.names=w.names) (h2:w'.freed=w.freed) (n:Int):Yr w' n=Yr w n:=by unfold Yr;rw [h1,h2]
theorem ZlC {n:Int} {fl:List Zd} (h:∀ x ∈ fl,x.name ≠ n):flN n fl= []:=by
 unfold flN;rw [List.filter_eq_nil_iff];intro x hx;simp;exact h x hx
theorem KH {n:Int} {fl:List Zd} (h:∀ x ∈ fl,x.name=n):flN n fl=fl:=by
 unfold flN;rw [List.filter_eq_self];intro x hx;simp;exact h x hx
section
variable {w w':Zb} {n:Int} {ex ex':Int ->Int ->Prop} {fl fl':List Zd}
theorem Rx.upd (R:Rx w ex fl) (U:Upd w w' n) (hn:Yr w n=true) (hfl:∀ x ∈ fl,x.name=n) (Zg9:∀ x ∈ fl',x.name=n)
 (he:∀ m c,YX w' n m=some c ->c.use=true∨c.out ≠ 0∨ex' m n) (he2:∀ m k,k ≠ n ->ex m k ->ex' m k)
 (hm:∃ h,Nm w.cells.length n (YX w' n) (fl' ++ Jh w' n) h):Rx w' ex' fl':=by
 have hB:=Zcn U.nms U.fre;refine⟨by rw [U.len];exact R.c1,by rw [U.len];exact R.c6,by rw [U.nms];exact R.n0,by rw [U.nms];exact R.n12,by rw [U.fre];exact R.fr,by rw [U.fre,U.nms];exact R.frr,by rw [U.len];exact U.Yx,fun k m c hc=>?_,fun x hx=>?_,fun k hk=>?_⟩
 ·rw [hB];by_cases e:k=n
  ·subst e;exact⟨hn,he m c hc⟩
  ·rw [U.oc k e] at hc;obtain⟨q1,q2⟩:=R.cn k m c hc;exact⟨q1,q2.elim .inl fun z=>.inr (z.elim .inl fun y=>.inr (he2 m k e y))⟩
 ·rw [hB];by_cases e:x.name=n
  ·rw [e];exact hn
  ·rcases List.mem_append.1 hx with z | z
   ·exact absurd (Zg9 x z) e
   ·have:x ∈ Jh w' x.name:=List.mem_filter.2 ⟨z,by simp⟩;rw [U.on _ e] at this;exact R.nn x (List.mem_append_right _ (List.mem_filter.1 this).1)
 ·rw [hB] at hk;rw [U.len];by_cases e:k=n
  ·subst e;rw [KH Zg9];exact hm
  ·obtain⟨h,H⟩:=R.nm k hk;refine⟨h,?_⟩;rw [U.oc k e,U.on k e,ZlC fun x hx z=>e (z.symm.trans (Zg9 x hx))];rw [ZlC fun x hx z=>e (z.symm.trans (hfl x hx))] at H;exact H
theorem Mw.upd (Mx:Mw w fl) (U:Upd w w' n) (hfl:∀ x ∈ fl,x.name=n) (Zg9:∀ x ∈ fl',x.name=n)
 (hm:Mst w.cells.length (YX w' n) (fl' ++ Jh w' n)):Mw w' fl':=by
 intro k hk;rw [Zcn U.nms U.fre] at hk;rw [U.len];by_cases e:k=n
 ·subst e;rw [KH Zg9];exact hm
 ·have:=Mx k hk;rw [U.oc k e,U.on k e,ZlC fun x hx z=>e (z.symm.trans (Zg9 x hx))];rw [ZlC fun x hx z=>e (z.symm.trans (hfl x hx))] at this;exact this
theorem Zkz {m a:Nat} {r:Row} (hm:m < w.cells.length) (k:Int):cellOf (cw w m r) a k=if a=m then UI r k else cellOf w a k:=by
 rw [Xb,Xb];by_cases e:a=m
 ·subst e;rw [if_pos rfl,QD hm]
 ·rw [if_neg e,UQ e]
theorem Qv {m:Nat} (hm:m < w.cells.length) (Yx:∀ m,m < w.cells.length ->Ug (rowOf w m)) {c:Za} (hc:c.name=n):
 Upd w (cw w m (put c (rowOf w m))) n∧YX (cw w m (put c (rowOf w m))) n=YB (YX w n) m (some c)∧Jh (cw w m (put c (rowOf w m))) n=Jh w n:=by
 have key:∀ k a,YX (cw w m (put c (rowOf w m))) k a=if a=m∧k=n then some c else YX w k a:=by
  intro k a;unfold YX;rw [Yh];by_cases hr:0 <=a∧a < (w.cells.length:Int)
  ·rw [if_pos hr,if_pos hr,Zkz hm];by_cases e:a=m
   ·have:a.toNat=m:=by omega
    rw [if_pos this,ZaB _ (Yx m hm),hc,Xb,this];by_cases ek:k=n
    ·rw [if_pos ek,if_pos ⟨e,ek⟩]
    ·rw [if_neg ek,if_neg (fun z=>ek z.2)]
   ·have:¬ a.toNat=m:=by omega
    rw [if_neg this,if_neg (fun z=>e z.1)]
  ·rw [if_neg hr,if_neg hr,if_neg (by rintro⟨z,_⟩;subst z;omega)]
 refine⟨⟨Yh,rfl,rfl,fun a ha=>?_,fun k hk=>?_,fun k hk=>rfl⟩,?_,rfl⟩
 ·by_cases e:a=m
  ·subst e;rw [QD hm];exact(Yx a hm).put
  ·rw [UQ e];exact Yx a ha
 ·funext a;rw [key,if_neg (fun z=>hk z.2)]
 ·funext a;rw [key];unfold YB;by_cases e:a=m
  ·rw [if_pos ⟨e,rfl⟩,if_pos e]
  ·rw [if_neg (fun z=>e z.1),if_neg e]
theorem Zk0 {m:Nat} (hm:m < w.cells.length) (Yx:∀ m,m < w.cells.length ->Ug (rowOf w m)):
 Upd w (cw w m (rmv n (rowOf w m))) n∧YX (cw w m (rmv n (rowOf w m))) n=YB (YX w n) m none∧Jh (cw w m (rmv n (rowOf w m))) n=Jh w n:=by
 have key:∀ k a,YX (cw w m (rmv n (rowOf w m))) k a=if a=m∧k=n then none else YX w k a:=by
  intro k a;unfold YX;rw [Yh];by_cases hr:0 <=a∧a < (w.cells.length:Int)
  ·rw [if_pos hr,if_pos hr,Zkz hm];by_cases e:a=m
   ·have:a.toNat=m:=by omega
    rw [if_pos this,Zq9,Xb,this];by_cases ek:k=n
    ·rw [if_pos ek,if_pos ⟨e,ek⟩]
    ·rw [if_neg ek,if_neg (fun z=>ek z.2)]
   ·have:¬ a.toNat=m:=by omega
    rw [if_neg this,if_neg (fun z=>e z.1)]
  ·rw [if_neg hr,if_neg hr];split <;> rfl
 refine⟨⟨Yh,rfl,rfl,fun a ha=>?_,fun k hk=>?_,fun k hk=>rfl⟩,?_,rfl⟩
 ·by_cases e:a=m
  ·subst e;rw [QD hm];exact(Yx a hm).rmv n
  ·rw [UQ e];exact Yx a ha
 ·funext a;rw [key,if_neg (fun z=>hk z.2)]
 ·funext a;rw [key];unfold YB;by_cases e:a=m
  ·rw [if_pos ⟨e,rfl⟩,if_pos e]
  ·rw [if_neg (fun z=>e z.1),if_neg e]
theorem Zev (Yx:∀ m,m < w.cells.length ->Ug (rowOf w m)) {x:Zd} (hx:x.name=n):Upd w (sent w x) n∧YX (sent w x) n=YX w n∧Jh (sent w x) n=Jh w n ++ [x]:=by
 refine⟨⟨rfl,rfl,rfl,Yx,fun k hk=>rfl,fun k hk=>?_⟩,rfl,?_⟩
 ·unfold Jh sent;rw [List.filter_append]
  have: [x].filter (fun x=>x.name==k)= []:=by
   rw [List.filter_eq_nil_iff];intro y hy;rw [List.mem_singleton.1 hy];simp;exact fun z=>hk (z.symm.trans hx)
  rw [this,List.append_nil]
 ·unfold Jh sent;rw [List.filter_append]
  have: [x].filter (fun x=>x.name==n)= [x]:=by
   rw [List.filter_eq_self];intro y hy;rw [List.mem_singleton.1 hy];simp;exact hx
  rw [this]
theorem ZfF {m:Nat} (hm:m < w.cells.length) (n:Int):look (rowOf w m) n=ZaA n (YX w n) m:=by
 unfold ZaA;rw [Jz hm];rfl
theorem Mst.put {M:Nat} {cv:CV} {ns ns':List Zd} (Mx:Mst M cv ns) {m:Int} {d:Za} (h:∀ a:Int,0 <=a ->a < M ->(if a=m then d.out else Qf (cv a)) + YQ (YT a) ns' <=Qf (cv a) + YQ (YT a) ns):Mst M (YB cv m (some d)) ns':=by
 intro a a0 a1;have h1:=h a a0 a1;have h2:=Mx a a0 a1;unfold Uf at h2 ⊢;have:Qf (YB cv m (some d) a)=if a=m then d.out else Qf (cv a):=by unfold YB;split <;> rfl
 omega
theorem Zc3 {m:Int} (R:Rx w (fun a k=>a=m∧k=n) []) (Mx:Mw w []) {m':Nat} (hmm:(m':Int)=m) (hm:m' < w.cells.length) {c:Za} (hc:YX w n m=some c):
 Rx (Xn w m' n c) Kr []∧Mw (Xn w m' n c) []:=by
 have hn:= (R.cn n m c hc).1;have hcn:=QG (Qr hc).2;obtain⟨h,H⟩:=R.nm n hn;have H:Nm w.cells.length n (YX w n) (Jh w n) h:=H;have hMx:=Mx n hn;have hMx:Mst w.cells.length (YX w n) (Jh w n):=hMx;unfold Xn;cases hu:(c.use || (c.out !=0))
 ·rw [Cq0];have hu1:c.use=false:=by cases q:c.use;rfl;rw [q] at hu;cases hu
  have hu2:c.out=0:=by rw [hu1,Bool.false_or] at hu;simpa using hu
  obtain⟨U,V1,V2⟩:=Zk0 (n:=n) hm R.Yx
  have hout:∀ a,Qf (YB (YX w n) m none a)=Qf (YX w n a):=by
   intro a;unfold YB;split
   ·rename_i e;rw [e,hc];simp [Qf,hu2]
   ·rfl
  rw [hmm] at V1
  have ZE4:∀ a d,YX (cw w m' (rmv n (rowOf w m'))) n a=some d ->d.use=true∨d.out ≠ 0∨Kr a n:=by
   intro a d hd;rw [V1] at hd;unfold YB at hd;split at hd
   ·cases hd
   ·rename_i e;rcases(R.cn n a d hd).2 with z | z | z
    ·exact .inl z
    ·exact .inr (.inl z)
    ·exact absurd z.1 e
  cases hr:c.root
  ·simp only [Cq0];cases hf:decide (c.from_ >=0)
   ·rw [Cq0];show Rx (cw w m' (rmv n (rowOf w m'))) Kr []∧Mw (cw w m' (rmv n (rowOf w m'))) [];have hf':¬ 0 <=c.from_:=by simpa using hf
    refine⟨R.upd U hn (by simp) (by simp) ZE4 (fun a k hk z=>absurd z.2 hk) ⟨h,?_⟩,Mx.upd U (by simp) (by simp) ?_⟩
    ·have:=H.gone hc hu2 hr (ys:= []) (by rw [if_neg hf']);rw [List.append_nil] at this;rw [V1];exact this
    ·intro a a0 a1;have:=hMx a a0 a1;rw [V1];show Qf (YB (YX w n) m none a) + YQ (YT a) (Jh w n) <=1000000;rw [hout];exact this
   ·rw [Cq1];show Rx (sent (cw w m' (rmv n (rowOf w m'))) ⟨2,c.from_,n,0,c.has⟩) Kr []∧Mw (sent (cw w m' (rmv n (rowOf w m'))) ⟨2,c.from_,n,0,c.has⟩) []
    have hf':0 <=c.from_:=by simpa using hf
    obtain⟨U2,W1,W2⟩:=Zev (w:=cw w m' (rmv n (rowOf w m'))) (n:=n) (x:= ⟨2,c.from_,n,0,c.has⟩) (fun a ha=>U.Yx a (by rw [← U.len];exact ha)) rfl;rw [V1] at W1;refine⟨R.upd (U.trans U2) hn (by simp) (by simp) (fun a d hd=>ZE4 a d (by rw [V1,← W1];exact hd)) (fun a k hk z=>absurd z.2 hk) ⟨h,?_⟩,Mx.upd (U.trans U2) (by simp) (by simp) ?_⟩
    ·have:=H.gone hc hu2 hr (ys:= [⟨2,c.from_,n,0,c.has⟩]) (by rw [if_pos hf']);rw [W1,W2];exact this
    ·intro a a0 a1;have:=hMx a a0 a1;rw [W1,W2];show Qf (YB (YX w n) m none a) + YQ (YT a) (Jh w n ++ [⟨2,c.from_,n,0,c.has⟩]) <=1000000
     rw [hout,Xy,QB,Zc7 rfl];unfold Uf at this;omega
  ·simp only [Cq1];obtain⟨e1,e2⟩:=H.last hc hu2 hr;have hnr:0 <=n∧n < w.names:=by have:=hn;unfold Yr at this;simp at this;exact this.1
   have hnf:n ∉ w.freed:=by
    have:=hn;unfold Yr at this;simp at this;exact fun z=>this.2 n z rfl
   have hmem:∀ x,x ∈ JC n w.freed↔x=n∨x ∈ w.freed:=by
    intro x
    constructor
    ·exact ZeH
    ·intro hx
     have key:∀ l:List Int,x=n∨x ∈ l ->x ∈ JC n l:=by
      intro l
      induction l with
      | nil=>intro z;rcases z with z | z;subst z;simp [JC];simp at z
      | cons y l ih=>
        intro z;unfold JC;split
        ·simp only [List.mem_cons] at z ⊢;omega
        ·simp only [List.mem_cons] at z ⊢;rcases z with z | z | z
         ·exact .inr (ih (.inl z))
         ·exact .inl z
         ·exact .inr (ih (.inr z))
     exact key _ hx
   have hB:∀ k,Yr ⟨w.cells.set m' (rmv n (rowOf w m')),w.notes,w.names,JC n w.freed⟩ k= (Yr w k && !(k==n)):=by
    intro k;unfold Yr;dsimp only
    have:((JC n w.freed).any fun y=>y==k)= ((w.freed.any fun y=>y==k) || (k==n)):=by
     rw [Bool.eq_iff_iff,Bool.or_eq_true,List.any_eq_true,List.any_eq_true];simp only [beq_iff_eq,hmem]
     constructor
     ·rintro⟨x,z | z,rfl⟩
      ·exact .inr z
      ·exact .inl ⟨x,z,rfl⟩
     ·rintro(⟨x,z,rfl⟩ | z)
      ·exact⟨x,.inr z,rfl⟩
      ·exact⟨n,.inl rfl,z.symm⟩
    rw [this];cases decide (0 <=k) <;> cases decide (k < w.names) <;> cases (w.freed.any fun y=>y==k) <;> cases (k==n) <;> rfl
   have key:∀ k,YX ⟨w.cells.set m' (rmv n (rowOf w m')),w.notes,w.names,JC n w.freed⟩ k=if k=n then(fun _=>none) else YX w k:=by
    intro k;by_cases e:k=n
    ·subst e;rw [if_pos rfl];show YX (cw w m' (rmv k (rowOf w m'))) k=_;rw [V1];funext a;unfold YB;split
     ·rfl
     ·rename_i z;exact e1 a z
    ·rw [if_neg e];exact U.oc k e
   refine⟨⟨by show 1 <= (w.cells.set _ _).length;rw [List.length_set];exact R.c1,by show(w.cells.set _ _).length <=6;rw [List.length_set];exact R.c6,R.n0,R.n12,?_,?_,?_,?_,?_,?_⟩,?_⟩
   ·have q1:∀ l:List Int,l.Pairwise (· < ·) ->n ∉ l ->(JC n l).Pairwise (· < ·):=by
     intro l
     induction l with
     | nil=>intro _ _;simp [JC]
     | cons y l ih=>
       intro p q;rw [List.pairwise_cons] at p;unfold JC;split
       ·rename_i hyx;rw [List.pairwise_cons,List.pairwise_cons];refine⟨fun z hz=>?_,p⟩;rcases List.mem_cons.1 hz with rfl | hz
        ·exact hyx
        ·have:=p.1 z hz;omega
       ·rename_i hyx;have hne:n ≠ y:=fun z=>q (by rw [z];simp)
        rw [List.pairwise_cons];refine⟨fun z hz=>?_,ih p.2 fun z=>q (by simp [z])⟩;rcases ZeH hz with rfl | hz
        ·omega
        ·exact p.1 z hz
    exact q1 _ R.fr hnf
   ·intro x hx;rcases(hmem x).1 hx with z | z
    ·subst z;exact hnr
    ·exact R.frr x z
   ·intro a ha;have ha:a < w.cells.length:=by simpa using ha
    exact U.Yx a ha
   ·intro k a d hd;rw [key] at hd;split at hd
    ·cases hd
    ·rename_i hk;obtain⟨q1,q2⟩:=R.cn k a d hd;refine⟨by rw [hB,q1];simp [hk],?_⟩;rcases q2 with z | z | z
     ·exact .inl z
     ·exact .inr (.inl z)
     ·exact absurd z.2 hk
   ·intro x hx;have hx:x ∈ w.notes:=hx
    have hne:x.name ≠ n:=by
     intro z;have:x ∈ Jh w n:=List.mem_filter.2 ⟨hx,by simp [z]⟩;rw [e2] at this;simp at this
    rw [hB,R.nn x (by simpa using hx)];simp [hne]
   ·intro k hk;rw [hB] at hk;simp at hk;obtain⟨h',H'⟩:=R.nm k hk.1;refine⟨h',?_⟩;rw [key,if_neg hk.2];show Nm (w.cells.set _ _).length k (YX w k) (Jh w k) h';rw [List.length_set];exact H'
   ·intro k hk;rw [hB] at hk;simp at hk;have:=Mx k hk.1;rw [key,if_neg hk.2];show Mst (w.cells.set _ _).length (YX w k) (Jh w k);rw [List.length_set];exact this
 ·rw [Cq1];refine⟨{R with cn:=fun k a d hd=>?_},Mx⟩;obtain⟨q1,q2⟩:=R.cn k a d hd;refine⟨q1,?_⟩;rcases q2 with z | z | ⟨z1,z2⟩
  ·exact .inl z
  ·exact .inr (.inl z)
  ·subst z1 z2;rw [hc] at hd;cases hd;rw [Bool.or_eq_true] at hu;rcases hu with z | z
   ·exact .inl z
   ·exact .inr (.inl (by simpa using z))
end
end Go.Proofs.Ytekpjgmhkkjhgaa
end
section
namespace Go.Proofs.Ytekpjgmhkkjhgaa
open Go.Lf
section
variable {w w':Zb} {n:Int}
theorem Nm.most {M:Nat} {cv:CV} {ns:List Zd} {h:Int} (H:Nm M n cv ns h) (Mx:Mst M cv ns):
 (∀ m c,cv m=some c ->-16 <=c.out∧c.out <=1000000∧0 <=c.has∧c.has <=1000000)∧∀ x ∈ ns,1 <=x.w∧x.w <=1000000:=by
 refine⟨fun m c hc=>?_,fun x hx=>?_⟩
 ·have hr:=H.rng m c hc;have h1:=Mx m hr.1 hr.2;have h2:=H.Zh5 hc;rw [H.giv,hc] at h1;simp only [Qf] at h1;refine⟨h2.1,by split at h1 <;> omega,?_⟩;rcases H.cel m c hc with z | z
  ·have:=H.Zdc hc z.2.1;have:=H.acc c.from_ z.2.1 z.2.2.1;have:=Mx c.from_ z.2.1 z.2.2.1;omega
  ·omega
 ·have hx':=H.KA x hx;refine⟨hx'.2.2.1,?_⟩;rcases hx'.2.2.2 with z | z | z
  ·have h1:=H.UY z.2.1 hx;rw [WS z.1,if_pos rfl] at h1;have:=H.acc _ z.2.1 z.2.2;have:=Mx _ z.2.1 z.2.2;omega
  ·have h1:=H.UY hx'.1.1 hx;rw [ZbF z.1,if_pos rfl] at h1;have:=H.acc _ hx'.1.1 hx'.1.2;have:=Mx _ hx'.1.1 hx'.1.2;omega
  ·omega
theorem ZgL {M:Nat} {cv:CV} {ns:List Zd} {h:Int} (H:Nm M n cv ns h) (Mx:Mst M cv ns) (m:Int):-16 <= (ZaA n cv m).out∧(ZaA n cv m).out <=1000000∧0 <= (ZaA n cv m).has∧(ZaA n cv m).has <=1000000:=by
 unfold ZaA;cases e:cv m with
 | none=>simp [Zwj]
 | some c=>exact(H.most Mx).1 m c e
theorem ZdR {fl fl':List Zd} {ex ex':Int ->Int ->Prop} (R:Rx w ex fl) (Mx:Mw w fl) (hn:Yr w n=true) (hfl:∀ x ∈ fl,x.name=n) (Zg9:∀ x ∈ fl',x.name=n) {m:Int} {m':Nat} (hmm:(m':Int)=m) (hm:m' < w.cells.length) {d:Za} (hd:d.name=n)
 (he:d.use=true∨d.out ≠ 0∨ex' m n) (he2:∀ a k,(k ≠ n∨a ≠ m) ->ex a k ->ex' a k)
 (hN:∃ h,Nm w.cells.length n (YB (YX w n) m (some d)) (fl' ++ Jh w n) h)
 (hM:∀ a:Int,0 <=a ->a < w.cells.length ->(if a=m then d.out else Qf (YX w n a)) + YQ (YT a) (fl' ++ Jh w n) <=Qf (YX w n a) + YQ (YT a) (fl ++ Jh w n)):
 Rx (cw w m' (put d (rowOf w m'))) ex' fl'∧Mw (cw w m' (put d (rowOf w m'))) fl'∧YX (cw w m' (put d (rowOf w m'))) n m=some d:=by
 obtain⟨U,V1,V2⟩:=Qv hm R.Yx hd;rw [hmm] at V1;refine⟨R.upd U hn hfl Zg9 (fun a c hc=>?_) (fun a k hk=>he2 a k (.inl hk)) ?_,Mx.upd U hfl Zg9 ?_,by rw [V1,WA]⟩
 ·rw [V1] at hc;unfold YB at hc;split at hc
  ·rename_i e;cases hc;rw [e];exact he
  ·rename_i e;rcases(R.cn n a c hc).2 with z | z | z
   ·exact .inl z
   ·exact .inr (.inl z)
   ·exact .inr (.inr (he2 a n (.inr e) z))
 ·rw [V1,V2];exact hN
 ·rw [V1,V2];have:=Mx n hn;rw [KH hfl] at this;exact this.put hM
theorem Zxm {fl fl':List Zd} {ex:Int ->Int ->Prop} (R:Rx w ex fl) (Mx:Mw w fl) (hn:Yr w n=true) (hfl:∀ x ∈ fl,x.name=n) (Zg9:∀ x ∈ fl',x.name=n) {y:Zd} (hy:y.name=n)
 (hN:∃ h,Nm w.cells.length n (YX w n) (fl' ++ (Jh w n ++ [y])) h)
 (hM:∀ a:Int,0 <=a ->a < w.cells.length ->YQ (YT a) (fl' ++ (Jh w n ++ [y])) <=YQ (YT a) (fl ++ Jh w n)):
 Rx (sent w y) ex fl'∧Mw (sent w y) fl':=by
 obtain⟨U,V1,V2⟩:=Zev R.Yx hy;refine⟨R.upd U hn hfl Zg9 (fun a c hc=>?_) (fun a k hk z=>z) ?_,Mx.upd U hfl Zg9 ?_⟩
 ·rw [V1] at hc;exact(R.cn n a c hc).2
 ·rw [V1,V2];exact hN
 ·rw [V1,V2];have:=Mx n hn;rw [KH hfl] at this;intro a a0 a1;have h1:=this a a0 a1;have h2:=hM a a0 a1;unfold Uf at h1 ⊢;omega
theorem WZ (m:Nat) (n:Int) (c:Za):(Xn w m n c).notes.length <=w.notes.length + 1∧(Xn w m n c).cells.length=w.cells.length∧(Xn w m n c).names=w.names∧(c.root=true ->(Xn w m n c).notes.length=w.notes.length):=by
 unfold Xn;cases (c.use || (c.out !=0))
 ·simp only [Cq0,List.length_set,true_and];cases c.root
  ·cases decide (c.from_ >=0) <;> simp
  ·simp
 ·simp
theorem Uq {m:Nat} (hm:m < w.cells.length) (Yx:Ug (rowOf w m)) {d:Za} (hd:d.name=n):look (rowOf (cw w m (put d (rowOf w m))) m) n=d:=QE (ZfN hm Yx hd)
theorem Zoh {x:Zd} (R:Rx w Kr [x]) (Mx:Mw w [x]):
 Rx (Qs w x) Kr []∧Mw (Qs w x) []∧(Qs w x).notes.length <=w.notes.length + 1∧(Qs w x).cells.length=w.cells.length∧(Qs w x).names=w.names:=by
 have hn:=R.nn x (by simp);obtain⟨n,hxn⟩:∃ n,x.name=n:= ⟨_,rfl⟩
 rw [hxn] at hn;have hfl:∀ y ∈ [x],y.name=n:=by simp [hxn]
 have hno:∀ y ∈ ([]:List Zd),y.name=n:=by simp
 obtain⟨h,H⟩:=R.nm n hn;rw [KH hfl] at H;have hMx:=Mx n hn;rw [KH hfl] at hMx;have H:Nm w.cells.length n (YX w n) (x::Jh w n) h:=H;have hx:=H.KA x (by simp);have hxw:= (H.most hMx).2 x (by simp);obtain⟨m',hm'⟩:∃ m',x.Zx.toNat=m':= ⟨_,rfl⟩
 have hmm:(m':Int)=x.Zx:=by omega
 have hm:m' < w.cells.length:=by omega
 have L:=H.look x.Zx;have S:=ZgL H hMx x.Zx;have K5:look (rowOf w m') n=ZaA n (YX w n) x.Zx:=by rw [ZfF hm,hmm]
 unfold Qs;rw [hm',hxn];dsimp only;obtain⟨c,hc⟩:∃ c,ZaA n (YX w n) x.Zx=c:= ⟨_,rfl⟩
 rw [hc] at L S K5;rw [K5];have hsrt:=R.Yx m' hm;cases k1:(x.kind==1)
 ·rw [Cq0];cases k2:(x.kind==2)
  ·-- the root
   rw [Cq0]
   have k3:x.kind=3:=by
    rcases hx.2.2.2 with z | z | z
    ·rw [z.1] at k1;cases k1
    ·rw [z.1] at k2;cases k2
    ·exact z.1
   have hh:x.Zx=h:=by rcases hx.2.2.2 with z | z | z <;> omega
   rw [YP (n:=c.out + 16) (by omega) (by omega)]
   have hG:∀ a:Int,(if a=x.Zx then(c.out + 16) else Qf (YX w n a)) + YQ (YT a) (Jh w n) <=Qf (YX w n a) + YQ (YT a) (x::Jh w n):=by
    intro a;simp only [YQ,Zhl k3];by_cases z:a=x.Zx
    ·rw [if_pos z,if_pos z.symm,z,L.out];omega
    ·rw [if_neg z,if_neg (by omega)];omega
   cases hf:decide (c.from_ >=0)
   ·simp only [Cq0];have hf':¬ 0 <=c.from_:=by simpa using hf
    rw [Uq hm hsrt (by exact L.nam)];have:=H.home k3 L c.use (ys:= []) (by rw [if_neg hf']);rw [List.append_nil] at this;obtain⟨P1,P2,P3⟩:=ZdR (ex':=fun a k=>a=x.Zx∧k=n) R Mx hn hfl hno hmm hm (d:= ⟨c.name,true,-1,0,c.out + 16,c.use⟩) L.nam (.inr (.inr ⟨rfl,rfl⟩)) (fun a k _ z=>z.elim) ⟨h,this⟩ (fun a _ _=>hG a);obtain⟨Q1,Q2⟩:=Zc3 P1 P2 hmm (by rw [Yh];exact hm) P3;have Q3:=WZ (w:=cw w m' (put ⟨c.name,true,-1,0,c.out + 16,c.use⟩ (rowOf w m'))) m' n ⟨c.name,true,-1,0,c.out + 16,c.use⟩;exact⟨Q1,Q2,Q3.1,Q3.2.1.trans Yh,Q3.2.2.1⟩
   ·simp only [Cq1];have hf':0 <=c.from_:=by simpa using hf
    have hce:c.root=false∧0 <=c.from_∧c.from_ < w.cells.length∧c.from_ ≠ x.Zx∧1 <=c.has:=by rcases L.cel with z | z;exact z;omega
    have hb:XA (cw w m' (put ⟨c.name,true,-1,0,c.out + 16,c.use⟩ (rowOf w m'))) m' n c.from_ c.has=sent (cw w m' (put ⟨c.name,true,-1,0,c.out + 16,c.use⟩ (rowOf w m'))) ⟨2,c.from_,n,0,c.has⟩:=by
     unfold XA;have:(c.from_ != (m':Int))=true:=by simp;omega
     rw [this,Cq1]
    rw [hb];have hrow:rowOf (sent (cw w m' (put ⟨c.name,true,-1,0,c.out + 16,c.use⟩ (rowOf w m'))) ⟨2,c.from_,n,0,c.has⟩) m'=rowOf (cw w m' (put ⟨c.name,true,-1,0,c.out + 16,c.use⟩ (rowOf w m'))) m':=rfl;rw [hrow,Uq hm hsrt (by exact L.nam)];have hH:=H.home k3 L c.use (ys:= [⟨2,c.from_,n,0,c.has⟩]) (by rw [if_pos hf']);obtain⟨U,V1,V2⟩:=Qv (n:=n) hm R.Yx (c:= ⟨c.name,true,-1,0,c.out + 16,c.use⟩) L.nam;obtain⟨U2,W1,W2⟩:=Zev (w:=cw w m' (put ⟨c.name,true,-1,0,c.out + 16,c.use⟩ (rowOf w m'))) (n:=n) (x:= ⟨2,c.from_,n,0,c.has⟩) (fun a ha=>U.Yx a (by rw [← U.len];exact ha)) rfl;rw [hmm] at V1
    have P1:Rx (sent (cw w m' (put ⟨c.name,true,-1,0,c.out + 16,c.use⟩ (rowOf w m'))) ⟨2,c.from_,n,0,c.has⟩) (fun a k=>a=x.Zx∧k=n) []:=by
     refine R.upd (U.trans U2) hn hfl hno (fun a d hd=>?_) (fun _ _ _ z=>z.elim) ⟨h,?_⟩
     ·rw [W1,V1] at hd;unfold YB at hd;split at hd
      ·rename_i e;exact .inr (.inr ⟨e,rfl⟩)
      ·rcases(R.cn n a d hd).2 with z | z | z
       ·exact .inl z
       ·exact .inr (.inl z)
       ·exact z.elim
     ·rw [W1,V1,W2,V2];exact hH
    have P2:Mw (sent (cw w m' (put ⟨c.name,true,-1,0,c.out + 16,c.use⟩ (rowOf w m'))) ⟨2,c.from_,n,0,c.has⟩) []:=by
     refine Mx.upd (U.trans U2) hfl hno ?_;rw [W1,V1,W2,V2];refine hMx.put fun a _ _=>?_
     have:=hG a;rw [List.nil_append,Xy,QB,Zc7 rfl];show(if a=x.Zx then(c.out + 16) else Qf (YX w n a)) + _ <=_ + YQ (YT a) (x::Jh w n);omega
    have P3:YX (sent (cw w m' (put ⟨c.name,true,-1,0,c.out + 16,c.use⟩ (rowOf w m'))) ⟨2,c.from_,n,0,c.has⟩) n x.Zx=some ⟨c.name,true,-1,0,c.out + 16,c.use⟩:=by
     rw [W1,V1,WA]
    obtain⟨Q1,Q2⟩:=Zc3 P1 P2 hmm (by show m' < (cw _ _ _).cells.length;rw [Yh];exact hm) P3;have Q3:=WZ (w:=sent (cw w m' (put ⟨c.name,true,-1,0,c.out + 16,c.use⟩ (rowOf w m'))) ⟨2,c.from_,n,0,c.has⟩) m' n ⟨c.name,true,-1,0,c.out + 16,c.use⟩;refine⟨Q1,Q2,?_,Q3.2.1.trans Yh,Q3.2.2.1⟩;rw [Q3.2.2.2 rfl];show(w.notes ++ [_]).length <=_;simp
  ·-- weight
   rw [Cq1];have k2':x.kind=2:=by simpa using k2
   rw [YP (n:=c.out - x.w) (by omega) (by omega)];have:=H.Zkg (.inr k2') L c.use
   obtain⟨P1,P2,P3⟩:=ZdR (ex':=fun a k=>a=x.Zx∧k=n) R Mx hn hfl hno hmm hm (d:= ⟨c.name,c.root,c.from_,c.has,c.out - x.w,c.use⟩) L.nam (.inr (.inr ⟨rfl,rfl⟩)) (fun a k _ z=>z.elim) ⟨h,this⟩ (fun a _ _=>by
    simp only [List.nil_append,List.cons_append,YQ,Zc7 k2'];by_cases z:a=x.Zx
    ·rw [if_pos z,z,L.out];omega
    ·rw [if_neg z];omega)
   obtain⟨Q1,Q2⟩:=Zc3 P1 P2 hmm (by rw [Yh];exact hm) P3;have Q3:=WZ (w:=cw w m' (put ⟨c.name,c.root,c.from_,c.has,c.out - x.w,c.use⟩ (rowOf w m'))) m' n ⟨c.name,c.root,c.from_,c.has,c.out - x.w,c.use⟩;exact⟨Q1,Q2,Q3.1,Q3.2.1.trans Yh,Q3.2.2.1⟩
 ·rw [Cq1];have k1':x.kind=1:=by simpa using k1
  have hvr:0 <=x.via∧x.via < w.cells.length:=by rcases hx.2.2.2 with z | z | z <;> omega
  cases g1:((!c.root && (c.from_==-1)) && (x.via !=x.Zx))
  ·rw [Cq0];cases g2:((!c.root && decide (c.from_ >=0)) && (c.from_==x.via))
   ·rw [Cq0];by_cases hv:x.via=x.Zx
    ·have hb:XA (cw w m' (put ⟨c.name,c.root,c.from_,c.has,c.out,true⟩ (rowOf w m'))) m' n x.via x.w=cw w m' (put ⟨c.name,c.root,c.from_,c.has,c.out - x.w,true⟩ (rowOf w m')):=by
      unfold XA;have:(x.via != (m':Int))=false:=by simp;omega
      rw [this,Cq0,Uq hm hsrt (by exact L.nam),ZAt,QD hm,ZqA hsrt (by rfl),YP (n:=c.out - x.w) (by omega) (by omega)]
     rw [hb];have:=H.Zkg (.inl ⟨k1',hv⟩) L true
     obtain⟨P1,P2,P3⟩:=ZdR (ex':=Kr) R Mx hn hfl hno hmm hm (d:= ⟨c.name,c.root,c.from_,c.has,c.out - x.w,true⟩) L.nam (.inl rfl) (fun a k _ z=>z.elim) ⟨h,this⟩ (fun a _ _=>by
      simp only [List.nil_append,List.cons_append,YQ,WT k1'];by_cases z:a=x.Zx
      ·rw [if_pos z,z,L.out];omega
      ·rw [if_neg z];omega)
     exact⟨P1,P2,by show w.notes.length <=_;omega,Yh,rfl⟩
    ·have hce:YX w n x.Zx=some c:=by
      rcases L.or with z | ⟨z1,z2,z3,z4⟩
      ·exact z
      ·rw [z2,z3] at g1;simp at g1;exact absurd g1 hv
     have hb:XA (cw w m' (put ⟨c.name,c.root,c.from_,c.has,c.out,true⟩ (rowOf w m'))) m' n x.via x.w=sent (cw w m' (put ⟨c.name,c.root,c.from_,c.has,c.out,true⟩ (rowOf w m'))) ⟨2,x.via,n,0,x.w⟩:=by
      unfold XA;have:(x.via != (m':Int))=true:=by simp;omega
      rw [this,Cq1]
     rw [hb];have hH:=H.use hce true
     obtain⟨P1,P2,P3⟩:=ZdR (ex':=Kr) R Mx hn hfl hfl hmm hm (d:= ⟨c.name,c.root,c.from_,c.has,c.out,true⟩) L.nam (.inl rfl) (fun a k _ z=>z.elim) ⟨h,hH⟩ (fun a _ _=>by
      by_cases z:a=x.Zx
      ·rw [if_pos z,z,L.out];exact Int.le_refl _
      ·rw [if_neg z];exact Int.le_refl _)
     obtain⟨U,V1,V2⟩:=Qv (n:=n) hm R.Yx (c:= ⟨c.name,c.root,c.from_,c.has,c.out,true⟩) L.nam;rw [hmm] at V1
     obtain⟨Q1,Q2⟩:=Zxm (n:=n) (y:= ⟨2,x.via,n,0,x.w⟩) P1 P2 (by rw [Zcn U.nms U.fre];exact hn) hfl hno rfl (by
      rw [Yh,V1,V2];exact⟨h,hH.Zsu k1' rfl⟩) (fun a _ _=>by
      rw [V2,List.nil_append,Xy,QB,Zc7 rfl];simp only [List.cons_append,List.nil_append,YQ,WT k1'];omega)
     refine⟨Q1,Q2,?_,Yh,rfl⟩;show(w.notes ++ [_]).length <=_;simp
   ·rw [Cq1];simp at g2;rw [YP (n:=c.has + x.w) (by omega) (by omega)];have:=H.Zst k1' L g2.1.2 g2.2 true
    obtain⟨P1,P2,P3⟩:=ZdR (ex':=Kr) R Mx hn hfl hno hmm hm (d:= ⟨c.name,c.root,c.from_,c.has + x.w,c.out,true⟩) L.nam (.inl rfl) (fun a k _ z=>z.elim) ⟨h,this⟩ (fun a _ _=>by
     simp only [List.nil_append,List.cons_append,YQ,WT k1'];by_cases z:a=x.Zx
     ·rw [if_pos z,z,L.out];omega
     ·rw [if_neg z];omega)
    exact⟨P1,P2,by show w.notes.length <=_;omega,Yh,rfl⟩
  ·rw [Cq1];simp at g1;have:=H.Zvu k1' L g1.1.1 g1.1.2 g1.2 true
   obtain⟨P1,P2,P3⟩:=ZdR (ex':=Kr) R Mx hn hfl hno hmm hm (d:= ⟨c.name,c.root,x.via,x.w,c.out,true⟩) L.nam (.inl rfl) (fun a k _ z=>z.elim) ⟨h,this⟩ (fun a _ _=>by
    simp only [List.nil_append,List.cons_append,YQ,WT k1'];by_cases z:a=x.Zx
    ·rw [if_pos z,z,L.out];omega
    ·rw [if_neg z];omega)
   exact⟨P1,P2,by show w.notes.length <=_;omega,Yh,rfl⟩
def UF (w:Zb) (k:Nat):Zb:= ⟨w.cells,w.notes.take k ++ w.notes.drop (k + 1),w.names,w.freed⟩
theorem Zk5 (R:Rt w) {k:Nat} {x:Zd} (hk:w.notes[k]? =some x):Rx (UF w k) Kr [x]∧Mw (UF w k) [x]:=by
 obtain⟨hkl,hkx⟩:=Li0 hk
 have Zan:w.notes=w.notes.take k ++ x::w.notes.drop (k + 1):=by
  rw [← hkx,← List.drop_eq_getElem_cons hkl,List.take_append_drop]
 obtain⟨R0,M0⟩:=R.rx
 have hp:∀ n,(Jh w n).Perm (flN n [x] ++ Jh (UF w k) n):=by
  intro n;unfold Jh UF flN
  conv=>lhs;rw [Zan]
  rw [List.filter_append,List.filter_append,List.filter_cons,List.filter_cons];split
  ·exact List.perm_middle
  ·exact List.Perm.refl _
 have hmem:∀ y ∈ [x] ++ (UF w k).notes,y ∈ w.notes:=by
  intro y hy;rw [Zan];simp only [UF,List.mem_append,List.mem_cons,List.mem_singleton,List.not_mem_nil,or_false] at hy ⊢;rcases hy with z | z | z
  ·exact .inr (.inl z)
  ·exact .inl z
  ·exact .inr (.inr z)
 refine⟨{R0 with nn:=fun y hy=>R0.nn y (by simpa using hmem y hy),nm:=fun n hn=>?_},fun n hn=>?_⟩
 ·obtain⟨h,H⟩:=R0.nm n hn;exact⟨h,H.perm (hp n)⟩
 ·have:=M0 n hn;intro a a0 a1;have:=this a a0 a1;unfold Uf at this ⊢;rw [← Zfk (hp n)];exact this
theorem Zwd (R:Rt w) {k:Nat} {x:Zd} (hk:w.notes[k]? =some x):Rt (Qs (UF w k) x)∧(Qs (UF w k) x).cells.length=w.cells.length∧(Qs (UF w k) x).names=w.names:=by
 obtain⟨R0,M0⟩:=Zk5 R hk;obtain⟨q1,q2,q3,q4,q5⟩:=Zoh R0 M0;obtain⟨hkl,_⟩:=Li0 hk;refine⟨q1.rt q2 ?_,q4,q5⟩
 have:(UF w k).notes.length=w.notes.length - 1:=by
  unfold UF;simp;omega
 have:=R.KA;omega
end
end Go.Proofs.Ytekpjgmhkkjhgaa
end
section
namespace Go.Proofs.Ytekpjgmhkkjhgaa
open Go.Lf
theorem Zkp (K:Nat):∀ {r:Row},Ug r ->r.filter (fun c=>decide (c.name < ((K + 1:Nat):Int)))=r.filter (fun c=>decide (c.name < (K:Int))) ++ (UI r K).toList
 | [],_=>rfl
 | d::r,s=>by
   have hh:=s.head;rw [YS];by_cases h1:d.name < (K:Int)
   ·rw [List.filter_cons_of_pos (by simp;omega),List.filter_cons_of_pos (by simpa using h1),if_neg (by omega),Zkp K s.tail];rfl
   ·have h3:r.filter (fun c=>decide (c.name < (K:Int)))= []:=by
     rw [List.filter_eq_nil_iff];intro c hc;have:=hh c hc;simp;omega
    have h4:r.filter (fun c=>decide (c.name < ((K + 1:Nat):Int)))= []:=by
     rw [List.filter_eq_nil_iff];intro c hc;have:=hh c hc;simp;omega
    rw [List.filter_cons_of_neg (p:=fun c:Za=>decide (c.name < (K:Int))) (by simpa using h1),h3];by_cases h2:d.name= (K:Int)
    ·rw [List.filter_cons_of_pos (by simp;omega),h4,if_pos h2];rfl
    ·rw [List.filter_cons_of_neg (by simp;omega),h4,if_neg h2,Zcz (by intro c hc;have:=hh c hc;omega)];rfl
def ZjS (a:Int) (c:Za) (s:List (List Za)):List (List Za):=s.set a.toNat ((s[a.toNat]?.getD []) ++ [c])
section
variable {w:Zb} {st:Store}
theorem Zqk {m:Nat} (Yx:Ug (rowOf w m)) (hn:∀ c ∈ rowOf w m,0 <=c.name) {s:List (List Za)} (hs:s[m]? =some []) (K:Nat):
 (List.range K).foldl (fun s n=>Jw w ZjS m n s) s=s.set m ((rowOf w m).filter fun c=>decide (c.name < (K:Int))):=by
 have hm:m < s.length:= (Li0 hs).1
 induction K with
 | zero=>
   have:(rowOf w m).filter (fun c=>decide (c.name < ((0:Nat):Int)))= []:=by
    rw [List.filter_eq_nil_iff];intro c hc;have:=hn c hc;simp;omega
   rw [this,set_self hs];rfl
 | succ K ih=>
   rw [List.range_succ,List.foldl_append,ih];simp only [List.foldl_cons,List.foldl_nil];rw [Zkp K Yx];unfold Jw;rw [Xb];cases hf:UI (rowOf w m) (K:Int) with
   | none=>simp
   | some c=>
     dsimp only;unfold ZjS;rw [Int.toNat_natCast,List.getElem?_set_self hm,List.set_set]
     rfl
theorem Zqj {N:Nat} (Yx:∀ m,m < w.cells.length ->Ug (rowOf w m)) (hn:∀ m,m < w.cells.length ->∀ c ∈ rowOf w m,0 <=c.name∧c.name < (N:Int)):
 (List.range w.cells.length).foldl (fun s m=>(List.range N).foldl (fun s n=>Jw w ZjS m n s) s) (List.replicate w.cells.length [])=w.cells:=by
 have key:∀ M,M <=w.cells.length ->((List.range M).foldl (fun s m=>(List.range N).foldl (fun s n=>Jw w ZjS m n s) s) (List.replicate w.cells.length [])).length=w.cells.length∧
  ∀ i,i < w.cells.length ->((List.range M).foldl (fun s m=>(List.range N).foldl (fun s n=>Jw w ZjS m n s) s) (List.replicate w.cells.length []))[i]? =some (if i < M then rowOf w i else []):=by
  intro M
  induction M with
  | zero=>intro _;simp;intro i hi;simp [hi]
  | succ M ih=>
    intro hM;obtain⟨i1,i2⟩:=ih (by omega);rw [List.range_succ,List.foldl_append];simp only [List.foldl_cons,List.foldl_nil];rw [Zqk (Yx M (by omega)) (fun c hc=>(hn M (by omega) c hc).1) (by rw [i2 M (by omega),if_neg (by omega)])]
    have hfull:(rowOf w M).filter (fun c=>decide (c.name < (N:Int)))=rowOf w M:=by
     rw [List.filter_eq_self];intro c hc;simpa using (hn M (by omega) c hc).2
    rw [hfull];refine⟨by rw [List.length_set,i1],fun i hi=>?_⟩;by_cases e:i=M
    ·subst e;rw [List.getElem?_set_self (by rw [i1];exact hi),if_pos (by omega)]
    ·rw [List.getElem?_set_ne (fun z=>e z.symm),i2 i hi];congr 1;by_cases z:i < M
     ·rw [if_pos z,if_pos (by omega)]
     ·rw [if_neg z,if_neg (by omega)]
 obtain⟨k1,k2⟩:=key w.cells.length (Nat.le_refl _);apply List.ext_getElem?;intro i;by_cases hi:i < w.cells.length
 ·rw [k2 i hi,if_pos hi,QJ hi]
 ·rw [List.getElem?_eq_none (by omega),List.getElem?_eq_none (by omega)]
theorem Szd.Zbx (n12:w.names <=12) {m:Nat} (Yx:Ug (rowOf w m)) (hn:∀ c ∈ rowOf w m,0 <=c.name∧c.name < w.names):(rowOf w m).length <=12:=by
 have h0:((rowOf w m).map fun c=>c.name).Pairwise (· < ·):=by rw [List.pairwise_map];exact Yx
 by_cases e:0 <=w.names
 ·have:=Zbl (b:=w.names) (a:=0) h0 (by
   intro x hx;obtain⟨c,hc,rfl⟩:=List.mem_map.1 hx;exact hn c hc) e
  rw [List.length_map] at this;omega
 ·cases h:rowOf w m with
  | nil=>simp
  | cons c r=>have:=hn c (by rw [h];simp);omega
theorem Zxl {F:Nat} (hF:1000 <=F) (sm:Small w) (sz:Szd w) (so:Qx w st) (Yx:∀ m,m < w.cells.length ->Ug (rowOf w m)) (hn:∀ m,m < w.cells.length ->∀ c ∈ rowOf w m,0 <=c.name∧c.name < w.names):ZnP F st=some w:=by
 have hc:=sz.c6;have hno:=sm.notes;have hfr:=sm.freed;have h0:=sz.n0;have h12:=sz.n12;unfold ZnP ZpK ZpJ mkL;rw [so.m,so.notes,so.freed]
 have hb:(decide (0 <= (w.cells.length:Int)) && (decide ((w.cells.length:Int) <= (w.cells.length:Int)) && Nat.ble (24 * ((w.cells.length:Int)).toNat) 100000))=true:=by
  rw [Ba0,Ba0];refine⟨by simp,by simp,Nm0 (by omega)⟩
 rw [hb,Cq1,Bq0,XK (by simp only [List.length_nil];omega) (by decide),XK (by simp only [List.length_nil];omega) (by decide)];simp only [Bq0,List.nil_append,Int.toNat_natCast]
 obtain⟨h1,_⟩:=Zmr hF sm sz so (z:=Za.mk 0 false 0 0 0 false) (fun i (s:List (List Za))=>s.length=w.cells.length∧∀ r ∈ s,r.length <=i) (fun i s h=>⟨h.1,fun r hr=>Nat.le_succ_of_le (h.2 r hr)⟩) (E:=ZfY st w.notes w.freed) (B1:=ZlN F st w.notes w.freed) (B2:=ZlM st w.notes w.freed)
  (Y:=fun a c s k=>(Ym s a).bind fun x66=>(app 48 x66 [c]).bind fun z74=>(Ym s a).bind fun x78=>k (JG s a z74)) ZjS (fun v s next=>by simp only [ZlN]) (fun v0 next v s nx=>by
    simp only [ZlM];cases decide (v < st.names)
    ·rfl
    ·simp only [Cq1];rfl) (fun i a c s k ha hi hs=>by
    have hg:s[a]? =some (s[a]'(by omega)):=by simp
    have hl:(s[a]'(by omega)).length <=i:=hs.2 _ (List.getElem_mem _)
    have hset:JG s (a:Int) (s[a]'(by omega) ++ [c])=ZjS a c s:=by
     unfold JG ZjS;rw [Int.toNat_natCast,hg];rfl
    rw [Z5,hg,Bq0,XK (by simp;omega) (by decide),Bq0,Bq0,hset];refine⟨rfl,?_,fun r hr=>?_⟩
    ·unfold ZjS;rw [List.length_set];exact hs.1
    ·unfold ZjS at hr;rcases List.mem_or_eq_of_mem_set hr with z | z
     ·exact Nat.le_succ_of_le (hs.2 r z)
     ·rw [z,Int.toNat_natCast,hg];simp;omega) (List.replicate w.cells.length []) ⟨by simp,by
    intro r hr;rw [List.mem_replicate] at hr;rw [hr.2];simp⟩
 have:=Zqj (w:=w) Yx (N:=w.names.toNat) (fun m hm c hc=>by have:=hn m hm c hc;omega);rw [h1,this];unfold ZfY;rw [so.n]
theorem Rt.small (R:Rt w):Small w:=by
 have:=R.c6;have:=R.KA;have:=R.Zkl;have:=R.n12;refine⟨by omega,fun r hr=>?_,by omega,by omega⟩;obtain⟨m,hm⟩:=List.getElem?_of_mem hr;have hml:= (Li0 hm).1;have e:r=rowOf w m:=by have:=QJ hml;rw [hm] at this;exact Oi0 this
 have:=Szd.Zbx R.n12 (R.Yx m hml) (fun c hc=>by have:= (R.cn m hml c hc).1;unfold Yr at this;simp at this;exact this.1);rw [e];omega
theorem Rt.names (R:Rt w):∀ m,m < w.cells.length ->∀ c ∈ rowOf w m,0 <=c.name∧c.name < w.names:=fun m hm c hc=>by
 have:= (R.cn m hm c hc).1;unfold Yr at this;simp at this;exact this.1
theorem Rt.shut {F:Nat} (hF:1000 <=F) (R:Rt w) (so:Qx w st):ZnP F st=some w:=Zxl hF R.small R.shp.szd so R.Yx R.names
theorem Rt.open_ {F:Nat} (hF:1000 <=F) (R:Rt w):∃ st,ZjC F w=some st∧Qx w st∧UK st.cells:=by
 obtain⟨cs,q1,q2⟩:=ZqF hF R.small R.shp;obtain⟨cs',q3,q4⟩:=Zxv hF R.small;rw [q1] at q3;have:cs=cs':=congrArg Store.cells (Oi0 q3);subst this;exact⟨_,q1,⟨rfl,rfl,rfl,rfl,q2⟩,q4⟩
theorem Rt.copy {F:Nat} (hF:1000 <=F) (R:Rt w) (so:Qx w st):∃ st',ZvG F st=some st'∧Qx w st'∧UK st'.cells:=by
 obtain⟨st',q1,q2,q3⟩:=R.open_ hF;refine⟨st',?_,q2,q3⟩;unfold ZvG;rw [R.shut hF so,Bq0,q1];rfl
end
end Go.Proofs.Ytekpjgmhkkjhgaa
end
section
namespace Go.Proofs.Ytekpjgmhkkjhgaa
open Go.Lf
def Qp (d:Zo) (M:Int):Bool:=
 bif d.ZT==1 then(((decide (d.at_ >=0)) && (decide (d.at_ < M))) && (d.name==0)) && (d.Zx==0)
 else bif(d.ZT==2 || d.ZT==4) then(((decide (d.at_ >=0)) && (decide (d.at_ < M))) && ((decide (d.Zx >=0)) && (decide (d.Zx < M)))) && ((d.at_ !=d.Zx) && decide (d.name >=0))
 else bif d.ZT==3 then(((decide (d.at_ >=0)) && (decide (d.at_ < M))) && (decide (d.name >=0))) && (d.Zx==0)
 else(((d.ZT==5) && (decide (d.at_ >=0))) && (d.name==0)) && (d.Zx==0)
theorem ZsC (d:Zo) (M:Int):ZsI d M=some (Qp d M):=by
 unfold ZsI Qp ZiD;generalize (d.ZT==1)=b1;generalize (d.ZT==2)=b2;generalize (d.ZT==3)=b3;generalize (d.ZT==4)=b4;generalize (d.ZT==5)=b5;cases b1 <;> cases b2 <;> cases b3 <;> cases b4 <;> cases decide (d.at_ >=0) <;> cases decide (d.at_ < M) <;> simp [Bool.and_assoc]
theorem YR {d:Zo} {M:Int} (h:Qp d M=true):
 (d.ZT=1∧0 <=d.at_∧d.at_ < M)∨((d.ZT=2∨d.ZT=4)∧(0 <=d.at_∧d.at_ < M)∧(0 <=d.Zx∧d.Zx < M)∧d.at_ ≠ d.Zx∧0 <=d.name)∨(d.ZT=3∧(0 <=d.at_∧d.at_ < M)∧0 <=d.name)∨(d.ZT=5∧0 <=d.at_):=by
 unfold Qp at h;by_cases k1:d.ZT=1
 ·simp [k1] at h;exact .inl ⟨k1,h.1.1⟩
 ·by_cases k2:d.ZT=2
  ·simp [k2] at h;exact .inr (.inl ⟨.inl k2,h.1.1,h.1.2,h.2.1,h.2.2⟩)
  ·by_cases k4:d.ZT=4
   ·simp [k4] at h;exact .inr (.inl ⟨.inr k4,h.1.1,h.1.2,h.2.1,h.2.2⟩)
   ·by_cases k3:d.ZT=3
    ·simp [k3] at h;exact .inr (.inr (.inl ⟨k3,h.1.1,h.1.2⟩))
    ·simp [k1,k2,k3,k4] at h;exact .inr (.inr (.inr ⟨h.1.1.1,h.1.1.2⟩))
def Z7 (w:Zb) (d:Zo):Zb:=
 bif d.ZT==1 then ZeD w d.at_.toNat
 else bif d.ZT==2 then Zex w d d.at_.toNat (look (rowOf w d.at_.toNat) d.name)
 else bif d.ZT==5 then Qs (UF w d.at_.toNat) (w.notes[d.at_.toNat]?.getD ⟨0,0,0,0,0⟩)
 else bif d.ZT==3 then ZgX w d.at_.toNat d.name (look (rowOf w d.at_.toNat) d.name)
 else goW w d d.at_.toNat (look (rowOf w d.at_.toNat) d.name)
section
variable {w:Zb} {n:Int}
theorem Rx.range {ex:Int ->Int ->Prop} {fl:List Zd} (R:Rx w ex fl):∀ m,m < w.cells.length ->∀ c ∈ rowOf w m,0 <=c.name∧c.name < w.names:=fun m hm c hc=>by
 have:= (R.cn c.name m c (by rw [Jz hm];exact Zlv (R.Yx m hm) hc)).1;unfold Yr at this;simp at this;exact this.1
theorem Rx.small {ex:Int ->Int ->Prop} {fl:List Zd} (R:Rx w ex fl) (hl:w.notes.length < 900):Small w:=by
 have:=R.c6;have:=R.n12;have hf:=Zbl R.fr R.frr R.n0;refine⟨by omega,fun r hr=>?_,by omega,by omega⟩;obtain⟨m,hm⟩:=List.getElem?_of_mem hr;have hml:= (Li0 hm).1;have e:r=rowOf w m:=by have:=QJ hml;rw [hm] at this;exact Oi0 this
 have:=Szd.Zbx R.n12 (R.Yx m hml) (R.range m hml);rw [e];omega
theorem Rx.szd {ex:Int ->Int ->Prop} (R:Rx w ex []):Szd w:= ⟨R.c6,R.n0,R.n12,fun x hx=>by
 have hn:=R.nn x (by simpa using hx);obtain⟨h,H⟩:=R.nm _ hn;have:= (H.KA x (List.mem_append_right _ (List.mem_filter.2 ⟨hx,by simp⟩))).2.2.2;rcases this with z | z | z
 ·exact .inl z.1
 ·exact .inr (.inl z.1)
 ·exact .inr (.inr z.1)⟩
theorem Rt.Qy (R:Rt w) {m:Nat} (hm:m < w.cells.length) {c:Za} (hc:UI (rowOf w m) n=some c):look (rowOf w m) n=c∧YX w n m=some c∧Yr w n=true:=by
 have e:YX w n m=some c:=by rw [Jz hm];exact hc
 exact⟨QE hc,e,(R.rx.1.cn n m c e).1⟩
theorem Rx.ZdS (R:Rx w Kr []) (Mx:Mw w []):∀ k a c,YX w k a=some c ->c.out <=1000016:=fun k a c hc=>by
 have hn:= (R.cn k a c hc).1;obtain⟨h,H⟩:=R.nm k hn;have:= (H.most (Mx k hn)).1 a c hc;omega
theorem ZdQ (R:Rt w) (hn:Yr w n=true) {m:Nat} (hm:m < w.cells.length) {d:Za} (hd:d.name=n) {y:Zd} (hy:y.name=n) (hu:d.use=true∨d.out ≠ 0)
 (hN:∃ h,Nm w.cells.length n (YB (YX w n) m (some d)) (Jh w n ++ [y]) h):Rx (sent (cw w m (put d (rowOf w m))) y) Kr []:=by
 obtain⟨R0,M0⟩:=R.rx;obtain⟨U,V1,V2⟩:=Qv hm R.Yx hd;obtain⟨U2,W1,W2⟩:=Zev (w:=cw w m (put d (rowOf w m))) (n:=n) (x:=y) (fun a ha=>U.Yx a (by rw [← U.len];exact ha)) hy;refine R0.upd (U.trans U2) hn (by simp) (by simp) (fun a c hc=>?_) (fun _ _ _ z=>z) ?_
 ·rw [W1,V1] at hc;unfold YB at hc;split at hc
  ·cases hc;exact hu.elim .inl fun z=>.inr (.inl z)
  ·exact(R0.cn n a c hc).2
 ·rw [W1,W2,V1,V2];exact hN
theorem ZAT (R:Rt w) {d:Zo} {m:Nat} (hm:m < w.cells.length) (hat:d.at_= (m:Int)) (hto:0 <=d.Zx∧d.Zx < (w.cells.length:Int)) {c:Za} (hc:UI (rowOf w m) d.name=some c) (hu:c.use=true):Rx (Zex w d m c) Kr []:=by
 obtain⟨_,e,hn⟩:=R.Qy hm hc;obtain⟨h,H,Mx⟩:=R.nm _ hn;have S:= (H.most Mx).1 _ c e;have hcn:=Qq hc;unfold Zex;cases hb:(decide (c.from_ >=0) && decide (c.has >=2))
 ·rw [Cq0,YP (n:=c.out + 16) (by omega) (by omega)];exact ZdQ R hn hm (d:= ⟨c.name,c.root,c.from_,c.has,c.out + 16,c.use⟩) (y:= ⟨1,d.Zx,d.name,d.at_,16⟩) hcn rfl (.inl hu) ⟨h,H.Zxp (w:=16) e hto (by decide) (by rw [hat])⟩
 ·rw [Cq1];simp at hb;have e1:c.has.tdiv 2=c.has / 2:=Int.tdiv_eq_ediv_of_nonneg (by omega);rw [e1,YP (n:=c.has / 2) (by omega) (by omega),YP (n:=c.has - c.has / 2) (by omega) (by omega)];exact ZdQ R hn hm (d:= ⟨c.name,c.root,c.from_,c.has - c.has / 2,c.out,c.use⟩) (y:= ⟨1,d.Zx,d.name,c.from_,c.has / 2⟩) hcn rfl (.inl hu) ⟨h,H.Zxn (w:=c.has / 2) e hb.1 hto (by omega) (by omega) rfl⟩
theorem ZGC (R:Rt w) {d:Zo} {m:Nat} (hm:m < w.cells.length) (hat:d.at_= (m:Int)) (hto:0 <=d.Zx∧d.Zx < (w.cells.length:Int)) (hne:d.at_ ≠ d.Zx) {c:Za} (hc:UI (rowOf w m) d.name=some c) (hr:c.root=true):Rx (goW w d m c) Kr []:=by
 obtain⟨_,e,hn⟩:=R.Qy hm hc;obtain⟨h,H,Mx⟩:=R.nm _ hn;have hcn:=Qq hc;unfold goW;have hu:c.use=true∨c.out ≠ 0:= (R.cn m hm c (ZbM hc)).2;exact ZdQ R hn hm (d:=goC c d.Zx) hcn rfl hu ⟨d.Zx,H.go e hr hto (by omega) rfl⟩
theorem Zma (R:Rt w) {m:Nat} (hm:m < w.cells.length) {c:Za} (hc:UI (rowOf w m) n=some c):Rx (ZgX w m n c) Kr []∧Mw (ZgX w m n c) []:=by
 obtain⟨_,e,hn⟩:=R.Qy hm hc;obtain⟨h,H,Mx⟩:=R.nm _ hn;obtain⟨R0,M0⟩:=R.rx;have hcn:=Qq hc
 obtain⟨P1,P2,P3⟩:=ZdR (n:=n) (fl:= []) (fl':= []) (m:=m) (m':=m) (ex':=fun a k=>a= (m:Int)∧k=n) R0 M0 hn (by simp) (by simp) rfl hm (d:=ZaG c) hcn (.inr (.inr ⟨rfl,rfl⟩)) (fun a k _ z=>z.elim) ⟨h,H.use e false⟩ (fun a _ _=>by
  by_cases z:a= (m:Int)
  ·rw [if_pos z,z,e];exact Int.le_refl _
  ·rw [if_neg z];exact Int.le_refl _)
 unfold ZgX;exact Zc3 P1 P2 rfl (by rw [Yh];exact hm) P3
theorem ZA2 (R:Rt w) {m:Nat} (hm:m < w.cells.length) (hlt:w.names < 12):Rx (ZeD w m) Kr []:=by
 have hn0:=R.n0;obtain⟨R0,M0⟩:=R.rx;obtain⟨U,V1,V2⟩:=Qv (w:=w) (n:=w.names) hm R.Yx (c:=Zfz w) rfl;have hnm:(ZeD w m).names=w.names + 1:=YP (by omega) (by omega)
 have hB:∀ k,Yr (ZeD w m) k= (Yr w k || (k==w.names)):=by
  intro k;unfold Yr;rw [hnm];show(decide (0 <=k) && decide (k < w.names + 1) && !(w.freed.any fun y=>y==k))=_;by_cases e:k=w.names
  ·have:(w.freed.any fun y=>y==k)=false:=by
    rw [List.any_eq_false];intro y hy;have:=R.frr y hy;simp;omega
   rw [this];simp [e];omega
  ·have:decide (k < w.names + 1)=decide (k < w.names):=decide_eq_decide.2 (by omega);rw [this];simp [e]
 have hno:¬ Yr w w.names=true:=by unfold Yr;simp
 have ZJj:YX w w.names=fun _=>none:=by
  funext a;cases e:YX w w.names a with
  | none=>rfl
  | some c=>exact absurd (R0.cn _ _ _ e).1 hno
 have hns0:Jh w w.names= []:=by
  unfold Jh;rw [List.filter_eq_nil_iff];intro x hx;have:=R.nn x hx;intro z;have z:x.name=w.names:=by simpa using z
  rw [z] at this;exact hno this
 have ZE5:YX (ZeD w m) w.names=YB (fun _=>none) m (some (Zfz w)):=by
  show YX (cw w m (put (Zfz w) (rowOf w m))) w.names=_;rw [V1,ZJj]
 have hlen:(ZeD w m).cells.length=w.cells.length:=Yh;refine⟨by rw [hlen];exact R.c1,by rw [hlen];exact R.c6,by rw [hnm];omega,by rw [hnm];omega,R.fr,fun x hx=>?_,fun a ha=>?_,fun k a c hc=>?_,fun x hx=>?_,fun k hk=>?_⟩
 ·have:=R.frr x hx;rw [hnm];omega
 ·exact U.Yx a (by rw [hlen] at ha;exact ha)
 ·rw [hB];by_cases e:k=w.names
  ·subst e;rw [ZE5] at hc;unfold YB at hc;split at hc
   ·cases hc;exact⟨by simp,.inl rfl⟩
   ·cases hc
  ·have:YX (ZeD w m) k=YX w k:=U.oc k e;rw [this] at hc;have:=R0.cn k a c hc;exact⟨by rw [this.1];rfl,this.2⟩
 ·have hx:x ∈ w.notes:=hx;rw [hB,R.nn x hx];rfl
 ·rw [hlen];by_cases e:k=w.names
  ·subst e;refine⟨m,?_⟩;rw [ZE5];show Nm _ _ _ ([] ++ Jh w w.names) _;rw [hns0];exact Nm.fresh ⟨by omega,by omega⟩
  ·rw [hB] at hk;have hk:Yr w k=true:=by simpa [e] using hk
   obtain⟨h,H⟩:=R0.nm k hk;refine⟨h,?_⟩;have:YX (ZeD w m) k=YX w k:=U.oc k e;rw [this];exact H
theorem Zxz (R:Rt w) {m:Nat} (hm:m < w.cells.length):∀ k a c,YX (ZeD w m) k a=some c ->c.out <=1000016:=fun k a c hc=>by
 obtain⟨R0,M0⟩:=R.rx;obtain⟨U,V1,V2⟩:=Qv (w:=w) (n:=w.names) hm R.Yx (c:=Zfz w) rfl;have hc:YX (cw w m (put (Zfz w) (rowOf w m))) k a=some c:=hc;by_cases e:k=w.names
 ·subst e;rw [V1] at hc;unfold YB at hc;split at hc
  ·cases hc;show(0:Int) <=_;omega
  ·exact R0.ZdS M0 _ _ _ hc
 ·rw [U.oc k e] at hc;exact R0.ZdS M0 _ _ _ hc
theorem Zew (x:Zd):(sent w x).notes.length=w.notes.length + 1:=by unfold sent;simp
theorem ZmX (d:Zo) (m:Nat) (c:Za):(Zex w d m c).notes.length=w.notes.length + 1∧(Zex w d m c).cells.length=w.cells.length∧(Zex w d m c).names=w.names:=by
 unfold Zex;cases (decide (c.from_ >=0) && decide (c.has >=2))
 ·rw [Cq0];exact⟨Zew _,Yh,rfl⟩
 ·rw [Cq1];exact⟨Zew _,Yh,rfl⟩
theorem QL {d:Zo} {m:Nat} (h1:d.ZT ≠ 1) (h5:d.ZT ≠ 5) (he:YH w d m=0):∃ c,UI (rowOf w m) d.name=some c∧(d.ZT=4 ->c.root=true)∧(d.ZT ≠ 4 ->c.use=true):=by
 unfold YH at he;have b1:(d.ZT==1)=false:=by simp [h1]
 have b5:(d.ZT==5)=false:=by simp [h5]
 rw [b1,b5] at he;simp only [Cq0] at he;cases hf:UI (rowOf w m) d.name with
 | none=>rw [hf] at he;cases he
 | some c=>
   rw [hf] at he;refine⟨c,rfl,fun h4=>?_,fun h4=>?_⟩
   ·rw [h4] at he;dsimp only at he;cases hr:c.root with
    | true=>rfl
    | false=>rw [hr] at he;simp at he
   ·have b4:(d.ZT==4)=false:=by simp [h4]
    rw [b4] at he;dsimp only at he;cases hr:c.use with
    | true=>rfl
    | false=>rw [hr] at he;simp at he
theorem Zcg (R:Rt w) {m:Nat} (hm:m < w.cells.length) {d:Za} (hd:d.name=n) {y:Zd} (ho:d.out <=1000016):∀ k a c,YX (sent (cw w m (put d (rowOf w m))) y) k a=some c ->c.out <=1000016:=fun k a c hc=>by
 obtain⟨R0,M0⟩:=R.rx;obtain⟨U,V1,V2⟩:=Qv hm R.Yx hd;have hc:YX (cw w m (put d (rowOf w m))) k a=some c:=hc;by_cases e:k=n
 ·subst e;rw [V1] at hc;unfold YB at hc;split at hc
  ·cases hc;exact ho
  ·exact R0.ZdS M0 _ _ _ hc
 ·rw [U.oc k e] at hc;exact R0.ZdS M0 _ _ _ hc
theorem Zxo (R:Rt w) {d:Zo} {m:Nat} (hm:m < w.cells.length) {c:Za} (hc:UI (rowOf w m) d.name=some c):∀ k a x,YX (Zex w d m c) k a=some x ->x.out <=1000016:=by
 obtain⟨_,e,hn⟩:=R.Qy hm hc;obtain⟨h,H,Mx⟩:=R.nm _ hn;have S:= (H.most Mx).1 _ c e;have hcn:=Qq hc;unfold Zex;cases hb:(decide (c.from_ >=0) && decide (c.has >=2))
 ·rw [Cq0,YP (n:=c.out + 16) (by omega) (by omega)];exact Zcg R hm (d:= ⟨c.name,c.root,c.from_,c.has,c.out + 16,c.use⟩) hcn (by show c.out + 16 <=_;omega)
 ·rw [Cq1];exact Zcg R hm (d:= ⟨c.name,c.root,c.from_,ZP (c.has - ZP (c.has.tdiv 2)),c.out,c.use⟩) hcn (by show c.out <=_;omega)
theorem ZeV (R:Rt w) {d:Zo} (hf:Qp d w.cells.length=true) (he:YH w d d.at_.toNat=0):
 Rx (Z7 w d) Kr []∧(Z7 w d).notes.length <=82∧(Z7 w d).cells.length=w.cells.length∧(d.ZT ≠ 1 ->(Z7 w d).names=w.names)∧∀ k a c,YX (Z7 w d) k a=some c ->c.out <=1000016:=by
 have hnl:=R.KA;obtain⟨R0,M0⟩:=R.rx;unfold Z7;rcases YR hf with⟨k,a⟩ | ⟨k,a,t,ne,nm⟩ | ⟨k,a,nm⟩ | ⟨k,a⟩
 ·rw [k];simp only [beq_self_eq_true,Cq1]
  have:w.names < 12:=by
   unfold YH at he;rw [k] at he;simp only [beq_self_eq_true,Cq1] at he;cases hb:decide (w.names >=12) with
   | true=>rw [hb] at he;cases he
   | false=>simpa using hb
  exact⟨ZA2 R (by omega) this,by show w.notes.length <=82;omega,Yh,fun z=>absurd rfl z,fun k a c hc=>Zxz R (by omega) k a c hc⟩
 ·have hm:d.at_.toNat < w.cells.length:=by omega
  have hat:d.at_= (d.at_.toNat:Int):=by omega
  rcases k with k | k
  ·obtain⟨c,hc,_,hu⟩:=QL (by omega) (by omega) he;have hl:= (R.Qy hm hc).1;rw [k,hl];simp only [beq_self_eq_true,Cq1,show((2:Int)==1)=false from rfl,Cq0];obtain⟨q1,q2,q3⟩:=ZmX (w:=w) d d.at_.toNat c;exact⟨ZAT R hm hat t hc (hu (by omega)),by omega,q2,fun _=>q3,Zxo R hm hc⟩
  ·obtain⟨c,hc,hr,_⟩:=QL (by omega) (by omega) he;have hl:= (R.Qy hm hc).1;rw [k,hl];simp only [show((4:Int)==1)=false from rfl,show((4:Int)==2)=false from rfl,show((4:Int)==3)=false from rfl,show((4:Int)==5)=false from rfl,Cq0];refine⟨ZGC R hm hat t ne hc (hr k),?_,Yh,fun _=>rfl,Zcg R hm (d:=goC c d.Zx) (n:=d.name) (show c.name=d.name from Qq hc) (by show c.out <=_;exact R0.ZdS M0 _ _ _ (R.Qy hm hc).2.1)⟩;unfold goW;rw [Zew];show w.notes.length + 1 <=82;omega
 ·have hm:d.at_.toNat < w.cells.length:=by omega
  obtain⟨c,hc,_,hu⟩:=QL (by omega) (by omega) he;have hl:= (R.Qy hm hc).1;rw [k,hl];simp only [beq_self_eq_true,Cq1,show((3:Int)==1)=false from rfl,show((3:Int)==2)=false from rfl,show((3:Int)==5)=false from rfl,Cq0];have q:=WZ (w:=cw w d.at_.toNat (put (ZaG c) (rowOf w d.at_.toNat))) d.at_.toNat d.name (ZaG c);refine⟨(Zma R hm hc).1,?_,q.2.1.trans Yh,fun _=>q.2.2.1,(Zma R hm hc).1.ZdS (Zma R hm hc).2⟩;have:=q.1;show(Xn _ _ _ _).notes.length <=82;have e:(cw w d.at_.toNat (put (ZaG c) (rowOf w d.at_.toNat))).notes.length=w.notes.length:=rfl;omega
 ·rw [k];simp only [beq_self_eq_true,Cq1,show((5:Int)==1)=false from rfl,show((5:Int)==2)=false from rfl,Cq0]
  have hlt:d.at_.toNat < w.notes.length:=by
   unfold YH at he;rw [k] at he;simp only [beq_self_eq_true,Cq1,show((5:Int)==1)=false from rfl,Cq0] at he;cases hb:decide (d.at_ >= (w.notes.length:Int)) with
   | true=>rw [hb] at he;cases he
   | false=>simp at hb;omega
  have hx:w.notes[d.at_.toNat]? =some (w.notes[d.at_.toNat]'hlt):=by simp
  rw [hx];simp only [Option.getD_some];obtain⟨q1,q2,q3⟩:=Zwd R hx;have:=q1.KA;exact⟨q1.rx.1,by show(Qs _ _).notes.length <=82;omega,q2,fun _=>q3,q1.rx.1.ZdS q1.rx.2⟩
end
end Go.Proofs.Ytekpjgmhkkjhgaa
end
section
namespace Go.Proofs.Ytekpjgmhkkjhgaa
open Go.Lf
def Kc (w:Zb):Bool:=decide ((w.notes.length:Int) > 80) || (List.range w.cells.length).any fun m=>(List.range w.names.toNat).any fun n=>decide (J4 w m n > 1000000)
section
variable {w:Zb} {n:Int} {st:Store} {F:Nat}
theorem UK.Kg {κ ν:Type} [DecidableEq κ] {l:List (κ×ν)} (u:UK l) (k:κ) (z:ν):UK (Kg l k z):=by
 unfold Go.Lf.Kg;cases e:Yg l k with
 | some q=>exact u
 | none=>
   have:Go.Lf.Y9 l k z=l ++ [(k,z)]:=by unfold Go.Lf.Y9;rw [e]
   dsimp only;rw [← this];exact u.Y9 k z
theorem UK.upd {v:Acc} (u:UK v) (k:Zf) (x:Int):UK (upd v k x):= (u.Kg k 0).Y9 k _
theorem Zuy {κ ν:Type} [DecidableEq κ] {l:List (κ×ν)} {k:κ} {x:ν} (h:XC l k=some x):(k,x) ∈ l:=by
 unfold XC at h;cases e:Yg l k with
 | none=>rw [e] at h;cases h
 | some q=>
   rw [e] at h;cases h;exact List.mem_of_getElem? (KZ e)
theorem UK.get {κ ν:Type} [DecidableEq κ]:∀ {l:List (κ×ν)},UK l ->∀ {k:κ} {x:ν},(k,x) ∈ l ->XC l k=some x
 | [],_,_,_,h=>by simp at h
 | p::l,u,k,x,h=>by
   have u':UK l:=by unfold UK at u ⊢;rw [List.map_cons,List.nodup_cons] at u;exact u.2
   have hp:p.1 ∉ l.map (·.1):=by unfold UK at u;rw [List.map_cons,List.nodup_cons] at u;exact u.1
   unfold XC;rw [K3];rcases List.mem_cons.1 h with z | z
   ·subst z;simp
   ·have hne:¬ p.1=k:=fun e=>hp (by rw [e];exact List.mem_map_of_mem (f:= (·.1)) z)
    rw [if_neg hne];have:=u'.get z;unfold XC at this;cases e:Yg l k with
    | none=>rw [e] at this;cases this
    | some q=>rw [e] at this;simpa using this
theorem Zj5 {κ ν:Type} {b:κ ->ν ->Option Bool} (h:∀ k x,∃ p,b k x=some p):∀ l:List (κ×ν),∃ q,Zj6 b l=some q
 | []=>⟨false,rfl⟩
 | x::r=>by
   obtain⟨p,hp⟩:=h x.1 x.2;obtain⟨q,hq⟩:=Zj5 h r;exact⟨p || q,by unfold Zj6;rw [hp,Bq0,hq,Bq0]⟩
theorem Zzf (R:Rx w Kr []) {k:Zf} (hk:¬ ((0 <=k.e0∧k.e0 < (w.cells.length:Int))∧0 <=k.e1∧k.e1 < w.names)):val (ZcV w).1 k=0:=by
 have h0:=R.n0
 have hC:val (Wq w).1 k=0:=by
  unfold Wq;refine UZ (fun q:Acc×Acc=>val q.1 k=0) _ _ (fun q m hm hq=>?_) _ rfl;refine UZ (fun q:Acc×Acc=>val q.1 k=0) _ _ (fun q n hn hq=>?_) _ hq;rw [List.mem_range] at hm hn;unfold Jw;cases hc:cellOf w m n with
  | none=>exact hq
  | some c=>
    have hcn:=QG hc;show val (upd q.1 ⟨m,c.name⟩ c.out) k=0;rw [WM,if_neg (fun z=>hk (by rw [z];dsimp only;omega))];exact hq
 unfold ZcV;refine UZ (fun q:Acc×Acc=>val q.1 k=0) _ _ (fun q x hx hq=>?_) _ hC;have hn:=R.nn x (by simpa using hx);obtain⟨h,H⟩:=R.nm _ hn;have ht:= (H.KA x (List.mem_append_right _ (List.mem_filter.2 ⟨hx,by simp⟩))).1;have hr:0 <=x.name∧x.name < w.names:=by unfold Yr at hn;simp at hn;exact hn.1
 unfold Zql;cases (x.kind==1)
 ·cases (x.kind==2)
  ·simp only [Cq0];rw [WM,if_neg (fun z=>hk (by rw [z];exact⟨ht,hr⟩))];exact hq
  ·exact hq
 ·exact hq
theorem ZDf:UK (ZcV w).1:=by
 have hC:UK (Wq w).1:=by
  unfold Wq;refine UZ (fun q:Acc×Acc=>UK q.1) _ _ (fun q m hm hq=>?_) _ UK.nil;refine UZ (fun q:Acc×Acc=>UK q.1) _ _ (fun q n hn hq=>?_) _ hq;unfold Jw;cases hc:cellOf w m n with
  | none=>exact hq
  | some c=>exact hq.upd _ _
 unfold ZcV;refine UZ (fun q:Acc×Acc=>UK q.1) _ _ (fun q x hx hq=>?_) _ hC;unfold Zql;cases (x.kind==1)
 ·cases (x.kind==2)
  ·exact hq.upd _ _
  ·exact hq
 ·exact hq
theorem Zsa (hF:1000 <=F) (R:Rx w Kr []) (sm:Small w) (so:Qx w st):ZaU F (st.machines,st.names,st.cells,st.notes,st.freed)=some (bif Kc w then .Ju 3 else .ok st):=by
 have sz:=R.szd;have h0:=R.n0;unfold ZaU;dsimp only;rw [so.notes];unfold Kc;cases hb:decide ((w.notes.length:Int) > 80)
 ·simp only [Cq0,Bool.false_or];have hst:(⟨st.machines,st.names,st.cells,w.notes,st.freed⟩:Store)=st:=by rw [← so.notes]
  rw [hst,ZrN hF sm sz so,Bq0];obtain⟨q,hq⟩:=Zj5 (b:=ZfQ) (fun k x=>by unfold ZfQ;cases decide (x > 1000000);exact⟨_,rfl⟩;exact⟨_,rfl⟩) (ZcV w).1;rw [hq,Bq0];obtain⟨_,q2⟩:=ZdZ hq
  have:q= ((List.range w.cells.length).any fun m=>(List.range w.names.toNat).any fun n=>decide (J4 w m n > 1000000)):=by
   rw [Bool.eq_iff_iff,q2,List.any_eq_true]
   constructor
   ·rintro⟨⟨k,v⟩,hm,hv⟩
    have hv:v > 1000000:=by
     unfold ZfQ at hv;cases hd:decide (v > 1000000) with
     | true=>simpa using hd
     | false=>dsimp only at hv;rw [hd] at hv;cases hv
    have hval:val (ZcV w).1 k=v:=by unfold val;rw [ZDf.get hm];rfl
    by_cases hk:(0 <=k.e0∧k.e0 < (w.cells.length:Int))∧0 <=k.e1∧k.e1 < w.names
    ·refine⟨k.e0.toNat,List.mem_range.2 (by omega),?_⟩;rw [List.any_eq_true];refine⟨k.e1.toNat,List.mem_range.2 (by omega),?_⟩;have:= (Zmv sz (a:=k.e0.toNat) (n:=k.e1.toNat) (by omega) (by omega)).1
     have e:(⟨((k.e0.toNat:Nat):Int),((k.e1.toNat:Nat):Int)⟩:Zf)=k:=by
      cases k;dsimp only at *;congr 1 <;> omega
     rw [e,hval] at this;rw [← this];simpa using hv
    ·rw [Zzf R hk] at hval;omega
   ·rintro⟨m,hm,hn⟩;rw [List.any_eq_true] at hn;obtain⟨n,hn,hg⟩:=hn;rw [List.mem_range] at hm hn;have hg:J4 w m n > 1000000:=by simpa using hg
    have:= (Zmv sz (a:=m) (n:=n) hm (by omega)).1;rw [← this] at hg;unfold val at hg;cases e:XC (ZcV w).1 (⟨(m:Int),(n:Int)⟩:Zf) with
    | none=>rw [e] at hg;simp at hg
    | some v=>
      rw [e] at hg;refine⟨_,Zuy e,?_⟩;unfold ZfQ;dsimp only;rw [decide_eq_true (by simpa using hg)];rfl
  rw [← this];cases q <;> rfl
 ·rfl
theorem Zws {l:List Int} (h:l.Pairwise (· < ·)):Asc l:=h.imp fun z=>Int.le_of_lt z
theorem Rt.ci (R:Rt w) {m:Nat} (hm:m < w.cells.length) {c:Za} (hc:c ∈ rowOf w m):CI c:=by
 have:= (Zbj (R.Kk hm hc)).2.2.2;rcases this with z | z
 ·exact .inl ⟨z.2.1,z.1⟩
 ·exact .inr z
theorem Rt.ZnH (R:Rt w) (h:∃ n,Yr w n=true):w.freed.length <=11:=by
 obtain⟨n,hn⟩:=h;unfold Yr at hn;simp at hn;have h12:=R.n12
 have key:∀ (l:List Int) (a:Int),l.Pairwise (· < ·) ->(∀ x ∈ l,a <=x∧x < w.names) ->n ∉ l ->a <=n ->a + (l.length:Int) + 1 <=w.names:=by
  intro l
  induction l with
  | nil=>intro a _ _ _ h;simp;omega
  | cons x l ih=>
    intro a p hr hx ha;rw [List.pairwise_cons] at p;have h0:=hr x (by simp);have hne:n ≠ x:=fun z=>hx (by rw [z];simp)
    by_cases hlt:n < x
    ·have:=Zbl (l:=l) (a:=x + 1) (b:=w.names) p.2 (fun y hy=>by have h1:=p.1 y hy;have h2:=hr y (by simp [hy]);omega) (by omega);simp only [List.length_cons];omega
    ·have:=ih (x + 1) p.2 (fun y hy=>by have h1:=p.1 y hy;have h2:=hr y (by simp [hy]);omega) (fun z=>hx (by simp [z])) (by omega);simp only [List.length_cons];omega
 have:=key w.freed 0 R.fr R.frr (fun z=>hn.2 n z rfl) hn.1.1;omega
theorem Zsb (sm:Small w) (k:Nat):Small (UF w k):= ⟨sm.cells,sm.rows,by have:=sm.notes;unfold UF;simp;omega,sm.freed⟩
end
end Go.Proofs.Ytekpjgmhkkjhgaa
end
section
namespace Go.Proofs.Ytekpjgmhkkjhgaa
open Go.Lf
def ZjY:Zb:= ⟨[],[],0,[]⟩
def stepW (w:Zb) (d:Zo):Zb×Int:=
 bif YH w d d.at_.toNat==0 then(bif Kc (Z7 w d) then(ZjY,3) else(Z7 w d,0)) else(ZjY,YH w d d.at_.toNat)
def doW (w:Zb) (d:Zo):Zb×Int:=bif Zby w && Qp d w.cells.length then stepW w d else(ZjY,2)
section
variable {w:Zb} {n:Int} {st:Store} {F:Nat}
theorem ZsN {d:Zo} (h:d.ZT=1∨d.ZT=5) (m m':Nat):YH w d m=YH w d m':=by
 unfold YH;rcases h with h | h <;> rw [h] <;> rfl
theorem ZpW (R:Rt w) {d:Zo} (hf:Qp d w.cells.length=true):∃ m,m < w.cells.length∧(d.ZT=1∨d.ZT=5∨d.at_= (m:Int))∧YH w d m=YH w d d.at_.toNat:=by
 have:=R.c1;rcases YR hf with⟨k,a⟩ | ⟨k,a,t,ne,nm⟩ | ⟨k,a,nm⟩ | ⟨k,a⟩
 ·exact⟨d.at_.toNat,by omega,.inl k,rfl⟩
 ·exact⟨d.at_.toNat,by omega,.inr (.inr (by omega)),rfl⟩
 ·exact⟨d.at_.toNat,by omega,.inr (.inr (by omega)),rfl⟩
 ·exact⟨0,by omega,.inr (.inl k),ZsN (.inr k) _ _⟩
theorem Rt.Zy0 (R:Rt w) {m:Nat} (hm:m < w.cells.length) (n:Int):CI (look (rowOf w m) n):=by
 unfold look;cases h:UI (rowOf w m) n with
 | none=>exact CI.blank n
 | some c=>exact R.ci hm (ZbM h)
theorem Ztg (hF:1000 <=F) (R:Rt w) (so:Qx w st) (u:UK st.cells) {d:Zo} (hf:Qp d w.cells.length=true):
 ∃ st',ZvF F st d=some (bif YH w d d.at_.toNat==0 then(bif Kc (Z7 w d) then .Ju 3 else .ok st') else .Ju (YH w d d.at_.toNat))∧(YH w d d.at_.toNat=0 ->Qx (Z7 w d) st'∧UK st'.cells):=by
 have sm:=R.small;have hnl:=R.KA;have hrow:∀ m,m < w.cells.length ->(rowOf w m).length <=12:=fun m hm=>Szd.Zbx R.n12 (R.Yx m hm) (R.names m hm)
 obtain⟨m0,hm0,ho,e0⟩:=ZpW R hf;have hck:=Zp4 so hm0 d ho;rw [e0] at hck;unfold ZvF;rw [hck,Bq0];cases hz:(YH w d d.at_.toNat==0)
 ·refine⟨st,rfl,fun z=>?_⟩;rw [z] at hz;cases hz
 ·have he:YH w d d.at_.toNat=0:=by simpa using hz
  obtain⟨X1,X2,X3,X4,X5⟩:=ZeV R hf he;have over:∀ st',Qx (Z7 w d) st' ->ZaU F (st'.machines,st'.names,st'.cells,st'.notes,st'.freed)=some (bif Kc (Z7 w d) then .Ju 3 else .ok st'):=fun st' s'=>Zsa hF X1 (X1.small (by omega)) s'
  simp only [Cq1];unfold prC;dsimp only;rcases YR hf with⟨k,a⟩ | ⟨k,a,t,ne,nm⟩ | ⟨k,a,nm⟩ | ⟨k,a⟩
  ·have hm:d.at_.toNat < w.cells.length:=by omega
   have hat:d.at_= (d.at_.toNat:Int):=by omega
   have hdw:Z7 w d=ZeD w d.at_.toNat:=by unfold Z7;rw [k];rfl
   obtain⟨q1,q2⟩:=Zus so u hm (R.Yx _ hm);have ov:=over _ (by rw [hdw];exact q1);refine⟨_,?_,fun _=>⟨by rw [hdw];exact q1,q2⟩⟩;rw [← ov,k];simp only [beq_self_eq_true,Cq1];rw [hat,so.n]
   rfl
  ·have hm:d.at_.toNat < w.cells.length:=by omega
   have hat:d.at_= (d.at_.toNat:Int):=by omega
   rcases k with k | k
   ·obtain⟨c,hc,_,hu⟩:=QL (by omega) (by omega) he;have hl:= (R.Qy hm hc).1;have hdw:Z7 w d=Zex w d d.at_.toNat c:=by unfold Z7;rw [k,hl];rfl
    obtain⟨st',q1,q2,q3⟩:=ZtR so u hm (R.Yx _ hm) (by omega) d hat hc;have ov:=over st' (by rw [hdw];exact q2);refine⟨st',?_,fun _=>⟨by rw [hdw];exact q2,q3⟩⟩;rw [← ov,k];simp only [beq_self_eq_true,Cq1,show((2:Int)==1)=false from rfl,Cq0];rw [q1,Bq0]
   ·obtain⟨c,hc,hr,_⟩:=QL (by omega) (by omega) he;have hl:= (R.Qy hm hc).1;have hdw:Z7 w d=goW w d d.at_.toNat c:=by unfold Z7;rw [k,hl];rfl
    obtain⟨st',q1,q2,q3⟩:=Zyd so u hm (R.Yx _ hm) (by omega) d hc;have ov:=over st' (by rw [hdw];exact q2);refine⟨st',?_,fun _=>⟨by rw [hdw];exact q2,q3⟩⟩;rw [← ov,k];simp only [beq_self_eq_true,Cq1,show((4:Int)==1)=false from rfl,show((4:Int)==2)=false from rfl,show((4:Int)==3)=false from rfl,Cq0];unfold ZaT;rw [Bq0,hat,so.get hm,hc];unfold goC at q1;simp only [Option.getD_some];rw [q1,Bq0]
  ·have hm:d.at_.toNat < w.cells.length:=by omega
   have hat:d.at_= (d.at_.toNat:Int):=by omega
   obtain⟨c,hc,_,hu⟩:=QL (by omega) (by omega) he;obtain⟨hl,_,hnb⟩:=R.Qy hm hc;have hdw:Z7 w d=ZgX w d.at_.toNat d.name c:=by unfold Z7;rw [k,hl];rfl
   obtain⟨st',q1,q2,q3⟩:=ZsQ (F:=F) (by omega) so u hm (R.Yx _ hm) (by omega) hc (R.ci hm (ZbM hc)) (Zws R.fr) (R.ZnH ⟨_,hnb⟩);have ov:=over st' (by rw [hdw];exact q2);refine⟨st',?_,fun _=>⟨by rw [hdw];exact q2,q3⟩⟩;rw [← ov,k];simp only [beq_self_eq_true,Cq1,show((3:Int)==1)=false from rfl,show((3:Int)==2)=false from rfl,Cq0];unfold ZaT;rw [Bq0,hat,so.get hm,hc];unfold ZaG at q1;simp only [Option.getD_some];rw [q1,Bq0]
  ·have hlt:d.at_.toNat < w.notes.length:=by
    have he:=he;unfold YH at he;rw [k] at he;simp only [beq_self_eq_true,Cq1,show((5:Int)==1)=false from rfl,Cq0] at he;cases hb:decide (d.at_ >= (w.notes.length:Int)) with
    | true=>rw [hb] at he;cases he
    | false=>simp at hb;omega
   obtain⟨j,hj⟩:∃ j:Nat,d.at_= (j:Int):= ⟨d.at_.toNat,by omega⟩
   have hjt:d.at_.toNat=j:=by omega
   rw [hjt] at hlt;obtain⟨x,hx⟩:∃ x,w.notes[j]? =some x:= ⟨_,List.getElem?_eq_getElem hlt⟩
   have hdw:Z7 w d=Qs (UF w j) x:=by unfold Z7;rw [k,hjt,hx];rfl
   have hxm:=List.mem_of_getElem? hx;have hxB:=Za7 (R.Ke hxm);have hm:x.Zx.toNat < w.cells.length:=by omega
   have:=hrow _ hm;have so':Qx (UF w j) ⟨st.machines,st.names,st.cells,w.notes.take j ++ w.notes.drop (j + 1),st.freed⟩:= ⟨so.m,so.n,rfl,so.freed,so.cells⟩
   obtain⟨st',q1,q2,q3⟩:=Zp6 (F:=F) (by omega) so' u (Zsb sm j) (m:=x.Zx.toNat) hm (by show(rowOf w _).length < 900;omega) (by unfold UF;simp;omega) x (by omega) (R.Yx _ hm) (R.Zy0 hm _) (Zws R.fr) (R.ZnH ⟨_,hxB.2.1⟩);have ov:=over st' (by rw [hdw];exact q2);refine⟨st',?_,fun _=>⟨by rw [hdw];exact q2,q3⟩⟩;rw [← ov,k];simp only [beq_self_eq_true,Cq1,show((5:Int)==1)=false from rfl,show((5:Int)==2)=false from rfl,show((5:Int)==3)=false from rfl,show((5:Int)==4)=false from rfl,Cq0];rw [hj,so.notes,Z5,hx,Bq0,Zuc hlt (by omega),Bq0,q1,Bq0]
theorem Zub (R:Rx w Kr []) (ho:∀ k a c,YX w k a=some c ->c.out <=1000016) (h:Kc w=false):Rt w:=by
 unfold Kc at h;rw [Bool.or_eq_false_iff,List.any_eq_false] at h;have sz:=R.szd;have hl:w.notes.length <=80:=by have:=h.1;simp at this;omega
 have h0:=R.n0;refine R.rt (fun n hn=>?_) hl;have hnr:0 <=n∧n < w.names:=by unfold Yr at hn;simp at hn;exact hn.1
 intro a a0 a1;have:=h.2 a.toNat (List.mem_range.2 (by omega));rw [Bool.not_eq_true,List.any_eq_false] at this;have:=this n.toNat (List.mem_range.2 (by omega));have:= (by simpa using this:J4 w a.toNat ((n.toNat:Nat):Int) <=1000000)
 rw [show((n.toNat:Nat):Int)=n by omega,Zd7 w (by omega)] at this;rw [show((a.toNat:Nat):Int)=a by omega] at this;show Uf (YX w n) (Jh w n) a <=1000000;obtain⟨h',H⟩:=R.nm n hn;have H:Nm w.cells.length n (YX w n) (Jh w n) h':=H;have hg:=H.giv a;have hc:=H.ZCY
 have hb:-16 <=Qf (YX w n a)∧Qf (YX w n a) <=1000016:=by
  cases e:YX w n a with
  | none=>simp [Qf]
  | some c=>exact⟨(H.Zh5 e).1,ho n a c e⟩
 have:-16 <=Uf (YX w n) (Jh w n) a∧Uf (YX w n) (Jh w n) a <=1000032:=by
  rw [hg];split <;> omega
 rw [YP (by omega) (by omega)] at *
 assumption
theorem Zry (R:Rt w) {d:Zo} (hf:Qp d w.cells.length=true) (he:YH w d d.at_.toNat=0) (hv:Kc (Z7 w d)=false):Rt (Z7 w d)∧(Z7 w d).cells.length=w.cells.length:=by
 obtain⟨X1,X2,X3,X4,X5⟩:=ZeV R hf he;exact⟨Zub X1 X5 hv,X3⟩
theorem ZtI {d:Zo} (h:(stepW w d).2=0):YH w d d.at_.toNat=0∧Kc (Z7 w d)=false∧(stepW w d).1=Z7 w d:=by
 unfold stepW at h ⊢;cases hz:(YH w d d.at_.toNat==0)
 ·rw [hz] at h;have he:YH w d d.at_.toNat ≠ 0:=by simpa using hz
  exact absurd h he
 ·rw [hz] at h;cases ho:Kc (Z7 w d)
  ·exact⟨by simpa using hz,rfl,rfl⟩
  ·rw [ho] at h;cases h
theorem Zr2 (hF:1000 <=F) (R:Rt w) (so:Qx w st) {d:Zo} (hf:Qp d w.cells.length=true):
 ((stepW w d).2 ≠ 0∧ZsH F st d=some (none,(stepW w d).2))∨((stepW w d).2=0∧(stepW w d).1=Z7 w d∧∃ st',ZsH F st d=some (some st',0)∧Qx (Z7 w d) st'∧UK st'.cells):=by
 obtain⟨sc,c1,c2,c3⟩:=R.copy hF so;obtain⟨st',q1,q2⟩:=Ztg hF R c2 c3 hf;unfold ZsH stepW;rw [c1,Bq0,q1,Bq0];cases hz:(YH w d d.at_.toNat==0)
 ·left;have he:YH w d d.at_.toNat ≠ 0:=by simpa using hz
  exact⟨he,rfl⟩
 ·have he:YH w d d.at_.toNat=0:=by simpa using hz
  obtain⟨q3,q4⟩:=q2 he;cases Kc (Z7 w d)
  ·right;exact⟨rfl,rfl,st',rfl,q3,q4⟩
  ·left;exact⟨(fun z=>by cases z),rfl⟩
theorem Zmc (hF:1000 <=F) (sm:Small w) (d:Zo):ZiM F w d=some (doW w d):=by
 have:=sm.cells;unfold ZiM doW;rw [Zyy hF sm,Bq0,ZsC];simp only [ZnD,Bq0];cases hr:Zby w
 ·rfl
 ·have R:=Rt.of hr;cases hf:Qp d w.cells.length
  ·rfl
  ·simp only [Bool.not_true,Bool.not_false,Cq1,Bool.or_self,Cq0,Bool.and_self];obtain⟨st,o1,o2,o3⟩:=R.open_ hF;rw [o1,Bq0];rcases Zr2 hF R o2 hf with⟨s1,s2⟩ | ⟨s1,s2,st',s3,s4,s5⟩
   ·rw [s2,Bq0];unfold opt;dsimp only;have:((stepW w d).2 !=0)=true:=by simpa using s1
    rw [this,Cq1]
    have e:(stepW w d).1=ZjY:=by
     unfold stepW at s1 ⊢;cases hz:(YH w d d.at_.toNat==0)
     ·rfl
     ·rw [hz] at s1;cases ho:Kc (Z7 w d)
      ·rw [ho] at s1;exact absurd rfl s1
      ·rfl
    show some (ZjY,(stepW w d).2)=some (stepW w d);rw [← e]
   ·rw [s3,Bq0];unfold opt;dsimp only;obtain⟨e1,e2,e3⟩:=ZtI s1;have R':= (Zry R hf e1 e2).1;rw [show((0:Int) !=0)=false from rfl,Cq0,R'.shut hF s4,Bq0,← s2];rw [← s1]
end
end Go.Proofs.Ytekpjgmhkkjhgaa
end
section
namespace Go.Proofs.Ytekpjgmhkkjhgaa
open Go.Lf
section
end
end Go.Proofs.Ytekpjgmhkkjhgaa
end
section
namespace Go.Proofs.Ytekpjgmhkkjhgaa
open Go.Lf
section
variable {w:Zb} {n:Int} {st:Store} {F:Nat}
def ZqQ (p:Int):Zb×Int:=bif(decide (1 <=p) && decide (p <=6)) then(⟨List.replicate p.toNat [],[],0,[]⟩,0) else(ZjY,2)
theorem ZqP {p:Int} (h:1 <=p∧p <=6):Rt ⟨List.replicate p.toNat [],[],0,[]⟩:=by
 have hrow:∀ m,rowOf ⟨List.replicate p.toNat [],[],0,[]⟩ m= []:=by
  intro m;unfold rowOf;dsimp only;cases e:(List.replicate p.toNat ([]:List Za))[m]? with
  | none=>rfl
  | some r=>have:=List.mem_of_getElem? e;rw [List.mem_replicate] at this;exact this.2
 refine⟨by simp;omega,by simp;omega,Int.le_refl _,by show(0:Int) <=12;omega,by simp,.nil,by simp,fun m hm=>by rw [hrow];exact .nil,fun m hm c hc=>by rw [hrow] at hc;simp at hc,by simp,fun n hn=>?_⟩;unfold Yr at hn;simp at hn;omega
theorem Zse (hF:1000 <=F) (p:Int):ZvT F p=some (ZqQ p):=by
 unfold ZvT ZqQ
 have e:((decide (p < 1)) || (decide (p > 6)))= !(decide (1 <=p) && decide (p <=6)):=by
  rw [Bool.not_and,← decide_not,← decide_not];congr 1 <;> exact decide_eq_decide.2 (by omega)
 rw [e];cases hb:(decide (1 <=p) && decide (p <=6))
 ·rfl
 ·simp at hb;simp only [Bool.not_true,Cq0,Cq1]
  have so:Qx ⟨List.replicate p.toNat [],[],0,[]⟩ ⟨p,0,[],[],[]⟩:=by
   refine⟨?_,rfl,rfl,rfl,fun a b=>?_⟩
   ·show p= ((List.replicate p.toNat ([]:List Za)).length:Int);rw [List.length_replicate];omega
   ·show none=_;split
    ·rename_i hr
     symm
     rw [Xb]
     have:rowOf ⟨List.replicate p.toNat [],[],0,[]⟩ a.toNat= []:=by
      unfold rowOf;dsimp only;cases e:(List.replicate p.toNat ([]:List Za))[a.toNat]? with
      | none=>rfl
      | some r=>have:=List.mem_of_getElem? e;rw [List.mem_replicate] at this;exact this.2
     rw [this];rfl
    ·rfl
  rw [(ZqP hb).shut hF so];rfl
end
end Go.Proofs.Ytekpjgmhkkjhgaa
end
section
namespace Go.Proofs.Ytekpjgmhkkjhgaa
open Go.Lf
def ZzN (c:Za):Bool:=decide (c.from_ >=0)
def KE (r:Row):Nat:=r.countP ZzN
def Jk:Option Za ->Nat | some c=>if c.from_ >=0 then 1 else 0 | none=>0
def wt (x:Zd):Nat:=if x.kind=1 then 2 else 1
def wts:List Zd ->Nat | []=>0 | x::l=>wt x + wts l
def Zbr (f:Nat ->Nat):Nat ->Nat | 0=>0 | k + 1=>Zbr f k + f k
def mu (w:Zb):Nat:=Zbr (fun m=>KE (rowOf w m)) w.cells.length + wts w.notes
theorem Zhh (l r:List Zd):wts (l ++ r)=wts l + wts r:=by
 induction l with
 | nil=>simp [wts]
 | cons x l ih=>simp only [List.cons_append,wts,ih];omega
theorem ZoU {f g:Nat ->Nat} {M:Nat} (h:∀ m,m < M ->f m=g m):Zbr f M=Zbr g M:=by
 induction M with
 | zero=>rfl
 | succ M ih=>simp only [Zbr];rw [ih fun m hm=>h m (by omega),h M (by omega)]
theorem ZtH {f g:Nat ->Nat} {M k:Nat} (hk:k < M) (h:∀ m,m < M ->m ≠ k ->f m=g m):Zbr f M + g k=Zbr g M + f k:=by
 induction M with
 | zero=>omega
 | succ M ih=>
   simp only [Zbr];by_cases e:k=M
   ·subst e;rw [ZoU fun m hm=>h m (by omega) (by omega)];omega
   ·have:=ih (by omega) (fun m hm hn=>h m (by omega) hn);rw [h M (by omega) (fun z=>e z.symm)];omega
theorem Jp (d:Za) (r:Row):KE (d::r)=Jk (some d) + KE r:=by
 unfold KE Jk;rw [List.countP_cons];unfold ZzN;by_cases h:d.from_ >=0
 ·simp [h];omega
 ·simp [h]
theorem Znj (c:Za):∀ {r:Row},Ug r ->KE (put c r) + Jk (UI r c.name)=KE r + Jk (some c)
 | [],_=>by rw [put,Jp,Zlw];simp [Jk,KE]
 | d::r,s=>by
   unfold put;by_cases h1:d.name < c.name
   ·have:=Znj c s.tail;rw [if_pos h1,Jp,Jp,YS,if_neg (by omega)];omega
   ·rw [if_neg h1];by_cases h2:d.name=c.name
    ·rw [if_pos h2,Jp,Jp,YS,if_pos h2];omega
    ·rw [if_neg h2,Jp,Jp,YS,if_neg h2,Zcz (by intro x hx;have:=s.head x hx;omega)];simp [Jk];omega
theorem Zni (n:Int):∀ {r:Row},Ug r ->KE (rmv n r) + Jk (UI r n)=KE r
 | [],_=>by simp [rmv,KE,Jk,Zlw]
 | d::r,s=>by
   have:=Zni n s.tail;rw [YS];by_cases h:d.name=n
   ·have e:rmv n (d::r)=rmv n r:=by unfold rmv;rw [List.filter_cons_of_neg (by simp [h])]
    rw [e,if_pos h,Jp];have hn:UI r n=none:=Zcz (by intro x hx;have:=s.head x hx;omega);rw [hn] at this;simp only [Jk] at this ⊢;omega
   ·have e:rmv n (d::r)=d::rmv n r:=by unfold rmv;rw [List.filter_cons_of_pos (by simp [h])]
    rw [e,if_neg h,Jp,Jp];omega
section
variable {w:Zb} {n:Int} {m:Nat}
theorem ZzL (hm:m < w.cells.length) (r:Row):mu (cw w m r) + KE (rowOf w m)=mu w + KE r:=by
 unfold mu;rw [Yh];have:=ZtH (f:=fun k=>KE (rowOf (cw w m r) k)) (g:=fun k=>KE (rowOf w k)) hm (fun k hk hne=>by rw [UQ hne]);simp only [QD hm] at this;have e:(cw w m r).notes=w.notes:=rfl;rw [e];omega
theorem ZA3 (hm:m < w.cells.length) (s:Ug (rowOf w m)) {d:Za} (hd:d.name=n):mu (cw w m (put d (rowOf w m))) + Jk (UI (rowOf w m) n)=mu w + Jk (some d):=by
 have h1:=ZzL hm (put d (rowOf w m));have h2:=Znj d s;rw [hd] at h2;omega
theorem ZqN (x:Zd):mu (sent w x)=mu w + wt x:=by
 unfold mu sent;dsimp only;rw [Zhh];simp only [wts];have:Zbr (fun m=>KE (rowOf {cells:=w.cells,notes:=w.notes ++ [x],names:=w.names,freed:=w.freed} m)) w.cells.length=Zbr (fun m=>KE (rowOf w m)) w.cells.length:=rfl;omega
theorem ZfB (hm:m < w.cells.length) (s:Ug (rowOf w m)) {c:Za} (hc:UI (rowOf w m) n=some c):mu (Xn w m n c) <=mu w:=by
 unfold Xn;cases (c.use || (c.out !=0))
 ·rw [Cq0];have h1:=ZzL hm (rmv n (rowOf w m));have h2:=Zni n s;rw [hc] at h2
  have key:∀ (ns:List Zd) (fr:List Int),mu ⟨w.cells.set m (rmv n (rowOf w m)),ns,w.names,fr⟩ + wts w.notes=mu (cw w m (rmv n (rowOf w m))) + wts ns:=by
   intro ns fr;unfold mu;show Zbr (fun k=>KE (rowOf (cw w m (rmv n (rowOf w m))) k)) (w.cells.set m (rmv n (rowOf w m))).length + wts ns + wts w.notes=Zbr (fun k=>KE (rowOf (cw w m (rmv n (rowOf w m))) k)) (w.cells.set m (rmv n (rowOf w m))).length + wts w.notes + wts ns;omega
  cases c.root
  ·simp only [Cq0];cases hf:decide (c.from_ >=0)
   ·rw [Cq0];have:=key w.notes w.freed;simp only [Jk] at h2;omega
   ·rw [Cq1];have hf':c.from_ >=0:=by simpa using hf
    have:=key (w.notes ++ [⟨2,c.from_,n,0,c.has⟩]) w.freed;rw [Zhh] at this;have e2:wts [(⟨2,c.from_,n,0,c.has⟩:Zd)]=1:=rfl;rw [e2] at this;simp only [Jk,if_pos hf'] at h2;omega
  ·simp only [Cq1];have:=key w.notes (JC n w.freed);simp only [Jk] at h2;omega
 ·exact Nat.le_refl _
theorem Zpb (n:Int) (r:Row):Jk (UI r n)=Jk (some (look r n)):=by
 unfold look;cases UI r n <;> rfl
theorem Zwe {x:Zd} (R:Rx w Kr [x]):mu (Qs w x) + 1 <=mu w + wt x:=by
 have hn:=R.nn x (by simp);obtain⟨n,hxn⟩:∃ n,x.name=n:= ⟨_,rfl⟩
 rw [hxn] at hn;have hfl:∀ y ∈ [x],y.name=n:=by simp [hxn]
 obtain⟨h,H⟩:=R.nm n hn;rw [KH hfl] at H;have H:Nm w.cells.length n (YX w n) (x::Jh w n) h:=H;have hx:=H.KA x (by simp);obtain⟨m',hm'⟩:∃ m',x.Zx.toNat=m':= ⟨_,rfl⟩
 have hmm:(m':Int)=x.Zx:=by omega
 have hm:m' < w.cells.length:=by omega
 have L:=H.look x.Zx;have K5:look (rowOf w m') n=ZaA n (YX w n) x.Zx:=by rw [ZfF hm,hmm]
 unfold Qs;rw [hm',hxn];dsimp only;obtain⟨c,hc⟩:∃ c,ZaA n (YX w n) x.Zx=c:= ⟨_,rfl⟩
 rw [hc] at L K5;have hlo:=Zpb n (rowOf w m');rw [K5] at hlo ⊢;have hsrt:=R.Yx m' hm
 have hmp:∀ {d:Za},d.name=n ->mu (cw w m' (put d (rowOf w m'))) + Jk (some c)=mu w + Jk (some d):=fun hd=>by
  have:=ZA3 hm hsrt hd;rw [hlo] at this;exact this
 have hcw:∀ {d:Za},d.name=n ->UI (rowOf (cw w m' (put d (rowOf w m'))) m') n=some d∧Ug (rowOf (cw w m' (put d (rowOf w m'))) m'):=fun hd=>⟨ZfN hm hsrt hd,by rw [QD hm];exact hsrt.put⟩
 have hwt:1 <=wt x:=by unfold wt;split <;> omega
 cases k1:(x.kind==1)
 ·rw [Cq0];cases k2:(x.kind==2)
  ·rw [Cq0];have h1:=hmp (d:= ⟨c.name,true,-1,0,ZP (c.out + 16),c.use⟩) L.nam;obtain⟨h2,h3⟩:=hcw (d:= ⟨c.name,true,-1,0,ZP (c.out + 16),c.use⟩) L.nam
   have k3:x.kind=3:=by
    rcases hx.2.2.2 with z | z | z
    ·rw [z.1] at k1;cases k1
    ·rw [z.1] at k2;cases k2
    ·exact z.1
   have hw1:wt x=1:=by unfold wt;rw [if_neg (by omega)]
   cases hf:decide (c.from_ >=0)
   ·simp only [Cq0];rw [QE h2];have h4:=ZfB (by rw [Yh];exact hm) h3 h2;have hf':¬ c.from_ >=0:=by simpa using hf
    simp only [Jk,if_neg hf',if_neg (by omega:¬ (-1:Int) >=0)] at h1;omega
   ·simp only [Cq1];have hf':c.from_ >=0:=by simpa using hf
    have hne:c.from_ ≠ x.Zx:=by rcases L.cel with z | z;exact z.2.2.2.1;omega
    have hb:XA (cw w m' (put ⟨c.name,true,-1,0,ZP (c.out + 16),c.use⟩ (rowOf w m'))) m' n c.from_ c.has=sent (cw w m' (put ⟨c.name,true,-1,0,ZP (c.out + 16),c.use⟩ (rowOf w m'))) ⟨2,c.from_,n,0,c.has⟩:=by
     unfold XA;have:(c.from_ != (m':Int))=true:=by simp;omega
     rw [this,Cq1]
    rw [hb];have hrow:rowOf (sent (cw w m' (put ⟨c.name,true,-1,0,ZP (c.out + 16),c.use⟩ (rowOf w m'))) ⟨2,c.from_,n,0,c.has⟩) m'=rowOf (cw w m' (put ⟨c.name,true,-1,0,ZP (c.out + 16),c.use⟩ (rowOf w m'))) m':=rfl;rw [hrow,QE h2];have h4:=ZfB (w:=sent (cw w m' (put ⟨c.name,true,-1,0,ZP (c.out + 16),c.use⟩ (rowOf w m'))) ⟨2,c.from_,n,0,c.has⟩) (m:=m') (n:=n) (by show m' < (cw _ _ _).cells.length;rw [Yh];exact hm) h3 h2;have h5:=ZqN (w:=cw w m' (put ⟨c.name,true,-1,0,ZP (c.out + 16),c.use⟩ (rowOf w m'))) ⟨2,c.from_,n,0,c.has⟩;simp only [Jk,if_pos hf',if_neg (by omega:¬ (-1:Int) >=0)] at h1;have:wt ⟨2,c.from_,n,0,c.has⟩=1:=rfl;omega
  ·rw [Cq1];have h1:=hmp (d:= ⟨c.name,c.root,c.from_,c.has,ZP (c.out - x.w),c.use⟩) L.nam;obtain⟨h2,h3⟩:=hcw (d:= ⟨c.name,c.root,c.from_,c.has,ZP (c.out - x.w),c.use⟩) L.nam;have h4:=ZfB (by rw [Yh];exact hm) h3 h2;simp only [Jk] at h1;omega
 ·rw [Cq1];have hw2:wt x=2:=by unfold wt;rw [if_pos (by simpa using k1)]
  cases g1:((!c.root && (c.from_==-1)) && (x.via !=x.Zx))
  ·rw [Cq0];cases g2:((!c.root && decide (c.from_ >=0)) && (c.from_==x.via))
   ·rw [Cq0];unfold XA;have h1:=hmp (d:= ⟨c.name,c.root,c.from_,c.has,c.out,true⟩) L.nam;simp only [Jk] at h1;cases (x.via != (m':Int))
    ·rw [Cq0,Uq hm hsrt (by exact L.nam),ZAt,QD hm,ZqA hsrt (by rfl)];have h6:=hmp (d:= ⟨c.name,c.root,c.from_,c.has,ZP (c.out - x.w),true⟩) L.nam;simp only [Jk] at h6;dsimp only at h6 ⊢;omega
    ·rw [Cq1,ZqN];have:wt ⟨2,x.via,n,0,x.w⟩=1:=rfl;omega
   ·rw [Cq1];have h1:=hmp (d:= ⟨c.name,c.root,c.from_,ZP (c.has + x.w),c.out,true⟩) L.nam;simp only [Jk] at h1;omega
  ·rw [Cq1];have h1:=hmp (d:= ⟨c.name,c.root,x.via,x.w,c.out,true⟩) L.nam;simp at g1;simp only [Jk,g1.1.2,if_neg (by omega:¬ (-1:Int) >=0)] at h1;have:(if x.via >=0 then 1 else 0) <=1:=by split <;> omega
   omega
theorem ZA4 {k:Nat} {x:Zd} (hk:w.notes[k]? =some x):mu (UF w k) + wt x=mu w:=by
 obtain⟨hkl,hkx⟩:=Li0 hk
 have Zan:w.notes=w.notes.take k ++ x::w.notes.drop (k + 1):=by
  rw [← hkx,← List.drop_eq_getElem_cons hkl,List.take_append_drop]
 unfold mu UF;show _ + wts (w.notes.take k ++ w.notes.drop (k + 1)) + wt x=_ + wts w.notes
 conv=>rhs;rw [Zan]
 rw [Zhh,Zhh];simp only [wts];have:Zbr (fun m=>KE (rowOf {cells:=w.cells,notes:=w.notes.take k ++ w.notes.drop (k + 1),names:=w.names,freed:=w.freed} m)) w.cells.length=Zbr (fun m=>KE (rowOf w m)) w.cells.length:=rfl;show Zbr (fun m=>KE (rowOf w m)) w.cells.length + _ + _=Zbr (fun m=>KE (rowOf w m)) w.cells.length + _;omega
theorem ZiX (R:Rt w) {k:Nat} {x:Zd} (hk:w.notes[k]? =some x):mu (Qs (UF w k) x) + 1 <=mu w:=by
 have h1:=Zwe (Zk5 R hk).1;have h2:=ZA4 hk;omega
theorem Zuv (R:Rt w):mu w <=232:=by
 have h1:wts w.notes <=2 * w.notes.length:=by
  induction w.notes with
  | nil=>simp [wts]
  | cons x l ih=>simp only [wts,List.length_cons];unfold wt;split <;> omega
 have h2:∀ k,k <=w.cells.length ->Zbr (fun m=>KE (rowOf w m)) k <=12 * k:=by
  intro k
  induction k with
  | zero=>intro _;simp [Zbr]
  | succ k ih=>
    intro hk;have:=ih (by omega);have h3:=Szd.Zbx R.n12 (R.Yx k (by omega)) (R.names k (by omega));have h4:KE (rowOf w k) <= (rowOf w k).length:=List.countP_le_length;simp only [Zbr];omega
 have:=h2 _ (Nat.le_refl _);have:=R.c6;have:=R.KA;unfold mu;omega
end
end Go.Proofs.Ytekpjgmhkkjhgaa
end
section
namespace Go.Proofs.Ytekpjgmhkkjhgaa
open Go.Lf
section
variable {w:Zb} {n:Int} {st:Store} {F:Nat}
end
end Go.Proofs.Ytekpjgmhkkjhgaa
end
section
namespace Go.Proofs.Ytekpjgmhkkjhgaa
open Go.Lf
structure U8 (a:Uz):Prop where
 ud:0 <=a.ZT∧a.ZT <=255
 ua:0 <=a.at_∧a.at_ <=255
 un:0 <=a.name∧a.name <=255
 ut:0 <=a.Zx∧a.Zx <=255
theorem UA {a b:Int} (h0:0 <=a) (hb:0 < b):Zam a b=some (a % b)∧0 <=a % b∧a % b < b:=by
 refine⟨?_,Int.emod_nonneg _ (by omega),Int.emod_lt_of_pos _ hb⟩;unfold Zam;have:(b==0)=false:=by simp;omega
 rw [this,Cq0,Int.tmod_eq_emod_of_nonneg h0]
structure Zjh (d:Zo) (M nm nt:Int):Prop where
 form:Qp d M=true
 make:d.ZT=1 ->nm < 12
 name:d.ZT=2∨d.ZT=3∨d.ZT=4 ->0 <=d.name∧d.name < nm
 note:d.ZT=5 ->0 <=d.at_∧d.at_ < nt
 kind:d.ZT=1∨d.ZT=2∨d.ZT=3∨d.ZT=4∨d.ZT=5
theorem Zrz {a:Uz} (u:U8 a) {M nm nt:Int} (hM:1 <=M∧M <=6) (hn:0 <=nm∧nm <=12) (ht:0 <=nt∧nt <=1000):∃ d b,ZnQ a M nm nt=some (d,b)∧(b=true ->Zjh d M nm nt):=by
 obtain⟨⟨d0,d1⟩,⟨a0,a1⟩,⟨n0,n1⟩,⟨t0,t1⟩⟩:=u;unfold ZnQ;rw [YP (n:=a.at_) (by omega) (by omega),YP (n:=a.name) (by omega) (by omega)];obtain⟨e1,at0,at1⟩:=UA (a:=a.at_) (b:=M) a0 (by omega);rw [e1,Bq0];obtain⟨at_,hat⟩:∃ x,a.at_ % M=x:= ⟨_,rfl⟩
 rw [hat] at at0 at1 ⊢
 have ZGF:∀ (name Zx k:Int) (c:Bool),(0 < nm ->0 <=name∧name < nm) ->(1 < M ->(0 <=Zx∧Zx < M)∧Zx ≠ at_) ->(c=true∨c=false) ->∃ d b,ZcA a M nm nt at_ name Zx k c=some (d,b)∧(b=true ->Zjh d M nm nt):=by
  intro name Zx k c hnm hto _;unfold ZcA;cases c
  ·simp only [Cq0];cases h3:(k==3)
   ·simp only [Cq0];cases h4:(k==4)
    ·simp only [Cq0];cases h0:(nt==0)
     ·simp only [Cq0];rw [YP (n:=a.at_) (by omega) (by omega)]
      have hnt:0 < nt:=by have:nt ≠ 0:=by simpa using h0
                          omega
      obtain⟨e2,b0,b1⟩:=UA (a:=a.at_) (b:=nt) a0 hnt;rw [e2,Bq0];refine⟨_,_,rfl,fun _=>⟨?_,fun z=>(by cases z),fun z=>(by rcases z with z | z | z <;> cases z),fun _=>⟨b0,b1⟩,.inr (.inr (.inr (.inr rfl)))⟩⟩;unfold Qp;simp [b0]
     ·simp only [Cq1];exact⟨_,_,rfl,fun z=>by cases z⟩
    ·simp only [Cq1];refine⟨_,_,rfl,fun z=>?_⟩;simp at z;have h1:=hnm (by omega);have h2:=hto (by omega);refine⟨?_,fun z=>(by cases z),fun _=>h1,fun z=>(by cases z),.inr (.inr (.inr (.inl rfl)))⟩;unfold Qp;simp;refine⟨⟨⟨at0,at1⟩,h2.1⟩,fun e=>h2.2 e.symm,h1.1⟩
   ·simp only [Cq1];refine⟨_,_,rfl,fun z=>?_⟩;simp at z;have h1:=hnm (by omega);refine⟨?_,fun z=>(by cases z),fun _=>h1,fun z=>(by cases z),.inr (.inr (.inl rfl))⟩;unfold Qp;simp;exact⟨⟨at0,at1⟩,h1.1⟩
  ·simp only [Cq1];refine⟨_,_,rfl,fun z=>?_⟩;simp at z;have h1:=hnm (by omega);have h2:=hto (by omega);refine⟨?_,fun z=>(by cases z),fun _=>h1,fun z=>(by cases z),.inr (.inl rfl)⟩;unfold Qp;simp;refine⟨⟨⟨at0,at1⟩,h2.1⟩,fun e=>h2.2 e.symm,h1.1⟩
 have ZGG:∀ (name Zx:Int),(0 < nm ->0 <=name∧name < nm) ->(1 < M ->(0 <=Zx∧Zx < M)∧Zx ≠ at_) ->∃ d b,ZcB a M nm nt at_ name Zx=some (d,b)∧(b=true ->Zjh d M nm nt):=by
  intro name Zx hnm hto;unfold ZcB;obtain⟨e2,b0,b1⟩:=UA (a:=a.ZT) (b:=9) d0 (by omega);rw [e2,Bq0];cases h0:(a.ZT % 9==0)
  ·simp only [Cq0];cases h1:(a.ZT % 9==1)
   ·simp only [Cq0];exact ZGF name Zx _ _ hnm hto (by cases (a.ZT % 9==2) <;> simp)
   ·simp only [Cq1];exact ZGF name Zx _ _ hnm hto (.inl rfl)
  ·simp only [Cq1];refine⟨_,_,rfl,fun z=>?_⟩;simp at z;refine⟨?_,fun _=>z,fun z=>(by rcases z with z | z | z <;> cases z),fun z=>(by cases z),.inl rfl⟩;unfold Qp;simp;exact⟨at0,at1⟩
 have ZGH:∀ (name:Int),(0 < nm ->0 <=name∧name < nm) ->∃ d b,ZcC a M nm nt at_ name=some (d,b)∧(b=true ->Zjh d M nm nt):=by
  intro name hnm;unfold ZcC;cases h1:decide (M > 1)
  ·rw [Cq0];exact ZGG name 0 hnm (fun z=>by simp at h1;omega)
  ·rw [Cq1,YP (n:=a.Zx) (by omega) (by omega),YP (n:=M - 1) (by omega) (by omega)];have hM1:1 < M:=by simpa using h1
   obtain⟨e2,b0,b1⟩:=UA (a:=a.Zx) (b:=M - 1) t0 (by omega);rw [e2,Bq0,YP (n:=at_ + 1) (by omega) (by omega),YP (n:=at_ + 1 + a.Zx % (M - 1)) (by omega) (by omega)];obtain⟨e3,c0,c1⟩:=UA (a:=at_ + 1 + a.Zx % (M - 1)) (b:=M) (by omega) (by omega);rw [e3,Bq0];refine ZGG name _ hnm fun _=>⟨⟨c0,c1⟩,?_⟩
   by_cases hlt:at_ + 1 + a.Zx % (M - 1) < M
   ·rw [Int.emod_eq_of_lt (by omega) hlt];omega
   ·have:(at_ + 1 + a.Zx % (M - 1)) % M=at_ + 1 + a.Zx % (M - 1) - M:=by
     rw [← Int.sub_emod_right,Int.emod_eq_of_lt (by omega) (by omega)]
    rw [this];omega
 cases h0:decide (nm > 0)
 ·rw [Cq0];exact ZGH 0 (fun z=>by simp at h0;omega)
 ·rw [Cq1];obtain⟨e2,b0,b1⟩:=UA (a:=a.name) (b:=nm) n0 (by simpa using h0);rw [e2,Bq0];exact ZGH _ (fun _=>⟨b0,b1⟩)
section
variable {w:Zb} {F:Nat}
theorem Wn {α:Type} {F:Nat} {l:List α} (hl:l.length < 1000) (hF:1000 <=F) (body:Int ->(Int ->Option Bool) ->Option Bool) (h1:∀ (k:Nat) y next,l[k]? =some y ->body (k:Int) next=next (ZP ((k:Int) + 1))) (h2:∀ next,body (l.length:Int) next=some true):loop F body 0=some true:=by
 refine(Xf l (fun v (_:Unit)=>v) body (fun _ _ _ next=>next ()) (fun _=>some true) (by omega) (fun k y q next hy hk=>h1 k y _ hy) (fun q next=>h2 next) (by omega) ()).trans ?_;rw [(J3 (fun _ _ s=>s) (fun _ _=>True) trivial (fun _ _ _ _ _ _=>⟨rfl,trivial⟩)).1]
theorem Zsk (hF:1000 <=F) {l:List Int} (hl:l.length < 1000):ZsK F l l=some true:=by
 unfold ZsK;rw [show((l.length:Int) != (l.length:Int))=false by simp,Cq0];refine Wn hl hF _ (fun k y next hy=>?_) (fun next=>?_)
 ·have hk:= (Li0 hy).1;simp only [ZlT,Z5,hy,Bq0];rw [decide_eq_true (by omega),Cq1];simp
 ·simp only [ZlT];rw [decide_eq_false (by omega),Cq0]
def JU (p:Int):Zb:= ⟨List.replicate (1 + p % 6).toNat [],[],0,[]⟩
theorem ZnL {p:Int} (h:0 <=p):Rt (JU p)∧(JU p).cells.length= (1 + p % 6).toNat:=by
 have:=Int.emod_nonneg p (b:=6) (by decide);have:=Int.emod_lt_of_pos p (b:=6) (by decide);exact⟨ZqP ⟨by omega,by omega⟩,by unfold JU;simp⟩
theorem Znh (hF:1000 <=F) {p:Int} (h0:0 <=p) (h1:p <=255) (l:List Uz):ZsJ F p l= (slL l 0 (if 120 < (l.length:Int) then 120 else(l.length:Int))).bind fun z=>loop F (Zeb F z) (0,[],[],(JU p).cells,(JU p).notes,(JU p).names,(JU p).freed):=by
 unfold ZsJ;rw [YP (n:=p) (by omega) (by omega)];obtain⟨e1,b0,b1⟩:=UA (a:=p) (b:=6) h0 (by omega);rw [e1,Bq0,YP (n:=1 + p % 6) (by omega) (by omega),Zse hF]
 have hm:ZqQ (1 + p % 6)= (JU p,0):=by
  unfold ZqQ;have:(decide (1 <=1 + p % 6) && decide (1 + p % 6 <=6))=true:=by simp;omega
  rw [this];rfl
 rw [hm];have hlen:((JU p).cells.length:Int)=1 + p % 6:=by rw [(ZnL h0).2];omega
 simp only [Bq0,bne_self_eq_false,Bool.not_false,ZeL,hlen,Bool.or_self,Cq0];rw [YP (n:=1 + p % 6) (by omega) (by omega)];simp only [bne_self_eq_false,Bool.or_self,Cq0]
theorem Zqw {α:Type} (l:List α) (N:Nat):slL l 0 (if(N:Int) < (l.length:Int) then(N:Int) else(l.length:Int))=some (l.take N):=by
 by_cases h:N < l.length
 ·rw [if_pos (by omega)];have:=KV (xs:=l) (a:=0) (b:=N) (by omega) (by omega);rw [List.drop_zero] at this;exact this
 ·rw [if_neg (by omega)];have:=KV (xs:=l) (a:=0) (b:=l.length) (by omega) (Nat.le_refl _);rw [List.drop_zero,List.take_length] at this;rw [List.take_of_length_le (by omega)];exact this
theorem Zmb {d:Zo} (R:Rt w) (hf:Qp d w.cells.length=true):doW w d=stepW w d:=by
 unfold doW;rw [R.right,hf];rfl
end
end Go.Proofs.Ytekpjgmhkkjhgaa
end
section
namespace Go.Proofs.Ytekpjgmhkkjhgaa
open Go.Lf
def gives (l:List Zd):List Yp:= (l.filter fun x=>x.kind==1).map fun x=>⟨x.Zx,x.name⟩
def Uses (w:Zb) (s:Yp):Prop:=∃ c,YX w s.name s.at_=some c∧c.use=true
structure Fits (w:Zb) (m:Model):Prop where
 mem:∀ s,s ∈ m.uses↔Uses w s
 nd:m.uses.Nodup
 ways:m.ways=gives w.notes
theorem QZ (x y:Yp):Zac x y=decide (x=y):=by
 obtain⟨a,b⟩:=x;obtain⟨c,d⟩:=y;unfold Zac;by_cases h:a=c
 ·by_cases k:b=d
  ·simp [h,k]
  ·simp [h,k]
 ·simp [h]
theorem WN {F:Nat} (hF:1000 <=F) {l:List Yp} (hl:l.length < 1000) (x:Yp):ZjD F l x=some (decide (x ∈ l)):=by
 unfold ZjD ZyA
 have e:=Xf l (fun v (_:Unit)=>v) (ZfU l x) (fun k y s next=>bif Zac x y then some (k:Int) else next ()) (fun _=>some (-1)) (by omega) (fun k y s next hy hk=>by
  simp only [ZfU,Z5,hy,hk,decide_true,Bq0,Cq1]) (fun s next=>by simp [ZfU]) (by omega:l.length < F) ()
 rw [show loop F (ZfU l x) 0=_ from e];rcases Zdb (l:=l) (i:=0) (s:= ()) (d:=fun _=>some (-1)) (g:=fun k (y:Yp) (_:Unit) next=>bif Zac x y then some (k:Int) else next ()) (fun k=>some (k:Int)) (fun c=>Zac x c) (fun _ _ _ _=>rfl) with⟨j,y,h1,h2,h3⟩ | ⟨h1,h2⟩
 ·rw [h3,Bq0];have hy:=List.find?_some h1;rw [QZ,decide_eq_true_eq] at hy;have:x ∈ l:=by rw [hy];exact List.mem_of_find?_eq_some h1
  rw [decide_eq_true this,decide_eq_true (by omega)]
 ·rw [h2,Bq0]
  have:¬ x ∈ l:=by
   intro hx;rw [List.find?_eq_none] at h1;have:=h1 x hx;rw [QZ] at this;simp at this
  rw [decide_eq_false this];rfl
theorem Zr4 {F:Nat} (hF:1000 <=F) {l:List Yp} (hl:l.length < 1000):ZsF F l l=some true:=by
 unfold ZsF;rw [show((l.length:Int) != (l.length:Int))=false by simp,Cq0];refine Wn hl hF _ (fun k y next hy=>?_) (fun next=>?_)
 ·have hk:= (Li0 hy).1;simp only [ZlI,Z5,hy,Bq0];rw [decide_eq_true (by omega),Cq1,QZ];simp
 ·simp only [ZlI];rw [decide_eq_false (by omega),Cq0]
section
variable {w:Zb} {m:Model} {F:Nat}
theorem KY {n:Int} (h:Yr w n=true):(w.freed.any fun y=>y==n)=false:=by
 unfold Yr at h;rw [Ba0,Bool.not_eq_true'] at h;exact h.2
def Zfm (w:Zb) (k:Nat):List Yp:= ((rowOf w k).filter fun c=>c.use).map fun c=>⟨(k:Int),c.name⟩
def Zbv (w:Zb):Nat ->List Yp | 0=>[] | k + 1=>Zbv w k ++ Zfm w k
theorem ZhU (R:Rt w) {k:Nat} (hk:k < w.cells.length) (s:Yp):s ∈ Zfm w k↔s.at_= (k:Int)∧Uses w s:=by
 unfold Zfm;rw [List.mem_map]
 constructor
 ·rintro⟨c,hc,rfl⟩;rw [List.mem_filter] at hc;exact⟨rfl,c,R.Zgj hk hc.1,hc.2⟩
 ·rintro⟨h1,c,h2,h3⟩;obtain⟨a,b⟩:=s;dsimp only at h1 h2;subst h1;rw [Jz hk] at h2;have hn:=QG h2;exact⟨c,List.mem_filter.2 ⟨ZbM (show UI (rowOf w k) b=some c from h2),h3⟩,by rw [hn]⟩
theorem Zr5 (R:Rt w) {k:Nat} (hk:k < w.cells.length):(Zfm w k).Nodup:=by
 unfold Zfm;rw [List.nodup_iff_pairwise_ne,List.pairwise_map];refine List.Pairwise.imp ?_ (List.Pairwise.filter _ (R.Yx k hk));intro a b h e;have:a.name=b.name:=congrArg Yp.name e;omega
theorem ZdN (R:Rt w):∀ k,k <=w.cells.length ->∀ s:Yp,s ∈ Zbv w k↔(0 <=s.at_∧s.at_ < (k:Int))∧Uses w s
 | 0,_,s=>by simp [Zbv];omega
 | k + 1,hk,s=>by
   unfold Zbv;rw [List.mem_append,ZdN R k (by omega),ZhU R (by omega)]
   constructor
   ·rintro(⟨h1,h2⟩ | ⟨h1,h2⟩)
    ·exact⟨by omega,h2⟩
    ·exact⟨by omega,h2⟩
   ·rintro⟨h1,h2⟩;by_cases e:s.at_= (k:Int)
    ·exact .inr ⟨e,h2⟩
    ·exact .inl ⟨by omega,h2⟩
theorem Zj2 (R:Rt w):∀ k,k <=w.cells.length ->(Zbv w k).Nodup
 | 0,_=>List.nodup_nil
 | k + 1,hk=>by
   unfold Zbv;rw [List.nodup_append];refine⟨Zj2 R k (by omega),Zr5 R (by omega),fun a ha b hb e=>?_⟩;subst e;have h1:= ((ZdN R k (by omega) a).1 ha).1;have h2:= ((ZhU R (by omega) a).1 hb).1;omega
theorem Uses.range {s:Yp} (h:Uses w s):0 <=s.at_∧s.at_ < (w.cells.length:Int):=by
 obtain⟨c,h1,_⟩:=h;exact(Qr h1).1
theorem Fits.len (R:Rt w) (f:Fits w m):m.uses.length= (Zbv w w.cells.length).length:=by
 refine List.Perm.length_eq ((List.perm_ext_iff_of_nodup f.nd (Zj2 R _ (Nat.le_refl _))).2 fun s=>?_);rw [f.mem,ZdN R _ (Nat.le_refl _)];exact⟨fun h=>⟨h.range,h⟩,fun h=>h.2⟩
def ZdJ (w:Zb):Nat ->Nat | 0=>0 | k + 1=>ZdJ w k + (rowOf w k).countP fun c=>c.use
theorem ZdO (w:Zb):∀ k,(Zbv w k).length=ZdJ w k
 | 0=>rfl
 | k + 1=>by
   unfold Zbv ZdJ;rw [List.length_append,ZdO w k];unfold Zfm;rw [List.length_map,List.countP_eq_length_filter]
theorem Zfj (R:Rt w):∀ k,k <=w.cells.length ->ZdJ w k <=12 * k
 | 0,_=>by simp [ZdJ]
 | k + 1,hk=>by
   have h1:=Zfj R k (by omega);have h2:=Szd.Zbx R.n12 (R.Yx k (by omega)) (R.names k (by omega));have h3:(rowOf w k).countP (fun c=>c.use) <= (rowOf w k).length:=List.countP_le_length;unfold ZdJ;omega
theorem Fits.small (R:Rt w) (f:Fits w m):m.uses.length <=72∧m.ways.length <=80:=by
 have h1:=Zfj R w.cells.length (Nat.le_refl _);have:=R.c6;refine⟨by rw [f.len R,ZdO];omega,?_⟩;rw [f.ways];unfold gives;rw [List.length_map];exact Nat.le_trans (List.length_filter_le _ _) R.KA
theorem Uses.name {s:Yp} (R:Rt w) (h:Uses w s):Yr w s.name=true:=by
 obtain⟨c,h1,_⟩:=h;exact(R.rx.1.cn _ _ _ h1).1
theorem ZlE (hF:1000 <=F) (R:Rt w) (f:Fits w m):ZpQ F m w=some true:=by
 have sm:=R.small;have hc:=sm.cells;have hno:=sm.notes;obtain⟨hu,hw⟩:=f.small R;have hn0:=R.n0;have ZNf:=R.n12;have hnt:=R.KA;unfold ZpQ;have hb:(decide (w.names < 0) || decide (w.names > 12))=false:=by simp;omega
 rw [hb,Cq0]
 have l4:∀ z:List Yp,z=m.uses ++ m.ways ->loop F (ZiI F m w (gives w.notes) (m.uses.length:Int) z) 0=some true:=by
  intro z hz;have hzl:z.length < 1000:=by rw [hz,List.length_append];omega
  have hzf:∀ s ∈ z,(w.freed.any fun y=>y==s.name)=false:=by
   intro s hs;rw [hz] at hs;rcases List.mem_append.1 hs with h | h
   ·exact KY (((f.mem s).1 h).name R)
   ·rw [f.ways] at h;unfold gives at h;rw [List.mem_map] at h;obtain⟨x,hx,rfl⟩:=h;exact KY (R.nn x (List.mem_filter.1 hx).1)
  refine Wn hzl hF _ (fun k y next hy=>?_) (fun next=>?_)
  ·have hk:= (Li0 hy).1;simp only [ZiI,Z5,hy,Bq0];rw [decide_eq_true (by omega),Cq1,contains_eq hF sm.freed,hzf y (List.mem_of_getElem? hy)];rfl
  ·simp only [ZiI];rw [decide_eq_false (by omega),Cq0,f.ways,Zr4 hF (by rw [← f.ways];omega)];simp [gd]
 have l3:loop F (ZiJ F m w (gives w.notes) (m.uses.length:Int)) 0=some true:=by
  refine Wn hno hF _ (fun k y next hy=>?_) (fun next=>?_)
  ·have hk:= (Li0 hy).1;simp only [ZiJ,Z5,hy,Bq0];rw [decide_eq_true (by omega),Cq1,contains_eq hF sm.freed,KY (R.nn y (List.mem_of_getElem? hy))];rfl
  ·simp only [ZiJ];unfold ZpS;rw [decide_eq_false (by omega),Cq0,XK (by simp only [List.length_nil];omega) (by decide)];simp only [Bq0,List.nil_append];rw [XK (by omega) (by decide),Bq0,l4 _ rfl]
 have l2:∀ (k:Nat) (cnt:Nat) (next:Int×Int ->Option Bool),k < w.cells.length ->cnt <=100 ->loop F (ZfZ F m w (k:Int) next (rowOf w k)) ((cnt:Int),0)=next (((cnt + (rowOf w k).countP (fun c=>c.use):Nat):Int),ZP ((k:Int) + 1)):=by
  intro k cnt next hk hcnt;have hr:=Szd.Zbx R.n12 (R.Yx k hk) (R.names k hk);refine(Xf (rowOf w k) (fun v (s:Int)=>(s,v)) (ZfZ F m w (k:Int) next (rowOf w k)) (fun _ c s nx=>nx (bif c.use then ZP (s + 1) else s)) (fun s=>next (s,ZP ((k:Int) + 1))) (by omega) (fun j c s nx hj hjk=>?_) (fun s nx=>?_) (by omega) (cnt:Int)).trans ?_
  ·have hcm:=List.mem_of_getElem? hj;have hcv:=R.Zgj hk hcm;simp only [ZfZ,Z5,hj,hjk,decide_true,Cq1,Bq0];rw [contains_eq hF sm.freed,KY (R.cn k hk c hcm).1,Bq0,Cq0];cases hcu:c.use
   ·simp only [Cq0];rfl
   ·simp only [Cq1];have hmem:(⟨(k:Int),c.name⟩:Yp) ∈ m.uses:= (f.mem _).2 ⟨c,hcv,hcu⟩;rw [WN hF (by omega),decide_eq_true hmem];rfl
  ·simp only [ZfZ];rw [decide_eq_false (by omega),Cq0]
  ·rw [(J3 (fun _ (c:Za) (s:Int)=>bif c.use then ZP (s + 1) else s) (fun _ _=>True) trivial (fun _ _ _ _ _ _=>⟨rfl,trivial⟩)).1];rw [U1];have:=ZiV (fun c:Za=>c.use) (rowOf w k) cnt (by omega);rw [this]
 have l1:∀ (d k F':Nat),k + d=w.cells.length ->d < F' ->loop F' (Zd9 F m w (gives w.notes)) ((ZdJ w k:Int),(k:Int))=some true:=by
  intro d
  induction d with
  | zero=>
    intro k F' hk hF';obtain⟨F',rfl⟩:=Ne0 (n:=F') (by omega);have:k=w.cells.length:=by omega
    subst this;rw [Yi];simp only [Zd9];rw [decide_eq_false (by omega),Cq0,← ZdO,← f.len R,l3]
  | succ d ih=>
    intro k F' hk hF';obtain⟨F',rfl⟩:=Ne0 (n:=F') (by omega);have hlt:k < w.cells.length:=by omega
    have hcn:=Zfj R k (by omega);have:=R.c6;rw [Yi];simp only [Zd9];rw [decide_eq_true (by omega),Cq1,Z5,QJ hlt,Bq0,l2 k _ _ hlt (by omega),Xd (by omega)];exact ih (k + 1) F' (by omega) (by omega)
 have l0:=Xf w.notes (fun v (s:List Yp)=>(s,v)) (ZiK F m w) (fun _ x s next=>(bif x.kind==1 then app 16 s [⟨x.Zx,x.name⟩] else some s).bind next) (fun s=>loop F (Zd9 F m w s) (0,0)) (by omega) (fun k y s next hy hk=>by
  simp only [ZiK,Z5,hy,hk,decide_true,Cq1,Bq0];cases (y.kind==1)
  ·rfl
  ·simp only [Cq1]
   rfl) (fun s next=>by
  simp only [ZiK];rw [decide_eq_false (by omega),Cq0]) (by omega:w.notes.length < F) []
 rw [l0]
 obtain⟨e1,e2⟩:=J3 (d:=fun s=>loop F (Zd9 F m w s) (0,0)) (g:=fun(_:Nat) (x:Zd) (s:List Yp) next=>(bif x.kind==1 then app 16 s [⟨x.Zx,x.name⟩] else some s).bind next) (fun _ x s=>bif x.kind==1 then s ++ [⟨x.Zx,x.name⟩] else s) (fun i s=>s.length <=i) (l:=w.notes) (i:=0) (s:= []) (Nat.le_refl _) (fun k x s next hx hI=>by
  have hk:= (Li0 hx).1;cases (x.kind==1)
  ·exact⟨rfl,Nat.le_succ_of_le hI⟩
  ·simp only [Cq1];rw [XK (by simp;omega) (by decide)];exact⟨rfl,by simp;omega⟩)
 rw [e1,U1]
 have hg:∀ (l:List Zd) (s:List Yp),l.foldl (fun s x=>bif x.kind==1 then s ++ [⟨x.Zx,x.name⟩] else s) s=s ++ gives l:=by
  intro l
  induction l with
  | nil=>intro s;simp [gives]
  | cons x l ih=>
    intro s;rw [List.foldl_cons,ih];unfold gives;cases hk:(x.kind==1)
    ·rw [List.filter_cons_of_neg (by simp [hk])];rfl
    ·rw [List.filter_cons_of_pos (by simp [hk])];simp
 rw [hg,List.nil_append];exact l1 w.cells.length 0 F (by omega) (by omega)
end
end Go.Proofs.Ytekpjgmhkkjhgaa
end
section
namespace Go.Proofs.Ytekpjgmhkkjhgaa
open Go.Lf
section
variable {w w':Zb} {m:Nat} {n:Int} {s:Yp}
theorem KN (hm:m < w.cells.length):(look (rowOf w m) n).use=true↔Uses w ⟨(m:Int),n⟩:=by
 unfold Uses look;rw [Jz hm,Xb];cases h:UI (rowOf w m) n with
 | none=>simp [blank]
 | some c=>simp
theorem ZmM (U:Upd w w' n) {a:Int} {o:Option Za} (V:YX w' n=YB (YX w n) a o) (s:Yp):Uses w' s↔if s.name=n∧s.at_=a then(∃ c,o=some c∧c.use=true) else Uses w s:=by
 unfold Uses;by_cases h:s.name=n
 ·rw [h,V];by_cases e:s.at_=a
  ·rw [if_pos ⟨rfl,e⟩,e,WA]
  ·rw [if_neg (fun z=>e z.2),Zau e]
 ·rw [if_neg (fun z=>h z.1),U.oc _ h]
theorem Zer (hm:m < w.cells.length) (Yx:∀ m,m < w.cells.length ->Ug (rowOf w m)) {d:Za} (hd:d.name=n) (s:Yp):Uses (cw w m (put d (rowOf w m))) s↔if s.name=n∧s.at_= (m:Int) then d.use=true else Uses w s:=by
 obtain⟨U,V,_⟩:=Qv hm Yx hd;rw [ZmM U V s];simp
theorem ZtD (hm:m < w.cells.length) (Yx:∀ m,m < w.cells.length ->Ug (rowOf w m)) (s:Yp):Uses (cw w m (rmv n (rowOf w m))) s↔if s.name=n∧s.at_= (m:Int) then False else Uses w s:=by
 obtain⟨U,V,_⟩:=Zk0 (n:=n) hm Yx;rw [ZmM U V s];simp
theorem ZhT {a b:Int} (h:s.name=b∧s.at_=a):s= ⟨a,b⟩:=by
 obtain⟨x,y⟩:=s;obtain⟨h1,h2⟩:=h;dsimp only at h1 h2;rw [h1,h2]
theorem KM (hm:m < w.cells.length) (Yx:∀ m,m < w.cells.length ->Ug (rowOf w m)) {d:Za} (hd:d.name=n) (hu:d.use= (look (rowOf w m) n).use) (s:Yp):Uses (cw w m (put d (rowOf w m))) s↔Uses w s:=by
 rw [Zer hm Yx hd];by_cases h:s.name=n∧s.at_= (m:Int)
 ·rw [if_pos h,ZhT h,hu,KN hm]
 ·rw [if_neg h]
theorem Zc1 (x:Zd) (s:Yp):Uses (sent w x) s↔Uses w s:=Iff.rfl
theorem Zdd (l:List Zd) (x:Zd):gives (l ++ [x])=gives l ++ (if x.kind=1 then [⟨x.Zx,x.name⟩] else []):=by
 unfold gives;rw [List.filter_append,List.map_append];by_cases h:x.kind=1
 ·rw [if_pos h,List.filter_cons_of_pos (by simp [h])];rfl
 ·rw [if_neg h,List.filter_cons_of_neg (by simp [h])];rfl
theorem Zd6 (l:List Zd) {x:Zd} (h:x.kind ≠ 1):gives (l ++ [x])=gives l:=by
 rw [Zdd,if_neg h,List.append_nil]
theorem Zas (hm:m < w.cells.length) (Yx:∀ m,m < w.cells.length ->Ug (rowOf w m)) {c:Za} (hc:(look (rowOf w m) n).use=c.use):(∀ s,Uses (Xn w m n c) s↔Uses w s)∧gives (Xn w m n c).notes=gives w.notes:=by
 unfold Xn;cases hu:(c.use || (c.out !=0))
 ·simp only [Cq0];have hcu:c.use=false:=by cases h:c.use;rfl;rw [h] at hu;cases hu
  refine⟨fun s=>?_,?_⟩
  ·refine(show Uses _ s↔Uses (cw w m (rmv n (rowOf w m))) s from Iff.rfl).trans ?_;rw [ZtD hm Yx];by_cases h:s.name=n∧s.at_= (m:Int)
   ·rw [if_pos h,ZhT h,← KN hm,hc,hcu];simp
   ·rw [if_neg h]
  ·cases c.root
   ·simp only [Cq0];cases decide (c.from_ >=0)
    ·rfl
    ·rw [Cq1];exact Zd6 _ (show(2:Int) ≠ 1 by decide)
   ·rfl
 ·exact⟨fun s=>Iff.rfl,rfl⟩
theorem ZkE (hm:m < w.cells.length) (Yx:∀ m,m < w.cells.length ->Ug (rowOf w m)) (Zx x:Int):(∀ s,Uses (XA w m n Zx x) s↔Uses w s)∧gives (XA w m n Zx x).notes=gives w.notes:=by
 unfold XA;cases (Zx != (m:Int))
 ·rw [Cq0];exact⟨fun s=>KM hm Yx (n:=n) (d:= {look (rowOf w m) n with out:=ZP ((look (rowOf w m) n).out - x)}) (J2 _ _) rfl s,rfl⟩
 ·rw [Cq1];exact⟨fun s=>Zc1 _ s,Zd6 _ (show(2:Int) ≠ 1 by decide)⟩
theorem ZrF (hm:m < w.cells.length) (Yx:∀ m,m < w.cells.length ->Ug (rowOf w m)) (Zx x:Int):(XA w m n Zx x).cells.length=w.cells.length∧∀ k,k < w.cells.length ->Ug (rowOf (XA w m n Zx x) k):=by
 unfold XA;cases (Zx != (m:Int))
 ·rw [Cq0];obtain⟨U,_,_⟩:=Qv (n:=n) hm Yx (c:= {look (rowOf w m) n with out:=ZP ((look (rowOf w m) n).out - x)}) (J2 _ _);exact⟨U.len,U.Yx⟩
 ·rw [Cq1];exact⟨rfl,Yx⟩
theorem Zp5 (Yx:∀ m,m < w.cells.length ->Ug (rowOf w m)) {x:Zd} (hx:0 <=x.Zx∧x.Zx < (w.cells.length:Int)):(∀ s,Uses (Qs w x) s↔Uses w s∨(x.kind=1∧s= ⟨x.Zx,x.name⟩))∧gives (Qs w x).notes=gives w.notes:=by
 obtain⟨m,hmm⟩:∃ m,x.Zx.toNat=m:= ⟨_,rfl⟩
 have hm:m < w.cells.length:=by omega
 have hat:x.Zx= (m:Int):=by omega
 have hln:=J2 (rowOf w m) x.name;unfold Qs;rw [hmm];dsimp only
 have give:∀ d:Za,d.name=x.name ->d.use=true ->x.kind=1 ->∀ s,Uses (cw w m (put d (rowOf w m))) s↔Uses w s∨(x.kind=1∧s= ⟨x.Zx,x.name⟩):=by
  intro d hd hu hk s;rw [Zer hm Yx hd];by_cases h:s.name=x.name∧s.at_= (m:Int)
  ·rw [if_pos h,hat];exact⟨fun _=>.inr ⟨hk,ZhT h⟩,fun _=>hu⟩
  ·rw [if_neg h];refine⟨.inl,?_⟩;rintro(z | ⟨_,z⟩)
   ·exact z
   ·exact absurd ⟨by rw [z],by rw [z];exact hat⟩ h
 have Zui:x.kind ≠ 1 ->∀ s,(Uses w s∨(x.kind=1∧s= ⟨x.Zx,x.name⟩))↔Uses w s:=fun hk s=>⟨fun z=>z.elim id fun y=>absurd y.1 hk,.inl⟩
 cases k1:(x.kind==1)
 ·have hk:x.kind ≠ 1:=by simpa using k1
  rw [Cq0]
  have stl:∀ d:Za,d.name=x.name ->d.use= (look (rowOf w m) x.name).use ->(∀ s,Uses (Xn (cw w m (put d (rowOf w m))) m x.name d) s↔Uses w s)∧gives (Xn (cw w m (put d (rowOf w m))) m x.name d).notes=gives w.notes:=by
   intro d hd hu;obtain⟨U,_,_⟩:=Qv hm Yx hd;have hm2:m < (cw w m (put d (rowOf w m))).cells.length:=by rw [U.len];exact hm
   obtain⟨a,b⟩:=Zas (n:=x.name) hm2 (fun k hk=>U.Yx k (by rw [← U.len];exact hk)) (c:=d) (by rw [Uq hm (Yx m hm) hd]);exact⟨fun s=>(a s).trans (KM hm Yx hd hu s),b⟩
  cases k2:(x.kind==2)
  ·rw [Cq0];have hd:(⟨(look (rowOf w m) x.name).name,true,-1,0,ZP ((look (rowOf w m) x.name).out + 16),(look (rowOf w m) x.name).use⟩:Za).name=x.name:=hln;obtain⟨b,hb⟩:∃ b,cw w m (put ⟨(look (rowOf w m) x.name).name,true,-1,0,ZP ((look (rowOf w m) x.name).out + 16),(look (rowOf w m) x.name).use⟩ (rowOf w m))=b:= ⟨_,rfl⟩
   obtain⟨U,_,_⟩:=Qv hm Yx hd;have ub:=fun s=>KM hm Yx hd rfl s
   have gb:gives (cw w m (put ⟨(look (rowOf w m) x.name).name,true,-1,0,ZP ((look (rowOf w m) x.name).out + 16),(look (rowOf w m) x.name).use⟩ (rowOf w m))).notes=gives w.notes:=rfl;rw [hb] at U ub gb ⊢;have hm2:m < b.cells.length:=by rw [U.len];exact hm
   have ZoV:∀ k,k < b.cells.length ->Ug (rowOf b k):=fun k hk=>U.Yx k (by rw [← U.len];exact hk)
   cases decide ((look (rowOf w m) x.name).from_ >=0)
   ·simp only [Cq0];obtain⟨a1,a2⟩:=Zas (n:=x.name) hm2 ZoV (c:=look (rowOf b m) x.name) rfl;exact⟨fun s=>((a1 s).trans (ub s)).trans (Zui hk s).symm,a2.trans gb⟩
   ·simp only [Cq1];obtain⟨l3,s3⟩:=ZrF hm2 ZoV (n:=x.name) (look (rowOf w m) x.name).from_ (look (rowOf w m) x.name).has;obtain⟨b1,b2⟩:=ZkE hm2 ZoV (n:=x.name) (look (rowOf w m) x.name).from_ (look (rowOf w m) x.name).has;obtain⟨a1,a2⟩:=Zas (n:=x.name) (by rw [l3];exact hm2) (fun k hk=>s3 k (by rw [← l3];exact hk)) (c:=look (rowOf (XA b m x.name (look (rowOf w m) x.name).from_ (look (rowOf w m) x.name).has) m) x.name) rfl;exact⟨fun s=>(((a1 s).trans (b1 s)).trans (ub s)).trans (Zui hk s).symm,(a2.trans b2).trans gb⟩
  ·rw [Cq1];obtain⟨a,b⟩:=stl ⟨(look (rowOf w m) x.name).name,(look (rowOf w m) x.name).root,(look (rowOf w m) x.name).from_,(look (rowOf w m) x.name).has,ZP ((look (rowOf w m) x.name).out - x.w),(look (rowOf w m) x.name).use⟩ hln rfl;exact⟨fun s=>(a s).trans (Zui hk s).symm,b⟩
 ·have hk:x.kind=1:=by simpa using k1
  rw [Cq1];generalize ((!(look (rowOf w m) x.name).root && ((look (rowOf w m) x.name).from_==-1)) && (x.via !=x.Zx))=b1;generalize ((!(look (rowOf w m) x.name).root && decide ((look (rowOf w m) x.name).from_ >=0)) && ((look (rowOf w m) x.name).from_==x.via))=b2;cases b1
  ·simp only [Cq0];cases b2
   ·simp only [Cq0];have hd:(⟨(look (rowOf w m) x.name).name,(look (rowOf w m) x.name).root,(look (rowOf w m) x.name).from_,(look (rowOf w m) x.name).has,(look (rowOf w m) x.name).out,true⟩:Za).name=x.name:=hln;obtain⟨U,_,_⟩:=Qv hm Yx hd;have hm2:m < (cw w m (put ⟨(look (rowOf w m) x.name).name,(look (rowOf w m) x.name).root,(look (rowOf w m) x.name).from_,(look (rowOf w m) x.name).has,(look (rowOf w m) x.name).out,true⟩ (rowOf w m))).cells.length:=by rw [U.len];exact hm
    obtain⟨a,b⟩:=ZkE (n:=x.name) hm2 (fun k hk=>U.Yx k (by rw [← U.len];exact hk)) x.via x.w;exact⟨fun s=>(a s).trans (give _ hd rfl hk s),b⟩
   ·simp only [Cq1];exact⟨fun s=>give ⟨(look (rowOf w m) x.name).name,(look (rowOf w m) x.name).root,(look (rowOf w m) x.name).from_,ZP ((look (rowOf w m) x.name).has + x.w),(look (rowOf w m) x.name).out,true⟩ hln rfl hk s,rfl⟩
  ·simp only [Cq1];exact⟨fun s=>give ⟨(look (rowOf w m) x.name).name,(look (rowOf w m) x.name).root,x.via,x.w,(look (rowOf w m) x.name).out,true⟩ hln rfl hk s,rfl⟩
theorem ZfI {l:List Zd} {k:Nat} {x:Zd} (hx:l[k]? =some x):gives (l.take k ++ l.drop (k + 1))= (if x.kind=1 then(gives l).take (gives (l.take k)).length ++ (gives l).drop ((gives (l.take k)).length + 1) else gives l)∧(x.kind=1 ->(gives l)[(gives (l.take k)).length]? =some ⟨x.Zx,x.name⟩):=by
 obtain⟨hk,hkx⟩:=Li0 hx
 have Zan:l=l.take k ++ x::l.drop (k + 1):=by
  rw [← hkx,← List.drop_eq_getElem_cons hk,List.take_append_drop]
 have happ:∀ a b:List Zd,gives (a ++ b)=gives a ++ gives b:=by
  intro a b;unfold gives;rw [List.filter_append,List.map_append]
 have ZE6:∀ b:List Zd,gives (x::b)= (if x.kind=1 then [⟨x.Zx,x.name⟩] else []) ++ gives b:=by
  intro b;have:=happ [x] b;rw [List.singleton_append] at this;rw [this];congr 1;have:=Zdd [] x;rw [List.nil_append] at this;rw [this];rfl
 have hl:gives l=gives (l.take k) ++ ((if x.kind=1 then [⟨x.Zx,x.name⟩] else []) ++ gives (l.drop (k + 1))):=by
  conv=>lhs;rw [Zan]
  rw [happ,ZE6]
 rw [happ];by_cases h:x.kind=1
 ·rw [if_pos h] at hl ⊢;rw [hl];refine⟨?_,fun _=>?_⟩
  ·have key:∀ (A B:List Yp) (y:Yp),A ++ B= (A ++ ([y] ++ B)).take A.length ++ (A ++ ([y] ++ B)).drop (A.length + 1):=by
    intro A B y;rw [List.take_left,List.drop_append,List.drop_eq_nil_of_le (Nat.le_succ A.length),List.nil_append,Nat.add_sub_cancel_left]
    rfl
   exact key _ _ _
  ·rw [List.getElem?_append_right (Nat.le_refl _),Nat.sub_self];rfl
 ·rw [if_neg h] at hl ⊢;rw [hl];exact⟨rfl,fun z=>absurd z h⟩
theorem ZtE (k:Nat) (s:Yp):Uses (UF w k) s↔Uses w s:=Iff.rfl
theorem Zbg (R:Rt w) {d:Zo} (hf:Qp d w.cells.length=true) (he:YH w d d.at_.toNat=0):
 (d.ZT=1 ->(∀ s,Uses (Z7 w d) s↔Uses w s∨s= ⟨d.at_,w.names⟩)∧gives (Z7 w d).notes=gives w.notes)∧
 (d.ZT=2 ->(∀ s,Uses (Z7 w d) s↔Uses w s)∧gives (Z7 w d).notes=gives w.notes ++ [⟨d.Zx,d.name⟩]∧Uses w ⟨d.at_,d.name⟩)∧
 (d.ZT=3 ->(∀ s,Uses (Z7 w d) s↔Uses w s∧s ≠ ⟨d.at_,d.name⟩)∧gives (Z7 w d).notes=gives w.notes∧Uses w ⟨d.at_,d.name⟩)∧
 (d.ZT=4 ->(∀ s,Uses (Z7 w d) s↔Uses w s)∧gives (Z7 w d).notes=gives w.notes)∧
 (d.ZT=5 ->∃ x,w.notes[d.at_.toNat]? =some x∧(∀ s,Uses (Z7 w d) s↔Uses w s∨(x.kind=1∧s= ⟨x.Zx,x.name⟩))∧gives (Z7 w d).notes= (if x.kind=1 then(gives w.notes).take (gives (w.notes.take d.at_.toNat)).length ++ (gives w.notes).drop ((gives (w.notes.take d.at_.toNat)).length + 1) else gives w.notes)):=by
 have Yx:=R.Yx;unfold Z7;refine⟨fun k=>?_,fun k=>?_,fun k=>?_,fun k=>?_,fun k=>?_⟩
 ·rw [show(d.ZT==1)=true by simp [k],Cq1];rcases YR hf with⟨_,a⟩ | ⟨z,_⟩ | ⟨z,_⟩ | ⟨z,_⟩
  ·obtain⟨m,hm'⟩:∃ m,d.at_.toNat=m:= ⟨_,rfl⟩
   have hm:m < w.cells.length:=by omega
   have hat:d.at_= (m:Int):=by omega
   rw [hm'];refine⟨fun s=>?_,rfl⟩;refine(show Uses (ZeD w m) s↔Uses (cw w m (put (Zfz w) (rowOf w m))) s from Iff.rfl).trans ?_;rw [Zer hm Yx (n:=w.names) (d:=Zfz w) rfl];by_cases h:s.name=w.names∧s.at_= (m:Int)
   ·rw [if_pos h,hat];exact⟨fun _=>.inr (ZhT h),fun _=>rfl⟩
   ·rw [if_neg h];refine⟨.inl,?_⟩;rintro(z | z)
    ·exact z
    ·exact absurd ⟨by rw [z],by rw [z];exact hat⟩ h
  all_goals omega
 ·have b1:(d.ZT==1)=false:=by simp [k]
  have b2:(d.ZT==2)=true:=by simp [k]
  rw [b1,b2,Cq0,Cq1];rcases YR hf with⟨z,_⟩ | ⟨_,a,t,ne,nm⟩ | ⟨z,_⟩ | ⟨z,_⟩
  ·omega
  ·obtain⟨m,hm'⟩:∃ m,d.at_.toNat=m:= ⟨_,rfl⟩
   have hm:m < w.cells.length:=by omega
   have hat:d.at_= (m:Int):=by omega
   rw [hm'] at he ⊢;obtain⟨c,hc,_,hu⟩:=QL (by omega) (by omega) he;have hu:=hu (by omega);have hcn:=Qq hc;have hl:=QE hc;rw [hl];have hus:Uses w ⟨d.at_,d.name⟩:=by rw [hat,← KN hm,hl];exact hu
   unfold Zex;cases (decide (c.from_ >=0) && decide (c.has >=2))
   ·rw [Cq0];exact⟨fun s=>(Zc1 _ s).trans (KM hm Yx (n:=d.name) (by exact hcn) (by rw [hl]) s),(Zdd _ _).trans (by rw [if_pos rfl];rfl),hus⟩
   ·rw [Cq1];exact⟨fun s=>(Zc1 _ s).trans (KM hm Yx (n:=d.name) (by exact hcn) (by rw [hl]) s),(Zdd _ _).trans (by rw [if_pos rfl];rfl),hus⟩
  all_goals omega
 ·have b1:(d.ZT==1)=false:=by simp [k]
  have b2:(d.ZT==2)=false:=by simp [k]
  have b5:(d.ZT==5)=false:=by simp [k]
  have b3:(d.ZT==3)=true:=by simp [k]
  rw [b1,b2,b5,b3,Cq0,Cq0,Cq0,Cq1];rcases YR hf with⟨z,_⟩ | ⟨z,_⟩ | ⟨_,a,nm⟩ | ⟨z,_⟩
  ·omega
  ·omega
  ·obtain⟨m,hm'⟩:∃ m,d.at_.toNat=m:= ⟨_,rfl⟩
   have hm:m < w.cells.length:=by omega
   have hat:d.at_= (m:Int):=by omega
   rw [hm'] at he ⊢;obtain⟨c,hc,_,hu⟩:=QL (by omega) (by omega) he;have hu:=hu (by omega);have hcn:=Qq hc;have hl:=QE hc;rw [hl];have hus:Uses w ⟨d.at_,d.name⟩:=by rw [hat,← KN hm,hl];exact hu
   have hdn:(ZaG c).name=d.name:=hcn;obtain⟨U,_,_⟩:=Qv hm Yx hdn;have hm2:m < (cw w m (put (ZaG c) (rowOf w m))).cells.length:=by rw [U.len];exact hm
   unfold ZgX;obtain⟨a1,a2⟩:=Zas (n:=d.name) hm2 (fun k hk=>U.Yx k (by rw [← U.len];exact hk)) (c:=ZaG c) (by rw [Uq hm (Yx m hm) hdn]);refine⟨fun s=>(a1 s).trans ?_,a2,hus⟩;rw [Zer hm Yx hdn];by_cases h:s.name=d.name∧s.at_= (m:Int)
   ·rw [if_pos h,hat];refine⟨fun z=>(by cases z),fun z=>absurd (ZhT h) z.2⟩
   ·rw [if_neg h];refine⟨fun z=>⟨z,fun y=>h ⟨by rw [y],by rw [y];exact hat⟩⟩,fun z=>z.1⟩
  ·omega
 ·have b1:(d.ZT==1)=false:=by simp [k]
  have b2:(d.ZT==2)=false:=by simp [k]
  have b5:(d.ZT==5)=false:=by simp [k]
  have b3:(d.ZT==3)=false:=by simp [k]
  rw [b1,b2,b5,b3,Cq0,Cq0,Cq0,Cq0];rcases YR hf with⟨z,_⟩ | ⟨_,a,t,ne,nm⟩ | ⟨z,_⟩ | ⟨z,_⟩
  ·omega
  ·obtain⟨m,hm'⟩:∃ m,d.at_.toNat=m:= ⟨_,rfl⟩
   have hm:m < w.cells.length:=by omega
   rw [hm'] at he ⊢;obtain⟨c,hc,_,_⟩:=QL (by omega) (by omega) he;have hcn:=Qq hc;have hl:=QE hc;rw [hl];unfold goW;exact⟨fun s=>(Zc1 _ s).trans (KM hm Yx (n:=d.name) (by exact hcn) (by rw [hl];rfl) s),Zd6 _ (show(3:Int) ≠ 1 by decide)⟩
  all_goals omega
 ·have b1:(d.ZT==1)=false:=by simp [k]
  have b2:(d.ZT==2)=false:=by simp [k]
  have b5:(d.ZT==5)=true:=by simp [k]
  rw [b1,b2,b5,Cq0,Cq0,Cq1]
  have hlt:d.at_.toNat < w.notes.length:=by
   unfold YH at he;rw [b1,b5,Cq0,Cq1] at he;rcases YR hf with⟨z,_⟩ | ⟨z,_⟩ | ⟨z,_⟩ | ⟨_,z⟩
   ·omega
   ·omega
   ·omega
   ·by_cases h:d.at_ >= (w.notes.length:Int)
    ·rw [decide_eq_true h] at he;cases he
    ·omega
  obtain⟨x,hx⟩:∃ x,w.notes[d.at_.toNat]? =some x:= ⟨_,List.getElem?_eq_getElem hlt⟩
  refine⟨x,hx,?_⟩;rw [hx,Option.getD_some];have hxm:x ∈ w.notes:=List.mem_of_getElem? hx;obtain⟨h,H⟩:=R.rx.1.nm _ (R.nn x hxm);have hto:= (H.KA x (List.mem_append_right _ (List.mem_filter.2 ⟨hxm,by simp⟩))).1;obtain⟨a,b⟩:=Zp5 (w:=UF w d.at_.toNat) Yx hto;exact⟨fun s=>(a s).trans (by rw [ZtE]),b.trans (ZfI hx).1⟩
end
end Go.Proofs.Ytekpjgmhkkjhgaa
end
section
namespace Go.Proofs.Ytekpjgmhkkjhgaa
open Go.Lf
def less (l:List Yp) (t:Yp):List Yp:=l.filter fun x=>!(Zac x t)
theorem ZuE (l:List Yp) (t s:Yp):s ∈ less l t↔s ∈ l∧s ≠ t:=by
 unfold less;rw [List.mem_filter,QZ];simp
theorem Zv4 {t:Yp} {m:Model} {d:Zo} (ht:Yp.mk d.at_ d.name=t) (l0:List Yp) (hl:l0.length < 1000):∀ (k j i F':Nat) (v:List Yp),j + k=l0.length ->k < F' ->i <=j ->v.length=l0.length ->v.take i=less (l0.take j) t ->v.drop j=l0.drop j ->
 loop F' (ZiL m d) ((i:Int),(j:Int),v)=some ⟨less l0 t,m.ways⟩:=by
 intro k
 induction k with
 | zero=>
   intro j i F' v hj hF' hij hvl h1 h2;obtain⟨F',rfl⟩:=Ne0 (n:=F') (by omega);have hjl:j=l0.length:=by omega
   rw [Yi];simp only [ZiL];rw [decide_eq_false (by omega),Cq0,KV (by omega) (Nat.le_refl _),Bq0,Int.toNat_natCast];have hl2:((v.take v.length).drop i).length=v.length - i:=by simp
   have e:=KV (xs:=v.take i ++ List.replicate ((v.take v.length).drop i).length (Yp.mk 0 0)) (a:=0) (b:=i) (Nat.zero_le _) (by simp;omega);rw [show((0:Nat):Int)=0 from rfl] at e;rw [e,Bq0,List.drop_zero,List.take_append_of_le_length (by simp;omega),List.take_take,Nat.min_self,h1,hjl,List.take_length]
   rfl
 | succ k ih=>
   intro j i F' v hj hF' hij hvl h1 h2;obtain⟨F',rfl⟩:=Ne0 (n:=F') (by omega);have hlt:j < v.length:=by omega
   have ZE0:j < l0.length:=by omega
   have hx:v[j]? =l0[j]?:=by
    have:=congrArg (fun q=>q[0]?) h2
    simpa using this
   rw [Yi];simp only [ZiL];rw [decide_eq_true (by omega),Cq1,Z5,hx,List.getElem?_eq_getElem ZE0,Bq0,ht]
   have htk:less (l0.take (j + 1)) t=less (l0.take j) t ++ (if l0[j]=t then [] else [l0[j]]):=by
    unfold less;rw [List.take_succ,List.getElem?_eq_getElem ZE0,List.filter_append];congr 1;simp only [Option.toList_some,QZ];by_cases h:l0[j]=t
    ·rw [if_pos h,List.filter_cons_of_neg (by simp [h])];rfl
    ·rw [if_neg h,List.filter_cons_of_pos (by simp [h])];rfl
   have hd2:v.drop (j + 1)=l0.drop (j + 1):=by
    have:=congrArg (List.drop 1) h2
    simpa [List.drop_drop,Nat.add_comm] using this
   by_cases h:l0[j]=t
   ·rw [QZ,decide_eq_true h];simp only [Bool.not_true,Cq0];unfold Zf0;rw [Xd (by omega)];exact ih (j + 1) i F' v (by omega) (by omega) (by omega) hvl (by rw [htk,if_pos h,List.append_nil,h1]) hd2
   ·rw [QZ,decide_eq_false h];simp only [Bool.not_false,Cq1];rw [Z5,List.getElem?_eq_getElem (by omega:i < v.length),Bq0];unfold Zf0;rw [Xd (by omega),Xd (by omega)];simp only [JG,Int.toNat_natCast];refine ih (j + 1) (i + 1) F' _ (by omega) (by omega) (by omega) (by rw [List.length_set];exact hvl) ?_ ?_
    ·rw [htk,if_neg h,← h1,List.take_succ,List.getElem?_set_self (by omega),List.take_set_of_le (Nat.le_refl _)]
     rfl
    ·rw [List.drop_set_of_lt (by omega)];exact hd2
section
variable {w:Zb} {m:Model} {F:Nat}
theorem ZyY {l:List Yp} {k:Nat} (hk:k < l.length) (hl:l.length < 1000):ZvL l (k:Int) (ZP ((k:Int) + 1))=some (l.take k ++ l.drop (k + 1)):=by
 unfold ZvL;have e0:slL l 0 (k:Int)=some ((l.take k).drop 0):=KV (a:=0) (Nat.zero_le k) (by omega);rw [Xd (by omega),KV (by omega) (by omega),Bq0,e0,KV (by omega) (Nat.le_refl _)];have:((k:Int)== ((k + 1:Nat):Int))=false:=by simp;omega
 rw [this,Cq0];simp only [Bq0,List.drop_zero,List.take_length];rw [XK (by simp;omega) (by decide)]
 rfl
theorem Zqh (hF:1000 <=F) (R:Rt w) (f:Fits w m) {d:Zo} (hf:Qp d w.cells.length=true) (he:YH w d d.at_.toNat=0):∃ m',Zhc F m w d=some m'∧Fits (Z7 w d) m':=by
 obtain⟨hu,hw⟩:=f.small R;obtain⟨D1,D2,D3,D4,D5⟩:=Zbg R hf he;have hnt:=R.KA;unfold Zhc
 have kinds:d.ZT=1∨d.ZT=2∨d.ZT=3∨d.ZT=4∨d.ZT=5:=by
  rcases YR hf with⟨k,_⟩ | ⟨k,_⟩ | ⟨k,_⟩ | ⟨k,_⟩ <;> omega
 rcases kinds with k | k | k | k | k
 ·obtain⟨a,b⟩:=D1 k;rw [show(d.ZT==1)=true by simp [k],Cq1,XK (by simp;omega) (by decide),Bq0];refine⟨_,rfl,⟨fun s=>?_,?_,?_⟩⟩
  ·rw [a,List.mem_append,f.mem,List.mem_singleton]
  ·show(m.uses ++ [_]).Nodup;rw [List.nodup_append];refine⟨f.nd,by simp,fun x hx y hy e=>?_⟩;rw [List.mem_singleton] at hy;subst e;rw [hy] at hx;have:= ((f.mem _).1 hx).name R;unfold Yr at this;simp at this
  ·show m.ways=_;rw [b];exact f.ways
 ·obtain⟨a,b,_⟩:=D2 k;rw [show(d.ZT==1)=false by simp [k],show(d.ZT==2)=true by simp [k],Cq0,Cq1,XK (by simp;omega) (by decide),Bq0];refine⟨_,rfl,⟨fun s=>?_,f.nd,?_⟩⟩
  ·rw [a];exact f.mem s
  ·show m.ways ++ _=_;rw [b,f.ways]
 ·obtain⟨a,b,c⟩:=D3 k;rw [show(d.ZT==1)=false by simp [k],show(d.ZT==2)=false by simp [k],show(d.ZT==3)=true by simp [k],Cq0,Cq0,Cq1];have hmem:(⟨d.at_,d.name⟩:Yp) ∈ m.uses:= (f.mem _).2 c
  have e:=Xf m.uses (fun v (_:Unit)=>v) (Zf2 F m d) (fun k y s next=>bif Zac y ⟨d.at_,d.name⟩ then ZaX F m d (k:Int) else next ()) (fun _=>ZaX F m d (-1)) (by omega) (fun k y s next hy hk=>by
   simp only [Zf2,Z5,hy,hk,decide_true,Bq0,Cq1]) (fun s next=>by simp [Zf2]) (by omega:m.uses.length < F) ()
  rw [show loop F (Zf2 F m d) 0=_ from e];rcases Zdb (l:=m.uses) (i:=0) (s:= ()) (d:=fun _=>ZaX F m d (-1)) (g:=fun k (y:Yp) (_:Unit) next=>bif Zac y ⟨d.at_,d.name⟩ then ZaX F m d (k:Int) else next ()) (fun k=>ZaX F m d (k:Int)) (fun y=>Zac y ⟨d.at_,d.name⟩) (fun _ _ _ _=>rfl) with⟨j,y,h1,h2,h3⟩ | ⟨h1,h2⟩
  ·rw [h3,Nat.zero_add];have hy:=List.find?_some h1;rw [QZ,decide_eq_true_eq] at hy;obtain⟨hj,hjy⟩:=Li0 h2
   have Zan:m.uses=m.uses.take j ++ y::m.uses.drop (j + 1):=by
    rw [← hjy,← List.drop_eq_getElem_cons hj,List.take_append_drop]
   have ZI4:y ∉ m.uses.take j:=by
    intro z;have:=f.nd;rw [Zan,List.nodup_append] at this;exact this.2.2 y z y (by simp) rfl
   unfold ZaX;rw [show((j:Int)==-1)=false by simp,Cq0,Xd (by omega)];refine⟨_,Zv4 rfl m.uses (by omega) (m.uses.length - (j + 1)) (j + 1) j F m.uses (by omega) (by omega) (by omega) rfl ?_ rfl,⟨fun s=>?_,?_,?_⟩⟩
   ·unfold less;rw [List.take_succ,h2,List.filter_append]
    have q1:(m.uses.take j).filter (fun x=>!(Zac x ⟨d.at_,d.name⟩))=m.uses.take j:=by
     rw [List.filter_eq_self];intro x hx;rw [QZ,← hy];have:x ≠ y:=fun z=>ZI4 (z ▸ hx)
     simp [this]
    rw [q1];simp only [Option.toList_some];rw [List.filter_cons_of_neg (by rw [QZ,hy];simp)];simp
   ·rw [a,ZuE,f.mem]
   ·exact List.Pairwise.filter _ f.nd
   ·show m.ways=_;rw [b];exact f.ways
  ·exfalso;rw [List.find?_eq_none] at h1;have:=h1 _ hmem;rw [QZ] at this;simp at this
 ·obtain⟨a,b⟩:=D4 k;rw [show(d.ZT==1)=false by simp [k],show(d.ZT==2)=false by simp [k],show(d.ZT==3)=false by simp [k],show(d.ZT==5)=false by simp [k],Cq0,Cq0,Cq0,Cq0];exact⟨_,rfl,⟨fun s=>by rw [a];exact f.mem s,f.nd,by rw [b];exact f.ways⟩⟩
 ·obtain⟨x,hx,a,b⟩:=D5 k;rw [show(d.ZT==1)=false by simp [k],show(d.ZT==2)=false by simp [k],show(d.ZT==3)=false by simp [k],show(d.ZT==5)=true by simp [k],Cq0,Cq0,Cq0,Cq1];obtain⟨hk,_⟩:=Li0 hx;obtain⟨j,hj⟩:∃ j,d.at_.toNat=j:= ⟨_,rfl⟩
  rw [hj] at hx b hk;have h0:0 <=d.at_:=by rcases YR hf with⟨z,_⟩ | ⟨z,_⟩ | ⟨z,_⟩ | ⟨_,z⟩ <;> omega
  have hat:d.at_= (j:Int):=by omega
  rw [hat,Z5,hx,Bq0];obtain⟨g1,g2⟩:=ZfI hx;by_cases h:x.kind=1
  ·rw [show(x.kind !=1)=false by simp [h],Cq0];have e0:=KV (xs:=w.notes) (a:=0) (b:=j) (Nat.zero_le j) (by omega);rw [List.drop_zero] at e0;rw [show slL w.notes 0 (j:Int)=some (w.notes.take j) from e0,Bq0];have g2:=g2 h;rw [← f.ways] at g2;obtain⟨q,hq⟩:∃ q,(gives (w.notes.take j)).length=q:= ⟨_,rfl⟩
   rw [hq] at g2 b;obtain⟨hql,_⟩:=Li0 g2
   have e:=Xf (w.notes.take j) (fun v (s:Int)=>(s,v)) (Zf1 F m (w.notes.take j)) (fun _ c s nx=>nx (bif c.kind==1 then ZP (s + 1) else s)) (fun s=>(bif decide (s < (m.ways.length:Int)) then(Ym m.ways s).bind fun ZrU=>(ZjD F m.uses ZrU).bind fun x159=>(bif(!x159) then(Ym m.ways s).bind fun x160=>(app 16 m.uses [x160]).bind fun ZoH=>(ZcD m s) ZoH else(ZcD m s) m.uses) else(ZbP) (m.uses,m.ways))) (by rw [List.length_take];omega) (fun k y s nx hy hk=>by
    simp only [Zf1,Z5,hy,hk,decide_true,Cq1,Bq0];cases (y.kind==1) <;> rfl) (fun s nx=>by
    simp only [Zf1];rw [decide_eq_false (by omega),Cq0]) (by rw [List.length_take];omega:(w.notes.take j).length < F) 0
   rw [show loop F (Zf1 F m (w.notes.take j)) (0,0)=_ from e];rw [(J3 (fun _ (c:Zd) (s:Int)=>bif c.kind==1 then ZP (s + 1) else s) (fun _ _=>True) trivial (fun _ _ _ _ _ _=>⟨rfl,trivial⟩)).1,U1];have hc:=ZiV (fun c:Zd=>c.kind==1) (w.notes.take j) 0 (by rw [List.length_take];omega)
   have hcq:(w.notes.take j).countP (fun c:Zd=>c.kind==1)=q:=by
    rw [← hq];unfold gives;rw [List.length_map,List.countP_eq_length_filter]
   rw [hcq,Nat.zero_add] at hc;rw [show((0:Nat):Int)=0 from rfl] at hc;rw [hc,decide_eq_true (by omega),Cq1,Z5,g2,Bq0,WN hF (by omega),Bq0]
   have fin:∀ u:List Yp,ZcD m (q:Int) u=some ⟨u,m.ways.take q ++ m.ways.drop (q + 1)⟩:=by
    intro u;unfold ZcD;rw [ZyY hql (by omega),Bq0];rfl
   have ZzW:m.ways.take q ++ m.ways.drop (q + 1)=gives (Z7 w d).notes:=by
    rw [b,if_pos h,f.ways]
   by_cases hin:(⟨x.Zx,x.name⟩:Yp) ∈ m.uses
   ·rw [decide_eq_true hin];simp only [Bool.not_true,Cq0];refine⟨_,fin _,⟨fun s=>?_,f.nd,ZzW⟩⟩;rw [a,← f.mem];refine⟨.inl,?_⟩;rintro(z | ⟨_,z⟩)
    ·exact z
    ·rw [z];exact hin
   ·rw [decide_eq_false hin];simp only [Bool.not_false,Cq1,Bq0];rw [XK (by simp;omega) (by decide),Bq0];refine⟨_,fin _,⟨fun s=>?_,?_,ZzW⟩⟩
    ·show s ∈ m.uses ++ [_]↔_;rw [a,List.mem_append,f.mem,List.mem_singleton];exact⟨fun z=>z.imp id fun y=>⟨h,y⟩,fun z=>z.imp id fun y=>y.2⟩
    ·show(m.uses ++ [_]).Nodup;rw [List.nodup_append];refine⟨f.nd,by simp,fun u hu y hy e=>?_⟩;rw [List.mem_singleton] at hy;subst e;rw [hy] at hu;exact hin hu
  ·rw [show(x.kind !=1)=true by simp [h],Cq1];refine⟨_,rfl,⟨fun s=>?_,f.nd,?_⟩⟩
   ·rw [a,← f.mem];exact⟨.inl,fun z=>z.elim id fun y=>absurd y.1 h⟩
   ·rw [b,if_neg h];exact f.ways
end
end Go.Proofs.Ytekpjgmhkkjhgaa
end
section
namespace Go.Proofs.Ytekpjgmhkkjhgaa
open Go.Lf
def G (w:Zb) (n a:Int):Int:=Uf (YX w n) (Jh w n) a
section
variable {w w':Zb} {m:Nat} {n:Int}
theorem ZHx (hm:m < w.cells.length) (Yx:∀ m,m < w.cells.length ->Ug (rowOf w m)) {d:Za} (hd:d.name=n) (k a:Int):G (cw w m (put d (rowOf w m))) k a=if k=n∧a= (m:Int) then d.out + YQ (YT a) (Jh w n) else G w k a:=by
 obtain⟨U,V1,V2⟩:=Qv hm Yx hd;unfold G Uf;by_cases h:k=n
 ·subst h;rw [V1,V2];by_cases e:a= (m:Int)
  ·rw [if_pos ⟨rfl,e⟩,e,WA];rfl
  ·rw [if_neg (fun z=>e z.2),Zau e]
 ·rw [if_neg (fun z=>h z.1),U.oc _ h,U.on _ h]
theorem Zj4 (hm:m < w.cells.length) (n:Int):Qf (YX w n (m:Int))= (look (rowOf w m) n).out:=by
 rw [Jz hm,Xb];unfold look;cases UI (rowOf w m) n <;> rfl
theorem ZmA (hm:m < w.cells.length) (Yx:∀ m,m < w.cells.length ->Ug (rowOf w m)) {d:Za} (hd:d.name=n) {x:Int} (hx:0 <=x) (hu:d.out <= (look (rowOf w m) n).out + x) (k a:Int):G (cw w m (put d (rowOf w m))) k a <=G w k a + if k=n∧a= (m:Int) then x else 0:=by
 rw [ZHx hm Yx hd];by_cases h:k=n∧a= (m:Int)
 ·rw [if_pos h,if_pos h,h.1,h.2];unfold G Uf;rw [Zj4 hm];omega
 ·rw [if_neg h,if_neg h];omega
theorem ZwN (x:Zd) (k a:Int):G (sent w x) k a=G w k a + if x.name=k then YT a x else 0:=by
 unfold G Uf;have h1:YX (sent w x) k=YX w k:=rfl
 have h2:Jh (sent w x) k=Jh w k ++ (if x.name=k then [x] else []):=by
  unfold Jh sent;rw [List.filter_append];congr 1;by_cases h:x.name=k
  ·rw [if_pos h,List.filter_cons_of_pos (by simp [h])];rfl
  ·rw [if_neg h,List.filter_cons_of_neg (by simp [h])];rfl
 rw [h1,h2,Xy];by_cases h:x.name=k
 ·rw [if_pos h,if_pos h,QB];omega
 ·rw [if_neg h,if_neg h];simp [YQ]
theorem ZhI {x:Zd} (h:x.kind ≠ 3) (k a:Int):G (sent w x) k a=G w k a:=by
 rw [ZwN];have:YT a x=0:=by unfold YT;rw [if_neg (fun z=>h z.1)]
 rw [this];split <;> omega
theorem ZHw (hm:m < w.cells.length) (Yx:∀ m,m < w.cells.length ->Ug (rowOf w m)) (ho:(look (rowOf w m) n).out=0) (k a:Int):G (cw w m (rmv n (rowOf w m))) k a=G w k a:=by
 obtain⟨U,V1,V2⟩:=Zk0 (n:=n) hm Yx;unfold G Uf;by_cases h:k=n
 ·subst h;rw [V1,V2];by_cases e:a= (m:Int)
  ·rw [e,WA,Zj4 hm,ho];rfl
  ·rw [Zau e]
 ·rw [U.oc _ h,U.on _ h]
theorem Zeu (hm:m < w.cells.length) (Yx:∀ m,m < w.cells.length ->Ug (rowOf w m)) {c:Za} (hc:(look (rowOf w m) n).out=c.out) (k a:Int):G (Xn w m n c) k a=G w k a:=by
 unfold Xn;cases hu:(c.use || (c.out !=0))
 ·simp only [Cq0]
  have hco:c.out=0:=by
   rw [Bool.or_eq_false_iff] at hu
   simpa using hu.2
  rw [← ZHw hm Yx (hc.trans hco) k a];cases c.root
  ·simp only [Cq0];cases decide (c.from_ >=0)
   ·rfl
   ·rw [Cq1];exact ZhI (w:=cw w m (rmv n (rowOf w m))) (x:= ⟨2,c.from_,n,0,c.has⟩) (show(2:Int) ≠ 3 by decide) k a
  ·rfl
 ·rfl
theorem Zwl (hm:m < w.cells.length) (Yx:∀ m,m < w.cells.length ->Ug (rowOf w m)) {Zx x:Int} (hx:0 <=x∧x <=1000000) (ho:-16 <= (look (rowOf w m) n).out∧(look (rowOf w m) n).out <=2000000) (k a:Int):G (XA w m n Zx x) k a <=G w k a:=by
 unfold XA;cases (Zx != (m:Int))
 ·rw [Cq0]
  have:=ZmA hm Yx (n:=n) (d:= {look (rowOf w m) n with out:=ZP ((look (rowOf w m) n).out - x)}) (J2 _ _) (x:=0) (by omega) (by
   show ZP ((look (rowOf w m) n).out - x) <=_;rw [YP (by omega) (by omega)];omega) k a
  split at this <;> omega
 ·rw [Cq1,ZhI (show(2:Int) ≠ 3 by decide)];omega
theorem Zug (a:Int) (x:Zd):YT a x <=16:=by unfold YT;split <;> omega
theorem ZHy {k:Nat} {x:Zd} (hk:w.notes[k]? =some x) (n a:Int):G w n a=G (UF w k) n a + if x.name=n then YT a x else 0:=by
 obtain⟨hkl,hkx⟩:=Li0 hk
 have Zan:w.notes=w.notes.take k ++ x::w.notes.drop (k + 1):=by
  rw [← hkx,← List.drop_eq_getElem_cons hkl,List.take_append_drop]
 unfold G Uf;have h1:YX (UF w k) n=YX w n:=rfl
 have h2:YQ (YT a) (Jh w n)=YQ (YT a) (Jh (UF w k) n) + if x.name=n then YT a x else 0:=by
  unfold Jh UF;dsimp only;rw [List.filter_append,Xy]
  conv=>lhs;rw [Zan]
  rw [List.filter_append,Xy];by_cases h:x.name=n
  ·rw [if_pos h,List.filter_cons_of_pos (by simp [h])];simp only [YQ];omega
  ·rw [if_neg h,List.filter_cons_of_neg (by simp [h])];omega
 rw [h1,h2];omega
theorem ZrB (R:Rt w) {k:Nat} {x:Zd} (hk:w.notes[k]? =some x) (n a:Int):G (Qs (UF w k) x) n a <=G w n a:=by
 obtain⟨R0,M0⟩:=Zk5 R hk;rw [ZHy hk n a];obtain⟨v,hv⟩:∃ v,UF w k=v:= ⟨_,rfl⟩
 rw [hv] at R0 M0 ⊢;have hn:=R0.nn x (by simp);have hfl:∀ y ∈ [x],y.name=x.name:=by simp
 obtain⟨h,H⟩:=R0.nm x.name hn;rw [KH hfl] at H;have hMx:=M0 x.name hn;rw [KH hfl] at hMx;have H:Nm v.cells.length x.name (YX v x.name) (x::Jh v x.name) h:=H;have hx:=H.KA x (by simp);have hxw:= (H.most hMx).2 x (by simp);obtain⟨m,hm'⟩:∃ m,x.Zx.toNat=m:= ⟨_,rfl⟩
 have hat:x.Zx= (m:Int):=by omega
 have hm:m < v.cells.length:=by omega
 have S:=ZgL H hMx x.Zx;have K5:look (rowOf v m) x.name=ZaA x.name (YX v x.name) x.Zx:=by rw [ZfF hm,hat]
 rw [← K5] at S;have Yx:=R0.Yx;have hln:=J2 (rowOf v m) x.name;unfold Qs;rw [hm'];dsimp only;obtain⟨c,hc⟩:∃ c,look (rowOf v m) x.name=c:= ⟨_,rfl⟩
 rw [hc] at S hln ⊢;cases k1:(x.kind==1)
 ·rw [Cq0];cases k2:(x.kind==2)
  ·rw [Cq0]
   have k3:x.kind=3:=by
    rcases hx.2.2.2 with z | z | z
    ·rw [z.1] at k1;cases k1
    ·rw [z.1] at k2;cases k2
    ·exact z.1
   have hd:(⟨c.name,true,-1,0,ZP (c.out + 16),c.use⟩:Za).name=x.name:=hln;have ho:ZP (c.out + 16)=c.out + 16:=YP (by omega) (by omega);have g1:=ZmA hm Yx hd (x:=16) (by omega) (by show ZP (c.out + 16) <=_;rw [ho,hc];omega) n a;have hlk:=Uq hm (Yx m hm) hd;obtain⟨U,_,_⟩:=Qv hm Yx hd;obtain⟨b,hb⟩:∃ b,cw v m (put ⟨c.name,true,-1,0,ZP (c.out + 16),c.use⟩ (rowOf v m))=b:= ⟨_,rfl⟩
   rw [hb] at U g1 hlk ⊢;have hm2:m < b.cells.length:=by rw [U.len];exact hm
   have ZoV:∀ k,k < b.cells.length ->Ug (rowOf b k):=fun k hk=>U.Yx k (by rw [← U.len];exact hk)
   have ZK9:(if n=x.name∧a= (m:Int) then(16:Int) else 0) <=if x.name=n then YT a x else 0:=by
    by_cases e:n=x.name∧a= (m:Int)
    ·rw [if_pos e,if_pos e.1.symm,Zhl k3,if_pos (by rw [hat];exact e.2.symm)];omega
    ·rw [if_neg e];split
     ·exact KC a x
     ·omega
   cases decide (c.from_ >=0)
   ·simp only [Cq0];rw [Zeu hm2 ZoV (n:=x.name) (c:=look (rowOf b m) x.name) rfl];omega
   ·simp only [Cq1];obtain⟨l3,s3⟩:=ZrF hm2 ZoV (n:=x.name) c.from_ c.has;have g2:=Zwl hm2 ZoV (n:=x.name) (Zx:=c.from_) (x:=c.has) (by omega) (by rw [hlk];show -16 <=ZP (c.out + 16)∧ZP (c.out + 16) <=2000000;rw [ho];omega) n a;rw [Zeu (by rw [l3];exact hm2) (fun k hk=>s3 k (by rw [← l3];exact hk)) (n:=x.name) (c:=look (rowOf (XA b m x.name c.from_ c.has) m) x.name) rfl];omega
  ·rw [Cq1];have hd:(⟨c.name,c.root,c.from_,c.has,ZP (c.out - x.w),c.use⟩:Za).name=x.name:=hln;have g1:=ZmA hm Yx hd (x:=0) (by omega) (by show ZP (c.out - x.w) <=_;rw [YP (by omega) (by omega),hc];omega) n a;have hlk:=Uq hm (Yx m hm) hd;obtain⟨U,_,_⟩:=Qv hm Yx hd;rw [Zeu (by rw [U.len];exact hm) (fun k hk=>U.Yx k (by rw [← U.len];exact hk)) (n:=x.name) (by rw [hlk])];have:=KC a x;split at g1 <;> split <;> omega
 ·rw [Cq1]
  have hng:0 <= (if x.name=n then YT a x else 0):=by
   have:=KC a x;split <;> omega
  have ZAX:∀ d:Za,d.name=x.name ->d.out=c.out ->G (cw v m (put d (rowOf v m))) n a <=G v n a:=fun d hd ho=>by
   have:=ZmA hm Yx hd (x:=0) (by omega) (by rw [ho,hc];omega) n a;split at this <;> omega
  generalize ((!c.root && (c.from_==-1)) && (x.via !=x.Zx))=b1;generalize ((!c.root && decide (c.from_ >=0)) && (c.from_==x.via))=b2;cases b1
  ·simp only [Cq0];cases b2
   ·simp only [Cq0];have hd:(⟨c.name,c.root,c.from_,c.has,c.out,true⟩:Za).name=x.name:=hln;have hlk:=Uq hm (Yx m hm) hd;obtain⟨U,_,_⟩:=Qv hm Yx hd;have g1:=ZAX _ hd rfl;have g2:=Zwl (by rw [U.len];exact hm) (fun k hk=>U.Yx k (by rw [← U.len];exact hk)) (n:=x.name) (Zx:=x.via) (x:=x.w) (by omega) (by rw [hlk];show -16 <=c.out∧c.out <=2000000;omega) n a;omega
   ·simp only [Cq1];have:=ZAX ⟨c.name,c.root,c.from_,ZP (c.has + x.w),c.out,true⟩ hln rfl;omega
  ·simp only [Cq1];have:=ZAX ⟨c.name,c.root,x.via,x.w,c.out,true⟩ hln rfl;omega
theorem Zwb (R:Rt w) {d:Zo} (h1:d.ZT ≠ 1) (h5:d.ZT ≠ 5) (hm:m < w.cells.length) (he:YH w d m=0):∃ c,look (rowOf w m) d.name=c∧c.name=d.name∧-16 <=c.out∧c.out <=1000000:=by
 obtain⟨c,hc,_,_⟩:=QL h1 h5 he;obtain⟨_,e,hn⟩:=R.Qy hm hc;obtain⟨h,H,Mx⟩:=R.nm _ hn;have S:= (H.most Mx).1 _ c e;exact⟨c,QE hc,Qq hc,S.1,S.2.1⟩
theorem Zv3 (R:Rt w) {d:Zo} (hf:Qp d w.cells.length=true) (he:YH w d d.at_.toNat=0) (n a:Int):G (Z7 w d) n a <=G w n a + 16:=by
 have Yx:=R.Yx;obtain⟨m,hm'⟩:∃ m,d.at_.toNat=m:= ⟨_,rfl⟩
 have he0:=he;unfold Z7;rw [hm'] at he ⊢;rcases YR hf with⟨k,a0⟩ | ⟨k,a0,t0,ne,nm⟩ | ⟨k,a0,nm⟩ | ⟨k,a0⟩
 ·rw [show(d.ZT==1)=true by simp [k],Cq1];have hm:m < w.cells.length:=by omega
  have e:G (ZeD w m) n a=G (cw w m (put (Zfz w) (rowOf w m))) n a:=rfl;rw [e]
  have hnone:(look (rowOf w m) w.names).out=0:=by
   unfold look;cases h:UI (rowOf w m) w.names with
   | none=>rfl
   | some c=>
     exfalso;have:=R.rx.1.range m hm c (ZbM h);have:=Qq h;omega
  have:=ZmA hm Yx (n:=w.names) (d:=Zfz w) rfl (x:=0) (by omega) (by rw [hnone];exact Int.le_refl _) n a;split at this <;> omega
 ·have hm:m < w.cells.length:=by omega
  have q1:d.ZT ≠ 1:=by omega
  have q5:d.ZT ≠ 5:=by omega
  obtain⟨c,hl,hcn,o1,o2⟩:=Zwb R q1 q5 hm he;rw [hl];by_cases k2:d.ZT=2
  ·rw [show(d.ZT==1)=false by simp [k2],show(d.ZT==2)=true by simp [k2],Cq0,Cq1];unfold Zex;cases (decide (c.from_ >=0) && decide (c.has >=2))
   ·rw [Cq0,ZhI (show(1:Int) ≠ 3 by decide)];have:=ZmA hm Yx (n:=d.name) (d:= ⟨c.name,c.root,c.from_,c.has,ZP (c.out + 16),c.use⟩) hcn (x:=16) (by omega) (by show ZP (c.out + 16) <=_;rw [YP (by omega) (by omega),hl];omega) n a;split at this <;> omega
   ·rw [Cq1,ZhI (show(1:Int) ≠ 3 by decide)];have:=ZmA hm Yx (n:=d.name) (d:= ⟨c.name,c.root,c.from_,ZP (c.has - ZP (c.has.tdiv 2)),c.out,c.use⟩) hcn (x:=0) (by omega) (by rw [hl];show c.out <=_;omega) n a;split at this <;> omega
  ·have k4:d.ZT=4:=k.resolve_left k2;rw [show(d.ZT==1)=false by simp [k4],show(d.ZT==2)=false by simp [k4],show(d.ZT==5)=false by simp [k4],show(d.ZT==3)=false by simp [k4],Cq0,Cq0,Cq0,Cq0];unfold goW;rw [ZwN];have:=ZmA hm Yx (n:=d.name) (d:=goC c d.Zx) hcn (x:=0) (by omega) (by rw [hl];show c.out <=_;omega) n a;have:=Zug a ⟨3,d.Zx,d.name,0,16⟩;split at * <;> split <;> omega
 ·have hm:m < w.cells.length:=by omega
  have q1:d.ZT ≠ 1:=by omega
  have q5:d.ZT ≠ 5:=by omega
  obtain⟨c,hl,hcn,o1,o2⟩:=Zwb R q1 q5 hm he;rw [hl];rw [show(d.ZT==1)=false by simp [k],show(d.ZT==2)=false by simp [k],show(d.ZT==5)=false by simp [k],show(d.ZT==3)=true by simp [k],Cq0,Cq0,Cq0,Cq1];unfold ZgX;have hd:(ZaG c).name=d.name:=hcn;have hlk:=Uq hm (Yx m hm) hd;obtain⟨U,_,_⟩:=Qv hm Yx hd;rw [Zeu (by rw [U.len];exact hm) (fun k hk=>U.Yx k (by rw [← U.len];exact hk)) (n:=d.name) (by rw [hlk])];have:=ZmA hm Yx hd (x:=0) (by omega) (by rw [hl];show c.out <=_;omega) n a;split at this <;> omega
 ·rw [show(d.ZT==1)=false by simp [k],show(d.ZT==2)=false by simp [k],show(d.ZT==5)=true by simp [k],Cq0,Cq0,Cq1];obtain⟨x,hx,_⟩:= (Zbg R hf he0).2.2.2.2 k;rw [hm'] at hx;rw [hx,Option.getD_some];have:=ZrB R hx n a;omega
end
end Go.Proofs.Ytekpjgmhkkjhgaa
end
