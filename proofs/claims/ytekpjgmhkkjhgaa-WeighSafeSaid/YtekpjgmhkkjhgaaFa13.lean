/- Safe Part 13 of the proof. -/
import Derived.Test.YtekpjgmhkkjhgaaFa12
set_option linter.all false
section
namespace Go.Proofs.Ytekpjgmhkkjhgaa
open Go.Lf
theorem Zpn {α:Type} [Inhabited α] (f:α ->Int) {l:List α} (h:∀ k x,l[k]? =some x ->0 < k ->f (Qu l k) < f x):l.Pairwise fun a b=>f a < f b:=by
 rw [List.pairwise_iff_getElem]
 have key:∀ (j i:Nat) (hi:i < l.length) (hj:j < l.length),i < j ->f l[i] < f l[j]:=by
  intro j
  induction j with
  | zero=>intro i hi hj h;omega
  | succ j ih=>
    intro i hi hj hij;have q:=h (j + 1) l[j + 1] (by simp [hj]) (by omega)
    have e:Qu l (j + 1)=l[j]'(by omega):=by
     unfold Qu;rw [Nat.add_sub_cancel,List.getElem?_eq_getElem (by omega)];rfl
    rw [e] at q;by_cases z:i=j
    ·subst z;exact q
    ·have:=ih i hi (by omega) (by omega);omega
 exact fun i j hi hj hij=>key j i hi hj hij
theorem Zpo {α:Type} [Inhabited α] (f:α ->Int) {l:List α} (h:l.Pairwise fun a b=>f a < f b) {k:Nat} {x:α} (hk:l[k]? =some x) (h0:0 < k):f (Qu l k) < f x:=by
 rw [List.pairwise_iff_getElem] at h;obtain⟨hl,rfl⟩:=List.getElem?_eq_some_iff.1 hk
 have e:Qu l k=l[k - 1]'(by omega):=by
  unfold Qu;rw [List.getElem?_eq_getElem (by omega)];rfl
 rw [e];exact h _ _ _ _ (by omega)
theorem ZaJ {b:Int}:∀ {l:List Int} {a:Int},l.Pairwise (· < ·) ->(∀ x ∈ l,a <=x∧x < b) ->a <=b ->a + (l.length:Int) <=b
 | [],a,_,_,h=>by simp;exact h
 | x::l,a,p,hr,h=>by
   rw [List.pairwise_cons] at p;have h0:=hr x (by simp);have:=ZaJ (l:=l) (a:=x + 1) (b:=b) p.2 (fun y hy=>by have h1:=p.1 y hy;have h2:=hr y (by simp [hy]);omega) (by omega);simp only [List.length_cons];omega
theorem Zdt {α:Type} {c:Nat ->α ->Bool} {l:List α} (h:∀ k x,l[k]? =some x ->c k x=false):anyI c 0 l=false:=by
 rw [← Bool.not_eq_true,Zb8];rintro⟨k,x,h1,h2⟩;rw [Nat.zero_add,h k x h1] at h2;cases h2
theorem Zwr {α:Type} {c:Nat ->α ->Bool} {l:List α} (h:anyI c 0 l=false) {k:Nat} {x:α} (hk:l[k]? =some x):c k x=false:=by
 rw [← Bool.not_eq_true,Zb8] at h;cases e:c k x with
 | false=>rfl
 | true=>exact absurd ⟨k,x,hk,by rw [Nat.zero_add];exact e⟩ h
section
variable {w:Zb} {n:Int}
theorem Zuz {m:Nat} (hm:m < w.cells.length) {c:Za} (hc:c ∈ rowOf w m):∃ k:Nat,w.cells[m]? =some (rowOf w m)∧(rowOf w m)[k]? =some c:=by
 obtain⟨k,hk⟩:=List.getElem?_of_mem hc;exact⟨k,QK hm,hk⟩
theorem ZkE {m:Nat} (hm:m < w.cells.length) (n:Int):ZkF w m n=ZbT w m n + JY (YU w n m):=by
 rw [Jc hm];unfold ZkF JY;cases cellOf w m n with
 | none=>rfl
 | some c=>dsimp only;cases c.root <;> rfl
theorem Znm {m:Int} {x:Zd} (hx:x ∈ Q8 w n) (k:x.kind=3) (h:x.Zv=m):1 <=ZbT w m n:=by
 unfold Q8 at hx;rw [List.mem_filter] at hx;refine List.countP_pos_iff.2 ⟨x,hx.1,?_⟩;simp [k,h];simpa using hx.2
theorem Rt.of (h:ZaW w=true):Rt w:=by
 unfold ZaW at h;rw [Bool.and_eq_true] at h;obtain⟨hs,hn⟩:=h;have sh:=Zfz hs;unfold KS at hs;simp only [Bool.and_eq_true,Bool.not_eq_true'] at hs;obtain⟨s1,s2,s3,s4⟩:=hs
 have hfr:∀ k x,w.freed[k]? =some x ->(0 <=x∧x < w.names)∧(0 < k ->Qu w.freed k < x):=by
  intro k x hk;have:=Zwr s2 hk;unfold KC at this;simp at this;exact⟨this.1,fun h0=>this.2 h0⟩
 refine⟨sh.c1,sh.c6,sh.n0,sh.n12,sh.notes,Zpn (fun x=>x) (fun k x hk h0=>(hfr k x hk).2 h0),?_,?_,?_,?_,?_⟩
 ·intro x hx;obtain⟨k,hk⟩:=List.getElem?_of_mem hx;exact(hfr k x hk).1
 ·intro m hm;exact Zpn (fun c:Za=>c.name) (fun k c hk h0=>(sh.cell m _ k c (QK hm) hk).2 h0)
 ·intro m hm c hc;obtain⟨k,r1,r2⟩:=Zuz hm hc;have:=ZaH (sh.cell m _ k c r1 r2).1;exact⟨this.1,this.2.2.1⟩
 ·exact fun x hx=>(Zaw (sh.note x hx)).2.1
 ·intro n hnn
  have hr:0 <=n∧n < w.names:=by
   have:=hnn;unfold Yl at this;simp at this;exact this.1
  rw [Bool.not_eq_true',List.any_eq_false] at hn
  have hro:Wm w n=true:=by
   have:=hn n.toNat (List.mem_range.2 (by omega));rw [show((n.toNat:Nat):Int)=n by omega,hnn] at this;cases e:Wm w n with
   | true=>rfl
   | false=>rw [e] at this;exact absurd rfl this
  unfold Wm at hro;simp only [Bool.and_eq_true,Bool.not_eq_true',beq_iff_eq] at hro;obtain⟨h1,h2,h3⟩:=hro;rw [List.any_eq_false] at h1
  have hbad:∀ m:Nat,m < w.cells.length ->J4 (YU w n) (Q8 w n) m=Jb w.cells.length (YU w n) (Q8 w n) m∧J4 (YU w n) (Q8 w n) m <=1000000:=by
   intro m hm;have:=h1 m (List.mem_range.2 hm);unfold Zqy at this;rw [sh.Zfy hm,sh.ZgH hm] at this
   simpa using this
  obtain⟨f1,f2⟩:=Zey sh n
  have hL:YK w n= [(Qq w n).2]:=by
   have:(YK w n).length=1:=by
    unfold Qq at h2;rw [f1] at h2;omega
   obtain⟨z,hz⟩:=List.length_eq_one_iff.1 this;rw [show(Qq w n).2=z from f2 z hz];exact hz
  obtain⟨z,hz⟩:∃ z,(Qq w n).2=z:= ⟨_,rfl⟩
  rw [hz] at hL h3;have hzr:=Zba sh n z (by rw [hL];simp)
  have hcnt:∀ m:Nat,m < w.cells.length ->ZkF w m n=if(m:Int)=z then 1 else 0:=by
   intro m hm;rw [← Ke hm,hL];by_cases e:(m:Int)=z
   ·rw [if_pos e,e];simp
   ·rw [if_neg e];rw [List.count_eq_zero];simp;exact e
  have hcell:∀ m c,YU w n m=some c ->∃ (row:List Za) (k:Nat),w.cells[m.toNat]? =some row∧row[k]? =some c∧WM w m.toNat c=true:=by
   intro m c hc;obtain⟨row,k,r1,r2⟩:=KJ (X6 hc).2;exact⟨row,k,r1,r2,(sh.cell _ row k c r1 r2).1⟩
  have h3n:∀ x ∈ Q8 w n,x.kind=3 ->x.Zv=z:=by
   intro x hx k;have hx':=Zaw (sh.note x (List.mem_filter.1 hx).1);have:=Znm hx k (m:= ((x.Zv.toNat:Nat):Int)) (by omega);have hc:=hcnt x.Zv.toNat (by omega);rw [ZkE (by omega)] at hc;by_cases e:((x.Zv.toNat:Nat):Int)=z
   ·omega
   ·rw [if_neg e] at hc;omega
  refine⟨z,⟨?_,?_,?_,?_,hzr,?_,?_,?_,?_⟩,?_⟩
  ·exact fun m c hc=>(X6 hc).1
  ·exact fun m c hc=>Qi (X6 hc).2
  ·intro m c hc;have hr:= (X6 hc).1;obtain⟨_,_,_,_,q⟩:=hcell m c hc;have:= (ZaH q).2.2.2;rw [show((m.toNat:Nat):Int)=m by omega] at this;rcases this with⟨a1,a2,a3,a4,a5,a6⟩ | a
   ·exact .inl ⟨a1,a2,a3,a4,a5⟩
   ·exact .inr a
  ·intro x hx;have hx':=Zaw (sh.note x (List.mem_filter.1 hx).1);refine⟨hx'.1,by simpa using (List.mem_filter.1 hx).2,hx'.2.2.1.1,?_⟩;rcases hx'.2.2.2 with a | a | a
   ·exact .inl a
   ·exact .inr (.inl a)
   ·exact .inr (.inr ⟨a.1,a.2.1,a.2.2,h3n x hx a.1⟩)
  ·intro m c hc hrt;have hr:= (X6 hc).1;have q:=hcnt m.toNat (by omega);unfold ZkF at q;rw [(X6 hc).2] at q;dsimp only at q;rw [hrt,cond_true] at q;split at q <;> omega
  ·have q:=hcnt z.toNat (by omega);have hzn:((z.toNat:Nat):Int)=z:=by omega
   rw [if_pos hzn,ZkE (by omega)] at q;rw [hzn] at q;have g1:=ZcY w z n;rw [ZgG h3n,if_pos rfl] at g1;omega
  ·intro a a0 a1;have:= (hbad a.toNat (by omega)).1;rw [show((a.toNat:Nat):Int)=a by omega] at this;exact this
  ·exact ZuP sh h3
  ·intro a a0 a1;have:= (hbad a.toNat (by omega)).2;rw [show((a.toNat:Nat):Int)=a by omega] at this;exact this
theorem Rt.Zi2 (R:Rt w):(w.freed.length:Int) <=w.names:=by
 have:=ZaJ R.fr R.frr R.n0;omega
theorem Rt.Zfn (R:Rt w) {m:Nat} (hm:m < w.cells.length) {c:Za} (hc:c ∈ rowOf w m):YU w c.name m=some c:=by
 rw [Jc hm];exact ZnE (R.Ym m hm) hc
theorem Rt.WM (R:Rt w) {m:Nat} (hm:m < w.cells.length) {c:Za} (hc:c ∈ rowOf w m):WM w m c=true:=by
 obtain⟨q1,q2⟩:=R.cn m hm c hc;obtain⟨h,H,Mx⟩:=R.nm _ q1;have e:=R.Zfn hm hc;have ho:=H.ZjC e;have hmx:=Mx m (by omega) (by omega);rw [H.giv,e] at hmx;simp only [XY] at hmx;refine Ztu q1 ⟨ho.1,?_⟩ q2 ?_
 ·split at hmx <;> omega
 ·rcases H.cel m c e with⟨a1,a2,a3,a4,a5⟩ | a
  ·have h1:=H.Zcr e a2;have h2:=H.acc c.from_ a2 a3;have h3:=Mx c.from_ a2 a3;exact .inl ⟨a1,a2,a3,a4,a5,by omega⟩
  ·exact .inr a
theorem Rt.WB (R:Rt w) {x:Zd} (hx:x ∈ w.notes):WB w x=true:=by
 have q1:=R.nn x hx;obtain⟨h,H,Mx⟩:=R.nm _ q1;have hx':x ∈ Q8 w x.name:=List.mem_filter.2 ⟨hx,by simp⟩;obtain⟨a1,a2,a3,a4⟩:=H.nts x hx';refine ZrG a1 q1 ⟨a3,?_⟩ ?_
 ·rcases a4 with z | z | z
  ·have h1:=H.Ur z.2.1 hx';rw [Wn z.1,if_pos rfl] at h1;have h2:=H.acc _ z.2.1 z.2.2;have h3:=Mx _ z.2.1 z.2.2;omega
  ·have h1:=H.Ur a1.1 hx';rw [Za4 z.1,if_pos rfl] at h1;have h2:=H.acc _ a1.1 a1.2;have h3:=Mx _ a1.1 a1.2;omega
  ·omega
 ·rcases a4 with z | z | z
  ·exact .inl z
  ·exact .inr (.inl z)
  ·exact .inr (.inr ⟨z.1,z.2.1,z.2.2.1⟩)
theorem Rt.shaped (R:Rt w):KS w=true:=by
 have hfl:=R.Zi2;have:=R.c1;have:=R.c6;have:=R.n0;have:=R.n12;have:=R.nts;unfold KS;simp only [Bool.and_eq_true,Bool.not_eq_true'];refine⟨?_,?_,?_,?_⟩
 ·unfold Zbx;simp only [Bool.and_eq_true,decide_eq_true_eq];omega
 ·refine Zdt fun k x hk=>?_
  have h1:=R.frr x (List.mem_of_getElem? hk);unfold KC;have h2:0 < k ->Qu w.freed k < x:=fun h0=>Zpo (fun x=>x) R.fr hk h0
  simp;exact⟨h1,h2⟩
 ·unfold ZcN;rw [Bool.not_eq_true'];refine Zdt fun m row hm=>?_
  have hml:m < w.cells.length:= (List.getElem?_eq_some_iff.1 hm).1;have hro:row=rowOf w m:=by have:=QK hml;rw [hm] at this;exact Option.some.inj this
  subst hro;refine Zdt fun k c hk=>?_
  unfold Kv;rw [R.WM hml (List.mem_of_getElem? hk)];simp;exact fun h0=>Zpo (fun c:Za=>c.name) (R.Ym m hml) hk h0
 ·unfold Kw;rw [Bool.not_eq_true',List.any_eq_false];intro x hx;rw [R.WB hx];simp
theorem Rt.shp (R:Rt w):Shp w:=Zfz R.shaped
theorem Rt.right (R:Rt w):ZaW w=true:=by
 have sh:=R.shp;unfold ZaW;rw [Bool.and_eq_true];refine⟨R.shaped,?_⟩;rw [Bool.not_eq_true',List.any_eq_false];intro k hk;rw [Bool.not_eq_true];cases hn:Yl w k with
 | false=>rfl
 | true=>
   obtain⟨h,H,Mx⟩:=R.nm _ hn;rw [Bool.true_and,Bool.not_eq_false']
   have hcnt:∀ m:Nat,m < w.cells.length ->ZkF w m k=if(m:Int)=h then 1 else 0:=by
    intro m hm;have g1:=ZcY w m k;rw [ZgG (h:=h) (fun x hx k3=>by rcases(H.nts x hx).2.2.2 with z | z | z <;> omega)] at g1;have o:=H.one;rw [ZkE hm];by_cases e:(m:Int)=h
    ·rw [if_pos e] at g1 ⊢;rw [e];rw [e] at g1;omega
    ·rw [if_neg e] at g1 ⊢
     have:JY (YU w k m)=0:=by
      cases ec:YU w k m with
      | none=>rfl
      | some c=>
        show(if c.root=true then 1 else 0)=0;rw [if_neg (fun z=>e (H.rt m c ec z))]
     omega
   have hr:=Zba sh (k:Int)
   have hL:YK w k= [h]:=by
    have c1:∀ x ∈ YK w (k:Int),x=h:=by
     intro x hx;have h1:=hr x hx;have h2:=Ke (w:=w) (m:=x.toNat) (by omega) (k:Int);rw [hcnt x.toNat (by omega),show((x.toNat:Nat):Int)=x by omega] at h2;have h3:0 < (YK w (k:Int)).count x:=List.count_pos_iff.2 hx;by_cases e:x=h
     ·exact e
     ·rw [if_neg e] at h2;omega
    have c2:(YK w (k:Int)).count h=1:=by
     have hh:=H.hM;have h2:=Ke (w:=w) (m:=h.toNat) (by omega) (k:Int);rw [hcnt h.toNat (by omega),show((h.toNat:Nat):Int)=h by omega,if_pos rfl] at h2;exact h2
    have c3:(YK w (k:Int)).length=1:=by
     rw [← c2]
     symm
     rw [List.count_eq_length];exact fun x hx=>(c1 x hx).symm
    obtain⟨z,hz⟩:=List.length_eq_one_iff.1 c3;rw [hz];rw [c1 z (by rw [hz];simp)]
   obtain⟨f1,f2⟩:=Zey sh (k:Int);unfold Wm;simp only [Bool.and_eq_true,Bool.not_eq_true',beq_iff_eq];refine⟨?_,?_,?_⟩
   ·rw [List.any_eq_false];intro m hm;rw [List.mem_range] at hm;unfold Zqy;rw [sh.Zfy hm,sh.ZgH hm,H.acc m (by omega) (by omega)];have:=Mx m (by omega) (by omega);rw [H.acc m (by omega) (by omega)] at this;simp;exact this
   ·unfold Qq;rw [f1,hL];rfl
   ·have:(Qq w (k:Int)).2=h:=f2 h hL;rw [this];exact ZuO H.lead
end
end Go.Proofs.Ytekpjgmhkkjhgaa
end
section
namespace Go.Proofs.Ytekpjgmhkkjhgaa
open Go.Lf
def flN (n:Int) (fl:List Zd):List Zd:=fl.filter fun x=>x.name==n
structure Rx (w:Zb) (ex:Int ->Int ->Prop) (fl:List Zd):Prop where
 c1:1 <=w.cells.length
 c6:w.cells.length <=6
 n0:0 <=w.names
 n12:w.names <=12
 fr:w.freed.Pairwise (· < ·)
 frr:∀ x ∈ w.freed,0 <=x∧x < w.names
 Ym:∀ m,m < w.cells.length ->UC (rowOf w m)
 cn:∀ n m c,YU w n m=some c ->Yl w n=true∧(c.use=true∨c.out ≠ 0∨ex m n)
 nn:∀ x ∈ fl ++ w.notes,Yl w x.name=true
 nm:∀ n,Yl w n=true ->∃ h,Nm w.cells.length n (YU w n) (flN n fl ++ Q8 w n) h
def Mw (w:Zb) (fl:List Zd):Prop:=∀ n,Yl w n=true ->Mst w.cells.length (YU w n) (flN n fl ++ Q8 w n)
def Kb:Int ->Int ->Prop:=fun _ _=>False
theorem Rt.rx {w:Zb} (R:Rt w):Rx w Kb []∧Mw w []:=by
 refine⟨⟨R.c1,R.c6,R.n0,R.n12,R.fr,R.frr,R.Ym,fun n m c hc=>?_,R.nn,fun n hn=>?_⟩,fun n hn=>?_⟩
 ·obtain⟨h1,h2⟩:=X6 hc;have hm:m.toNat < w.cells.length:=by omega
  obtain⟨row,k,r1,r2⟩:=KJ h2;have:row=rowOf w m.toNat:=by have:=QK hm;rw [r1] at this;exact Option.some.inj this
  subst this;have q:=R.cn _ hm c (List.mem_of_getElem? r2);rw [Qi h2] at q;exact⟨q.1,q.2.elim .inl fun z=>.inr (.inl z)⟩
 ·obtain⟨h,H,_⟩:=R.nm n hn;exact⟨h,H⟩
 ·obtain⟨h,_,H⟩:=R.nm n hn;exact H
theorem Rx.rt {w:Zb} (R:Rx w Kb []) (Mx:Mw w []) (hl:w.notes.length <=80):Rt w:=by
 refine⟨R.c1,R.c6,R.n0,R.n12,hl,R.fr,R.frr,R.Ym,fun m hm c hc=>?_,R.nn,fun n hn=>?_⟩
 ·have e:YU w c.name m=some c:=by rw [Jc hm];exact ZnE (R.Ym m hm) hc
  obtain⟨q1,q2⟩:=R.cn _ _ _ e;refine⟨q1,?_⟩;rcases q2 with q | q | q
  ·exact .inl q
  ·exact .inr q
  ·exact q.elim
 ·obtain⟨h,H⟩:=R.nm n hn;exact⟨h,H,Mx n hn⟩
structure Upd (w w':Zb) (n:Int):Prop where
 len:w'.cells.length=w.cells.length
 nms:w'.names=w.names
 fre:w'.freed=w.freed
 Ym:∀ m,m < w.cells.length ->UC (rowOf w' m)
 oc:∀ k,k ≠ n ->YU w' k=YU w k
 on:∀ k,k ≠ n ->Q8 w' k=Q8 w k
theorem Upd.trans {w w1 w2:Zb} {n:Int} (a:Upd w w1 n) (b:Upd w1 w2 n):Upd w w2 n:=
 ⟨b.len.trans a.len,b.nms.trans a.nms,b.fre.trans a.fre,fun m hm=>b.Ym m (by rw [a.len];exact hm),fun k hk=>(b.oc k hk).trans (a.oc k hk),fun k hk=>(b.on k hk).trans (a.on k hk)⟩
theorem ZbN {w w':Zb} (h1:w'.names=w.names) (h2:w'.freed=w.freed) (n:Int):Yl w' n=Yl w n:=by unfold Yl;rw [h1,h2]
theorem Zj4 {n:Int} {fl:List Zd} (h:∀ x ∈ fl,x.name ≠ n):flN n fl= []:=by
 unfold flN;rw [List.filter_eq_nil_iff];intro x hx;simp;exact h x hx
theorem K4 {n:Int} {fl:List Zd} (h:∀ x ∈ fl,x.name=n):flN n fl=fl:=by
 unfold flN;rw [List.filter_eq_self];intro x hx;simp;exact h x hx
section
variable {w w':Zb} {n:Int} {ex ex':Int ->Int ->Prop} {fl fl':List Zd}
theorem Rx.upd (R:Rx w ex fl) (U:Upd w w' n) (hn:Yl w n=true) (hfl:∀ x ∈ fl,x.name=n) (Zf6:∀ x ∈ fl',x.name=n)
 (he:∀ m c,YU w' n m=some c ->c.use=true∨c.out ≠ 0∨ex' m n) (he2:∀ m k,k ≠ n ->ex m k ->ex' m k)
 (hm:∃ h,Nm w.cells.length n (YU w' n) (fl' ++ Q8 w' n) h):Rx w' ex' fl':=by
 have hB:=ZbN U.nms U.fre;refine⟨by rw [U.len];exact R.c1,by rw [U.len];exact R.c6,by rw [U.nms];exact R.n0,by rw [U.nms];exact R.n12,by rw [U.fre];exact R.fr,by rw [U.fre,U.nms];exact R.frr,by rw [U.len];exact U.Ym,fun k m c hc=>?_,fun x hx=>?_,fun k hk=>?_⟩
 ·rw [hB];by_cases e:k=n
  ·subst e;exact⟨hn,he m c hc⟩
  ·rw [U.oc k e] at hc;obtain⟨q1,q2⟩:=R.cn k m c hc;exact⟨q1,q2.elim .inl fun z=>.inr (z.elim .inl fun y=>.inr (he2 m k e y))⟩
 ·rw [hB];by_cases e:x.name=n
  ·rw [e];exact hn
  ·rcases List.mem_append.1 hx with z | z
   ·exact absurd (Zf6 x z) e
   ·have:x ∈ Q8 w' x.name:=List.mem_filter.2 ⟨z,by simp⟩;rw [U.on _ e] at this;exact R.nn x (List.mem_append_right _ (List.mem_filter.1 this).1)
 ·rw [hB] at hk;rw [U.len];by_cases e:k=n
  ·subst e;rw [K4 Zf6];exact hm
  ·obtain⟨h,H⟩:=R.nm k hk;refine⟨h,?_⟩;rw [U.oc k e,U.on k e,Zj4 fun x hx z=>e (z.symm.trans (Zf6 x hx))];rw [Zj4 fun x hx z=>e (z.symm.trans (hfl x hx))] at H;exact H
theorem Mw.upd (Mx:Mw w fl) (U:Upd w w' n) (hfl:∀ x ∈ fl,x.name=n) (Zf6:∀ x ∈ fl',x.name=n)
 (hm:Mst w.cells.length (YU w' n) (fl' ++ Q8 w' n)):Mw w' fl':=by
 intro k hk;rw [ZbN U.nms U.fre] at hk;rw [U.len];by_cases e:k=n
 ·subst e;rw [K4 Zf6];exact hm
 ·have:=Mx k hk;rw [U.oc k e,U.on k e,Zj4 fun x hx z=>e (z.symm.trans (Zf6 x hx))];rw [Zj4 fun x hx z=>e (z.symm.trans (hfl x hx))] at this;exact this
theorem Zjc {m a:Nat} {r:Row} (hm:m < w.cells.length) (k:Int):cellOf (cw w m r) a k=if a=m then WS r k else cellOf w a k:=by
 rw [YW,YW];by_cases e:a=m
 ·subst e;rw [if_pos rfl,Ji hm]
 ·rw [if_neg e,Wx e]
theorem X8 {m:Nat} (hm:m < w.cells.length) (Ym:∀ m,m < w.cells.length ->UC (rowOf w m)) {c:Za} (hc:c.name=n):
 Upd w (cw w m (put c (rowOf w m))) n∧YU (cw w m (put c (rowOf w m))) n=Yn (YU w n) m (some c)∧Q8 (cw w m (put c (rowOf w m))) n=Q8 w n:=by
 have key:∀ k a,YU (cw w m (put c (rowOf w m))) k a=if a=m∧k=n then some c else YU w k a:=by
  intro k a;unfold YU;rw [Yj];by_cases hr:0 <=a∧a < (w.cells.length:Int)
  ·rw [if_pos hr,if_pos hr,Zjc hm];by_cases e:a=m
   ·have:a.toNat=m:=by omega
    rw [if_pos this,K3 _ (Ym m hm),hc,YW,this];by_cases ek:k=n
    ·rw [if_pos ek,if_pos ⟨e,ek⟩]
    ·rw [if_neg ek,if_neg (fun z=>ek z.2)]
   ·have:¬ a.toNat=m:=by omega
    rw [if_neg this,if_neg (fun z=>e z.1)]
  ·rw [if_neg hr,if_neg hr,if_neg (by rintro⟨z,_⟩;subst z;omega)]
 refine⟨⟨Yj,rfl,rfl,fun a ha=>?_,fun k hk=>?_,fun k hk=>rfl⟩,?_,rfl⟩
 ·by_cases e:a=m
  ·subst e;rw [Ji hm];exact(Ym a hm).put
  ·rw [Wx e];exact Ym a ha
 ·funext a;rw [key,if_neg (fun z=>hk z.2)]
 ·funext a;rw [key];unfold Yn;by_cases e:a=m
  ·rw [if_pos ⟨e,rfl⟩,if_pos e]
  ·rw [if_neg (fun z=>e z.1),if_neg e]
theorem Zjx {m:Nat} (hm:m < w.cells.length) (Ym:∀ m,m < w.cells.length ->UC (rowOf w m)):
 Upd w (cw w m (rmv n (rowOf w m))) n∧YU (cw w m (rmv n (rowOf w m))) n=Yn (YU w n) m none∧Q8 (cw w m (rmv n (rowOf w m))) n=Q8 w n:=by
 have key:∀ k a,YU (cw w m (rmv n (rowOf w m))) k a=if a=m∧k=n then none else YU w k a:=by
  intro k a;unfold YU;rw [Yj];by_cases hr:0 <=a∧a < (w.cells.length:Int)
  ·rw [if_pos hr,if_pos hr,Zjc hm];by_cases e:a=m
   ·have:a.toNat=m:=by omega
    rw [if_pos this,ZoW,YW,this];by_cases ek:k=n
    ·rw [if_pos ek,if_pos ⟨e,ek⟩]
    ·rw [if_neg ek,if_neg (fun z=>ek z.2)]
   ·have:¬ a.toNat=m:=by omega
    rw [if_neg this,if_neg (fun z=>e z.1)]
  ·rw [if_neg hr,if_neg hr];split <;> rfl
 refine⟨⟨Yj,rfl,rfl,fun a ha=>?_,fun k hk=>?_,fun k hk=>rfl⟩,?_,rfl⟩
 ·by_cases e:a=m
  ·subst e;rw [Ji hm];exact(Ym a hm).rmv n
  ·rw [Wx e];exact Ym a ha
 ·funext a;rw [key,if_neg (fun z=>hk z.2)]
 ·funext a;rw [key];unfold Yn;by_cases e:a=m
  ·rw [if_pos ⟨e,rfl⟩,if_pos e]
  ·rw [if_neg (fun z=>e z.1),if_neg e]
theorem ZdG (Ym:∀ m,m < w.cells.length ->UC (rowOf w m)) {x:Zd} (hx:x.name=n):Upd w (sent w x) n∧YU (sent w x) n=YU w n∧Q8 (sent w x) n=Q8 w n ++ [x]:=by
 refine⟨⟨rfl,rfl,rfl,Ym,fun k hk=>rfl,fun k hk=>?_⟩,rfl,?_⟩
 ·unfold Q8 sent;rw [List.filter_append]
  have: [x].filter (fun x=>x.name==k)= []:=by
   rw [List.filter_eq_nil_iff];intro y hy;rw [List.mem_singleton.1 hy];simp;exact fun z=>hk (z.symm.trans hx)
  rw [this,List.append_nil]
 ·unfold Q8 sent;rw [List.filter_append]
  have: [x].filter (fun x=>x.name==n)= [x]:=by
   rw [List.filter_eq_self];intro y hy;rw [List.mem_singleton.1 hy];simp;exact hx
  rw [this]
theorem ZiR {m:Nat} (hm:m < w.cells.length) (n:Int):look (rowOf w m) n=Zbo n (YU w n) m:=by
 unfold Zbo;rw [Jc hm];rfl
theorem Mst.put {M:Nat} {cv:CV} {ns ns':List Zd} (Mx:Mst M cv ns) {m:Int} {d:Za} (h:∀ a:Int,0 <=a ->a < M ->(if a=m then d.out else XY (cv a)) + YF (YG a) ns' <=XY (cv a) + YF (YG a) ns):Mst M (Yn cv m (some d)) ns':=by
 intro a a0 a1;have h1:=h a a0 a1;have h2:=Mx a a0 a1;unfold J4 at h2 ⊢;have:XY (Yn cv m (some d) a)=if a=m then d.out else XY (cv a):=by unfold Yn;split <;> rfl
 omega
theorem Zcj {m:Int} (R:Rx w (fun a k=>a=m∧k=n) []) (Mx:Mw w []) {m':Nat} (hmm:(m':Int)=m) (hm:m' < w.cells.length) {c:Za} (hc:YU w n m=some c):
 Rx (Xp w m' n c) Kb []∧Mw (Xp w m' n c) []:=by
 have hn:= (R.cn n m c hc).1;have hcn:=Qi (X6 hc).2;obtain⟨h,H⟩:=R.nm n hn;have H:Nm w.cells.length n (YU w n) (Q8 w n) h:=H;have hMx:=Mx n hn;have hMx:Mst w.cells.length (YU w n) (Q8 w n):=hMx;unfold Xp;cases hu:(c.use || (c.out !=0))
 ·rw [cond_false];have hu1:c.use=false:=by cases q:c.use;rfl;rw [q] at hu;cases hu
  have hu2:c.out=0:=by rw [hu1,Bool.false_or] at hu;simpa using hu
  obtain⟨U,V1,V2⟩:=Zjx (n:=n) hm R.Ym
  have hout:∀ a,XY (Yn (YU w n) m none a)=XY (YU w n a):=by
   intro a;unfold Yn;split
   ·rename_i e;rw [e,hc];simp [XY,hu2]
   ·rfl
  rw [hmm] at V1
  have ZBL:∀ a d,YU (cw w m' (rmv n (rowOf w m'))) n a=some d ->d.use=true∨d.out ≠ 0∨Kb a n:=by
   intro a d hd;rw [V1] at hd;unfold Yn at hd;split at hd
   ·cases hd
   ·rename_i e;rcases(R.cn n a d hd).2 with z | z | z
    ·exact .inl z
    ·exact .inr (.inl z)
    ·exact absurd z.1 e
  cases hr:c.root
  ·simp only [cond_false];cases hf:decide (c.from_ >=0)
   ·rw [cond_false];show Rx (cw w m' (rmv n (rowOf w m'))) Kb []∧Mw (cw w m' (rmv n (rowOf w m'))) [];have hf':¬ 0 <=c.from_:=by simpa using hf
    refine⟨R.upd U hn (by simp) (by simp) ZBL (fun a k hk z=>absurd z.2 hk) ⟨h,?_⟩,Mx.upd U (by simp) (by simp) ?_⟩
    ·have:=H.gone hc hu2 hr (ys:= []) (by rw [if_neg hf']);rw [List.append_nil] at this;rw [V1];exact this
    ·intro a a0 a1;have:=hMx a a0 a1;rw [V1];show XY (Yn (YU w n) m none a) + YF (YG a) (Q8 w n) <=1000000;rw [hout];exact this
   ·rw [cond_true];show Rx (sent (cw w m' (rmv n (rowOf w m'))) ⟨2,c.from_,n,0,c.has⟩) Kb []∧Mw (sent (cw w m' (rmv n (rowOf w m'))) ⟨2,c.from_,n,0,c.has⟩) []
    have hf':0 <=c.from_:=by simpa using hf
    obtain⟨U2,W1,W2⟩:=ZdG (w:=cw w m' (rmv n (rowOf w m'))) (n:=n) (x:= ⟨2,c.from_,n,0,c.has⟩) (fun a ha=>U.Ym a (by rw [← U.len];exact ha)) rfl;rw [V1] at W1;refine⟨R.upd (U.trans U2) hn (by simp) (by simp) (fun a d hd=>ZBL a d (by rw [V1,← W1];exact hd)) (fun a k hk z=>absurd z.2 hk) ⟨h,?_⟩,Mx.upd (U.trans U2) (by simp) (by simp) ?_⟩
    ·have:=H.gone hc hu2 hr (ys:= [⟨2,c.from_,n,0,c.has⟩]) (by rw [if_pos hf']);rw [W1,W2];exact this
    ·intro a a0 a1;have:=hMx a a0 a1;rw [W1,W2];show XY (Yn (YU w n) m none a) + YF (YG a) (Q8 w n ++ [⟨2,c.from_,n,0,c.has⟩]) <=1000000
     rw [hout,Xg,Qf,Zcn rfl];unfold J4 at this;omega
  ·simp only [cond_true];obtain⟨e1,e2⟩:=H.last hc hu2 hr;have hnr:0 <=n∧n < w.names:=by have:=hn;unfold Yl at this;simp at this;exact this.1
   have hnf:n ∉ w.freed:=by
    have:=hn;unfold Yl at this;simp at this;exact fun z=>this.2 n z rfl
   have hmem:∀ x,x ∈ Jw n w.freed↔x=n∨x ∈ w.freed:=by
    intro x
    constructor
    ·exact ZdS
    ·intro hx
     have key:∀ l:List Int,x=n∨x ∈ l ->x ∈ Jw n l:=by
      intro l
      induction l with
      | nil=>intro z;rcases z with z | z;subst z;simp [Jw];simp at z
      | cons y l ih=>
        intro z;unfold Jw;split
        ·simp only [List.mem_cons] at z ⊢;omega
        ·simp only [List.mem_cons] at z ⊢;rcases z with z | z | z
         ·exact .inr (ih (.inl z))
         ·exact .inl z
         ·exact .inr (ih (.inr z))
     exact key _ hx
   have hB:∀ k,Yl ⟨w.cells.set m' (rmv n (rowOf w m')),w.notes,w.names,Jw n w.freed⟩ k= (Yl w k && !(k==n)):=by
    intro k;unfold Yl;dsimp only
    have:((Jw n w.freed).any fun y=>y==k)= ((w.freed.any fun y=>y==k) || (k==n)):=by
     rw [Bool.eq_iff_iff,Bool.or_eq_true,List.any_eq_true,List.any_eq_true];simp only [beq_iff_eq,hmem]
     constructor
     ·rintro⟨x,z | z,rfl⟩
      ·exact .inr z
      ·exact .inl ⟨x,z,rfl⟩
     ·rintro(⟨x,z,rfl⟩ | z)
      ·exact⟨x,.inr z,rfl⟩
      ·exact⟨n,.inl rfl,z.symm⟩
    rw [this];cases decide (0 <=k) <;> cases decide (k < w.names) <;> cases (w.freed.any fun y=>y==k) <;> cases (k==n) <;> rfl
   have key:∀ k,YU ⟨w.cells.set m' (rmv n (rowOf w m')),w.notes,w.names,Jw n w.freed⟩ k=if k=n then(fun _=>none) else YU w k:=by
    intro k;by_cases e:k=n
    ·subst e;rw [if_pos rfl];show YU (cw w m' (rmv k (rowOf w m'))) k=_;rw [V1];funext a;unfold Yn;split
     ·rfl
     ·rename_i z;exact e1 a z
    ·rw [if_neg e];exact U.oc k e
   refine⟨⟨by show 1 <= (w.cells.set _ _).length;rw [List.length_set];exact R.c1,by show(w.cells.set _ _).length <=6;rw [List.length_set];exact R.c6,R.n0,R.n12,?_,?_,?_,?_,?_,?_⟩,?_⟩
   ·have q1:∀ l:List Int,l.Pairwise (· < ·) ->n ∉ l ->(Jw n l).Pairwise (· < ·):=by
     intro l
     induction l with
     | nil=>intro _ _;simp [Jw]
     | cons y l ih=>
       intro p q;rw [List.pairwise_cons] at p;unfold Jw;split
       ·rename_i hyx;rw [List.pairwise_cons,List.pairwise_cons];refine⟨fun z hz=>?_,p⟩;rcases List.mem_cons.1 hz with rfl | hz
        ·exact hyx
        ·have:=p.1 z hz;omega
       ·rename_i hyx;have hne:n ≠ y:=fun z=>q (by rw [z];simp)
        rw [List.pairwise_cons];refine⟨fun z hz=>?_,ih p.2 fun z=>q (by simp [z])⟩;rcases ZdS hz with rfl | hz
        ·omega
        ·exact p.1 z hz
    exact q1 _ R.fr hnf
   ·intro x hx;rcases(hmem x).1 hx with z | z
    ·subst z;exact hnr
    ·exact R.frr x z
   ·intro a ha;have ha:a < w.cells.length:=by simpa using ha
    exact U.Ym a ha
   ·intro k a d hd;rw [key] at hd;split at hd
    ·cases hd
    ·rename_i hk;obtain⟨q1,q2⟩:=R.cn k a d hd;refine⟨by rw [hB,q1];simp [hk],?_⟩;rcases q2 with z | z | z
     ·exact .inl z
     ·exact .inr (.inl z)
     ·exact absurd z.2 hk
   ·intro x hx;have hx:x ∈ w.notes:=hx
    have hne:x.name ≠ n:=by
     intro z;have:x ∈ Q8 w n:=List.mem_filter.2 ⟨hx,by simp [z]⟩;rw [e2] at this;simp at this
    rw [hB,R.nn x (by simpa using hx)];simp [hne]
   ·intro k hk;rw [hB] at hk;simp at hk;obtain⟨h',H'⟩:=R.nm k hk.1;refine⟨h',?_⟩;rw [key,if_neg hk.2];show Nm (w.cells.set _ _).length k (YU w k) (Q8 w k) h';rw [List.length_set];exact H'
   ·intro k hk;rw [hB] at hk;simp at hk;have:=Mx k hk.1;rw [key,if_neg hk.2];show Mst (w.cells.set _ _).length (YU w k) (Q8 w k);rw [List.length_set];exact this
 ·rw [cond_true];refine⟨{R with cn:=fun k a d hd=>?_},Mx⟩;obtain⟨q1,q2⟩:=R.cn k a d hd;refine⟨q1,?_⟩;rcases q2 with z | z | ⟨z1,z2⟩
  ·exact .inl z
  ·exact .inr (.inl z)
  ·subst z1 z2;rw [hc] at hd;cases hd;rw [Bool.or_eq_true] at hu;rcases hu with z | z
   ·exact .inl z
   ·exact .inr (.inl (by simpa using z))
end
end Go.Proofs.Ytekpjgmhkkjhgaa
end
section
namespace Go.Proofs.Ytekpjgmhkkjhgaa
open Go.Lf
section
variable {w w':Zb} {n:Int}
theorem Nm.most {M:Nat} {cv:CV} {ns:List Zd} {h:Int} (H:Nm M n cv ns h) (Mx:Mst M cv ns):
 (∀ m c,cv m=some c ->-16 <=c.out∧c.out <=1000000∧0 <=c.has∧c.has <=1000000)∧∀ x ∈ ns,1 <=x.w∧x.w <=1000000:=by
 refine⟨fun m c hc=>?_,fun x hx=>?_⟩
 ·have hr:=H.rng m c hc;have h1:=Mx m hr.1 hr.2;have h2:=H.ZjC hc;rw [H.giv,hc] at h1;simp only [XY] at h1;refine⟨h2.1,by split at h1 <;> omega,?_⟩;rcases H.cel m c hc with z | z
  ·have:=H.Zcr hc z.2.1;have:=H.acc c.from_ z.2.1 z.2.2.1;have:=Mx c.from_ z.2.1 z.2.2.1;omega
  ·omega
 ·have hx':=H.nts x hx;refine⟨hx'.2.2.1,?_⟩;rcases hx'.2.2.2 with z | z | z
  ·have h1:=H.Ur z.2.1 hx;rw [Wn z.1,if_pos rfl] at h1;have:=H.acc _ z.2.1 z.2.2;have:=Mx _ z.2.1 z.2.2;omega
  ·have h1:=H.Ur hx'.1.1 hx;rw [Za4 z.1,if_pos rfl] at h1;have:=H.acc _ hx'.1.1 hx'.1.2;have:=Mx _ hx'.1.1 hx'.1.2;omega
  ·omega
theorem ZfJ {M:Nat} {cv:CV} {ns:List Zd} {h:Int} (H:Nm M n cv ns h) (Mx:Mst M cv ns) (m:Int):-16 <= (Zbo n cv m).out∧(Zbo n cv m).out <=1000000∧0 <= (Zbo n cv m).has∧(Zbo n cv m).has <=1000000:=by
 unfold Zbo;cases e:cv m with
 | none=>simp [Zty]
 | some c=>exact(H.most Mx).1 m c e
theorem Zc5 {fl fl':List Zd} {ex ex':Int ->Int ->Prop} (R:Rx w ex fl) (Mx:Mw w fl) (hn:Yl w n=true) (hfl:∀ x ∈ fl,x.name=n) (Zf6:∀ x ∈ fl',x.name=n) {m:Int} {m':Nat} (hmm:(m':Int)=m) (hm:m' < w.cells.length) {d:Za} (hd:d.name=n)
 (he:d.use=true∨d.out ≠ 0∨ex' m n) (he2:∀ a k,(k ≠ n∨a ≠ m) ->ex a k ->ex' a k)
 (hN:∃ h,Nm w.cells.length n (Yn (YU w n) m (some d)) (fl' ++ Q8 w n) h)
 (hM:∀ a:Int,0 <=a ->a < w.cells.length ->(if a=m then d.out else XY (YU w n a)) + YF (YG a) (fl' ++ Q8 w n) <=XY (YU w n a) + YF (YG a) (fl ++ Q8 w n)):
 Rx (cw w m' (put d (rowOf w m'))) ex' fl'∧Mw (cw w m' (put d (rowOf w m'))) fl'∧YU (cw w m' (put d (rowOf w m'))) n m=some d:=by
 obtain⟨U,V1,V2⟩:=X8 hm R.Ym hd;rw [hmm] at V1;refine⟨R.upd U hn hfl Zf6 (fun a c hc=>?_) (fun a k hk=>he2 a k (.inl hk)) ?_,Mx.upd U hfl Zf6 ?_,by rw [V1,U4]⟩
 ·rw [V1] at hc;unfold Yn at hc;split at hc
  ·rename_i e;cases hc;rw [e];exact he
  ·rename_i e;rcases(R.cn n a c hc).2 with z | z | z
   ·exact .inl z
   ·exact .inr (.inl z)
   ·exact .inr (.inr (he2 a n (.inr e) z))
 ·rw [V1,V2];exact hN
 ·rw [V1,V2];have:=Mx n hn;rw [K4 hfl] at this;exact this.put hM
theorem Zuv {fl fl':List Zd} {ex:Int ->Int ->Prop} (R:Rx w ex fl) (Mx:Mw w fl) (hn:Yl w n=true) (hfl:∀ x ∈ fl,x.name=n) (Zf6:∀ x ∈ fl',x.name=n) {y:Zd} (hy:y.name=n)
 (hN:∃ h,Nm w.cells.length n (YU w n) (fl' ++ (Q8 w n ++ [y])) h)
 (hM:∀ a:Int,0 <=a ->a < w.cells.length ->YF (YG a) (fl' ++ (Q8 w n ++ [y])) <=YF (YG a) (fl ++ Q8 w n)):
 Rx (sent w y) ex fl'∧Mw (sent w y) fl':=by
 obtain⟨U,V1,V2⟩:=ZdG R.Ym hy;refine⟨R.upd U hn hfl Zf6 (fun a c hc=>?_) (fun a k hk z=>z) ?_,Mx.upd U hfl Zf6 ?_⟩
 ·rw [V1] at hc;exact(R.cn n a c hc).2
 ·rw [V1,V2];exact hN
 ·rw [V1,V2];have:=Mx n hn;rw [K4 hfl] at this;intro a a0 a1;have h1:=this a a0 a1;have h2:=hM a a0 a1;unfold J4 at h1 ⊢;omega
theorem Ww (m:Nat) (n:Int) (c:Za):(Xp w m n c).notes.length <=w.notes.length + 1∧(Xp w m n c).cells.length=w.cells.length∧(Xp w m n c).names=w.names∧(c.root=true ->(Xp w m n c).notes.length=w.notes.length):=by
 unfold Xp;cases (c.use || (c.out !=0))
 ·simp only [cond_false,List.length_set,true_and];cases c.root
  ·cases decide (c.from_ >=0) <;> simp
  ·simp
 ·simp
theorem UL {m:Nat} (hm:m < w.cells.length) (Ym:UC (rowOf w m)) {d:Za} (hd:d.name=n):look (rowOf (cw w m (put d (rowOf w m))) m) n=d:=QL (Zhj hm Ym hd)
theorem Zmn {x:Zd} (R:Rx w Kb [x]) (Mx:Mw w [x]):
 Rx (QN w x) Kb []∧Mw (QN w x) []∧(QN w x).notes.length <=w.notes.length + 1∧(QN w x).cells.length=w.cells.length∧(QN w x).names=w.names:=by
 have hn:=R.nn x (by simp);obtain⟨n,hxn⟩:∃ n,x.name=n:= ⟨_,rfl⟩
 rw [hxn] at hn;have hfl:∀ y ∈ [x],y.name=n:=by simp [hxn]
 have hno:∀ y ∈ ([]:List Zd),y.name=n:=by simp
 obtain⟨h,H⟩:=R.nm n hn;rw [K4 hfl] at H;have hMx:=Mx n hn;rw [K4 hfl] at hMx;have H:Nm w.cells.length n (YU w n) (x::Q8 w n) h:=H;have hx:=H.nts x (by simp);have hxw:= (H.most hMx).2 x (by simp);obtain⟨m',hm'⟩:∃ m',x.Zv.toNat=m':= ⟨_,rfl⟩
 have hmm:(m':Int)=x.Zv:=by omega
 have hm:m' < w.cells.length:=by omega
 have L:=H.look x.Zv;have S:=ZfJ H hMx x.Zv;have Zbp:look (rowOf w m') n=Zbo n (YU w n) x.Zv:=by rw [ZiR hm,hmm]
 unfold QN;rw [hm',hxn];dsimp only;obtain⟨c,hc⟩:∃ c,Zbo n (YU w n) x.Zv=c:= ⟨_,rfl⟩
 rw [hc] at L S Zbp;rw [Zbp];have hsrt:=R.Ym m' hm;cases k1:(x.kind==1)
 ·rw [cond_false];cases k2:(x.kind==2)
  ·-- the root
   rw [cond_false]
   have k3:x.kind=3:=by
    rcases hx.2.2.2 with z | z | z
    ·rw [z.1] at k1;cases k1
    ·rw [z.1] at k2;cases k2
    ·exact z.1
   have hh:x.Zv=h:=by rcases hx.2.2.2 with z | z | z <;> omega
   rw [YJ (n:=c.out + 16) (by omega) (by omega)]
   have hG:∀ a:Int,(if a=x.Zv then(c.out + 16) else XY (YU w n a)) + YF (YG a) (Q8 w n) <=XY (YU w n a) + YF (YG a) (x::Q8 w n):=by
    intro a;simp only [YF,Zgf k3];by_cases z:a=x.Zv
    ·rw [if_pos z,if_pos z.symm,z,L.out];omega
    ·rw [if_neg z,if_neg (by omega)];omega
   cases hf:decide (c.from_ >=0)
   ·simp only [cond_false];have hf':¬ 0 <=c.from_:=by simpa using hf
    rw [UL hm hsrt (by exact L.nam)];have:=H.home k3 L c.use (ys:= []) (by rw [if_neg hf']);rw [List.append_nil] at this;obtain⟨P1,P2,P3⟩:=Zc5 (ex':=fun a k=>a=x.Zv∧k=n) R Mx hn hfl hno hmm hm (d:= ⟨c.name,true,-1,0,c.out + 16,c.use⟩) L.nam (.inr (.inr ⟨rfl,rfl⟩)) (fun a k _ z=>z.elim) ⟨h,this⟩ (fun a _ _=>hG a);obtain⟨Q1,Q2⟩:=Zcj P1 P2 hmm (by rw [Yj];exact hm) P3;have Q3:=Ww (w:=cw w m' (put ⟨c.name,true,-1,0,c.out + 16,c.use⟩ (rowOf w m'))) m' n ⟨c.name,true,-1,0,c.out + 16,c.use⟩;exact⟨Q1,Q2,Q3.1,Q3.2.1.trans Yj,Q3.2.2.1⟩
   ·simp only [cond_true];have hf':0 <=c.from_:=by simpa using hf
    have hce:c.root=false∧0 <=c.from_∧c.from_ < w.cells.length∧c.from_ ≠ x.Zv∧1 <=c.has:=by rcases L.cel with z | z;exact z;omega
    have hb:XA (cw w m' (put ⟨c.name,true,-1,0,c.out + 16,c.use⟩ (rowOf w m'))) m' n c.from_ c.has=sent (cw w m' (put ⟨c.name,true,-1,0,c.out + 16,c.use⟩ (rowOf w m'))) ⟨2,c.from_,n,0,c.has⟩:=by
     unfold XA;have:(c.from_ != (m':Int))=true:=by simp;omega
     rw [this,cond_true]
    rw [hb];have hrow:rowOf (sent (cw w m' (put ⟨c.name,true,-1,0,c.out + 16,c.use⟩ (rowOf w m'))) ⟨2,c.from_,n,0,c.has⟩) m'=rowOf (cw w m' (put ⟨c.name,true,-1,0,c.out + 16,c.use⟩ (rowOf w m'))) m':=rfl;rw [hrow,UL hm hsrt (by exact L.nam)];have hH:=H.home k3 L c.use (ys:= [⟨2,c.from_,n,0,c.has⟩]) (by rw [if_pos hf']);obtain⟨U,V1,V2⟩:=X8 (n:=n) hm R.Ym (c:= ⟨c.name,true,-1,0,c.out + 16,c.use⟩) L.nam;obtain⟨U2,W1,W2⟩:=ZdG (w:=cw w m' (put ⟨c.name,true,-1,0,c.out + 16,c.use⟩ (rowOf w m'))) (n:=n) (x:= ⟨2,c.from_,n,0,c.has⟩) (fun a ha=>U.Ym a (by rw [← U.len];exact ha)) rfl;rw [hmm] at V1
    have P1:Rx (sent (cw w m' (put ⟨c.name,true,-1,0,c.out + 16,c.use⟩ (rowOf w m'))) ⟨2,c.from_,n,0,c.has⟩) (fun a k=>a=x.Zv∧k=n) []:=by
     refine R.upd (U.trans U2) hn hfl hno (fun a d hd=>?_) (fun _ _ _ z=>z.elim) ⟨h,?_⟩
     ·rw [W1,V1] at hd;unfold Yn at hd;split at hd
      ·rename_i e;exact .inr (.inr ⟨e,rfl⟩)
      ·rcases(R.cn n a d hd).2 with z | z | z
       ·exact .inl z
       ·exact .inr (.inl z)
       ·exact z.elim
     ·rw [W1,V1,W2,V2];exact hH
    have P2:Mw (sent (cw w m' (put ⟨c.name,true,-1,0,c.out + 16,c.use⟩ (rowOf w m'))) ⟨2,c.from_,n,0,c.has⟩) []:=by
     refine Mx.upd (U.trans U2) hfl hno ?_;rw [W1,V1,W2,V2];refine hMx.put fun a _ _=>?_
     have:=hG a;rw [List.nil_append,Xg,Qf,Zcn rfl];show(if a=x.Zv then(c.out + 16) else XY (YU w n a)) + _ <=_ + YF (YG a) (x::Q8 w n);omega
    have P3:YU (sent (cw w m' (put ⟨c.name,true,-1,0,c.out + 16,c.use⟩ (rowOf w m'))) ⟨2,c.from_,n,0,c.has⟩) n x.Zv=some ⟨c.name,true,-1,0,c.out + 16,c.use⟩:=by
     rw [W1,V1,U4]
    obtain⟨Q1,Q2⟩:=Zcj P1 P2 hmm (by show m' < (cw _ _ _).cells.length;rw [Yj];exact hm) P3;have Q3:=Ww (w:=sent (cw w m' (put ⟨c.name,true,-1,0,c.out + 16,c.use⟩ (rowOf w m'))) ⟨2,c.from_,n,0,c.has⟩) m' n ⟨c.name,true,-1,0,c.out + 16,c.use⟩;refine⟨Q1,Q2,?_,Q3.2.1.trans Yj,Q3.2.2.1⟩;rw [Q3.2.2.2 rfl];show(w.notes ++ [_]).length <=_;simp
  ·-- weight
   rw [cond_true];have k2':x.kind=2:=by simpa using k2
   rw [YJ (n:=c.out - x.w) (by omega) (by omega)];have:=H.ZiX (.inr k2') L c.use
   obtain⟨P1,P2,P3⟩:=Zc5 (ex':=fun a k=>a=x.Zv∧k=n) R Mx hn hfl hno hmm hm (d:= ⟨c.name,c.root,c.from_,c.has,c.out - x.w,c.use⟩) L.nam (.inr (.inr ⟨rfl,rfl⟩)) (fun a k _ z=>z.elim) ⟨h,this⟩ (fun a _ _=>by
    simp only [List.nil_append,List.cons_append,YF,Zcn k2'];by_cases z:a=x.Zv
    ·rw [if_pos z,z,L.out];omega
    ·rw [if_neg z];omega)
   obtain⟨Q1,Q2⟩:=Zcj P1 P2 hmm (by rw [Yj];exact hm) P3;have Q3:=Ww (w:=cw w m' (put ⟨c.name,c.root,c.from_,c.has,c.out - x.w,c.use⟩ (rowOf w m'))) m' n ⟨c.name,c.root,c.from_,c.has,c.out - x.w,c.use⟩;exact⟨Q1,Q2,Q3.1,Q3.2.1.trans Yj,Q3.2.2.1⟩
 ·rw [cond_true];have k1':x.kind=1:=by simpa using k1
  have hvr:0 <=x.via∧x.via < w.cells.length:=by rcases hx.2.2.2 with z | z | z <;> omega
  cases g1:((!c.root && (c.from_==-1)) && (x.via !=x.Zv))
  ·rw [cond_false];cases g2:((!c.root && decide (c.from_ >=0)) && (c.from_==x.via))
   ·rw [cond_false];by_cases hv:x.via=x.Zv
    ·have hb:XA (cw w m' (put ⟨c.name,c.root,c.from_,c.has,c.out,true⟩ (rowOf w m'))) m' n x.via x.w=cw w m' (put ⟨c.name,c.root,c.from_,c.has,c.out - x.w,true⟩ (rowOf w m')):=by
      unfold XA;have:(x.via != (m':Int))=false:=by simp;omega
      rw [this,cond_false,UL hm hsrt (by exact L.nam),ZDo,Ji hm,ZuC hsrt (by rfl),YJ (n:=c.out - x.w) (by omega) (by omega)]
     rw [hb];have:=H.ZiX (.inl ⟨k1',hv⟩) L true
     obtain⟨P1,P2,P3⟩:=Zc5 (ex':=Kb) R Mx hn hfl hno hmm hm (d:= ⟨c.name,c.root,c.from_,c.has,c.out - x.w,true⟩) L.nam (.inl rfl) (fun a k _ z=>z.elim) ⟨h,this⟩ (fun a _ _=>by
      simp only [List.nil_append,List.cons_append,YF,Wo k1'];by_cases z:a=x.Zv
      ·rw [if_pos z,z,L.out];omega
      ·rw [if_neg z];omega)
     exact⟨P1,P2,by show w.notes.length <=_;omega,Yj,rfl⟩
    ·have hce:YU w n x.Zv=some c:=by
      rcases L.or with z | ⟨z1,z2,z3,z4⟩
      ·exact z
      ·rw [z2,z3] at g1;simp at g1;exact absurd g1 hv
     have hb:XA (cw w m' (put ⟨c.name,c.root,c.from_,c.has,c.out,true⟩ (rowOf w m'))) m' n x.via x.w=sent (cw w m' (put ⟨c.name,c.root,c.from_,c.has,c.out,true⟩ (rowOf w m'))) ⟨2,x.via,n,0,x.w⟩:=by
      unfold XA;have:(x.via != (m':Int))=true:=by simp;omega
      rw [this,cond_true]
     rw [hb];have hH:=H.use hce true
     obtain⟨P1,P2,P3⟩:=Zc5 (ex':=Kb) R Mx hn hfl hfl hmm hm (d:= ⟨c.name,c.root,c.from_,c.has,c.out,true⟩) L.nam (.inl rfl) (fun a k _ z=>z.elim) ⟨h,hH⟩ (fun a _ _=>by
      by_cases z:a=x.Zv
      ·rw [if_pos z,z,L.out];exact Int.le_refl _
      ·rw [if_neg z];exact Int.le_refl _)
     obtain⟨U,V1,V2⟩:=X8 (n:=n) hm R.Ym (c:= ⟨c.name,c.root,c.from_,c.has,c.out,true⟩) L.nam;rw [hmm] at V1
     obtain⟨Q1,Q2⟩:=Zuv (n:=n) (y:= ⟨2,x.via,n,0,x.w⟩) P1 P2 (by rw [ZbN U.nms U.fre];exact hn) hfl hno rfl (by
      rw [Yj,V1,V2];exact⟨h,hH.Zp5 k1' rfl⟩) (fun a _ _=>by
      rw [V2,List.nil_append,Xg,Qf,Zcn rfl];simp only [List.cons_append,List.nil_append,YF,Wo k1'];omega)
     refine⟨Q1,Q2,?_,Yj,rfl⟩;show(w.notes ++ [_]).length <=_;simp
   ·rw [cond_true];simp at g2;rw [YJ (n:=c.has + x.w) (by omega) (by omega)];have:=H.Zp4 k1' L g2.1.2 g2.2 true
    obtain⟨P1,P2,P3⟩:=Zc5 (ex':=Kb) R Mx hn hfl hno hmm hm (d:= ⟨c.name,c.root,c.from_,c.has + x.w,c.out,true⟩) L.nam (.inl rfl) (fun a k _ z=>z.elim) ⟨h,this⟩ (fun a _ _=>by
     simp only [List.nil_append,List.cons_append,YF,Wo k1'];by_cases z:a=x.Zv
     ·rw [if_pos z,z,L.out];omega
     ·rw [if_neg z];omega)
    exact⟨P1,P2,by show w.notes.length <=_;omega,Yj,rfl⟩
  ·rw [cond_true];simp at g1;have:=H.ZsN k1' L g1.1.1 g1.1.2 g1.2 true
   obtain⟨P1,P2,P3⟩:=Zc5 (ex':=Kb) R Mx hn hfl hno hmm hm (d:= ⟨c.name,c.root,x.via,x.w,c.out,true⟩) L.nam (.inl rfl) (fun a k _ z=>z.elim) ⟨h,this⟩ (fun a _ _=>by
    simp only [List.nil_append,List.cons_append,YF,Wo k1'];by_cases z:a=x.Zv
    ·rw [if_pos z,z,L.out];omega
    ·rw [if_neg z];omega)
   exact⟨P1,P2,by show w.notes.length <=_;omega,Yj,rfl⟩
def U6 (w:Zb) (k:Nat):Zb:= ⟨w.cells,w.notes.take k ++ w.notes.drop (k + 1),w.names,w.freed⟩
theorem Zm1 (R:Rt w) {k:Nat} {x:Zd} (hk:w.notes[k]? =some x):Rx (U6 w k) Kb [x]∧Mw (U6 w k) [x]:=by
 obtain⟨hkl,hkx⟩:=List.getElem?_eq_some_iff.1 hk
 have ZcE:w.notes=w.notes.take k ++ x::w.notes.drop (k + 1):=by
  rw [← hkx,← List.drop_eq_getElem_cons hkl,List.take_append_drop]
 obtain⟨R0,M0⟩:=R.rx
 have hp:∀ n,(Q8 w n).Perm (flN n [x] ++ Q8 (U6 w k) n):=by
  intro n;unfold Q8 U6 flN
  conv=>lhs;rw [ZcE]
  rw [List.filter_append,List.filter_append,List.filter_cons,List.filter_cons];split
  ·exact List.perm_middle
  ·exact List.Perm.refl _
 have hmem:∀ y ∈ [x] ++ (U6 w k).notes,y ∈ w.notes:=by
  intro y hy;rw [ZcE];simp only [U6,List.mem_append,List.mem_cons,List.mem_singleton,List.not_mem_nil,or_false] at hy ⊢;rcases hy with z | z | z
  ·exact .inr (.inl z)
  ·exact .inl z
  ·exact .inr (.inr z)
 refine⟨{R0 with nn:=fun y hy=>R0.nn y (by simpa using hmem y hy),nm:=fun n hn=>?_},fun n hn=>?_⟩
 ·obtain⟨h,H⟩:=R0.nm n hn;exact⟨h,H.perm (hp n)⟩
 ·have:=M0 n hn;intro a a0 a1;have:=this a a0 a1;unfold J4 at this ⊢;rw [← Zer (hp n)];exact this
theorem Ztv (R:Rt w) {k:Nat} {x:Zd} (hk:w.notes[k]? =some x):Rt (QN (U6 w k) x)∧(QN (U6 w k) x).cells.length=w.cells.length∧(QN (U6 w k) x).names=w.names:=by
 obtain⟨R0,M0⟩:=Zm1 R hk;obtain⟨q1,q2,q3,q4,q5⟩:=Zmn R0 M0;obtain⟨hkl,_⟩:=List.getElem?_eq_some_iff.1 hk;refine⟨q1.rt q2 ?_,q4,q5⟩
 have:(U6 w k).notes.length=w.notes.length - 1:=by
  unfold U6;simp;omega
 have:=R.nts;omega
end
end Go.Proofs.Ytekpjgmhkkjhgaa
end
section
namespace Go.Proofs.Ytekpjgmhkkjhgaa
open Go.Lf
theorem Zi3 (K:Nat):∀ {r:Row},UC r ->r.filter (fun c=>decide (c.name < ((K + 1:Nat):Int)))=r.filter (fun c=>decide (c.name < (K:Int))) ++ (WS r K).toList
 | [],_=>rfl
 | d::r,s=>by
   have hh:=s.head;rw [Y7];by_cases h1:d.name < (K:Int)
   ·rw [List.filter_cons_of_pos (by simp;omega),List.filter_cons_of_pos (by simpa using h1),if_neg (by omega),Zi3 K s.tail];rfl
   ·have h3:r.filter (fun c=>decide (c.name < (K:Int)))= []:=by
     rw [List.filter_eq_nil_iff];intro c hc;have:=hh c hc;simp;omega
    have h4:r.filter (fun c=>decide (c.name < ((K + 1:Nat):Int)))= []:=by
     rw [List.filter_eq_nil_iff];intro c hc;have:=hh c hc;simp;omega
    rw [List.filter_cons_of_neg (p:=fun c:Za=>decide (c.name < (K:Int))) (by simpa using h1),h3];by_cases h2:d.name= (K:Int)
    ·rw [List.filter_cons_of_pos (by simp;omega),h4,if_pos h2];rfl
    ·rw [List.filter_cons_of_neg (by simp;omega),h4,if_neg h2,Zhi (by intro c hc;have:=hh c hc;omega)];rfl
def Ziv (a:Int) (c:Za) (s:List (List Za)):List (List Za):=s.set a.toNat ((s[a.toNat]?.getD []) ++ [c])
section
variable {w:Zb} {st:Store}
theorem Zof {m:Nat} (Ym:UC (rowOf w m)) (hn:∀ c ∈ rowOf w m,0 <=c.name) {s:List (List Za)} (hs:s[m]? =some []) (K:Nat):
 (List.range K).foldl (fun s n=>Ja w Ziv m n s) s=s.set m ((rowOf w m).filter fun c=>decide (c.name < (K:Int))):=by
 have hm:m < s.length:= (List.getElem?_eq_some_iff.1 hs).1
 induction K with
 | zero=>
   have:(rowOf w m).filter (fun c=>decide (c.name < ((0:Nat):Int)))= []:=by
    rw [List.filter_eq_nil_iff];intro c hc;have:=hn c hc;simp;omega
   rw [this,set_self hs];rfl
 | succ K ih=>
   rw [List.range_succ,List.foldl_append,ih];simp only [List.foldl_cons,List.foldl_nil];rw [Zi3 K Ym];unfold Ja;rw [YW];cases hf:WS (rowOf w m) (K:Int) with
   | none=>simp
   | some c=>
     dsimp only;unfold Ziv;rw [Int.toNat_natCast,List.getElem?_set_self hm,List.set_set]
     rfl
theorem Zoe {N:Nat} (Ym:∀ m,m < w.cells.length ->UC (rowOf w m)) (hn:∀ m,m < w.cells.length ->∀ c ∈ rowOf w m,0 <=c.name∧c.name < (N:Int)):
 (List.range w.cells.length).foldl (fun s m=>(List.range N).foldl (fun s n=>Ja w Ziv m n s) s) (List.replicate w.cells.length [])=w.cells:=by
 have key:∀ M,M <=w.cells.length ->((List.range M).foldl (fun s m=>(List.range N).foldl (fun s n=>Ja w Ziv m n s) s) (List.replicate w.cells.length [])).length=w.cells.length∧
  ∀ i,i < w.cells.length ->((List.range M).foldl (fun s m=>(List.range N).foldl (fun s n=>Ja w Ziv m n s) s) (List.replicate w.cells.length []))[i]? =some (if i < M then rowOf w i else []):=by
  intro M
  induction M with
  | zero=>intro _;simp;intro i hi;simp [hi]
  | succ M ih=>
    intro hM;obtain⟨i1,i2⟩:=ih (by omega);rw [List.range_succ,List.foldl_append];simp only [List.foldl_cons,List.foldl_nil];rw [Zof (Ym M (by omega)) (fun c hc=>(hn M (by omega) c hc).1) (by rw [i2 M (by omega),if_neg (by omega)])]
    have hfull:(rowOf w M).filter (fun c=>decide (c.name < (N:Int)))=rowOf w M:=by
     rw [List.filter_eq_self];intro c hc;simpa using (hn M (by omega) c hc).2
    rw [hfull];refine⟨by rw [List.length_set,i1],fun i hi=>?_⟩;by_cases e:i=M
    ·subst e;rw [List.getElem?_set_self (by rw [i1];exact hi),if_pos (by omega)]
    ·rw [List.getElem?_set_ne (fun z=>e z.symm),i2 i hi];congr 1;by_cases z:i < M
     ·rw [if_pos z,if_pos (by omega)]
     ·rw [if_neg z,if_neg (by omega)]
 obtain⟨k1,k2⟩:=key w.cells.length (Nat.le_refl _);apply List.ext_getElem?;intro i;by_cases hi:i < w.cells.length
 ·rw [k2 i hi,if_pos hi,QK hi]
 ·rw [List.getElem?_eq_none (by omega),List.getElem?_eq_none (by omega)]
theorem Szd.ZdL (n12:w.names <=12) {m:Nat} (Ym:UC (rowOf w m)) (hn:∀ c ∈ rowOf w m,0 <=c.name∧c.name < w.names):(rowOf w m).length <=12:=by
 have h0:((rowOf w m).map fun c=>c.name).Pairwise (· < ·):=by rw [List.pairwise_map];exact Ym
 by_cases e:0 <=w.names
 ·have:=ZaJ (b:=w.names) (a:=0) h0 (by
   intro x hx;obtain⟨c,hc,rfl⟩:=List.mem_map.1 hx;exact hn c hc) e
  rw [List.length_map] at this;omega
 ·cases h:rowOf w m with
  | nil=>simp
  | cons c r=>have:=hn c (by rw [h];simp);omega
theorem Zuu {F:Nat} (hF:1000 <=F) (sm:Small w) (sz:Szd w) (so:Qb w st) (Ym:∀ m,m < w.cells.length ->UC (rowOf w m)) (hn:∀ m,m < w.cells.length ->∀ c ∈ rowOf w m,0 <=c.name∧c.name < w.names):ZlV F st=some w:=by
 have hc:=sz.c6;have hno:=sm.notes;have hfr:=sm.freed;have h0:=sz.n0;have h12:=sz.n12;unfold ZlV ZnL ZnK mkL;rw [so.m,so.notes,so.freed]
 have hb:(decide (0 <= (w.cells.length:Int)) && (decide ((w.cells.length:Int) <= (w.cells.length:Int)) && Nat.ble (24 * ((w.cells.length:Int)).toNat) 100000))=true:=by
  rw [Bool.and_eq_true,Bool.and_eq_true];refine⟨by simp,by simp,Nat.ble_eq_true_of_le (by omega)⟩
 rw [hb,cond_true,Option.bind_some,XM (by simp only [List.length_nil];omega) (by decide),XM (by simp only [List.length_nil];omega) (by decide)];simp only [Option.bind_some,List.nil_append,Int.toNat_natCast]
 obtain⟨h1,_⟩:=ZkR hF sm sz so (z:=Za.mk 0 false 0 0 0 false) (fun i (s:List (List Za))=>s.length=w.cells.length∧∀ r ∈ s,r.length <=i) (fun i s h=>⟨h.1,fun r hr=>Nat.le_succ_of_le (h.2 r hr)⟩) (E:=Ze2 st w.notes w.freed) (B1:=Zke F st w.notes w.freed) (B2:=Zkd st w.notes w.freed)
  (Y:=fun a c s k=>(Yh s a).bind fun x66=>(app 48 x66 [c]).bind fun z74=>(Yh s a).bind fun x78=>k (Jh s a z74)) Ziv (fun v s next=>by simp only [Zke]) (fun v0 next v s nx=>by
    simp only [Zkd];cases decide (v < st.names)
    ·rfl
    ·simp only [cond_true];rfl) (fun i a c s k ha hi hs=>by
    have hg:s[a]? =some (s[a]'(by omega)):=by simp
    have hl:(s[a]'(by omega)).length <=i:=hs.2 _ (List.getElem_mem _)
    have hset:Jh s (a:Int) (s[a]'(by omega) ++ [c])=Ziv a c s:=by
     unfold Jh Ziv;rw [Int.toNat_natCast,hg];rfl
    rw [ZY,hg,Option.bind_some,XM (by simp;omega) (by decide),Option.bind_some,Option.bind_some,hset];refine⟨rfl,?_,fun r hr=>?_⟩
    ·unfold Ziv;rw [List.length_set];exact hs.1
    ·unfold Ziv at hr;rcases List.mem_or_eq_of_mem_set hr with z | z
     ·exact Nat.le_succ_of_le (hs.2 r z)
     ·rw [z,Int.toNat_natCast,hg];simp;omega) (List.replicate w.cells.length []) ⟨by simp,by
    intro r hr;rw [List.mem_replicate] at hr;rw [hr.2];simp⟩
 have:=Zoe (w:=w) Ym (N:=w.names.toNat) (fun m hm c hc=>by have:=hn m hm c hc;omega);rw [h1,this];unfold Ze2;rw [so.n]
theorem Rt.small (R:Rt w):Small w:=by
 have:=R.c6;have:=R.nts;have:=R.Zi2;have:=R.n12;refine⟨by omega,fun r hr=>?_,by omega,by omega⟩;obtain⟨m,hm⟩:=List.getElem?_of_mem hr;have hml:= (List.getElem?_eq_some_iff.1 hm).1;have e:r=rowOf w m:=by have:=QK hml;rw [hm] at this;exact Option.some.inj this
 have:=Szd.ZdL R.n12 (R.Ym m hml) (fun c hc=>by have:= (R.cn m hml c hc).1;unfold Yl at this;simp at this;exact this.1);rw [e];omega
theorem Rt.names (R:Rt w):∀ m,m < w.cells.length ->∀ c ∈ rowOf w m,0 <=c.name∧c.name < w.names:=fun m hm c hc=>by
 have:= (R.cn m hm c hc).1;unfold Yl at this;simp at this;exact this.1
theorem Rt.shut {F:Nat} (hF:1000 <=F) (R:Rt w) (so:Qb w st):ZlV F st=some w:=Zuu hF R.small R.shp.szd so R.Ym R.names
theorem Rt.open_ {F:Nat} (hF:1000 <=F) (R:Rt w):∃ st,Zig F w=some st∧Qb w st∧UK st.cells:=by
 obtain⟨cs,q1,q2⟩:=Zoz hF R.small R.shp;obtain⟨cs',q3,q4⟩:=ZuF hF R.small;rw [q1] at q3;have:cs=cs':=congrArg Store.cells (Option.some.inj q3);subst this;exact⟨_,q1,⟨rfl,rfl,rfl,rfl,q2⟩,q4⟩
theorem Rt.copy {F:Nat} (hF:1000 <=F) (R:Rt w) (so:Qb w st):∃ st',ZsY F st=some st'∧Qb w st'∧UK st'.cells:=by
 obtain⟨st',q1,q2,q3⟩:=R.open_ hF;refine⟨st',?_,q2,q3⟩;unfold ZsY;rw [R.shut hF so,Option.bind_some,q1];rfl
end
end Go.Proofs.Ytekpjgmhkkjhgaa
end
section
namespace Go.Proofs.Ytekpjgmhkkjhgaa
open Go.Lf
def QW (d:Zn) (M:Int):Bool:=
 bif d.ZW==1 then(((decide (d.at_ >=0)) && (decide (d.at_ < M))) && (d.name==0)) && (d.Zv==0)
 else bif(d.ZW==2 || d.ZW==4) then(((decide (d.at_ >=0)) && (decide (d.at_ < M))) && ((decide (d.Zv >=0)) && (decide (d.Zv < M)))) && ((d.at_ !=d.Zv) && decide (d.name >=0))
 else bif d.ZW==3 then(((decide (d.at_ >=0)) && (decide (d.at_ < M))) && (decide (d.name >=0))) && (d.Zv==0)
 else(((d.ZW==5) && (decide (d.at_ >=0))) && (d.name==0)) && (d.Zv==0)
theorem Zqd (d:Zn) (M:Int):Zqj d M=some (QW d M):=by
 unfold Zqj QW Zhs;generalize (d.ZW==1)=b1;generalize (d.ZW==2)=b2;generalize (d.ZW==3)=b3;generalize (d.ZW==4)=b4;generalize (d.ZW==5)=b5;cases b1 <;> cases b2 <;> cases b3 <;> cases b4 <;> cases decide (d.at_ >=0) <;> cases decide (d.at_ < M) <;> simp [Bool.and_assoc]
theorem YL {d:Zn} {M:Int} (h:QW d M=true):
 (d.ZW=1∧0 <=d.at_∧d.at_ < M)∨((d.ZW=2∨d.ZW=4)∧(0 <=d.at_∧d.at_ < M)∧(0 <=d.Zv∧d.Zv < M)∧d.at_ ≠ d.Zv∧0 <=d.name)∨(d.ZW=3∧(0 <=d.at_∧d.at_ < M)∧0 <=d.name)∨(d.ZW=5∧0 <=d.at_):=by
 unfold QW at h;by_cases k1:d.ZW=1
 ·simp [k1] at h;exact .inl ⟨k1,h.1.1⟩
 ·by_cases k2:d.ZW=2
  ·simp [k2] at h;exact .inr (.inl ⟨.inl k2,h.1.1,h.1.2,h.2.1,h.2.2⟩)
  ·by_cases k4:d.ZW=4
   ·simp [k4] at h;exact .inr (.inl ⟨.inr k4,h.1.1,h.1.2,h.2.1,h.2.2⟩)
   ·by_cases k3:d.ZW=3
    ·simp [k3] at h;exact .inr (.inr (.inl ⟨k3,h.1.1,h.1.2⟩))
    ·simp [k1,k2,k3,k4] at h;exact .inr (.inr (.inr ⟨h.1.1.1,h.1.1.2⟩))
def Ya (w:Zb) (d:Zn):Zb:=
 bif d.ZW==1 then ZdP w d.at_.toNat
 else bif d.ZW==2 then ZdI w d d.at_.toNat (look (rowOf w d.at_.toNat) d.name)
 else bif d.ZW==5 then QN (U6 w d.at_.toNat) (w.notes[d.at_.toNat]?.getD ⟨0,0,0,0,0⟩)
 else bif d.ZW==3 then ZfV w d.at_.toNat d.name (look (rowOf w d.at_.toNat) d.name)
 else goW w d d.at_.toNat (look (rowOf w d.at_.toNat) d.name)
section
variable {w:Zb} {n:Int}
theorem Rx.range {ex:Int ->Int ->Prop} {fl:List Zd} (R:Rx w ex fl):∀ m,m < w.cells.length ->∀ c ∈ rowOf w m,0 <=c.name∧c.name < w.names:=fun m hm c hc=>by
 have:= (R.cn c.name m c (by rw [Jc hm];exact ZnE (R.Ym m hm) hc)).1;unfold Yl at this;simp at this;exact this.1
theorem Rx.small {ex:Int ->Int ->Prop} {fl:List Zd} (R:Rx w ex fl) (hl:w.notes.length < 900):Small w:=by
 have:=R.c6;have:=R.n12;have hf:=ZaJ R.fr R.frr R.n0;refine⟨by omega,fun r hr=>?_,by omega,by omega⟩;obtain⟨m,hm⟩:=List.getElem?_of_mem hr;have hml:= (List.getElem?_eq_some_iff.1 hm).1;have e:r=rowOf w m:=by have:=QK hml;rw [hm] at this;exact Option.some.inj this
 have:=Szd.ZdL R.n12 (R.Ym m hml) (R.range m hml);rw [e];omega
theorem Rx.szd {ex:Int ->Int ->Prop} (R:Rx w ex []):Szd w:= ⟨R.c6,R.n0,R.n12,fun x hx=>by
 have hn:=R.nn x (by simpa using hx);obtain⟨h,H⟩:=R.nm _ hn;have:= (H.nts x (List.mem_append_right _ (List.mem_filter.2 ⟨hx,by simp⟩))).2.2.2;rcases this with z | z | z
 ·exact .inl z.1
 ·exact .inr (.inl z.1)
 ·exact .inr (.inr z.1)⟩
theorem Rt.Qc (R:Rt w) {m:Nat} (hm:m < w.cells.length) {c:Za} (hc:WS (rowOf w m) n=some c):look (rowOf w m) n=c∧YU w n m=some c∧Yl w n=true:=by
 have e:YU w n m=some c:=by rw [Jc hm];exact hc
 exact⟨QL hc,e,(R.rx.1.cn n m c e).1⟩
theorem Rx.Zc6 (R:Rx w Kb []) (Mx:Mw w []):∀ k a c,YU w k a=some c ->c.out <=1000016:=fun k a c hc=>by
 have hn:= (R.cn k a c hc).1;obtain⟨h,H⟩:=R.nm k hn;have:= (H.most (Mx k hn)).1 a c hc;omega
theorem Zc4 (R:Rt w) (hn:Yl w n=true) {m:Nat} (hm:m < w.cells.length) {d:Za} (hd:d.name=n) {y:Zd} (hy:y.name=n) (hu:d.use=true∨d.out ≠ 0)
 (hN:∃ h,Nm w.cells.length n (Yn (YU w n) m (some d)) (Q8 w n ++ [y]) h):Rx (sent (cw w m (put d (rowOf w m))) y) Kb []:=by
 obtain⟨R0,M0⟩:=R.rx;obtain⟨U,V1,V2⟩:=X8 hm R.Ym hd;obtain⟨U2,W1,W2⟩:=ZdG (w:=cw w m (put d (rowOf w m))) (n:=n) (x:=y) (fun a ha=>U.Ym a (by rw [← U.len];exact ha)) hy;refine R0.upd (U.trans U2) hn (by simp) (by simp) (fun a c hc=>?_) (fun _ _ _ z=>z) ?_
 ·rw [W1,V1] at hc;unfold Yn at hc;split at hc
  ·cases hc;exact hu.elim .inl fun z=>.inr (.inl z)
  ·exact(R0.cn n a c hc).2
 ·rw [W1,W2,V1,V2];exact hN
theorem Zx2 (R:Rt w) {d:Zn} {m:Nat} (hm:m < w.cells.length) (hat:d.at_= (m:Int)) (hto:0 <=d.Zv∧d.Zv < (w.cells.length:Int)) {c:Za} (hc:WS (rowOf w m) d.name=some c) (hu:c.use=true):Rx (ZdI w d m c) Kb []:=by
 obtain⟨_,e,hn⟩:=R.Qc hm hc;obtain⟨h,H,Mx⟩:=R.nm _ hn;have S:= (H.most Mx).1 _ c e;have hcn:=X0 hc;unfold ZdI;cases hb:(decide (c.from_ >=0) && decide (c.has >=2))
 ·rw [cond_false,YJ (n:=c.out + 16) (by omega) (by omega)];exact Zc4 R hn hm (d:= ⟨c.name,c.root,c.from_,c.has,c.out + 16,c.use⟩) (y:= ⟨1,d.Zv,d.name,d.at_,16⟩) hcn rfl (.inl hu) ⟨h,H.Zuy (w:=16) e hto (by decide) (by rw [hat])⟩
 ·rw [cond_true];simp at hb;have e1:c.has.tdiv 2=c.has / 2:=Int.tdiv_eq_ediv_of_nonneg (by omega);rw [e1,YJ (n:=c.has / 2) (by omega) (by omega),YJ (n:=c.has - c.has / 2) (by omega) (by omega)];exact Zc4 R hn hm (d:= ⟨c.name,c.root,c.from_,c.has - c.has / 2,c.out,c.use⟩) (y:= ⟨1,d.Zv,d.name,c.from_,c.has / 2⟩) hcn rfl (.inl hu) ⟨h,H.Zuw (w:=c.has / 2) e hb.1 hto (by omega) (by omega) rfl⟩
theorem ZC8 (R:Rt w) {d:Zn} {m:Nat} (hm:m < w.cells.length) (hat:d.at_= (m:Int)) (hto:0 <=d.Zv∧d.Zv < (w.cells.length:Int)) (hne:d.at_ ≠ d.Zv) {c:Za} (hc:WS (rowOf w m) d.name=some c) (hr:c.root=true):Rx (goW w d m c) Kb []:=by
 obtain⟨_,e,hn⟩:=R.Qc hm hc;obtain⟨h,H,Mx⟩:=R.nm _ hn;have hcn:=X0 hc;unfold goW;have hu:c.use=true∨c.out ≠ 0:= (R.cn m hm c (Zbc hc)).2;exact Zc4 R hn hm (d:=goC c d.Zv) hcn rfl hu ⟨d.Zv,H.go e hr hto (by omega) rfl⟩
theorem Zkz (R:Rt w) {m:Nat} (hm:m < w.cells.length) {c:Za} (hc:WS (rowOf w m) n=some c):Rx (ZfV w m n c) Kb []∧Mw (ZfV w m n c) []:=by
 obtain⟨_,e,hn⟩:=R.Qc hm hc;obtain⟨h,H,Mx⟩:=R.nm _ hn;obtain⟨R0,M0⟩:=R.rx;have hcn:=X0 hc
 obtain⟨P1,P2,P3⟩:=Zc5 (n:=n) (fl:= []) (fl':= []) (m:=m) (m':=m) (ex':=fun a k=>a= (m:Int)∧k=n) R0 M0 hn (by simp) (by simp) rfl hm (d:=K8 c) hcn (.inr (.inr ⟨rfl,rfl⟩)) (fun a k _ z=>z.elim) ⟨h,H.use e false⟩ (fun a _ _=>by
  by_cases z:a= (m:Int)
  ·rw [if_pos z,z,e];exact Int.le_refl _
  ·rw [if_neg z];exact Int.le_refl _)
 unfold ZfV;exact Zcj P1 P2 rfl (by rw [Yj];exact hm) P3
theorem Zyb (R:Rt w) {m:Nat} (hm:m < w.cells.length) (hlt:w.names < 12):Rx (ZdP w m) Kb []:=by
 have hn0:=R.n0;obtain⟨R0,M0⟩:=R.rx;obtain⟨U,V1,V2⟩:=X8 (w:=w) (n:=w.names) hm R.Ym (c:=ZeH w) rfl;have hnm:(ZdP w m).names=w.names + 1:=YJ (by omega) (by omega)
 have hB:∀ k,Yl (ZdP w m) k= (Yl w k || (k==w.names)):=by
  intro k;unfold Yl;rw [hnm];show(decide (0 <=k) && decide (k < w.names + 1) && !(w.freed.any fun y=>y==k))=_;by_cases e:k=w.names
  ·have:(w.freed.any fun y=>y==k)=false:=by
    rw [List.any_eq_false];intro y hy;have:=R.frr y hy;simp;omega
   rw [this];simp [e];omega
  ·have:decide (k < w.names + 1)=decide (k < w.names):=decide_eq_decide.2 (by omega);rw [this];simp [e]
 have hno:¬ Yl w w.names=true:=by unfold Yl;simp
 have ZFD:YU w w.names=fun _=>none:=by
  funext a;cases e:YU w w.names a with
  | none=>rfl
  | some c=>exact absurd (R0.cn _ _ _ e).1 hno
 have hns0:Q8 w w.names= []:=by
  unfold Q8;rw [List.filter_eq_nil_iff];intro x hx;have:=R.nn x hx;intro z;have z:x.name=w.names:=by simpa using z
  rw [z] at this;exact hno this
 have ZBM:YU (ZdP w m) w.names=Yn (fun _=>none) m (some (ZeH w)):=by
  show YU (cw w m (put (ZeH w) (rowOf w m))) w.names=_;rw [V1,ZFD]
 have hlen:(ZdP w m).cells.length=w.cells.length:=Yj;refine⟨by rw [hlen];exact R.c1,by rw [hlen];exact R.c6,by rw [hnm];omega,by rw [hnm];omega,R.fr,fun x hx=>?_,fun a ha=>?_,fun k a c hc=>?_,fun x hx=>?_,fun k hk=>?_⟩
 ·have:=R.frr x hx;rw [hnm];omega
 ·exact U.Ym a (by rw [hlen] at ha;exact ha)
 ·rw [hB];by_cases e:k=w.names
  ·subst e;rw [ZBM] at hc;unfold Yn at hc;split at hc
   ·cases hc;exact⟨by simp,.inl rfl⟩
   ·cases hc
  ·have:YU (ZdP w m) k=YU w k:=U.oc k e;rw [this] at hc;have:=R0.cn k a c hc;exact⟨by rw [this.1];rfl,this.2⟩
 ·have hx:x ∈ w.notes:=hx;rw [hB,R.nn x hx];rfl
 ·rw [hlen];by_cases e:k=w.names
  ·subst e;refine⟨m,?_⟩;rw [ZBM];show Nm _ _ _ ([] ++ Q8 w w.names) _;rw [hns0];exact Nm.fresh ⟨by omega,by omega⟩
  ·rw [hB] at hk;have hk:Yl w k=true:=by simpa [e] using hk
   obtain⟨h,H⟩:=R0.nm k hk;refine⟨h,?_⟩;have:YU (ZdP w m) k=YU w k:=U.oc k e;rw [this];exact H
theorem ZuK (R:Rt w) {m:Nat} (hm:m < w.cells.length):∀ k a c,YU (ZdP w m) k a=some c ->c.out <=1000016:=fun k a c hc=>by
 obtain⟨R0,M0⟩:=R.rx;obtain⟨U,V1,V2⟩:=X8 (w:=w) (n:=w.names) hm R.Ym (c:=ZeH w) rfl;have hc:YU (cw w m (put (ZeH w) (rowOf w m))) k a=some c:=hc;by_cases e:k=w.names
 ·subst e;rw [V1] at hc;unfold Yn at hc;split at hc
  ·cases hc;show(0:Int) <=_;omega
  ·exact R0.Zc6 M0 _ _ _ hc
 ·rw [U.oc k e] at hc;exact R0.Zc6 M0 _ _ _ hc
theorem ZdH (x:Zd):(sent w x).notes.length=w.notes.length + 1:=by unfold sent;simp
theorem Zlj (d:Zn) (m:Nat) (c:Za):(ZdI w d m c).notes.length=w.notes.length + 1∧(ZdI w d m c).cells.length=w.cells.length∧(ZdI w d m c).names=w.names:=by
 unfold ZdI;cases (decide (c.from_ >=0) && decide (c.has >=2))
 ·rw [cond_false];exact⟨ZdH _,Yj,rfl⟩
 ·rw [cond_true];exact⟨ZdH _,Yj,rfl⟩
theorem Qm {d:Zn} {m:Nat} (h1:d.ZW ≠ 1) (h5:d.ZW ≠ 5) (he:YH w d m=0):∃ c,WS (rowOf w m) d.name=some c∧(d.ZW=4 ->c.root=true)∧(d.ZW ≠ 4 ->c.use=true):=by
 unfold YH at he;have b1:(d.ZW==1)=false:=by simp [h1]
 have b5:(d.ZW==5)=false:=by simp [h5]
 rw [b1,b5] at he;simp only [cond_false] at he;cases hf:WS (rowOf w m) d.name with
 | none=>rw [hf] at he;cases he
 | some c=>
   rw [hf] at he;refine⟨c,rfl,fun h4=>?_,fun h4=>?_⟩
   ·rw [h4] at he;dsimp only at he;cases hr:c.root with
    | true=>rfl
    | false=>rw [hr] at he;simp at he
   ·have b4:(d.ZW==4)=false:=by simp [h4]
    rw [b4] at he;dsimp only at he;cases hr:c.use with
    | true=>rfl
    | false=>rw [hr] at he;simp at he
theorem ZbG (R:Rt w) {m:Nat} (hm:m < w.cells.length) {d:Za} (hd:d.name=n) {y:Zd} (ho:d.out <=1000016):∀ k a c,YU (sent (cw w m (put d (rowOf w m))) y) k a=some c ->c.out <=1000016:=fun k a c hc=>by
 obtain⟨R0,M0⟩:=R.rx;obtain⟨U,V1,V2⟩:=X8 hm R.Ym hd;have hc:YU (cw w m (put d (rowOf w m))) k a=some c:=hc;by_cases e:k=n
 ·subst e;rw [V1] at hc;unfold Yn at hc;split at hc
  ·cases hc;exact ho
  ·exact R0.Zc6 M0 _ _ _ hc
 ·rw [U.oc k e] at hc;exact R0.Zc6 M0 _ _ _ hc
theorem Zux (R:Rt w) {d:Zn} {m:Nat} (hm:m < w.cells.length) {c:Za} (hc:WS (rowOf w m) d.name=some c):∀ k a x,YU (ZdI w d m c) k a=some x ->x.out <=1000016:=by
 obtain⟨_,e,hn⟩:=R.Qc hm hc;obtain⟨h,H,Mx⟩:=R.nm _ hn;have S:= (H.most Mx).1 _ c e;have hcn:=X0 hc;unfold ZdI;cases hb:(decide (c.from_ >=0) && decide (c.has >=2))
 ·rw [cond_false,YJ (n:=c.out + 16) (by omega) (by omega)];exact ZbG R hm (d:= ⟨c.name,c.root,c.from_,c.has,c.out + 16,c.use⟩) hcn (by show c.out + 16 <=_;omega)
 ·rw [cond_true];exact ZbG R hm (d:= ⟨c.name,c.root,c.from_,ZK (c.has - ZK (c.has.tdiv 2)),c.out,c.use⟩) hcn (by show c.out <=_;omega)
theorem ZkA (R:Rt w) {d:Zn} (hf:QW d w.cells.length=true) (he:YH w d d.at_.toNat=0):
 Rx (Ya w d) Kb []∧(Ya w d).notes.length <=82∧(Ya w d).cells.length=w.cells.length∧(d.ZW ≠ 1 ->(Ya w d).names=w.names)∧∀ k a c,YU (Ya w d) k a=some c ->c.out <=1000016:=by
 have hnl:=R.nts;obtain⟨R0,M0⟩:=R.rx;unfold Ya;rcases YL hf with⟨k,a⟩ | ⟨k,a,t,ne,nm⟩ | ⟨k,a,nm⟩ | ⟨k,a⟩
 ·rw [k];simp only [beq_self_eq_true,cond_true]
  have:w.names < 12:=by
   unfold YH at he;rw [k] at he;simp only [beq_self_eq_true,cond_true] at he;cases hb:decide (w.names >=12) with
   | true=>rw [hb] at he;cases he
   | false=>simpa using hb
  exact⟨Zyb R (by omega) this,by show w.notes.length <=82;omega,Yj,fun z=>absurd rfl z,fun k a c hc=>ZuK R (by omega) k a c hc⟩
 ·have hm:d.at_.toNat < w.cells.length:=by omega
  have hat:d.at_= (d.at_.toNat:Int):=by omega
  rcases k with k | k
  ·obtain⟨c,hc,_,hu⟩:=Qm (by omega) (by omega) he;have hl:= (R.Qc hm hc).1;rw [k,hl];simp only [beq_self_eq_true,cond_true,show((2:Int)==1)=false from rfl,cond_false];obtain⟨q1,q2,q3⟩:=Zlj (w:=w) d d.at_.toNat c;exact⟨Zx2 R hm hat t hc (hu (by omega)),by omega,q2,fun _=>q3,Zux R hm hc⟩
  ·obtain⟨c,hc,hr,_⟩:=Qm (by omega) (by omega) he;have hl:= (R.Qc hm hc).1;rw [k,hl];simp only [show((4:Int)==1)=false from rfl,show((4:Int)==2)=false from rfl,show((4:Int)==3)=false from rfl,show((4:Int)==5)=false from rfl,cond_false];refine⟨ZC8 R hm hat t ne hc (hr k),?_,Yj,fun _=>rfl,ZbG R hm (d:=goC c d.Zv) (n:=d.name) (show c.name=d.name from X0 hc) (by show c.out <=_;exact R0.Zc6 M0 _ _ _ (R.Qc hm hc).2.1)⟩;unfold goW;rw [ZdH];show w.notes.length + 1 <=82;omega
 ·have hm:d.at_.toNat < w.cells.length:=by omega
  obtain⟨c,hc,_,hu⟩:=Qm (by omega) (by omega) he;have hl:= (R.Qc hm hc).1;rw [k,hl];simp only [beq_self_eq_true,cond_true,show((3:Int)==1)=false from rfl,show((3:Int)==2)=false from rfl,show((3:Int)==5)=false from rfl,cond_false];have q:=Ww (w:=cw w d.at_.toNat (put (K8 c) (rowOf w d.at_.toNat))) d.at_.toNat d.name (K8 c);refine⟨(Zkz R hm hc).1,?_,q.2.1.trans Yj,fun _=>q.2.2.1,(Zkz R hm hc).1.Zc6 (Zkz R hm hc).2⟩;have:=q.1;show(Xp _ _ _ _).notes.length <=82;have e:(cw w d.at_.toNat (put (K8 c) (rowOf w d.at_.toNat))).notes.length=w.notes.length:=rfl;omega
 ·rw [k];simp only [beq_self_eq_true,cond_true,show((5:Int)==1)=false from rfl,show((5:Int)==2)=false from rfl,cond_false]
  have hlt:d.at_.toNat < w.notes.length:=by
   unfold YH at he;rw [k] at he;simp only [beq_self_eq_true,cond_true,show((5:Int)==1)=false from rfl,cond_false] at he;cases hb:decide (d.at_ >= (w.notes.length:Int)) with
   | true=>rw [hb] at he;cases he
   | false=>simp at hb;omega
  have hx:w.notes[d.at_.toNat]? =some (w.notes[d.at_.toNat]'hlt):=by simp
  rw [hx];simp only [Option.getD_some];obtain⟨q1,q2,q3⟩:=Ztv R hx;have:=q1.nts;exact⟨q1.rx.1,by show(QN _ _).notes.length <=82;omega,q2,fun _=>q3,q1.rx.1.Zc6 q1.rx.2⟩
end
end Go.Proofs.Ytekpjgmhkkjhgaa
end
section
namespace Go.Proofs.Ytekpjgmhkkjhgaa
open Go.Lf
def WA (w:Zb):Bool:=decide ((w.notes.length:Int) > 80) || (List.range w.cells.length).any fun m=>(List.range w.names.toNat).any fun n=>decide (JH w m n > 1000000)
section
variable {w:Zb} {n:Int} {st:Store} {F:Nat}
theorem UK.WG {κ ν:Type} [DecidableEq κ] {l:List (κ×ν)} (u:UK l) (k:κ) (z:ν):UK (WG l k z):=by
 unfold Go.Lf.WG;cases e:Z4 l k with
 | some q=>exact u
 | none=>
   have:Go.Lf.YV l k z=l ++ [(k,z)]:=by unfold Go.Lf.YV;rw [e]
   dsimp only;rw [← this];exact u.YV k z
theorem UK.upd {v:Acc} (u:UK v) (k:Ze) (x:Int):UK (upd v k x):= (u.WG k 0).YV k _
theorem ZrW {κ ν:Type} [DecidableEq κ] {l:List (κ×ν)} {k:κ} {x:ν} (h:Xk l k=some x):(k,x) ∈ l:=by
 unfold Xk at h;cases e:Z4 l k with
 | none=>rw [e] at h;cases h
 | some q=>
   rw [e] at h;cases h;exact List.mem_of_getElem? (Ky e)
theorem UK.get {κ ν:Type} [DecidableEq κ]:∀ {l:List (κ×ν)},UK l ->∀ {k:κ} {x:ν},(k,x) ∈ l ->Xk l k=some x
 | [],_,_,_,h=>by simp at h
 | p::l,u,k,x,h=>by
   have u':UK l:=by unfold UK at u ⊢;rw [List.map_cons,List.nodup_cons] at u;exact u.2
   have hp:p.1 ∉ l.map (·.1):=by unfold UK at u;rw [List.map_cons,List.nodup_cons] at u;exact u.1
   unfold Xk;rw [Kz];rcases List.mem_cons.1 h with z | z
   ·subst z;simp
   ·have hne:¬ p.1=k:=fun e=>hp (by rw [e];exact List.mem_map_of_mem (f:= (·.1)) z)
    rw [if_neg hne];have:=u'.get z;unfold Xk at this;cases e:Z4 l k with
    | none=>rw [e] at this;cases this
    | some q=>rw [e] at this;simpa using this
theorem ZiL {κ ν:Type} {b:κ ->ν ->Option Bool} (h:∀ k x,∃ p,b k x=some p):∀ l:List (κ×ν),∃ q,ZiM b l=some q
 | []=>⟨false,rfl⟩
 | x::r=>by
   obtain⟨p,hp⟩:=h x.1 x.2;obtain⟨q,hq⟩:=ZiL h r;exact⟨p || q,by unfold ZiM;rw [hp,Option.bind_some,hq,Option.bind_some]⟩
theorem Zwv (R:Rx w Kb []) {k:Ze} (hk:¬ ((0 <=k.e0∧k.e0 < (w.cells.length:Int))∧0 <=k.e1∧k.e1 < w.names)):val (Zcc w).1 k=0:=by
 have h0:=R.n0
 have hC:val (UO w).1 k=0:=by
  unfold UO;refine Us (fun q:Acc×Acc=>val q.1 k=0) _ _ (fun q m hm hq=>?_) _ rfl;refine Us (fun q:Acc×Acc=>val q.1 k=0) _ _ (fun q n hn hq=>?_) _ hq;rw [List.mem_range] at hm hn;unfold Ja;cases hc:cellOf w m n with
  | none=>exact hq
  | some c=>
    have hcn:=Qi hc;show val (upd q.1 ⟨m,c.name⟩ c.out) k=0;rw [Wl,if_neg (fun z=>hk (by rw [z];dsimp only;omega))];exact hq
 unfold Zcc;refine Us (fun q:Acc×Acc=>val q.1 k=0) _ _ (fun q x hx hq=>?_) _ hC;have hn:=R.nn x (by simpa using hx);obtain⟨h,H⟩:=R.nm _ hn;have ht:= (H.nts x (List.mem_append_right _ (List.mem_filter.2 ⟨hx,by simp⟩))).1;have hr:0 <=x.name∧x.name < w.names:=by unfold Yl at hn;simp at hn;exact hn.1
 unfold Zog;cases (x.kind==1)
 ·cases (x.kind==2)
  ·simp only [cond_false];rw [Wl,if_neg (fun z=>hk (by rw [z];exact⟨ht,hr⟩))];exact hq
  ·exact hq
 ·exact hq
theorem Zz5:UK (Zcc w).1:=by
 have hC:UK (UO w).1:=by
  unfold UO;refine Us (fun q:Acc×Acc=>UK q.1) _ _ (fun q m hm hq=>?_) _ UK.nil;refine Us (fun q:Acc×Acc=>UK q.1) _ _ (fun q n hn hq=>?_) _ hq;unfold Ja;cases hc:cellOf w m n with
  | none=>exact hq
  | some c=>exact hq.upd _ _
 unfold Zcc;refine Us (fun q:Acc×Acc=>UK q.1) _ _ (fun q x hx hq=>?_) _ hC;unfold Zog;cases (x.kind==1)
 ·cases (x.kind==2)
  ·exact hq.upd _ _
  ·exact hq
 ·exact hq
theorem ZpL (hF:1000 <=F) (R:Rx w Kb []) (sm:Small w) (so:Qb w st):Zaj F (st.machines,st.names,st.cells,st.notes,st.freed)=some (bif WA w then .Q6 3 else .ok st):=by
 have sz:=R.szd;have h0:=R.n0;unfold Zaj;dsimp only;rw [so.notes];unfold WA;cases hb:decide ((w.notes.length:Int) > 80)
 ·simp only [cond_false,Bool.false_or];have hst:(⟨st.machines,st.names,st.cells,w.notes,st.freed⟩:Store)=st:=by rw [← so.notes]
  rw [hst,Zpq hF sm sz so,Option.bind_some];obtain⟨q,hq⟩:=ZiL (b:=ZeU) (fun k x=>by unfold ZeU;cases decide (x > 1000000);exact⟨_,rfl⟩;exact⟨_,rfl⟩) (Zcc w).1;rw [hq,Option.bind_some];obtain⟨_,q2⟩:=Zdc hq
  have:q= ((List.range w.cells.length).any fun m=>(List.range w.names.toNat).any fun n=>decide (JH w m n > 1000000)):=by
   rw [Bool.eq_iff_iff,q2,List.any_eq_true]
   constructor
   ·rintro⟨⟨k,v⟩,hm,hv⟩
    have hv:v > 1000000:=by
     unfold ZeU at hv;cases hd:decide (v > 1000000) with
     | true=>simpa using hd
     | false=>dsimp only at hv;rw [hd] at hv;cases hv
    have hval:val (Zcc w).1 k=v:=by unfold val;rw [Zz5.get hm];rfl
    by_cases hk:(0 <=k.e0∧k.e0 < (w.cells.length:Int))∧0 <=k.e1∧k.e1 < w.names
    ·refine⟨k.e0.toNat,List.mem_range.2 (by omega),?_⟩;rw [List.any_eq_true];refine⟨k.e1.toNat,List.mem_range.2 (by omega),?_⟩;have:= (ZkV sz (a:=k.e0.toNat) (n:=k.e1.toNat) (by omega) (by omega)).1
     have e:(⟨((k.e0.toNat:Nat):Int),((k.e1.toNat:Nat):Int)⟩:Ze)=k:=by
      cases k;dsimp only at *;congr 1 <;> omega
     rw [e,hval] at this;rw [← this];simpa using hv
    ·rw [Zwv R hk] at hval;omega
   ·rintro⟨m,hm,hn⟩;rw [List.any_eq_true] at hn;obtain⟨n,hn,hg⟩:=hn;rw [List.mem_range] at hm hn;have hg:JH w m n > 1000000:=by simpa using hg
    have:= (ZkV sz (a:=m) (n:=n) hm (by omega)).1;rw [← this] at hg;unfold val at hg;cases e:Xk (Zcc w).1 (⟨(m:Int),(n:Int)⟩:Ze) with
    | none=>rw [e] at hg;simp at hg
    | some v=>
      rw [e] at hg;refine⟨_,ZrW e,?_⟩;unfold ZeU;dsimp only;rw [decide_eq_true (by simpa using hg)];rfl
  rw [← this];cases q <;> rfl
 ·rfl
theorem ZtF {l:List Int} (h:l.Pairwise (· < ·)):Asc l:=h.imp fun z=>Int.le_of_lt z
theorem Rt.ci (R:Rt w) {m:Nat} (hm:m < w.cells.length) {c:Za} (hc:c ∈ rowOf w m):CI c:=by
 have:= (ZaH (R.WM hm hc)).2.2.2;rcases this with z | z
 ·exact .inl ⟨z.2.1,z.1⟩
 ·exact .inr z
theorem Rt.ZlO (R:Rt w) (h:∃ n,Yl w n=true):w.freed.length <=11:=by
 obtain⟨n,hn⟩:=h;unfold Yl at hn;simp at hn;have h12:=R.n12
 have key:∀ (l:List Int) (a:Int),l.Pairwise (· < ·) ->(∀ x ∈ l,a <=x∧x < w.names) ->n ∉ l ->a <=n ->a + (l.length:Int) + 1 <=w.names:=by
  intro l
  induction l with
  | nil=>intro a _ _ _ h;simp;omega
  | cons x l ih=>
    intro a p hr hx ha;rw [List.pairwise_cons] at p;have h0:=hr x (by simp);have hne:n ≠ x:=fun z=>hx (by rw [z];simp)
    by_cases hlt:n < x
    ·have:=ZaJ (l:=l) (a:=x + 1) (b:=w.names) p.2 (fun y hy=>by have h1:=p.1 y hy;have h2:=hr y (by simp [hy]);omega) (by omega);simp only [List.length_cons];omega
    ·have:=ih (x + 1) p.2 (fun y hy=>by have h1:=p.1 y hy;have h2:=hr y (by simp [hy]);omega) (fun z=>hx (by simp [z])) (by omega);simp only [List.length_cons];omega
 have:=key w.freed 0 R.fr R.frr (fun z=>hn.2 n z rfl) hn.1.1;omega
theorem ZpM (sm:Small w) (k:Nat):Small (U6 w k):= ⟨sm.cells,sm.rows,by have:=sm.notes;unfold U6;simp;omega,sm.freed⟩
end
end Go.Proofs.Ytekpjgmhkkjhgaa
end
section
namespace Go.Proofs.Ytekpjgmhkkjhgaa
open Go.Lf
def ZiC:Zb:= ⟨[],[],0,[]⟩
def stepW (w:Zb) (d:Zn):Zb×Int:=
 bif YH w d d.at_.toNat==0 then(bif WA (Ya w d) then(ZiC,3) else(Ya w d,0)) else(ZiC,YH w d d.at_.toNat)
def doW (w:Zb) (d:Zn):Zb×Int:=bif ZaW w && QW d w.cells.length then stepW w d else(ZiC,2)
section
variable {w:Zb} {n:Int} {st:Store} {F:Nat}
theorem Zqn {d:Zn} (h:d.ZW=1∨d.ZW=5) (m m':Nat):YH w d m=YH w d m':=by
 unfold YH;rcases h with h | h <;> rw [h] <;> rfl
theorem ZnS (R:Rt w) {d:Zn} (hf:QW d w.cells.length=true):∃ m,m < w.cells.length∧(d.ZW=1∨d.ZW=5∨d.at_= (m:Int))∧YH w d m=YH w d d.at_.toNat:=by
 have:=R.c1;rcases YL hf with⟨k,a⟩ | ⟨k,a,t,ne,nm⟩ | ⟨k,a,nm⟩ | ⟨k,a⟩
 ·exact⟨d.at_.toNat,by omega,.inl k,rfl⟩
 ·exact⟨d.at_.toNat,by omega,.inr (.inr (by omega)),rfl⟩
 ·exact⟨d.at_.toNat,by omega,.inr (.inr (by omega)),rfl⟩
 ·exact⟨0,by omega,.inr (.inl k),Zqn (.inr k) _ _⟩
theorem Rt.Zwg (R:Rt w) {m:Nat} (hm:m < w.cells.length) (n:Int):CI (look (rowOf w m) n):=by
 unfold look;cases h:WS (rowOf w m) n with
 | none=>exact CI.blank n
 | some c=>exact R.ci hm (Zbc h)
theorem ZqI (hF:1000 <=F) (R:Rt w) (so:Qb w st) (u:UK st.cells) {d:Zn} (hf:QW d w.cells.length=true):
 ∃ st',ZsX F st d=some (bif YH w d d.at_.toNat==0 then(bif WA (Ya w d) then .Q6 3 else .ok st') else .Q6 (YH w d d.at_.toNat))∧(YH w d d.at_.toNat=0 ->Qb (Ya w d) st'∧UK st'.cells):=by
 have sm:=R.small;have hnl:=R.nts;have hrow:∀ m,m < w.cells.length ->(rowOf w m).length <=12:=fun m hm=>Szd.ZdL R.n12 (R.Ym m hm) (R.names m hm)
 obtain⟨m0,hm0,ho,e0⟩:=ZnS R hf;have hck:=Zn1 so hm0 d ho;rw [e0] at hck;unfold ZsX;rw [hck,Option.bind_some];cases hz:(YH w d d.at_.toNat==0)
 ·refine⟨st,rfl,fun z=>?_⟩;rw [z] at hz;cases hz
 ·have he:YH w d d.at_.toNat=0:=by simpa using hz
  obtain⟨X1,X2,X3,X4,X5⟩:=ZkA R hf he;have over:∀ st',Qb (Ya w d) st' ->Zaj F (st'.machines,st'.names,st'.cells,st'.notes,st'.freed)=some (bif WA (Ya w d) then .Q6 3 else .ok st'):=fun st' s'=>ZpL hF X1 (X1.small (by omega)) s'
  simp only [cond_true];unfold prC;dsimp only;rcases YL hf with⟨k,a⟩ | ⟨k,a,t,ne,nm⟩ | ⟨k,a,nm⟩ | ⟨k,a⟩
  ·have hm:d.at_.toNat < w.cells.length:=by omega
   have hat:d.at_= (d.at_.toNat:Int):=by omega
   have hdw:Ya w d=ZdP w d.at_.toNat:=by unfold Ya;rw [k];rfl
   obtain⟨q1,q2⟩:=ZrR so u hm (R.Ym _ hm);have ov:=over _ (by rw [hdw];exact q1);refine⟨_,?_,fun _=>⟨by rw [hdw];exact q1,q2⟩⟩;rw [← ov,k];simp only [beq_self_eq_true,cond_true];rw [hat,so.n]
   rfl
  ·have hm:d.at_.toNat < w.cells.length:=by omega
   have hat:d.at_= (d.at_.toNat:Int):=by omega
   rcases k with k | k
   ·obtain⟨c,hc,_,hu⟩:=Qm (by omega) (by omega) he;have hl:= (R.Qc hm hc).1;have hdw:Ya w d=ZdI w d d.at_.toNat c:=by unfold Ya;rw [k,hl];rfl
    obtain⟨st',q1,q2,q3⟩:=Zrh so u hm (R.Ym _ hm) (by omega) d hat hc;have ov:=over st' (by rw [hdw];exact q2);refine⟨st',?_,fun _=>⟨by rw [hdw];exact q2,q3⟩⟩;rw [← ov,k];simp only [beq_self_eq_true,cond_true,show((2:Int)==1)=false from rfl,cond_false];rw [q1,Option.bind_some]
   ·obtain⟨c,hc,hr,_⟩:=Qm (by omega) (by omega) he;have hl:= (R.Qc hm hc).1;have hdw:Ya w d=goW w d d.at_.toNat c:=by unfold Ya;rw [k,hl];rfl
    obtain⟨st',q1,q2,q3⟩:=Zvk so u hm (R.Ym _ hm) (by omega) d hc;have ov:=over st' (by rw [hdw];exact q2);refine⟨st',?_,fun _=>⟨by rw [hdw];exact q2,q3⟩⟩;rw [← ov,k];simp only [beq_self_eq_true,cond_true,show((4:Int)==1)=false from rfl,show((4:Int)==2)=false from rfl,show((4:Int)==3)=false from rfl,cond_false];unfold Zag;rw [Option.bind_some,hat,so.get hm,hc];unfold goC at q1;simp only [Option.getD_some];rw [q1,Option.bind_some]
  ·have hm:d.at_.toNat < w.cells.length:=by omega
   have hat:d.at_= (d.at_.toNat:Int):=by omega
   obtain⟨c,hc,_,hu⟩:=Qm (by omega) (by omega) he;obtain⟨hl,_,hnb⟩:=R.Qc hm hc;have hdw:Ya w d=ZfV w d.at_.toNat d.name c:=by unfold Ya;rw [k,hl];rfl
   obtain⟨st',q1,q2,q3⟩:=Zqp (F:=F) (by omega) so u hm (R.Ym _ hm) (by omega) hc (R.ci hm (Zbc hc)) (ZtF R.fr) (R.ZlO ⟨_,hnb⟩);have ov:=over st' (by rw [hdw];exact q2);refine⟨st',?_,fun _=>⟨by rw [hdw];exact q2,q3⟩⟩;rw [← ov,k];simp only [beq_self_eq_true,cond_true,show((3:Int)==1)=false from rfl,show((3:Int)==2)=false from rfl,cond_false];unfold Zag;rw [Option.bind_some,hat,so.get hm,hc];unfold K8 at q1;simp only [Option.getD_some];rw [q1,Option.bind_some]
  ·have hlt:d.at_.toNat < w.notes.length:=by
    have he:=he;unfold YH at he;rw [k] at he;simp only [beq_self_eq_true,cond_true,show((5:Int)==1)=false from rfl,cond_false] at he;cases hb:decide (d.at_ >= (w.notes.length:Int)) with
    | true=>rw [hb] at he;cases he
    | false=>simp at hb;omega
   obtain⟨j,hj⟩:∃ j:Nat,d.at_= (j:Int):= ⟨d.at_.toNat,by omega⟩
   have hjt:d.at_.toNat=j:=by omega
   rw [hjt] at hlt;obtain⟨x,hx⟩:∃ x,w.notes[j]? =some x:= ⟨_,List.getElem?_eq_getElem hlt⟩
   have hdw:Ya w d=QN (U6 w j) x:=by unfold Ya;rw [k,hjt,hx];rfl
   have hxm:=List.mem_of_getElem? hx;have hxB:=Zaw (R.WB hxm);have hm:x.Zv.toNat < w.cells.length:=by omega
   have:=hrow _ hm;have so':Qb (U6 w j) ⟨st.machines,st.names,st.cells,w.notes.take j ++ w.notes.drop (j + 1),st.freed⟩:= ⟨so.m,so.n,rfl,so.freed,so.cells⟩
   obtain⟨st',q1,q2,q3⟩:=Zn3 (F:=F) (by omega) so' u (ZpM sm j) (m:=x.Zv.toNat) hm (by show(rowOf w _).length < 900;omega) (by unfold U6;simp;omega) x (by omega) (R.Ym _ hm) (R.Zwg hm _) (ZtF R.fr) (R.ZlO ⟨_,hxB.2.1⟩);have ov:=over st' (by rw [hdw];exact q2);refine⟨st',?_,fun _=>⟨by rw [hdw];exact q2,q3⟩⟩;rw [← ov,k];simp only [beq_self_eq_true,cond_true,show((5:Int)==1)=false from rfl,show((5:Int)==2)=false from rfl,show((5:Int)==3)=false from rfl,show((5:Int)==4)=false from rfl,cond_false];rw [hj,so.notes,ZY,hx,Option.bind_some,ZrB hlt (by omega),Option.bind_some,q1,Option.bind_some]
theorem ZrA (R:Rx w Kb []) (ho:∀ k a c,YU w k a=some c ->c.out <=1000016) (h:WA w=false):Rt w:=by
 unfold WA at h;rw [Bool.or_eq_false_iff,List.any_eq_false] at h;have sz:=R.szd;have hl:w.notes.length <=80:=by have:=h.1;simp at this;omega
 have h0:=R.n0;refine R.rt (fun n hn=>?_) hl;have hnr:0 <=n∧n < w.names:=by unfold Yl at hn;simp at hn;exact hn.1
 intro a a0 a1;have:=h.2 a.toNat (List.mem_range.2 (by omega));rw [Bool.not_eq_true,List.any_eq_false] at this;have:=this n.toNat (List.mem_range.2 (by omega));have:= (by simpa using this:JH w a.toNat ((n.toNat:Nat):Int) <=1000000)
 rw [show((n.toNat:Nat):Int)=n by omega,Zdk w (by omega)] at this;rw [show((a.toNat:Nat):Int)=a by omega] at this;show J4 (YU w n) (Q8 w n) a <=1000000;obtain⟨h',H⟩:=R.nm n hn;have H:Nm w.cells.length n (YU w n) (Q8 w n) h':=H;have hg:=H.giv a;have hc:=H.ZzP
 have hb:-16 <=XY (YU w n a)∧XY (YU w n a) <=1000016:=by
  cases e:YU w n a with
  | none=>simp [XY]
  | some c=>exact⟨(H.ZjC e).1,ho n a c e⟩
 have:-16 <=J4 (YU w n) (Q8 w n) a∧J4 (YU w n) (Q8 w n) a <=1000032:=by
  rw [hg];split <;> omega
 rw [YJ (by omega) (by omega)] at *
 assumption
theorem Zpi (R:Rt w) {d:Zn} (hf:QW d w.cells.length=true) (he:YH w d d.at_.toNat=0) (hv:WA (Ya w d)=false):Rt (Ya w d)∧(Ya w d).cells.length=w.cells.length:=by
 obtain⟨X1,X2,X3,X4,X5⟩:=ZkA R hf he;exact⟨ZrA X1 X5 hv,X3⟩
theorem Zq9 {d:Zn} (h:(stepW w d).2=0):YH w d d.at_.toNat=0∧WA (Ya w d)=false∧(stepW w d).1=Ya w d:=by
 unfold stepW at h ⊢;cases hz:(YH w d d.at_.toNat==0)
 ·rw [hz] at h;have he:YH w d d.at_.toNat ≠ 0:=by simpa using hz
  exact absurd h he
 ·rw [hz] at h;cases ho:WA (Ya w d)
  ·exact⟨by simpa using hz,rfl,rfl⟩
  ·rw [ho] at h;cases h
theorem ZpD (hF:1000 <=F) (R:Rt w) (so:Qb w st) {d:Zn} (hf:QW d w.cells.length=true):
 ((stepW w d).2 ≠ 0∧Zqi F st d=some (none,(stepW w d).2))∨((stepW w d).2=0∧(stepW w d).1=Ya w d∧∃ st',Zqi F st d=some (some st',0)∧Qb (Ya w d) st'∧UK st'.cells):=by
 obtain⟨sc,c1,c2,c3⟩:=R.copy hF so;obtain⟨st',q1,q2⟩:=ZqI hF R c2 c3 hf;unfold Zqi stepW;rw [c1,Option.bind_some,q1,Option.bind_some];cases hz:(YH w d d.at_.toNat==0)
 ·left;have he:YH w d d.at_.toNat ≠ 0:=by simpa using hz
  exact⟨he,rfl⟩
 ·have he:YH w d d.at_.toNat=0:=by simpa using hz
  obtain⟨q3,q4⟩:=q2 he;cases WA (Ya w d)
  ·right;exact⟨rfl,rfl,st',rfl,q3,q4⟩
  ·left;exact⟨(fun z=>by cases z),rfl⟩
theorem Zwb (hF:1000 <=F) (sm:Small w) (d:Zn):Zta F w d=some (doW w d):=by
 have:=sm.cells;unfold Zta doW;rw [ZvO hF sm,Option.bind_some,Zqd];simp only [ZlL,Option.bind_some];cases hr:ZaW w
 ·rfl
 ·have R:=Rt.of hr;cases hf:QW d w.cells.length
  ·rfl
  ·simp only [Bool.not_true,Bool.not_false,cond_true,Bool.or_self,cond_false,Bool.and_self];obtain⟨st,o1,o2,o3⟩:=R.open_ hF;rw [o1,Option.bind_some];rcases ZpD hF R o2 hf with⟨s1,s2⟩ | ⟨s1,s2,st',s3,s4,s5⟩
   ·rw [s2,Option.bind_some];unfold opt;dsimp only;have:((stepW w d).2 !=0)=true:=by simpa using s1
    rw [this,cond_true]
    have e:(stepW w d).1=ZiC:=by
     unfold stepW at s1 ⊢;cases hz:(YH w d d.at_.toNat==0)
     ·rfl
     ·rw [hz] at s1;cases ho:WA (Ya w d)
      ·rw [ho] at s1;exact absurd rfl s1
      ·rfl
    show some (ZiC,(stepW w d).2)=some (stepW w d);rw [← e]
   ·rw [s3,Option.bind_some];unfold opt;dsimp only;obtain⟨e1,e2,e3⟩:=Zq9 s1;have R':= (Zpi R hf e1 e2).1;rw [show((0:Int) !=0)=false from rfl,cond_false,R'.shut hF s4,Option.bind_some,← s2];rw [← s1]
end
end Go.Proofs.Ytekpjgmhkkjhgaa
end
section
namespace Go.Proofs.Ytekpjgmhkkjhgaa
open Go.Lf
section
end
end Go.Proofs.Ytekpjgmhkkjhgaa
end
section
namespace Go.Proofs.Ytekpjgmhkkjhgaa
open Go.Lf
section
variable {w:Zb} {n:Int} {st:Store} {F:Nat}
def ZoH (p:Int):Zb×Int:=bif(decide (1 <=p) && decide (p <=6)) then(⟨List.replicate p.toNat [],[],0,[]⟩,0) else(ZiC,2)
theorem ZoG {p:Int} (h:1 <=p∧p <=6):Rt ⟨List.replicate p.toNat [],[],0,[]⟩:=by
 have hrow:∀ m,rowOf ⟨List.replicate p.toNat [],[],0,[]⟩ m= []:=by
  intro m;unfold rowOf;dsimp only;cases e:(List.replicate p.toNat ([]:List Za))[m]? with
  | none=>rfl
  | some r=>have:=List.mem_of_getElem? e;rw [List.mem_replicate] at this;exact this.2
 refine⟨by simp;omega,by simp;omega,Int.le_refl _,by show(0:Int) <=12;omega,by simp,.nil,by simp,fun m hm=>by rw [hrow];exact .nil,fun m hm c hc=>by rw [hrow] at hc;simp at hc,by simp,fun n hn=>?_⟩;unfold Yl at hn;simp at hn;omega
theorem ZpP (hF:1000 <=F) (p:Int):Ztb F p=some (ZoH p):=by
 unfold Ztb ZoH
 have e:((decide (p < 1)) || (decide (p > 6)))= !(decide (1 <=p) && decide (p <=6)):=by
  rw [Bool.not_and,← decide_not,← decide_not];congr 1 <;> exact decide_eq_decide.2 (by omega)
 rw [e];cases hb:(decide (1 <=p) && decide (p <=6))
 ·rfl
 ·simp at hb;simp only [Bool.not_true,cond_false,cond_true]
  have so:Qb ⟨List.replicate p.toNat [],[],0,[]⟩ ⟨p,0,[],[],[]⟩:=by
   refine⟨?_,rfl,rfl,rfl,fun a b=>?_⟩
   ·show p= ((List.replicate p.toNat ([]:List Za)).length:Int);rw [List.length_replicate];omega
   ·show none=_;split
    ·rename_i hr
     symm
     rw [YW]
     have:rowOf ⟨List.replicate p.toNat [],[],0,[]⟩ a.toNat= []:=by
      unfold rowOf;dsimp only;cases e:(List.replicate p.toNat ([]:List Za))[a.toNat]? with
      | none=>rfl
      | some r=>have:=List.mem_of_getElem? e;rw [List.mem_replicate] at this;exact this.2
     rw [this];rfl
    ·rfl
  rw [(ZoG hb).shut hF so];rfl
end
end Go.Proofs.Ytekpjgmhkkjhgaa
end
section
namespace Go.Proofs.Ytekpjgmhkkjhgaa
open Go.Lf
section
variable {w:Zb} {n:Int} {m:Nat}
end
end Go.Proofs.Ytekpjgmhkkjhgaa
end
section
namespace Go.Proofs.Ytekpjgmhkkjhgaa
open Go.Lf
section
variable {w:Zb} {n:Int} {st:Store} {F:Nat}
end
end Go.Proofs.Ytekpjgmhkkjhgaa
end
section
namespace Go.Proofs.Ytekpjgmhkkjhgaa
open Go.Lf
structure U8 (a:Zao):Prop where
 ud:0 <=a.ZW∧a.ZW <=255
 ua:0 <=a.at_∧a.at_ <=255
 un:0 <=a.name∧a.name <=255
 ut:0 <=a.Zv∧a.Zv <=255
theorem ZaX {a b:Int} (h0:0 <=a) (hb:0 < b):Zez a b=some (a % b)∧0 <=a % b∧a % b < b:=by
 refine⟨?_,Int.emod_nonneg _ (by omega),Int.emod_lt_of_pos _ hb⟩;unfold Zez;have:(b==0)=false:=by simp;omega
 rw [this,cond_false,Int.tmod_eq_emod_of_nonneg h0]
structure Zh0 (d:Zn) (M nm nt:Int):Prop where
 form:QW d M=true
 make:d.ZW=1 ->nm < 12
 name:d.ZW=2∨d.ZW=3∨d.ZW=4 ->0 <=d.name∧d.name < nm
 note:d.ZW=5 ->0 <=d.at_∧d.at_ < nt
 kind:d.ZW=1∨d.ZW=2∨d.ZW=3∨d.ZW=4∨d.ZW=5
theorem Zwe {a:Zao} (u:U8 a) {M nm nt:Int} (hM:1 <=M∧M <=6) (hn:0 <=nm∧nm <=12) (ht:0 <=nt∧nt <=1000):∃ d b,Zs8 a M nm nt=some (d,b)∧(b=true ->Zh0 d M nm nt):=by
 obtain⟨⟨d0,d1⟩,⟨a0,a1⟩,⟨n0,n1⟩,⟨t0,t1⟩⟩:=u;unfold Zs8;rw [YJ (n:=a.at_) (by omega) (by omega),YJ (n:=a.name) (by omega) (by omega)];obtain⟨e1,at0,at1⟩:=ZaX (a:=a.at_) (b:=M) a0 (by omega);rw [e1,Option.bind_some];obtain⟨at_,hat⟩:∃ x,a.at_ % M=x:= ⟨_,rfl⟩
 rw [hat] at at0 at1 ⊢
 have ZDc:∀ (name Zv k:Int) (c:Bool),(0 < nm ->0 <=name∧name < nm) ->(1 < M ->(0 <=Zv∧Zv < M)∧Zv ≠ at_) ->(c=true∨c=false) ->∃ d b,Ze3 a M nm nt at_ name Zv k c=some (d,b)∧(b=true ->Zh0 d M nm nt):=by
  intro name Zv k c hnm hto _;unfold Ze3;cases c
  ·simp only [cond_false];cases h3:(k==3)
   ·simp only [cond_false];cases h4:(k==4)
    ·simp only [cond_false];cases h0:(nt==0)
     ·simp only [cond_false];rw [YJ (n:=a.at_) (by omega) (by omega)]
      have hnt:0 < nt:=by have:nt ≠ 0:=by simpa using h0
                          omega
      obtain⟨e2,b0,b1⟩:=ZaX (a:=a.at_) (b:=nt) a0 hnt;rw [e2,Option.bind_some];refine⟨_,_,rfl,fun _=>⟨?_,fun z=>(by cases z),fun z=>(by rcases z with z | z | z <;> cases z),fun _=>⟨b0,b1⟩,.inr (.inr (.inr (.inr rfl)))⟩⟩;unfold QW;simp [b0]
     ·simp only [cond_true];exact⟨_,_,rfl,fun z=>by cases z⟩
    ·simp only [cond_true];refine⟨_,_,rfl,fun z=>?_⟩;simp at z;have h1:=hnm (by omega);have h2:=hto (by omega);refine⟨?_,fun z=>(by cases z),fun _=>h1,fun z=>(by cases z),.inr (.inr (.inr (.inl rfl)))⟩;unfold QW;simp;refine⟨⟨⟨at0,at1⟩,h2.1⟩,fun e=>h2.2 e.symm,h1.1⟩
   ·simp only [cond_true];refine⟨_,_,rfl,fun z=>?_⟩;simp at z;have h1:=hnm (by omega);refine⟨?_,fun z=>(by cases z),fun _=>h1,fun z=>(by cases z),.inr (.inr (.inl rfl))⟩;unfold QW;simp;exact⟨⟨at0,at1⟩,h1.1⟩
  ·simp only [cond_true];refine⟨_,_,rfl,fun z=>?_⟩;simp at z;have h1:=hnm (by omega);have h2:=hto (by omega);refine⟨?_,fun z=>(by cases z),fun _=>h1,fun z=>(by cases z),.inr (.inl rfl)⟩;unfold QW;simp;refine⟨⟨⟨at0,at1⟩,h2.1⟩,fun e=>h2.2 e.symm,h1.1⟩
 have ZDd:∀ (name Zv:Int),(0 < nm ->0 <=name∧name < nm) ->(1 < M ->(0 <=Zv∧Zv < M)∧Zv ≠ at_) ->∃ d b,Ze4 a M nm nt at_ name Zv=some (d,b)∧(b=true ->Zh0 d M nm nt):=by
  intro name Zv hnm hto;unfold Ze4;obtain⟨e2,b0,b1⟩:=ZaX (a:=a.ZW) (b:=9) d0 (by omega);rw [e2,Option.bind_some];cases h0:(a.ZW % 9==0)
  ·simp only [cond_false];cases h1:(a.ZW % 9==1)
   ·simp only [cond_false];exact ZDc name Zv _ _ hnm hto (by cases (a.ZW % 9==2) <;> simp)
   ·simp only [cond_true];exact ZDc name Zv _ _ hnm hto (.inl rfl)
  ·simp only [cond_true];refine⟨_,_,rfl,fun z=>?_⟩;simp at z;refine⟨?_,fun _=>z,fun z=>(by rcases z with z | z | z <;> cases z),fun z=>(by cases z),.inl rfl⟩;unfold QW;simp;exact⟨at0,at1⟩
 have ZDe:∀ (name:Int),(0 < nm ->0 <=name∧name < nm) ->∃ d b,Ze5 a M nm nt at_ name=some (d,b)∧(b=true ->Zh0 d M nm nt):=by
  intro name hnm;unfold Ze5;cases h1:decide (M > 1)
  ·rw [cond_false];exact ZDd name 0 hnm (fun z=>by simp at h1;omega)
  ·rw [cond_true,YJ (n:=a.Zv) (by omega) (by omega),YJ (n:=M - 1) (by omega) (by omega)];have hM1:1 < M:=by simpa using h1
   obtain⟨e2,b0,b1⟩:=ZaX (a:=a.Zv) (b:=M - 1) t0 (by omega);rw [e2,Option.bind_some,YJ (n:=at_ + 1) (by omega) (by omega),YJ (n:=at_ + 1 + a.Zv % (M - 1)) (by omega) (by omega)];obtain⟨e3,c0,c1⟩:=ZaX (a:=at_ + 1 + a.Zv % (M - 1)) (b:=M) (by omega) (by omega);rw [e3,Option.bind_some];refine ZDd name _ hnm fun _=>⟨⟨c0,c1⟩,?_⟩
   by_cases hlt:at_ + 1 + a.Zv % (M - 1) < M
   ·rw [Int.emod_eq_of_lt (by omega) hlt];omega
   ·have:(at_ + 1 + a.Zv % (M - 1)) % M=at_ + 1 + a.Zv % (M - 1) - M:=by
     rw [← Int.sub_emod_right,Int.emod_eq_of_lt (by omega) (by omega)]
    rw [this];omega
 cases h0:decide (nm > 0)
 ·rw [cond_false];exact ZDe 0 (fun z=>by simp at h0;omega)
 ·rw [cond_true];obtain⟨e2,b0,b1⟩:=ZaX (a:=a.name) (b:=nm) n0 (by simpa using h0);rw [e2,Option.bind_some];exact ZDe _ (fun _=>⟨b0,b1⟩)
section
variable {w:Zb} {F:Nat}
theorem Kh {α:Type} {F:Nat} {l:List α} (hl:l.length < 1000) (hF:1000 <=F) (body:Int ->(Int ->Option Bool) ->Option Bool) (h1:∀ (k:Nat) y next,l[k]? =some y ->body (k:Int) next=next (ZK ((k:Int) + 1))) (h2:∀ next,body (l.length:Int) next=some true):loop F body 0=some true:=by
 refine(Xa l (fun v (_:Unit)=>v) body (fun _ _ _ next=>next ()) (fun _=>some true) (by omega) (fun k y q next hy hk=>h1 k y _ hy) (fun q next=>h2 next) (by omega) ()).trans ?_;rw [(JG (fun _ _ s=>s) (fun _ _=>True) trivial (fun _ _ _ _ _ _=>⟨rfl,trivial⟩)).1]
def Jy (p:Int):Zb:= ⟨List.replicate (1 + p % 6).toNat [],[],0,[]⟩
theorem ZlR {p:Int} (h:0 <=p):Rt (Jy p)∧(Jy p).cells.length= (1 + p % 6).toNat:=by
 have:=Int.emod_nonneg p (b:=6) (by decide);have:=Int.emod_lt_of_pos p (b:=6) (by decide);exact⟨ZoG ⟨by omega,by omega⟩,by unfold Jy;simp⟩
theorem Zlx (hF:1000 <=F) {p:Int} (h0:0 <=p) (h1:p <=255) (l:List Zao):Zql F p l= (slL l 0 (if 120 < (l.length:Int) then 120 else(l.length:Int))).bind fun z=>loop F (Zdn F z) (0,[],[],(Jy p).cells,(Jy p).notes,(Jy p).names,(Jy p).freed):=by
 unfold Zql;rw [YJ (n:=p) (by omega) (by omega)];obtain⟨e1,b0,b1⟩:=ZaX (a:=p) (b:=6) h0 (by omega);rw [e1,Option.bind_some,YJ (n:=1 + p % 6) (by omega) (by omega),ZpP hF]
 have hm:ZoH (1 + p % 6)= (Jy p,0):=by
  unfold ZoH;have:(decide (1 <=1 + p % 6) && decide (1 + p % 6 <=6))=true:=by simp;omega
  rw [this];rfl
 rw [hm];have hlen:((Jy p).cells.length:Int)=1 + p % 6:=by rw [(ZlR h0).2];omega
 simp only [Option.bind_some,bne_self_eq_false,Bool.not_false,Zgn,hlen,Bool.or_self,cond_false];rw [YJ (n:=1 + p % 6) (by omega) (by omega)];simp only [bne_self_eq_false,Bool.or_self,cond_false]
theorem Zuo {α:Type} (l:List α) (N:Nat):slL l 0 (if(N:Int) < (l.length:Int) then(N:Int) else(l.length:Int))=some (l.take N):=by
 by_cases h:N < l.length
 ·rw [if_pos (by omega)];have:=Ku (xs:=l) (a:=0) (b:=N) (by omega) (by omega);rw [List.drop_zero] at this;exact this
 ·rw [if_neg (by omega)];have:=Ku (xs:=l) (a:=0) (b:=l.length) (by omega) (Nat.le_refl _);rw [List.drop_zero,List.take_length] at this;rw [List.take_of_length_le (by omega)];exact this
theorem Zwa {d:Zn} (R:Rt w) (hf:QW d w.cells.length=true):doW w d=stepW w d:=by
 unfold doW;rw [R.right,hf];rfl
end
end Go.Proofs.Ytekpjgmhkkjhgaa
end
section
namespace Go.Proofs.Ytekpjgmhkkjhgaa
open Go.Lf
def gives (l:List Zd):List YM:= (l.filter fun x=>x.kind==1).map fun x=>⟨x.Zv,x.name⟩
def Uses (w:Zb) (s:YM):Prop:=∃ c,YU w s.name s.at_=some c∧c.use=true
structure Fits (w:Zb) (m:Model):Prop where
 mem:∀ s,s ∈ m.uses↔Uses w s
 nd:m.uses.Nodup
 ways:m.ways=gives w.notes
theorem Qy (x y:YM):KH x y=decide (x=y):=by
 obtain⟨a,b⟩:=x;obtain⟨c,d⟩:=y;unfold KH;by_cases h:a=c
 ·by_cases k:b=d
  ·simp [h,k]
  ·simp [h,k]
 ·simp [h]
theorem Zae {F:Nat} (hF:1000 <=F) {l:List YM} (hl:l.length < 1000) (x:YM):Zkh F l x=some (decide (x ∈ l)):=by
 unfold Zkh ZvQ
 have e:=Xa l (fun v (_:Unit)=>v) (ZeY l x) (fun k y s next=>bif KH x y then some (k:Int) else next ()) (fun _=>some (-1)) (by omega) (fun k y s next hy hk=>by
  simp only [ZeY,ZY,hy,hk,decide_true,Option.bind_some,cond_true]) (fun s next=>by simp [ZeY]) (by omega:l.length < F) ()
 rw [show loop F (ZeY l x) 0=_ from e];rcases ZeN (l:=l) (i:=0) (s:= ()) (d:=fun _=>some (-1)) (g:=fun k (y:YM) (_:Unit) next=>bif KH x y then some (k:Int) else next ()) (fun k=>some (k:Int)) (fun c=>KH x c) (fun _ _ _ _=>rfl) with⟨j,y,h1,h2,h3⟩ | ⟨h1,h2⟩
 ·rw [h3,Option.bind_some];have hy:=List.find?_some h1;rw [Qy,decide_eq_true_eq] at hy;have:x ∈ l:=by rw [hy];exact List.mem_of_find?_eq_some h1
  rw [decide_eq_true this,decide_eq_true (by omega)]
 ·rw [h2,Option.bind_some]
  have:¬ x ∈ l:=by
   intro hx;rw [List.find?_eq_none] at h1;have:=h1 x hx;rw [Qy] at this;simp at this
  rw [decide_eq_false this];rfl
theorem ZpF {F:Nat} (hF:1000 <=F) {l:List YM} (hl:l.length < 1000):Zqg F l l=some true:=by
 unfold Zqg;rw [show((l.length:Int) != (l.length:Int))=false by simp,cond_false];refine Kh hl hF _ (fun k y next hy=>?_) (fun next=>?_)
 ·have hk:= (List.getElem?_eq_some_iff.1 hy).1;simp only [Zj9,ZY,hy,Option.bind_some];rw [decide_eq_true (by omega),cond_true,Qy];simp
 ·simp only [Zj9];rw [decide_eq_false (by omega),cond_false]
section
variable {w:Zb} {m:Model} {F:Nat}
theorem Za6 {n:Int} (h:Yl w n=true):(w.freed.any fun y=>y==n)=false:=by
 unfold Yl at h;rw [Bool.and_eq_true,Bool.not_eq_true'] at h;exact h.2
def Zet (w:Zb) (k:Nat):List YM:= ((rowOf w k).filter fun c=>c.use).map fun c=>⟨(k:Int),c.name⟩
def ZaU (w:Zb):Nat ->List YM | 0=>[] | k + 1=>ZaU w k ++ Zet w k
theorem ZgL (R:Rt w) {k:Nat} (hk:k < w.cells.length) (s:YM):s ∈ Zet w k↔s.at_= (k:Int)∧Uses w s:=by
 unfold Zet;rw [List.mem_map]
 constructor
 ·rintro⟨c,hc,rfl⟩;rw [List.mem_filter] at hc;exact⟨rfl,c,R.Zfn hk hc.1,hc.2⟩
 ·rintro⟨h1,c,h2,h3⟩;obtain⟨a,b⟩:=s;dsimp only at h1 h2;subst h1;rw [Jc hk] at h2;have hn:=Qi h2;exact⟨c,List.mem_filter.2 ⟨Zbc (show WS (rowOf w k) b=some c from h2),h3⟩,by rw [hn]⟩
theorem ZpG (R:Rt w) {k:Nat} (hk:k < w.cells.length):(Zet w k).Nodup:=by
 unfold Zet;rw [List.nodup_iff_pairwise_ne,List.pairwise_map];refine List.Pairwise.imp ?_ (List.Pairwise.filter _ (R.Ym k hk));intro a b h e;have:a.name=b.name:=congrArg YM.name e;omega
theorem Zc1 (R:Rt w):∀ k,k <=w.cells.length ->∀ s:YM,s ∈ ZaU w k↔(0 <=s.at_∧s.at_ < (k:Int))∧Uses w s
 | 0,_,s=>by simp [ZaU];omega
 | k + 1,hk,s=>by
   unfold ZaU;rw [List.mem_append,Zc1 R k (by omega),ZgL R (by omega)]
   constructor
   ·rintro(⟨h1,h2⟩ | ⟨h1,h2⟩)
    ·exact⟨by omega,h2⟩
    ·exact⟨by omega,h2⟩
   ·rintro⟨h1,h2⟩;by_cases e:s.at_= (k:Int)
    ·exact .inr ⟨e,h2⟩
    ·exact .inl ⟨by omega,h2⟩
theorem ZiH (R:Rt w):∀ k,k <=w.cells.length ->(ZaU w k).Nodup
 | 0,_=>List.nodup_nil
 | k + 1,hk=>by
   unfold ZaU;rw [List.nodup_append];refine⟨ZiH R k (by omega),ZpG R (by omega),fun a ha b hb e=>?_⟩;subst e;have h1:= ((Zc1 R k (by omega) a).1 ha).1;have h2:= ((ZgL R (by omega) a).1 hb).1;omega
theorem Uses.range {s:YM} (h:Uses w s):0 <=s.at_∧s.at_ < (w.cells.length:Int):=by
 obtain⟨c,h1,_⟩:=h;exact(X6 h1).1
theorem Fits.len (R:Rt w) (f:Fits w m):m.uses.length= (ZaU w w.cells.length).length:=by
 refine List.Perm.length_eq ((List.perm_ext_iff_of_nodup f.nd (ZiH R _ (Nat.le_refl _))).2 fun s=>?_);rw [f.mem,Zc1 R _ (Nat.le_refl _)];exact⟨fun h=>⟨h.range,h⟩,fun h=>h.2⟩
def ZcW (w:Zb):Nat ->Nat | 0=>0 | k + 1=>ZcW w k + (rowOf w k).countP fun c=>c.use
theorem Zc2 (w:Zb):∀ k,(ZaU w k).length=ZcW w k
 | 0=>rfl
 | k + 1=>by
   unfold ZaU ZcW;rw [List.length_append,Zc2 w k];unfold Zet;rw [List.length_map,List.countP_eq_length_filter]
theorem Zeq (R:Rt w):∀ k,k <=w.cells.length ->ZcW w k <=12 * k
 | 0,_=>by simp [ZcW]
 | k + 1,hk=>by
   have h1:=Zeq R k (by omega);have h2:=Szd.ZdL R.n12 (R.Ym k (by omega)) (R.names k (by omega));have h3:(rowOf w k).countP (fun c=>c.use) <= (rowOf w k).length:=List.countP_le_length;unfold ZcW;omega
theorem Fits.small (R:Rt w) (f:Fits w m):m.uses.length <=72∧m.ways.length <=80:=by
 have h1:=Zeq R w.cells.length (Nat.le_refl _);have:=R.c6;refine⟨by rw [f.len R,Zc2];omega,?_⟩;rw [f.ways];unfold gives;rw [List.length_map];exact Nat.le_trans (List.length_filter_le _ _) R.nts
theorem Uses.name {s:YM} (R:Rt w) (h:Uses w s):Yl w s.name=true:=by
 obtain⟨c,h1,_⟩:=h;exact(R.rx.1.cn _ _ _ h1).1
theorem ZvM (hF:1000 <=F) (R:Rt w) (f:Fits w m):Zs9 F m w=some true:=by
 have sm:=R.small;have hc:=sm.cells;have hno:=sm.notes;obtain⟨hu,hw⟩:=f.small R;have hn0:=R.n0;have ZJa:=R.n12;have hnt:=R.nts;unfold Zs9;have hb:(decide (w.names < 0) || decide (w.names > 12))=false:=by simp;omega
 rw [hb,cond_false]
 have l4:∀ z:List YM,z=m.uses ++ m.ways ->loop F (Zhx F m w (gives w.notes) (m.uses.length:Int) z) 0=some true:=by
  intro z hz;have hzl:z.length < 1000:=by rw [hz,List.length_append];omega
  have hzf:∀ s ∈ z,(w.freed.any fun y=>y==s.name)=false:=by
   intro s hs;rw [hz] at hs;rcases List.mem_append.1 hs with h | h
   ·exact Za6 (((f.mem s).1 h).name R)
   ·rw [f.ways] at h;unfold gives at h;rw [List.mem_map] at h;obtain⟨x,hx,rfl⟩:=h;exact Za6 (R.nn x (List.mem_filter.1 hx).1)
  refine Kh hzl hF _ (fun k y next hy=>?_) (fun next=>?_)
  ·have hk:= (List.getElem?_eq_some_iff.1 hy).1;simp only [Zhx,ZY,hy,Option.bind_some];rw [decide_eq_true (by omega),cond_true,contains_eq hF sm.freed,hzf y (List.mem_of_getElem? hy)];rfl
  ·simp only [Zhx];rw [decide_eq_false (by omega),cond_false,f.ways,ZpF hF (by rw [← f.ways];omega)];simp [gd]
 have l3:loop F (Zhy F m w (gives w.notes) (m.uses.length:Int)) 0=some true:=by
  refine Kh hno hF _ (fun k y next hy=>?_) (fun next=>?_)
  ·have hk:= (List.getElem?_eq_some_iff.1 hy).1;simp only [Zhy,ZY,hy,Option.bind_some];rw [decide_eq_true (by omega),cond_true,contains_eq hF sm.freed,Za6 (R.nn y (List.mem_of_getElem? hy))];rfl
  ·simp only [Zhy];unfold ZvR;rw [decide_eq_false (by omega),cond_false,XM (by simp only [List.length_nil];omega) (by decide)];simp only [Option.bind_some,List.nil_append];rw [XM (by omega) (by decide),Option.bind_some,l4 _ rfl]
 have l2:∀ (k:Nat) (cnt:Nat) (next:Int×Int ->Option Bool),k < w.cells.length ->cnt <=100 ->loop F (Ze6 F m w (k:Int) next (rowOf w k)) ((cnt:Int),0)=next (((cnt + (rowOf w k).countP (fun c=>c.use):Nat):Int),ZK ((k:Int) + 1)):=by
  intro k cnt next hk hcnt;have hr:=Szd.ZdL R.n12 (R.Ym k hk) (R.names k hk);refine(Xa (rowOf w k) (fun v (s:Int)=>(s,v)) (Ze6 F m w (k:Int) next (rowOf w k)) (fun _ c s nx=>nx (bif c.use then ZK (s + 1) else s)) (fun s=>next (s,ZK ((k:Int) + 1))) (by omega) (fun j c s nx hj hjk=>?_) (fun s nx=>?_) (by omega) (cnt:Int)).trans ?_
  ·have hcm:=List.mem_of_getElem? hj;have hcv:=R.Zfn hk hcm;simp only [Ze6,ZY,hj,hjk,decide_true,cond_true,Option.bind_some];rw [contains_eq hF sm.freed,Za6 (R.cn k hk c hcm).1,Option.bind_some,cond_false];cases hcu:c.use
   ·simp only [cond_false];rfl
   ·simp only [cond_true];have hmem:(⟨(k:Int),c.name⟩:YM) ∈ m.uses:= (f.mem _).2 ⟨c,hcv,hcu⟩;rw [Zae hF (by omega),decide_eq_true hmem];rfl
  ·simp only [Ze6];rw [decide_eq_false (by omega),cond_false]
  ·rw [(JG (fun _ (c:Za) (s:Int)=>bif c.use then ZK (s + 1) else s) (fun _ _=>True) trivial (fun _ _ _ _ _ _=>⟨rfl,trivial⟩)).1];rw [Uu];have:=ZhJ (fun c:Za=>c.use) (rowOf w k) cnt (by omega);rw [this]
 have l1:∀ (d k F':Nat),k + d=w.cells.length ->d < F' ->loop F' (Zdm F m w (gives w.notes)) ((ZcW w k:Int),(k:Int))=some true:=by
  intro d
  induction d with
  | zero=>
    intro k F' hk hF';obtain⟨F',rfl⟩:=Nat.exists_eq_succ_of_ne_zero (n:=F') (by omega);have:k=w.cells.length:=by omega
    subst this;rw [Yx];simp only [Zdm];rw [decide_eq_false (by omega),cond_false,← Zc2,← f.len R,l3]
  | succ d ih=>
    intro k F' hk hF';obtain⟨F',rfl⟩:=Nat.exists_eq_succ_of_ne_zero (n:=F') (by omega);have hlt:k < w.cells.length:=by omega
    have hcn:=Zeq R k (by omega);have:=R.c6;rw [Yx];simp only [Zdm];rw [decide_eq_true (by omega),cond_true,ZY,QK hlt,Option.bind_some,l2 k _ _ hlt (by omega),XD (by omega)];exact ih (k + 1) F' (by omega) (by omega)
 have l0:=Xa w.notes (fun v (s:List YM)=>(s,v)) (Zhz F m w) (fun _ x s next=>(bif x.kind==1 then app 16 s [⟨x.Zv,x.name⟩] else some s).bind next) (fun s=>loop F (Zdm F m w s) (0,0)) (by omega) (fun k y s next hy hk=>by
  simp only [Zhz,ZY,hy,hk,decide_true,cond_true,Option.bind_some];cases (y.kind==1)
  ·rfl
  ·simp only [cond_true]
   rfl) (fun s next=>by
  simp only [Zhz];rw [decide_eq_false (by omega),cond_false]) (by omega:w.notes.length < F) []
 rw [l0]
 obtain⟨e1,e2⟩:=JG (d:=fun s=>loop F (Zdm F m w s) (0,0)) (g:=fun(_:Nat) (x:Zd) (s:List YM) next=>(bif x.kind==1 then app 16 s [⟨x.Zv,x.name⟩] else some s).bind next) (fun _ x s=>bif x.kind==1 then s ++ [⟨x.Zv,x.name⟩] else s) (fun i s=>s.length <=i) (l:=w.notes) (i:=0) (s:= []) (Nat.le_refl _) (fun k x s next hx hI=>by
  have hk:= (List.getElem?_eq_some_iff.1 hx).1;cases (x.kind==1)
  ·exact⟨rfl,Nat.le_succ_of_le hI⟩
  ·simp only [cond_true];rw [XM (by simp;omega) (by decide)];exact⟨rfl,by simp;omega⟩)
 rw [e1,Uu]
 have hg:∀ (l:List Zd) (s:List YM),l.foldl (fun s x=>bif x.kind==1 then s ++ [⟨x.Zv,x.name⟩] else s) s=s ++ gives l:=by
  intro l
  induction l with
  | nil=>intro s;simp [gives]
  | cons x l ih=>
    intro s;rw [List.foldl_cons,ih];unfold gives;cases hk:(x.kind==1)
    ·rw [List.filter_cons_of_neg (by simp [hk])];rfl
    ·rw [List.filter_cons_of_pos (by simp [hk])];simp
 rw [hg,List.nil_append];exact l1 w.cells.length 0 F (by omega) (by omega)
end
end Go.Proofs.Ytekpjgmhkkjhgaa
end
section
namespace Go.Proofs.Ytekpjgmhkkjhgaa
open Go.Lf
section
variable {w w':Zb} {m:Nat} {n:Int} {s:YM}
theorem Kl (hm:m < w.cells.length):(look (rowOf w m) n).use=true↔Uses w ⟨(m:Int),n⟩:=by
 unfold Uses look;rw [Jc hm,YW];cases h:WS (rowOf w m) n with
 | none=>simp [blank]
 | some c=>simp
theorem Zlb (U:Upd w w' n) {a:Int} {o:Option Za} (V:YU w' n=Yn (YU w n) a o) (s:YM):Uses w' s↔if s.name=n∧s.at_=a then(∃ c,o=some c∧c.use=true) else Uses w s:=by
 unfold Uses;by_cases h:s.name=n
 ·rw [h,V];by_cases e:s.at_=a
  ·rw [if_pos ⟨rfl,e⟩,e,U4]
  ·rw [if_neg (fun z=>e z.2),KV e]
 ·rw [if_neg (fun z=>h z.1),U.oc _ h]
theorem ZdC (hm:m < w.cells.length) (Ym:∀ m,m < w.cells.length ->UC (rowOf w m)) {d:Za} (hd:d.name=n) (s:YM):Uses (cw w m (put d (rowOf w m))) s↔if s.name=n∧s.at_= (m:Int) then d.use=true else Uses w s:=by
 obtain⟨U,V,_⟩:=X8 hm Ym hd;rw [Zlb U V s];simp
theorem Zq5 (hm:m < w.cells.length) (Ym:∀ m,m < w.cells.length ->UC (rowOf w m)) (s:YM):Uses (cw w m (rmv n (rowOf w m))) s↔if s.name=n∧s.at_= (m:Int) then False else Uses w s:=by
 obtain⟨U,V,_⟩:=Zjx (n:=n) hm Ym;rw [Zlb U V s];simp
theorem ZgK {a b:Int} (h:s.name=b∧s.at_=a):s= ⟨a,b⟩:=by
 obtain⟨x,y⟩:=s;obtain⟨h1,h2⟩:=h;dsimp only at h1 h2;rw [h1,h2]
theorem Kk (hm:m < w.cells.length) (Ym:∀ m,m < w.cells.length ->UC (rowOf w m)) {d:Za} (hd:d.name=n) (hu:d.use= (look (rowOf w m) n).use) (s:YM):Uses (cw w m (put d (rowOf w m))) s↔Uses w s:=by
 rw [ZdC hm Ym hd];by_cases h:s.name=n∧s.at_= (m:Int)
 ·rw [if_pos h,ZgK h,hu,Kl hm]
 ·rw [if_neg h]
theorem Zci (x:Zd) (s:YM):Uses (sent w x) s↔Uses w s:=Iff.rfl
theorem Zcs (l:List Zd) (x:Zd):gives (l ++ [x])=gives l ++ (if x.kind=1 then [⟨x.Zv,x.name⟩] else []):=by
 unfold gives;rw [List.filter_append,List.map_append];by_cases h:x.kind=1
 ·rw [if_pos h,List.filter_cons_of_pos (by simp [h])];rfl
 ·rw [if_neg h,List.filter_cons_of_neg (by simp [h])];rfl
theorem Zdj (l:List Zd) {x:Zd} (h:x.kind ≠ 1):gives (l ++ [x])=gives l:=by
 rw [Zcs,if_neg h,List.append_nil]
theorem KT (hm:m < w.cells.length) (Ym:∀ m,m < w.cells.length ->UC (rowOf w m)) {c:Za} (hc:(look (rowOf w m) n).use=c.use):(∀ s,Uses (Xp w m n c) s↔Uses w s)∧gives (Xp w m n c).notes=gives w.notes:=by
 unfold Xp;cases hu:(c.use || (c.out !=0))
 ·simp only [cond_false];have hcu:c.use=false:=by cases h:c.use;rfl;rw [h] at hu;cases hu
  refine⟨fun s=>?_,?_⟩
  ·refine(show Uses _ s↔Uses (cw w m (rmv n (rowOf w m))) s from Iff.rfl).trans ?_;rw [Zq5 hm Ym];by_cases h:s.name=n∧s.at_= (m:Int)
   ·rw [if_pos h,ZgK h,← Kl hm,hc,hcu];simp
   ·rw [if_neg h]
  ·cases c.root
   ·simp only [cond_false];cases decide (c.from_ >=0)
    ·rfl
    ·rw [cond_true];exact Zdj _ (show(2:Int) ≠ 1 by decide)
   ·rfl
 ·exact⟨fun s=>Iff.rfl,rfl⟩
theorem Zjh (hm:m < w.cells.length) (Ym:∀ m,m < w.cells.length ->UC (rowOf w m)) (Zv x:Int):(∀ s,Uses (XA w m n Zv x) s↔Uses w s)∧gives (XA w m n Zv x).notes=gives w.notes:=by
 unfold XA;cases (Zv != (m:Int))
 ·rw [cond_false];exact⟨fun s=>Kk hm Ym (n:=n) (d:= {look (rowOf w m) n with out:=ZK ((look (rowOf w m) n).out - x)}) (JF _ _) rfl s,rfl⟩
 ·rw [cond_true];exact⟨fun s=>Zci _ s,Zdj _ (show(2:Int) ≠ 1 by decide)⟩
theorem Zpl (hm:m < w.cells.length) (Ym:∀ m,m < w.cells.length ->UC (rowOf w m)) (Zv x:Int):(XA w m n Zv x).cells.length=w.cells.length∧∀ k,k < w.cells.length ->UC (rowOf (XA w m n Zv x) k):=by
 unfold XA;cases (Zv != (m:Int))
 ·rw [cond_false];obtain⟨U,_,_⟩:=X8 (n:=n) hm Ym (c:= {look (rowOf w m) n with out:=ZK ((look (rowOf w m) n).out - x)}) (JF _ _);exact⟨U.len,U.Ym⟩
 ·rw [cond_true];exact⟨rfl,Ym⟩
theorem Zn2 (Ym:∀ m,m < w.cells.length ->UC (rowOf w m)) {x:Zd} (hx:0 <=x.Zv∧x.Zv < (w.cells.length:Int)):(∀ s,Uses (QN w x) s↔Uses w s∨(x.kind=1∧s= ⟨x.Zv,x.name⟩))∧gives (QN w x).notes=gives w.notes:=by
 obtain⟨m,hmm⟩:∃ m,x.Zv.toNat=m:= ⟨_,rfl⟩
 have hm:m < w.cells.length:=by omega
 have hat:x.Zv= (m:Int):=by omega
 have hln:=JF (rowOf w m) x.name;unfold QN;rw [hmm];dsimp only
 have give:∀ d:Za,d.name=x.name ->d.use=true ->x.kind=1 ->∀ s,Uses (cw w m (put d (rowOf w m))) s↔Uses w s∨(x.kind=1∧s= ⟨x.Zv,x.name⟩):=by
  intro d hd hu hk s;rw [ZdC hm Ym hd];by_cases h:s.name=x.name∧s.at_= (m:Int)
  ·rw [if_pos h,hat];exact⟨fun _=>.inr ⟨hk,ZgK h⟩,fun _=>hu⟩
  ·rw [if_neg h];refine⟨.inl,?_⟩;rintro(z | ⟨_,z⟩)
   ·exact z
   ·exact absurd ⟨by rw [z],by rw [z];exact hat⟩ h
 have ZrH:x.kind ≠ 1 ->∀ s,(Uses w s∨(x.kind=1∧s= ⟨x.Zv,x.name⟩))↔Uses w s:=fun hk s=>⟨fun z=>z.elim id fun y=>absurd y.1 hk,.inl⟩
 cases k1:(x.kind==1)
 ·have hk:x.kind ≠ 1:=by simpa using k1
  rw [cond_false]
  have stl:∀ d:Za,d.name=x.name ->d.use= (look (rowOf w m) x.name).use ->(∀ s,Uses (Xp (cw w m (put d (rowOf w m))) m x.name d) s↔Uses w s)∧gives (Xp (cw w m (put d (rowOf w m))) m x.name d).notes=gives w.notes:=by
   intro d hd hu;obtain⟨U,_,_⟩:=X8 hm Ym hd;have hm2:m < (cw w m (put d (rowOf w m))).cells.length:=by rw [U.len];exact hm
   obtain⟨a,b⟩:=KT (n:=x.name) hm2 (fun k hk=>U.Ym k (by rw [← U.len];exact hk)) (c:=d) (by rw [UL hm (Ym m hm) hd]);exact⟨fun s=>(a s).trans (Kk hm Ym hd hu s),b⟩
  cases k2:(x.kind==2)
  ·rw [cond_false];have hd:(⟨(look (rowOf w m) x.name).name,true,-1,0,ZK ((look (rowOf w m) x.name).out + 16),(look (rowOf w m) x.name).use⟩:Za).name=x.name:=hln;obtain⟨b,hb⟩:∃ b,cw w m (put ⟨(look (rowOf w m) x.name).name,true,-1,0,ZK ((look (rowOf w m) x.name).out + 16),(look (rowOf w m) x.name).use⟩ (rowOf w m))=b:= ⟨_,rfl⟩
   obtain⟨U,_,_⟩:=X8 hm Ym hd;have ub:=fun s=>Kk hm Ym hd rfl s
   have gb:gives (cw w m (put ⟨(look (rowOf w m) x.name).name,true,-1,0,ZK ((look (rowOf w m) x.name).out + 16),(look (rowOf w m) x.name).use⟩ (rowOf w m))).notes=gives w.notes:=rfl;rw [hb] at U ub gb ⊢;have hm2:m < b.cells.length:=by rw [U.len];exact hm
   have ZmT:∀ k,k < b.cells.length ->UC (rowOf b k):=fun k hk=>U.Ym k (by rw [← U.len];exact hk)
   cases decide ((look (rowOf w m) x.name).from_ >=0)
   ·simp only [cond_false];obtain⟨a1,a2⟩:=KT (n:=x.name) hm2 ZmT (c:=look (rowOf b m) x.name) rfl;exact⟨fun s=>((a1 s).trans (ub s)).trans (ZrH hk s).symm,a2.trans gb⟩
   ·simp only [cond_true];obtain⟨l3,s3⟩:=Zpl hm2 ZmT (n:=x.name) (look (rowOf w m) x.name).from_ (look (rowOf w m) x.name).has;obtain⟨b1,b2⟩:=Zjh hm2 ZmT (n:=x.name) (look (rowOf w m) x.name).from_ (look (rowOf w m) x.name).has;obtain⟨a1,a2⟩:=KT (n:=x.name) (by rw [l3];exact hm2) (fun k hk=>s3 k (by rw [← l3];exact hk)) (c:=look (rowOf (XA b m x.name (look (rowOf w m) x.name).from_ (look (rowOf w m) x.name).has) m) x.name) rfl;exact⟨fun s=>(((a1 s).trans (b1 s)).trans (ub s)).trans (ZrH hk s).symm,(a2.trans b2).trans gb⟩
  ·rw [cond_true];obtain⟨a,b⟩:=stl ⟨(look (rowOf w m) x.name).name,(look (rowOf w m) x.name).root,(look (rowOf w m) x.name).from_,(look (rowOf w m) x.name).has,ZK ((look (rowOf w m) x.name).out - x.w),(look (rowOf w m) x.name).use⟩ hln rfl;exact⟨fun s=>(a s).trans (ZrH hk s).symm,b⟩
 ·have hk:x.kind=1:=by simpa using k1
  rw [cond_true];generalize ((!(look (rowOf w m) x.name).root && ((look (rowOf w m) x.name).from_==-1)) && (x.via !=x.Zv))=b1;generalize ((!(look (rowOf w m) x.name).root && decide ((look (rowOf w m) x.name).from_ >=0)) && ((look (rowOf w m) x.name).from_==x.via))=b2;cases b1
  ·simp only [cond_false];cases b2
   ·simp only [cond_false];have hd:(⟨(look (rowOf w m) x.name).name,(look (rowOf w m) x.name).root,(look (rowOf w m) x.name).from_,(look (rowOf w m) x.name).has,(look (rowOf w m) x.name).out,true⟩:Za).name=x.name:=hln;obtain⟨U,_,_⟩:=X8 hm Ym hd;have hm2:m < (cw w m (put ⟨(look (rowOf w m) x.name).name,(look (rowOf w m) x.name).root,(look (rowOf w m) x.name).from_,(look (rowOf w m) x.name).has,(look (rowOf w m) x.name).out,true⟩ (rowOf w m))).cells.length:=by rw [U.len];exact hm
    obtain⟨a,b⟩:=Zjh (n:=x.name) hm2 (fun k hk=>U.Ym k (by rw [← U.len];exact hk)) x.via x.w;exact⟨fun s=>(a s).trans (give _ hd rfl hk s),b⟩
   ·simp only [cond_true];exact⟨fun s=>give ⟨(look (rowOf w m) x.name).name,(look (rowOf w m) x.name).root,(look (rowOf w m) x.name).from_,ZK ((look (rowOf w m) x.name).has + x.w),(look (rowOf w m) x.name).out,true⟩ hln rfl hk s,rfl⟩
  ·simp only [cond_true];exact⟨fun s=>give ⟨(look (rowOf w m) x.name).name,(look (rowOf w m) x.name).root,x.via,x.w,(look (rowOf w m) x.name).out,true⟩ hln rfl hk s,rfl⟩
theorem ZiZ {l:List Zd} {k:Nat} {x:Zd} (hx:l[k]? =some x):gives (l.take k ++ l.drop (k + 1))= (if x.kind=1 then(gives l).take (gives (l.take k)).length ++ (gives l).drop ((gives (l.take k)).length + 1) else gives l)∧(x.kind=1 ->(gives l)[(gives (l.take k)).length]? =some ⟨x.Zv,x.name⟩):=by
 obtain⟨hk,hkx⟩:=List.getElem?_eq_some_iff.1 hx
 have ZcE:l=l.take k ++ x::l.drop (k + 1):=by
  rw [← hkx,← List.drop_eq_getElem_cons hk,List.take_append_drop]
 have happ:∀ a b:List Zd,gives (a ++ b)=gives a ++ gives b:=by
  intro a b;unfold gives;rw [List.filter_append,List.map_append]
 have ZBN:∀ b:List Zd,gives (x::b)= (if x.kind=1 then [⟨x.Zv,x.name⟩] else []) ++ gives b:=by
  intro b;have:=happ [x] b;rw [List.singleton_append] at this;rw [this];congr 1;have:=Zcs [] x;rw [List.nil_append] at this;rw [this];rfl
 have hl:gives l=gives (l.take k) ++ ((if x.kind=1 then [⟨x.Zv,x.name⟩] else []) ++ gives (l.drop (k + 1))):=by
  conv=>lhs;rw [ZcE]
  rw [happ,ZBN]
 rw [happ];by_cases h:x.kind=1
 ·rw [if_pos h] at hl ⊢;rw [hl];refine⟨?_,fun _=>?_⟩
  ·have key:∀ (A B:List YM) (y:YM),A ++ B= (A ++ ([y] ++ B)).take A.length ++ (A ++ ([y] ++ B)).drop (A.length + 1):=by
    intro A B y;rw [List.take_left,List.drop_append,List.drop_eq_nil_of_le (Nat.le_succ A.length),List.nil_append,Nat.add_sub_cancel_left]
    rfl
   exact key _ _ _
  ·rw [List.getElem?_append_right (Nat.le_refl _),Nat.sub_self];rfl
 ·rw [if_neg h] at hl ⊢;rw [hl];exact⟨rfl,fun z=>absurd z h⟩
theorem Zq6 (k:Nat) (s:YM):Uses (U6 w k) s↔Uses w s:=Iff.rfl
theorem Zff (R:Rt w) {d:Zn} (hf:QW d w.cells.length=true) (he:YH w d d.at_.toNat=0):
 (d.ZW=1 ->(∀ s,Uses (Ya w d) s↔Uses w s∨s= ⟨d.at_,w.names⟩)∧gives (Ya w d).notes=gives w.notes)∧
 (d.ZW=2 ->(∀ s,Uses (Ya w d) s↔Uses w s)∧gives (Ya w d).notes=gives w.notes ++ [⟨d.Zv,d.name⟩]∧Uses w ⟨d.at_,d.name⟩)∧
 (d.ZW=3 ->(∀ s,Uses (Ya w d) s↔Uses w s∧s ≠ ⟨d.at_,d.name⟩)∧gives (Ya w d).notes=gives w.notes∧Uses w ⟨d.at_,d.name⟩)∧
 (d.ZW=4 ->(∀ s,Uses (Ya w d) s↔Uses w s)∧gives (Ya w d).notes=gives w.notes)∧
 (d.ZW=5 ->∃ x,w.notes[d.at_.toNat]? =some x∧(∀ s,Uses (Ya w d) s↔Uses w s∨(x.kind=1∧s= ⟨x.Zv,x.name⟩))∧gives (Ya w d).notes= (if x.kind=1 then(gives w.notes).take (gives (w.notes.take d.at_.toNat)).length ++ (gives w.notes).drop ((gives (w.notes.take d.at_.toNat)).length + 1) else gives w.notes)):=by
 have Ym:=R.Ym;unfold Ya;refine⟨fun k=>?_,fun k=>?_,fun k=>?_,fun k=>?_,fun k=>?_⟩
 ·rw [show(d.ZW==1)=true by simp [k],cond_true];rcases YL hf with⟨_,a⟩ | ⟨z,_⟩ | ⟨z,_⟩ | ⟨z,_⟩
  ·obtain⟨m,hm'⟩:∃ m,d.at_.toNat=m:= ⟨_,rfl⟩
   have hm:m < w.cells.length:=by omega
   have hat:d.at_= (m:Int):=by omega
   rw [hm'];refine⟨fun s=>?_,rfl⟩;refine(show Uses (ZdP w m) s↔Uses (cw w m (put (ZeH w) (rowOf w m))) s from Iff.rfl).trans ?_;rw [ZdC hm Ym (n:=w.names) (d:=ZeH w) rfl];by_cases h:s.name=w.names∧s.at_= (m:Int)
   ·rw [if_pos h,hat];exact⟨fun _=>.inr (ZgK h),fun _=>rfl⟩
   ·rw [if_neg h];refine⟨.inl,?_⟩;rintro(z | z)
    ·exact z
    ·exact absurd ⟨by rw [z],by rw [z];exact hat⟩ h
  all_goals omega
 ·have b1:(d.ZW==1)=false:=by simp [k]
  have b2:(d.ZW==2)=true:=by simp [k]
  rw [b1,b2,cond_false,cond_true];rcases YL hf with⟨z,_⟩ | ⟨_,a,t,ne,nm⟩ | ⟨z,_⟩ | ⟨z,_⟩
  ·omega
  ·obtain⟨m,hm'⟩:∃ m,d.at_.toNat=m:= ⟨_,rfl⟩
   have hm:m < w.cells.length:=by omega
   have hat:d.at_= (m:Int):=by omega
   rw [hm'] at he ⊢;obtain⟨c,hc,_,hu⟩:=Qm (by omega) (by omega) he;have hu:=hu (by omega);have hcn:=X0 hc;have hl:=QL hc;rw [hl];have hus:Uses w ⟨d.at_,d.name⟩:=by rw [hat,← Kl hm,hl];exact hu
   unfold ZdI;cases (decide (c.from_ >=0) && decide (c.has >=2))
   ·rw [cond_false];exact⟨fun s=>(Zci _ s).trans (Kk hm Ym (n:=d.name) (by exact hcn) (by rw [hl]) s),(Zcs _ _).trans (by rw [if_pos rfl];rfl),hus⟩
   ·rw [cond_true];exact⟨fun s=>(Zci _ s).trans (Kk hm Ym (n:=d.name) (by exact hcn) (by rw [hl]) s),(Zcs _ _).trans (by rw [if_pos rfl];rfl),hus⟩
  all_goals omega
 ·have b1:(d.ZW==1)=false:=by simp [k]
  have b2:(d.ZW==2)=false:=by simp [k]
  have b5:(d.ZW==5)=false:=by simp [k]
  have b3:(d.ZW==3)=true:=by simp [k]
  rw [b1,b2,b5,b3,cond_false,cond_false,cond_false,cond_true];rcases YL hf with⟨z,_⟩ | ⟨z,_⟩ | ⟨_,a,nm⟩ | ⟨z,_⟩
  ·omega
  ·omega
  ·obtain⟨m,hm'⟩:∃ m,d.at_.toNat=m:= ⟨_,rfl⟩
   have hm:m < w.cells.length:=by omega
   have hat:d.at_= (m:Int):=by omega
   rw [hm'] at he ⊢;obtain⟨c,hc,_,hu⟩:=Qm (by omega) (by omega) he;have hu:=hu (by omega);have hcn:=X0 hc;have hl:=QL hc;rw [hl];have hus:Uses w ⟨d.at_,d.name⟩:=by rw [hat,← Kl hm,hl];exact hu
   have hdn:(K8 c).name=d.name:=hcn;obtain⟨U,_,_⟩:=X8 hm Ym hdn;have hm2:m < (cw w m (put (K8 c) (rowOf w m))).cells.length:=by rw [U.len];exact hm
   unfold ZfV;obtain⟨a1,a2⟩:=KT (n:=d.name) hm2 (fun k hk=>U.Ym k (by rw [← U.len];exact hk)) (c:=K8 c) (by rw [UL hm (Ym m hm) hdn]);refine⟨fun s=>(a1 s).trans ?_,a2,hus⟩;rw [ZdC hm Ym hdn];by_cases h:s.name=d.name∧s.at_= (m:Int)
   ·rw [if_pos h,hat];refine⟨fun z=>(by cases z),fun z=>absurd (ZgK h) z.2⟩
   ·rw [if_neg h];refine⟨fun z=>⟨z,fun y=>h ⟨by rw [y],by rw [y];exact hat⟩⟩,fun z=>z.1⟩
  ·omega
 ·have b1:(d.ZW==1)=false:=by simp [k]
  have b2:(d.ZW==2)=false:=by simp [k]
  have b5:(d.ZW==5)=false:=by simp [k]
  have b3:(d.ZW==3)=false:=by simp [k]
  rw [b1,b2,b5,b3,cond_false,cond_false,cond_false,cond_false];rcases YL hf with⟨z,_⟩ | ⟨_,a,t,ne,nm⟩ | ⟨z,_⟩ | ⟨z,_⟩
  ·omega
  ·obtain⟨m,hm'⟩:∃ m,d.at_.toNat=m:= ⟨_,rfl⟩
   have hm:m < w.cells.length:=by omega
   rw [hm'] at he ⊢;obtain⟨c,hc,_,_⟩:=Qm (by omega) (by omega) he;have hcn:=X0 hc;have hl:=QL hc;rw [hl];unfold goW;exact⟨fun s=>(Zci _ s).trans (Kk hm Ym (n:=d.name) (by exact hcn) (by rw [hl];rfl) s),Zdj _ (show(3:Int) ≠ 1 by decide)⟩
  all_goals omega
 ·have b1:(d.ZW==1)=false:=by simp [k]
  have b2:(d.ZW==2)=false:=by simp [k]
  have b5:(d.ZW==5)=true:=by simp [k]
  rw [b1,b2,b5,cond_false,cond_false,cond_true]
  have hlt:d.at_.toNat < w.notes.length:=by
   unfold YH at he;rw [b1,b5,cond_false,cond_true] at he;rcases YL hf with⟨z,_⟩ | ⟨z,_⟩ | ⟨z,_⟩ | ⟨_,z⟩
   ·omega
   ·omega
   ·omega
   ·by_cases h:d.at_ >= (w.notes.length:Int)
    ·rw [decide_eq_true h] at he;cases he
    ·omega
  obtain⟨x,hx⟩:∃ x,w.notes[d.at_.toNat]? =some x:= ⟨_,List.getElem?_eq_getElem hlt⟩
  refine⟨x,hx,?_⟩;rw [hx,Option.getD_some];have hxm:x ∈ w.notes:=List.mem_of_getElem? hx;obtain⟨h,H⟩:=R.rx.1.nm _ (R.nn x hxm);have hto:= (H.nts x (List.mem_append_right _ (List.mem_filter.2 ⟨hxm,by simp⟩))).1;obtain⟨a,b⟩:=Zn2 (w:=U6 w d.at_.toNat) Ym hto;exact⟨fun s=>(a s).trans (by rw [Zq6]),b.trans (ZiZ hx).1⟩
end
end Go.Proofs.Ytekpjgmhkkjhgaa
end
section
namespace Go.Proofs.Ytekpjgmhkkjhgaa
open Go.Lf
def less (l:List YM) (t:YM):List YM:=l.filter fun x=>!(KH x t)
theorem Zr2 (l:List YM) (t s:YM):s ∈ less l t↔s ∈ l∧s ≠ t:=by
 unfold less;rw [List.mem_filter,Qy];simp
theorem Ztl {t:YM} {m:Model} {d:Zn} (ht:YM.mk d.at_ d.name=t) (l0:List YM) (hl:l0.length < 1000):∀ (k j i F':Nat) (v:List YM),j + k=l0.length ->k < F' ->i <=j ->v.length=l0.length ->v.take i=less (l0.take j) t ->v.drop j=l0.drop j ->
 loop F' (ZhA m d) ((i:Int),(j:Int),v)=some ⟨less l0 t,m.ways⟩:=by
 intro k
 induction k with
 | zero=>
   intro j i F' v hj hF' hij hvl h1 h2;obtain⟨F',rfl⟩:=Nat.exists_eq_succ_of_ne_zero (n:=F') (by omega);have hjl:j=l0.length:=by omega
   rw [Yx];simp only [ZhA];rw [decide_eq_false (by omega),cond_false,Ku (by omega) (Nat.le_refl _),Option.bind_some,Int.toNat_natCast];have hl2:((v.take v.length).drop i).length=v.length - i:=by simp
   have e:=Ku (xs:=v.take i ++ List.replicate ((v.take v.length).drop i).length (YM.mk 0 0)) (a:=0) (b:=i) (Nat.zero_le _) (by simp;omega);rw [show((0:Nat):Int)=0 from rfl] at e;rw [e,Option.bind_some,List.drop_zero,List.take_append_of_le_length (by simp;omega),List.take_take,Nat.min_self,h1,hjl,List.take_length]
   rfl
 | succ k ih=>
   intro j i F' v hj hF' hij hvl h1 h2;obtain⟨F',rfl⟩:=Nat.exists_eq_succ_of_ne_zero (n:=F') (by omega);have hlt:j < v.length:=by omega
   have ZBI:j < l0.length:=by omega
   have hx:v[j]? =l0[j]?:=by
    have:=congrArg (fun q=>q[0]?) h2
    simpa using this
   rw [Yx];simp only [ZhA];rw [decide_eq_true (by omega),cond_true,ZY,hx,List.getElem?_eq_getElem ZBI,Option.bind_some,ht]
   have htk:less (l0.take (j + 1)) t=less (l0.take j) t ++ (if l0[j]=t then [] else [l0[j]]):=by
    unfold less;rw [List.take_succ,List.getElem?_eq_getElem ZBI,List.filter_append];congr 1;simp only [Option.toList_some,Qy];by_cases h:l0[j]=t
    ·rw [if_pos h,List.filter_cons_of_neg (by simp [h])];rfl
    ·rw [if_neg h,List.filter_cons_of_pos (by simp [h])];rfl
   have hd2:v.drop (j + 1)=l0.drop (j + 1):=by
    have:=congrArg (List.drop 1) h2
    simpa [List.drop_drop,Nat.add_comm] using this
   by_cases h:l0[j]=t
   ·rw [Qy,decide_eq_true h];simp only [Bool.not_true,cond_false];unfold Ze7;rw [XD (by omega)];exact ih (j + 1) i F' v (by omega) (by omega) (by omega) hvl (by rw [htk,if_pos h,List.append_nil,h1]) hd2
   ·rw [Qy,decide_eq_false h];simp only [Bool.not_false,cond_true];rw [ZY,List.getElem?_eq_getElem (by omega:i < v.length),Option.bind_some];unfold Ze7;rw [XD (by omega),XD (by omega)];simp only [Jh,Int.toNat_natCast];refine ih (j + 1) (i + 1) F' _ (by omega) (by omega) (by omega) (by rw [List.length_set];exact hvl) ?_ ?_
    ·rw [htk,if_neg h,← h1,List.take_succ,List.getElem?_set_self (by omega),List.take_set_of_le (Nat.le_refl _)]
     rfl
    ·rw [List.drop_set_of_lt (by omega)];exact hd2
section
variable {w:Zb} {m:Model} {F:Nat}
theorem Zwd {l:List YM} {k:Nat} (hk:k < l.length) (hl:l.length < 1000):Zs3 l (k:Int) (ZK ((k:Int) + 1))=some (l.take k ++ l.drop (k + 1)):=by
 unfold Zs3;have e0:slL l 0 (k:Int)=some ((l.take k).drop 0):=Ku (a:=0) (Nat.zero_le k) (by omega);rw [XD (by omega),Ku (by omega) (by omega),Option.bind_some,e0,Ku (by omega) (Nat.le_refl _)];have:((k:Int)== ((k + 1:Nat):Int))=false:=by simp;omega
 rw [this,cond_false];simp only [Option.bind_some,List.drop_zero,List.take_length];rw [XM (by simp;omega) (by decide)]
 rfl
theorem Zoc (hF:1000 <=F) (R:Rt w) (f:Fits w m) {d:Zn} (hf:QW d w.cells.length=true) (he:YH w d d.at_.toNat=0):∃ m',Zqk F m w d=some m'∧Fits (Ya w d) m':=by
 obtain⟨hu,hw⟩:=f.small R;obtain⟨D1,D2,D3,D4,D5⟩:=Zff R hf he;have hnt:=R.nts;unfold Zqk
 have kinds:d.ZW=1∨d.ZW=2∨d.ZW=3∨d.ZW=4∨d.ZW=5:=by
  rcases YL hf with⟨k,_⟩ | ⟨k,_⟩ | ⟨k,_⟩ | ⟨k,_⟩ <;> omega
 rcases kinds with k | k | k | k | k
 ·obtain⟨a,b⟩:=D1 k;rw [show(d.ZW==1)=true by simp [k],cond_true,XM (by simp;omega) (by decide),Option.bind_some];refine⟨_,rfl,⟨fun s=>?_,?_,?_⟩⟩
  ·rw [a,List.mem_append,f.mem,List.mem_singleton]
  ·show(m.uses ++ [_]).Nodup;rw [List.nodup_append];refine⟨f.nd,by simp,fun x hx y hy e=>?_⟩;rw [List.mem_singleton] at hy;subst e;rw [hy] at hx;have:= ((f.mem _).1 hx).name R;unfold Yl at this;simp at this
  ·show m.ways=_;rw [b];exact f.ways
 ·obtain⟨a,b,_⟩:=D2 k;rw [show(d.ZW==1)=false by simp [k],show(d.ZW==2)=true by simp [k],cond_false,cond_true,XM (by simp;omega) (by decide),Option.bind_some];refine⟨_,rfl,⟨fun s=>?_,f.nd,?_⟩⟩
  ·rw [a];exact f.mem s
  ·show m.ways ++ _=_;rw [b,f.ways]
 ·obtain⟨a,b,c⟩:=D3 k;rw [show(d.ZW==1)=false by simp [k],show(d.ZW==2)=false by simp [k],show(d.ZW==3)=true by simp [k],cond_false,cond_false,cond_true];have hmem:(⟨d.at_,d.name⟩:YM) ∈ m.uses:= (f.mem _).2 c
  have e:=Xa m.uses (fun v (_:Unit)=>v) (Ze9 F m d) (fun k y s next=>bif KH y ⟨d.at_,d.name⟩ then Zam F m d (k:Int) else next ()) (fun _=>Zam F m d (-1)) (by omega) (fun k y s next hy hk=>by
   simp only [Ze9,ZY,hy,hk,decide_true,Option.bind_some,cond_true]) (fun s next=>by simp [Ze9]) (by omega:m.uses.length < F) ()
  rw [show loop F (Ze9 F m d) 0=_ from e];rcases ZeN (l:=m.uses) (i:=0) (s:= ()) (d:=fun _=>Zam F m d (-1)) (g:=fun k (y:YM) (_:Unit) next=>bif KH y ⟨d.at_,d.name⟩ then Zam F m d (k:Int) else next ()) (fun k=>Zam F m d (k:Int)) (fun y=>KH y ⟨d.at_,d.name⟩) (fun _ _ _ _=>rfl) with⟨j,y,h1,h2,h3⟩ | ⟨h1,h2⟩
  ·rw [h3,Nat.zero_add];have hy:=List.find?_some h1;rw [Qy,decide_eq_true_eq] at hy;obtain⟨hj,hjy⟩:=List.getElem?_eq_some_iff.1 h2
   have ZcE:m.uses=m.uses.take j ++ y::m.uses.drop (j + 1):=by
    rw [← hjy,← List.drop_eq_getElem_cons hj,List.take_append_drop]
   have ZFn:y ∉ m.uses.take j:=by
    intro z;have:=f.nd;rw [ZcE,List.nodup_append] at this;exact this.2.2 y z y (by simp) rfl
   unfold Zam;rw [show((j:Int)==-1)=false by simp,cond_false,XD (by omega)];refine⟨_,Ztl rfl m.uses (by omega) (m.uses.length - (j + 1)) (j + 1) j F m.uses (by omega) (by omega) (by omega) rfl ?_ rfl,⟨fun s=>?_,?_,?_⟩⟩
   ·unfold less;rw [List.take_succ,h2,List.filter_append]
    have q1:(m.uses.take j).filter (fun x=>!(KH x ⟨d.at_,d.name⟩))=m.uses.take j:=by
     rw [List.filter_eq_self];intro x hx;rw [Qy,← hy];have:x ≠ y:=fun z=>ZFn (z ▸ hx)
     simp [this]
    rw [q1];simp only [Option.toList_some];rw [List.filter_cons_of_neg (by rw [Qy,hy];simp)];simp
   ·rw [a,Zr2,f.mem]
   ·exact List.Pairwise.filter _ f.nd
   ·show m.ways=_;rw [b];exact f.ways
  ·exfalso;rw [List.find?_eq_none] at h1;have:=h1 _ hmem;rw [Qy] at this;simp at this
 ·obtain⟨a,b⟩:=D4 k;rw [show(d.ZW==1)=false by simp [k],show(d.ZW==2)=false by simp [k],show(d.ZW==3)=false by simp [k],show(d.ZW==5)=false by simp [k],cond_false,cond_false,cond_false,cond_false];exact⟨_,rfl,⟨fun s=>by rw [a];exact f.mem s,f.nd,by rw [b];exact f.ways⟩⟩
 ·obtain⟨x,hx,a,b⟩:=D5 k;rw [show(d.ZW==1)=false by simp [k],show(d.ZW==2)=false by simp [k],show(d.ZW==3)=false by simp [k],show(d.ZW==5)=true by simp [k],cond_false,cond_false,cond_false,cond_true];obtain⟨hk,_⟩:=List.getElem?_eq_some_iff.1 hx;obtain⟨j,hj⟩:∃ j,d.at_.toNat=j:= ⟨_,rfl⟩
  rw [hj] at hx b hk;have h0:0 <=d.at_:=by rcases YL hf with⟨z,_⟩ | ⟨z,_⟩ | ⟨z,_⟩ | ⟨_,z⟩ <;> omega
  have hat:d.at_= (j:Int):=by omega
  rw [hat,ZY,hx,Option.bind_some];obtain⟨g1,g2⟩:=ZiZ hx;by_cases h:x.kind=1
  ·rw [show(x.kind !=1)=false by simp [h],cond_false];have e0:=Ku (xs:=w.notes) (a:=0) (b:=j) (Nat.zero_le j) (by omega);rw [List.drop_zero] at e0;rw [show slL w.notes 0 (j:Int)=some (w.notes.take j) from e0,Option.bind_some];have g2:=g2 h;rw [← f.ways] at g2;obtain⟨q,hq⟩:∃ q,(gives (w.notes.take j)).length=q:= ⟨_,rfl⟩
   rw [hq] at g2 b;obtain⟨hql,_⟩:=List.getElem?_eq_some_iff.1 g2
   have e:=Xa (w.notes.take j) (fun v (s:Int)=>(s,v)) (Ze8 F m (w.notes.take j)) (fun _ c s nx=>nx (bif c.kind==1 then ZK (s + 1) else s)) (fun s=>(bif decide (s < (m.ways.length:Int)) then(Yh m.ways s).bind fun Zpv=>(Zkh F m.uses Zpv).bind fun x159=>(bif(!x159) then(Yh m.ways s).bind fun x160=>(app 16 m.uses [x160]).bind fun ZmJ=>(ZbX m s) ZmJ else(ZbX m s) m.uses) else(Zbf) (m.uses,m.ways))) (by rw [List.length_take];omega) (fun k y s nx hy hk=>by
    simp only [Ze8,ZY,hy,hk,decide_true,cond_true,Option.bind_some];cases (y.kind==1) <;> rfl) (fun s nx=>by
    simp only [Ze8];rw [decide_eq_false (by omega),cond_false]) (by rw [List.length_take];omega:(w.notes.take j).length < F) 0
   rw [show loop F (Ze8 F m (w.notes.take j)) (0,0)=_ from e];rw [(JG (fun _ (c:Zd) (s:Int)=>bif c.kind==1 then ZK (s + 1) else s) (fun _ _=>True) trivial (fun _ _ _ _ _ _=>⟨rfl,trivial⟩)).1,Uu];have hc:=ZhJ (fun c:Zd=>c.kind==1) (w.notes.take j) 0 (by rw [List.length_take];omega)
   have hcq:(w.notes.take j).countP (fun c:Zd=>c.kind==1)=q:=by
    rw [← hq];unfold gives;rw [List.length_map,List.countP_eq_length_filter]
   rw [hcq,Nat.zero_add] at hc;rw [show((0:Nat):Int)=0 from rfl] at hc;rw [hc,decide_eq_true (by omega),cond_true,ZY,g2,Option.bind_some,Zae hF (by omega),Option.bind_some]
   have fin:∀ u:List YM,ZbX m (q:Int) u=some ⟨u,m.ways.take q ++ m.ways.drop (q + 1)⟩:=by
    intro u;unfold ZbX;rw [Zwd hql (by omega),Option.bind_some];rfl
   have Zw6:m.ways.take q ++ m.ways.drop (q + 1)=gives (Ya w d).notes:=by
    rw [b,if_pos h,f.ways]
   by_cases hin:(⟨x.Zv,x.name⟩:YM) ∈ m.uses
   ·rw [decide_eq_true hin];simp only [Bool.not_true,cond_false];refine⟨_,fin _,⟨fun s=>?_,f.nd,Zw6⟩⟩;rw [a,← f.mem];refine⟨.inl,?_⟩;rintro(z | ⟨_,z⟩)
    ·exact z
    ·rw [z];exact hin
   ·rw [decide_eq_false hin];simp only [Bool.not_false,cond_true,Option.bind_some];rw [XM (by simp;omega) (by decide),Option.bind_some];refine⟨_,fin _,⟨fun s=>?_,?_,Zw6⟩⟩
    ·show s ∈ m.uses ++ [_]↔_;rw [a,List.mem_append,f.mem,List.mem_singleton];exact⟨fun z=>z.imp id fun y=>⟨h,y⟩,fun z=>z.imp id fun y=>y.2⟩
    ·show(m.uses ++ [_]).Nodup;rw [List.nodup_append];refine⟨f.nd,by simp,fun u hu y hy e=>?_⟩;rw [List.mem_singleton] at hy;subst e;rw [hy] at hu;exact hin hu
  ·rw [show(x.kind !=1)=true by simp [h],cond_true];refine⟨_,rfl,⟨fun s=>?_,f.nd,?_⟩⟩
   ·rw [a,← f.mem];exact⟨.inl,fun z=>z.elim id fun y=>absurd y.1 h⟩
   ·rw [b,if_neg h];exact f.ways
end
end Go.Proofs.Ytekpjgmhkkjhgaa
end
section
namespace Go.Proofs.Ytekpjgmhkkjhgaa
open Go.Lf
def G (w:Zb) (n a:Int):Int:=J4 (YU w n) (Q8 w n) a
section
variable {w w':Zb} {m:Nat} {n:Int}
theorem ZDU (hm:m < w.cells.length) (Ym:∀ m,m < w.cells.length ->UC (rowOf w m)) {d:Za} (hd:d.name=n) (k a:Int):G (cw w m (put d (rowOf w m))) k a=if k=n∧a= (m:Int) then d.out + YF (YG a) (Q8 w n) else G w k a:=by
 obtain⟨U,V1,V2⟩:=X8 hm Ym hd;unfold G J4;by_cases h:k=n
 ·subst h;rw [V1,V2];by_cases e:a= (m:Int)
  ·rw [if_pos ⟨rfl,e⟩,e,U4];rfl
  ·rw [if_neg (fun z=>e z.2),KV e]
 ·rw [if_neg (fun z=>h z.1),U.oc _ h,U.on _ h]
theorem ZiK (hm:m < w.cells.length) (n:Int):XY (YU w n (m:Int))= (look (rowOf w m) n).out:=by
 rw [Jc hm,YW];unfold look;cases WS (rowOf w m) n <;> rfl
theorem ZkZ (hm:m < w.cells.length) (Ym:∀ m,m < w.cells.length ->UC (rowOf w m)) {d:Za} (hd:d.name=n) {x:Int} (hx:0 <=x) (hu:d.out <= (look (rowOf w m) n).out + x) (k a:Int):G (cw w m (put d (rowOf w m))) k a <=G w k a + if k=n∧a= (m:Int) then x else 0:=by
 rw [ZDU hm Ym hd];by_cases h:k=n∧a= (m:Int)
 ·rw [if_pos h,if_pos h,h.1,h.2];unfold G J4;rw [ZiK hm];omega
 ·rw [if_neg h,if_neg h];omega
theorem Zt0 (x:Zd) (k a:Int):G (sent w x) k a=G w k a + if x.name=k then YG a x else 0:=by
 unfold G J4;have h1:YU (sent w x) k=YU w k:=rfl
 have h2:Q8 (sent w x) k=Q8 w k ++ (if x.name=k then [x] else []):=by
  unfold Q8 sent;rw [List.filter_append];congr 1;by_cases h:x.name=k
  ·rw [if_pos h,List.filter_cons_of_pos (by simp [h])];rfl
  ·rw [if_neg h,List.filter_cons_of_neg (by simp [h])];rfl
 rw [h1,h2,Xg];by_cases h:x.name=k
 ·rw [if_pos h,if_pos h,Qf];omega
 ·rw [if_neg h,if_neg h];simp [YF]
theorem ZgA {x:Zd} (h:x.kind ≠ 3) (k a:Int):G (sent w x) k a=G w k a:=by
 rw [Zt0];have:YG a x=0:=by unfold YG;rw [if_neg (fun z=>h z.1)]
 rw [this];split <;> omega
theorem ZDT (hm:m < w.cells.length) (Ym:∀ m,m < w.cells.length ->UC (rowOf w m)) (ho:(look (rowOf w m) n).out=0) (k a:Int):G (cw w m (rmv n (rowOf w m))) k a=G w k a:=by
 obtain⟨U,V1,V2⟩:=Zjx (n:=n) hm Ym;unfold G J4;by_cases h:k=n
 ·subst h;rw [V1,V2];by_cases e:a= (m:Int)
  ·rw [e,U4,ZiK hm,ho];rfl
  ·rw [KV e]
 ·rw [U.oc _ h,U.on _ h]
theorem ZdF (hm:m < w.cells.length) (Ym:∀ m,m < w.cells.length ->UC (rowOf w m)) {c:Za} (hc:(look (rowOf w m) n).out=c.out) (k a:Int):G (Xp w m n c) k a=G w k a:=by
 unfold Xp;cases hu:(c.use || (c.out !=0))
 ·simp only [cond_false]
  have hco:c.out=0:=by
   rw [Bool.or_eq_false_iff] at hu
   simpa using hu.2
  rw [← ZDT hm Ym (hc.trans hco) k a];cases c.root
  ·simp only [cond_false];cases decide (c.from_ >=0)
   ·rfl
   ·rw [cond_true];exact ZgA (w:=cw w m (rmv n (rowOf w m))) (x:= ⟨2,c.from_,n,0,c.has⟩) (show(2:Int) ≠ 3 by decide) k a
  ·rfl
 ·rfl
theorem ZtA (hm:m < w.cells.length) (Ym:∀ m,m < w.cells.length ->UC (rowOf w m)) {Zv x:Int} (hx:0 <=x∧x <=1000000) (ho:-16 <= (look (rowOf w m) n).out∧(look (rowOf w m) n).out <=2000000) (k a:Int):G (XA w m n Zv x) k a <=G w k a:=by
 unfold XA;cases (Zv != (m:Int))
 ·rw [cond_false]
  have:=ZkZ hm Ym (n:=n) (d:= {look (rowOf w m) n with out:=ZK ((look (rowOf w m) n).out - x)}) (JF _ _) (x:=0) (by omega) (by
   show ZK ((look (rowOf w m) n).out - x) <=_;rw [YJ (by omega) (by omega)];omega) k a
  split at this <;> omega
 ·rw [cond_true,ZgA (show(2:Int) ≠ 3 by decide)];omega
theorem ZrF (a:Int) (x:Zd):YG a x <=16:=by unfold YG;split <;> omega
theorem ZDV {k:Nat} {x:Zd} (hk:w.notes[k]? =some x) (n a:Int):G w n a=G (U6 w k) n a + if x.name=n then YG a x else 0:=by
 obtain⟨hkl,hkx⟩:=List.getElem?_eq_some_iff.1 hk
 have ZcE:w.notes=w.notes.take k ++ x::w.notes.drop (k + 1):=by
  rw [← hkx,← List.drop_eq_getElem_cons hkl,List.take_append_drop]
 unfold G J4;have h1:YU (U6 w k) n=YU w n:=rfl
 have h2:YF (YG a) (Q8 w n)=YF (YG a) (Q8 (U6 w k) n) + if x.name=n then YG a x else 0:=by
  unfold Q8 U6;dsimp only;rw [List.filter_append,Xg]
  conv=>lhs;rw [ZcE]
  rw [List.filter_append,Xg];by_cases h:x.name=n
  ·rw [if_pos h,List.filter_cons_of_pos (by simp [h])];simp only [YF];omega
  ·rw [if_neg h,List.filter_cons_of_neg (by simp [h])];omega
 rw [h1,h2];omega
theorem Zwh (R:Rt w) {k:Nat} {x:Zd} (hk:w.notes[k]? =some x) (n a:Int):G (QN (U6 w k) x) n a <=G w n a:=by
 obtain⟨R0,M0⟩:=Zm1 R hk;rw [ZDV hk n a];obtain⟨v,hv⟩:∃ v,U6 w k=v:= ⟨_,rfl⟩
 rw [hv] at R0 M0 ⊢;have hn:=R0.nn x (by simp);have hfl:∀ y ∈ [x],y.name=x.name:=by simp
 obtain⟨h,H⟩:=R0.nm x.name hn;rw [K4 hfl] at H;have hMx:=M0 x.name hn;rw [K4 hfl] at hMx;have H:Nm v.cells.length x.name (YU v x.name) (x::Q8 v x.name) h:=H;have hx:=H.nts x (by simp);have hxw:= (H.most hMx).2 x (by simp);obtain⟨m,hm'⟩:∃ m,x.Zv.toNat=m:= ⟨_,rfl⟩
 have hat:x.Zv= (m:Int):=by omega
 have hm:m < v.cells.length:=by omega
 have S:=ZfJ H hMx x.Zv;have Zbp:look (rowOf v m) x.name=Zbo x.name (YU v x.name) x.Zv:=by rw [ZiR hm,hat]
 rw [← Zbp] at S;have Ym:=R0.Ym;have hln:=JF (rowOf v m) x.name;unfold QN;rw [hm'];dsimp only;obtain⟨c,hc⟩:∃ c,look (rowOf v m) x.name=c:= ⟨_,rfl⟩
 rw [hc] at S hln ⊢;cases k1:(x.kind==1)
 ·rw [cond_false];cases k2:(x.kind==2)
  ·rw [cond_false]
   have k3:x.kind=3:=by
    rcases hx.2.2.2 with z | z | z
    ·rw [z.1] at k1;cases k1
    ·rw [z.1] at k2;cases k2
    ·exact z.1
   have hd:(⟨c.name,true,-1,0,ZK (c.out + 16),c.use⟩:Za).name=x.name:=hln;have ho:ZK (c.out + 16)=c.out + 16:=YJ (by omega) (by omega);have g1:=ZkZ hm Ym hd (x:=16) (by omega) (by show ZK (c.out + 16) <=_;rw [ho,hc];omega) n a;have hlk:=UL hm (Ym m hm) hd;obtain⟨U,_,_⟩:=X8 hm Ym hd;obtain⟨b,hb⟩:∃ b,cw v m (put ⟨c.name,true,-1,0,ZK (c.out + 16),c.use⟩ (rowOf v m))=b:= ⟨_,rfl⟩
   rw [hb] at U g1 hlk ⊢;have hm2:m < b.cells.length:=by rw [U.len];exact hm
   have ZmT:∀ k,k < b.cells.length ->UC (rowOf b k):=fun k hk=>U.Ym k (by rw [← U.len];exact hk)
   have ZHj:(if n=x.name∧a= (m:Int) then(16:Int) else 0) <=if x.name=n then YG a x else 0:=by
    by_cases e:n=x.name∧a= (m:Int)
    ·rw [if_pos e,if_pos e.1.symm,Zgf k3,if_pos (by rw [hat];exact e.2.symm)];omega
    ·rw [if_neg e];split
     ·exact Ka a x
     ·omega
   cases decide (c.from_ >=0)
   ·simp only [cond_false];rw [ZdF hm2 ZmT (n:=x.name) (c:=look (rowOf b m) x.name) rfl];omega
   ·simp only [cond_true];obtain⟨l3,s3⟩:=Zpl hm2 ZmT (n:=x.name) c.from_ c.has;have g2:=ZtA hm2 ZmT (n:=x.name) (Zv:=c.from_) (x:=c.has) (by omega) (by rw [hlk];show -16 <=ZK (c.out + 16)∧ZK (c.out + 16) <=2000000;rw [ho];omega) n a;rw [ZdF (by rw [l3];exact hm2) (fun k hk=>s3 k (by rw [← l3];exact hk)) (n:=x.name) (c:=look (rowOf (XA b m x.name c.from_ c.has) m) x.name) rfl];omega
  ·rw [cond_true];have hd:(⟨c.name,c.root,c.from_,c.has,ZK (c.out - x.w),c.use⟩:Za).name=x.name:=hln;have g1:=ZkZ hm Ym hd (x:=0) (by omega) (by show ZK (c.out - x.w) <=_;rw [YJ (by omega) (by omega),hc];omega) n a;have hlk:=UL hm (Ym m hm) hd;obtain⟨U,_,_⟩:=X8 hm Ym hd;rw [ZdF (by rw [U.len];exact hm) (fun k hk=>U.Ym k (by rw [← U.len];exact hk)) (n:=x.name) (by rw [hlk])];have:=Ka a x;split at g1 <;> split <;> omega
 ·rw [cond_true]
  have hng:0 <= (if x.name=n then YG a x else 0):=by
   have:=Ka a x;split <;> omega
  have Zx6:∀ d:Za,d.name=x.name ->d.out=c.out ->G (cw v m (put d (rowOf v m))) n a <=G v n a:=fun d hd ho=>by
   have:=ZkZ hm Ym hd (x:=0) (by omega) (by rw [ho,hc];omega) n a;split at this <;> omega
  generalize ((!c.root && (c.from_==-1)) && (x.via !=x.Zv))=b1;generalize ((!c.root && decide (c.from_ >=0)) && (c.from_==x.via))=b2;cases b1
  ·simp only [cond_false];cases b2
   ·simp only [cond_false];have hd:(⟨c.name,c.root,c.from_,c.has,c.out,true⟩:Za).name=x.name:=hln;have hlk:=UL hm (Ym m hm) hd;obtain⟨U,_,_⟩:=X8 hm Ym hd;have g1:=Zx6 _ hd rfl;have g2:=ZtA (by rw [U.len];exact hm) (fun k hk=>U.Ym k (by rw [← U.len];exact hk)) (n:=x.name) (Zv:=x.via) (x:=x.w) (by omega) (by rw [hlk];show -16 <=c.out∧c.out <=2000000;omega) n a;omega
   ·simp only [cond_true];have:=Zx6 ⟨c.name,c.root,c.from_,ZK (c.has + x.w),c.out,true⟩ hln rfl;omega
  ·simp only [cond_true];have:=Zx6 ⟨c.name,c.root,x.via,x.w,c.out,true⟩ hln rfl;omega
theorem Ztt (R:Rt w) {d:Zn} (h1:d.ZW ≠ 1) (h5:d.ZW ≠ 5) (hm:m < w.cells.length) (he:YH w d m=0):∃ c,look (rowOf w m) d.name=c∧c.name=d.name∧-16 <=c.out∧c.out <=1000000:=by
 obtain⟨c,hc,_,_⟩:=Qm h1 h5 he;obtain⟨_,e,hn⟩:=R.Qc hm hc;obtain⟨h,H,Mx⟩:=R.nm _ hn;have S:= (H.most Mx).1 _ c e;exact⟨c,QL hc,X0 hc,S.1,S.2.1⟩
theorem Ztk (R:Rt w) {d:Zn} (hf:QW d w.cells.length=true) (he:YH w d d.at_.toNat=0) (n a:Int):G (Ya w d) n a <=G w n a + 16:=by
 have Ym:=R.Ym;obtain⟨m,hm'⟩:∃ m,d.at_.toNat=m:= ⟨_,rfl⟩
 have he0:=he;unfold Ya;rw [hm'] at he ⊢;rcases YL hf with⟨k,a0⟩ | ⟨k,a0,t0,ne,nm⟩ | ⟨k,a0,nm⟩ | ⟨k,a0⟩
 ·rw [show(d.ZW==1)=true by simp [k],cond_true];have hm:m < w.cells.length:=by omega
  have e:G (ZdP w m) n a=G (cw w m (put (ZeH w) (rowOf w m))) n a:=rfl;rw [e]
  have hnone:(look (rowOf w m) w.names).out=0:=by
   unfold look;cases h:WS (rowOf w m) w.names with
   | none=>rfl
   | some c=>
     exfalso;have:=R.rx.1.range m hm c (Zbc h);have:=X0 h;omega
  have:=ZkZ hm Ym (n:=w.names) (d:=ZeH w) rfl (x:=0) (by omega) (by rw [hnone];exact Int.le_refl _) n a;split at this <;> omega
 ·have hm:m < w.cells.length:=by omega
  have q1:d.ZW ≠ 1:=by omega
  have q5:d.ZW ≠ 5:=by omega
  obtain⟨c,hl,hcn,o1,o2⟩:=Ztt R q1 q5 hm he;rw [hl];by_cases k2:d.ZW=2
  ·rw [show(d.ZW==1)=false by simp [k2],show(d.ZW==2)=true by simp [k2],cond_false,cond_true];unfold ZdI;cases (decide (c.from_ >=0) && decide (c.has >=2))
   ·rw [cond_false,ZgA (show(1:Int) ≠ 3 by decide)];have:=ZkZ hm Ym (n:=d.name) (d:= ⟨c.name,c.root,c.from_,c.has,ZK (c.out + 16),c.use⟩) hcn (x:=16) (by omega) (by show ZK (c.out + 16) <=_;rw [YJ (by omega) (by omega),hl];omega) n a;split at this <;> omega
   ·rw [cond_true,ZgA (show(1:Int) ≠ 3 by decide)];have:=ZkZ hm Ym (n:=d.name) (d:= ⟨c.name,c.root,c.from_,ZK (c.has - ZK (c.has.tdiv 2)),c.out,c.use⟩) hcn (x:=0) (by omega) (by rw [hl];show c.out <=_;omega) n a;split at this <;> omega
  ·have k4:d.ZW=4:=k.resolve_left k2;rw [show(d.ZW==1)=false by simp [k4],show(d.ZW==2)=false by simp [k4],show(d.ZW==5)=false by simp [k4],show(d.ZW==3)=false by simp [k4],cond_false,cond_false,cond_false,cond_false];unfold goW;rw [Zt0];have:=ZkZ hm Ym (n:=d.name) (d:=goC c d.Zv) hcn (x:=0) (by omega) (by rw [hl];show c.out <=_;omega) n a;have:=ZrF a ⟨3,d.Zv,d.name,0,16⟩;split at * <;> split <;> omega
 ·have hm:m < w.cells.length:=by omega
  have q1:d.ZW ≠ 1:=by omega
  have q5:d.ZW ≠ 5:=by omega
  obtain⟨c,hl,hcn,o1,o2⟩:=Ztt R q1 q5 hm he;rw [hl];rw [show(d.ZW==1)=false by simp [k],show(d.ZW==2)=false by simp [k],show(d.ZW==5)=false by simp [k],show(d.ZW==3)=true by simp [k],cond_false,cond_false,cond_false,cond_true];unfold ZfV;have hd:(K8 c).name=d.name:=hcn;have hlk:=UL hm (Ym m hm) hd;obtain⟨U,_,_⟩:=X8 hm Ym hd;rw [ZdF (by rw [U.len];exact hm) (fun k hk=>U.Ym k (by rw [← U.len];exact hk)) (n:=d.name) (by rw [hlk])];have:=ZkZ hm Ym hd (x:=0) (by omega) (by rw [hl];show c.out <=_;omega) n a;split at this <;> omega
 ·rw [show(d.ZW==1)=false by simp [k],show(d.ZW==2)=false by simp [k],show(d.ZW==5)=true by simp [k],cond_false,cond_false,cond_true];obtain⟨x,hx,_⟩:= (Zff R hf he0).2.2.2.2 k;rw [hm'] at hx;rw [hx,Option.getD_some];have:=Zwh R hx n a;omega
end
end Go.Proofs.Ytekpjgmhkkjhgaa
end
section
namespace Go.Proofs.Ytekpjgmhkkjhgaa
open Go.Lf
section
variable {w:Zb} {m:Model} {F:Nat}
theorem ZGZ (X:Rx w Kb []) (n a:Int):-16 <=G w n a:=by
 have h2:0 <=YF (YG a) (Q8 w n):=KR fun x _=>Ka a x
 unfold G J4;cases e:YU w n a with
 | none=>simp only [XY];omega
 | some c=>
   obtain⟨h,H⟩:=X.nm n (X.cn n a c e).1;have H:Nm w.cells.length n (YU w n) (Q8 w n) h:=H;have:= (H.ZjC e).1;simp only [XY];omega
theorem ZuI (R:Rt w) {d:Zn} (hf:QW d w.cells.length=true) (he:YH w d d.at_.toNat=0) {K:Int} (hG:∀ n a,G w n a <=K) (hK:K <=900000) (hn:(Ya w d).notes.length <=80):WA (Ya w d)=false:=by
 obtain⟨X1,X2,X3,X4,X5⟩:=ZkA R hf he;unfold WA;rw [decide_eq_false (by omega),Bool.false_or,List.any_eq_false];intro a ha;rw [List.mem_range] at ha;rw [Bool.not_eq_true,List.any_eq_false];intro n hn2;have h1:=Ztk R hf he (n:Int) (a:Int);have h2:=hG n a;have h3:=ZGZ X1 (n:Int) (a:Int);rw [Zdk _ ha];rw [show ZK (J4 (YU (Ya w d) (n:Int)) (Q8 (Ya w d) (n:Int)) (a:Int))=G (Ya w d) n a from YJ (by show _ <=G _ _ _;omega) (by show G _ _ _ <=_;omega)];simp;omega
theorem ZnW (R:Rt w) {d:Zn} (hf:QW d w.cells.length=true) (he:YH w d d.at_.toNat=0):(Ya w d).notes.length <=w.notes.length + 1∧(d.ZW=1∨d.ZW=5 ->(Ya w d).notes.length <=w.notes.length):=by
 obtain⟨_,_,_,_,D5⟩:=Zff R hf he;unfold Ya;rcases YL hf with⟨k,a0⟩ | ⟨k,a0,t0,ne,nm⟩ | ⟨k,a0,nm⟩ | ⟨k,a0⟩
 ·rw [show(d.ZW==1)=true by simp [k],cond_true];exact⟨Nat.le_succ _,fun _=>Nat.le_refl _⟩
 ·by_cases k2:d.ZW=2
  ·rw [show(d.ZW==1)=false by simp [k2],show(d.ZW==2)=true by simp [k2],cond_false,cond_true];exact⟨Nat.le_of_eq (Zlj _ _ _).1,fun z=>by omega⟩
  ·have k4:d.ZW=4:=by omega
   rw [show(d.ZW==1)=false by simp [k4],show(d.ZW==2)=false by simp [k4],show(d.ZW==5)=false by simp [k4],show(d.ZW==3)=false by simp [k4],cond_false,cond_false,cond_false,cond_false];exact⟨Nat.le_of_eq (ZdH _),fun z=>by omega⟩
 ·rw [show(d.ZW==1)=false by simp [k],show(d.ZW==2)=false by simp [k],show(d.ZW==5)=false by simp [k],show(d.ZW==3)=true by simp [k],cond_false,cond_false,cond_false,cond_true];exact⟨(Ww _ _ _).1,fun z=>by omega⟩
 ·rw [show(d.ZW==1)=false by simp [k],show(d.ZW==2)=false by simp [k],show(d.ZW==5)=true by simp [k],cond_false,cond_false,cond_true];obtain⟨x,hx,_⟩:=D5 k;rw [hx,Option.getD_some];obtain⟨hkl,_⟩:=List.getElem?_eq_some_iff.1 hx;obtain⟨R0,M0⟩:=Zm1 R hx;have q:= (Zmn R0 M0).2.2.1;have:(U6 w d.at_.toNat).notes.length + 1=w.notes.length:=by unfold U6;simp;omega
  exact⟨by omega,fun _=>by omega⟩
theorem ZpE (R:Rt w) {d:Zn} {M nm nt:Int} (hM:M=w.cells.length) (hnm:nm=w.names) (hnt:nt=w.notes.length) (D:Zh0 d M nm nt) {K:Int} (hG:∀ n a,G w n a <=K) (hK:K <=900000):
 ((stepW w d).2=7∧YH w d d.at_.toNat=7∧(d.ZW=2∨d.ZW=3 ->¬ Uses w ⟨d.at_,d.name⟩)∧(d.ZW=2∨d.ZW=3∨d.ZW=4))∨((stepW w d).2=3∧d.ZW ≠ 5∧w.notes.length=80)∨((stepW w d).2=0∧(stepW w d).1=Ya w d∧YH w d d.at_.toNat=0∧WA (Ya w d)=false):=by
 have hf:QW d w.cells.length=true:=by rw [← hM];exact D.form
 have ZFm:=R.nts
 have e07:YH w d d.at_.toNat=0∨(YH w d d.at_.toNat=7∧(d.ZW=2∨d.ZW=3 ->¬ Uses w ⟨d.at_,d.name⟩)∧(d.ZW=2∨d.ZW=3∨d.ZW=4)):=by
  rcases D.kind with k | k | k | k | k
  ·left;have:=D.make k;unfold YH;rw [show(d.ZW==1)=true by simp [k],cond_true,decide_eq_false (by omega),cond_false]
  ·have hat:0 <=d.at_∧d.at_ < (w.cells.length:Int):=by rcases YL hf with⟨z,_⟩ | ⟨_,z,_⟩ | ⟨z,_⟩ | ⟨z,_⟩ <;> omega
   have hl:=Kl (w:=w) (m:=d.at_.toNat) (n:=d.name) (by omega);rw [show((d.at_.toNat:Nat):Int)=d.at_ by omega] at hl;unfold YH;rw [show(d.ZW==1)=false by simp [k],show(d.ZW==5)=false by simp [k],cond_false,cond_false,show(d.ZW==4)=false by simp [k]];unfold look at hl;cases h:WS (rowOf w d.at_.toNat) d.name with
   | none=>rw [h] at hl;exact .inr ⟨rfl,fun _ z=>(by have:=hl.2 z;cases this),.inl k⟩
   | some c=>
     rw [h] at hl;simp only [cond_false];cases hu:c.use
     ·exact .inr ⟨rfl,fun _ z=>(by have:=hl.2 z;simp [hu] at this),.inl k⟩
     ·exact .inl rfl
  ·have hat:0 <=d.at_∧d.at_ < (w.cells.length:Int):=by rcases YL hf with⟨z,_⟩ | ⟨z,_⟩ | ⟨_,z,_⟩ | ⟨z,_⟩ <;> omega
   have hl:=Kl (w:=w) (m:=d.at_.toNat) (n:=d.name) (by omega);rw [show((d.at_.toNat:Nat):Int)=d.at_ by omega] at hl;unfold YH;rw [show(d.ZW==1)=false by simp [k],show(d.ZW==5)=false by simp [k],cond_false,cond_false,show(d.ZW==4)=false by simp [k]];unfold look at hl;cases h:WS (rowOf w d.at_.toNat) d.name with
   | none=>rw [h] at hl;exact .inr ⟨rfl,fun _ z=>(by have:=hl.2 z;cases this),.inr (.inl k)⟩
   | some c=>
     rw [h] at hl;simp only [cond_false];cases hu:c.use
     ·exact .inr ⟨rfl,fun _ z=>(by have:=hl.2 z;simp [hu] at this),.inr (.inl k)⟩
     ·exact .inl rfl
  ·unfold YH;rw [show(d.ZW==1)=false by simp [k],show(d.ZW==5)=false by simp [k],cond_false,cond_false,show(d.ZW==4)=true by simp [k]];cases h:WS (rowOf w d.at_.toNat) d.name with
   | none=>exact .inr ⟨rfl,fun z=>(by omega),.inr (.inr k)⟩
   | some c=>
     simp only [cond_true];cases hu:c.root
     ·exact .inr ⟨rfl,fun z=>(by omega),.inr (.inr k)⟩
     ·exact .inl rfl
  ·left;have:=D.note k;unfold YH;rw [show(d.ZW==1)=false by simp [k],show(d.ZW==5)=true by simp [k],cond_false,cond_true,decide_eq_false (by omega),cond_false]
 rcases e07 with e | ⟨e,e2,e3⟩
 ·right;obtain⟨n1,n2⟩:=ZnW R hf e;cases ho:WA (Ya w d)
  ·right;unfold stepW;rw [e,ho];exact⟨rfl,rfl,rfl,rfl⟩
  ·left;have h3:(stepW w d).2=3:=by unfold stepW;rw [e,ho];rfl
   by_cases hn:(Ya w d).notes.length <=80
   ·rw [ZuI R hf e hG hK hn] at ho;cases ho
   ·refine⟨h3,fun k=>?_,by omega⟩;have:=n2 (.inr k);omega
 ·left;refine⟨?_,e,e2,e3⟩;unfold stepW;rw [e];rfl
structure LV (M:Nat) (K:Nat) (w:Zb) (m:Model):Prop where
 rt:Rt w
 fit:Fits w m
 len:w.cells.length=M
 g:∀ n a,G w n a <=16 * (K:Int)
theorem LV.mono {M K K':Nat} (h:LV M K w m) (hk:K <=K'):LV M K' w m:= ⟨h.rt,h.fit,h.len,fun n a=>by have:=h.g n a;omega⟩
theorem LV.step (hF:1000 <=F) {M K:Nat} (L:LV M K w m) {d:Zn} (hf:QW d w.cells.length=true) (he:YH w d d.at_.toNat=0) (hv:WA (Ya w d)=false):∃ m',Zqk F m w d=some m'∧LV M (K + 1) (Ya w d) m':=by
 obtain⟨m',e,f⟩:=Zoc hF L.rt L.fit hf he;obtain⟨r,l⟩:=Zpi L.rt hf he hv;exact⟨m',e,⟨r,f,l.trans L.len,fun n a=>by have:=Ztk L.rt hf he n a;have:=L.g n a;omega⟩⟩
theorem Zm8 (hF:1000 <=F) {M:Nat} (z:List Zao) (hz:z.length <=120) (hu:∀ a ∈ z,U8 a):∀ (k i F':Nat) (w:Zb) (m:Model),LV M i w m ->i + k=z.length ->k < F' ->
 ∃ w' m',loop F' (Zdn F z) ((i:Int),m.uses,m.ways,w.cells,w.notes,w.names,w.freed)=some (w',m',true)∧LV M z.length w' m':=by
 intro k
 induction k with
 | zero=>
   intro i F' w m L hi hF';obtain⟨F',rfl⟩:=Nat.exists_eq_succ_of_ne_zero (n:=F') (by omega);rw [Yx];simp only [Zdn];rw [decide_eq_false (by omega),cond_false];exact⟨w,m,rfl,L.mono (by omega)⟩
 | succ k ih=>
   intro i F' w m L hi hF';obtain⟨F',rfl⟩:=Nat.exists_eq_succ_of_ne_zero (n:=F') (by omega);have hlt:i < z.length:=by omega
   have hua:=hu z[i] (List.getElem_mem hlt);have R:=L.rt;have:=R.c1;have:=R.c6;have:=R.n0;have:=R.n12;have ZFm:=R.nts;obtain⟨hus,hws⟩:=L.fit.small R;rw [Yx];simp only [Zdn];rw [decide_eq_true (by omega),cond_true,ZY,List.getElem?_eq_getElem hlt,Option.bind_some];obtain⟨d,b,e1,e2⟩:=Zwe hua (M:=w.cells.length) (nm:=w.names) (nt:=w.notes.length) ⟨by omega,by omega⟩ ⟨by omega,by omega⟩ ⟨by omega,by omega⟩;rw [e1,Option.bind_some]
   have skip:∃ w' m',Zbg (i:Int) (loop F' (Zdn F z)) (m.uses,m.ways,w.cells,w.notes,w.names,w.freed)=some (w',m',true)∧LV M z.length w' m':=by
    unfold Zbg;rw [XD (by omega)];exact ih (i + 1) F' w m (L.mono (by omega)) (by omega) (by omega)
   cases b
   ·simp only [Bool.not_false,cond_true];exact skip
   ·have D:=e2 rfl;have hfd:=D.form;simp only [Bool.not_true,cond_false];have ew:(⟨w.cells,w.notes,w.names,w.freed⟩:Zb)=w:=rfl;have em:(⟨m.uses,m.ways⟩:Model)=m:=rfl;rw [ew,Zwb hF R.small,Option.bind_some,Zwa R hfd];rcases ZpE R rfl rfl rfl D L.g (by omega) with⟨s1,s2,s3,s4⟩ | ⟨s1,s2,s3⟩ | ⟨s1,s2,s3,s4⟩
    ·rw [s1];rw [show((7:Int)==7)=true from rfl,cond_true];by_cases k4:d.ZW=4
     ·rw [show(d.ZW !=4)=false by simp [k4]];simp only [Bool.false_and,ZlM,Option.bind_some,cond_false];exact skip
     ·have hk:d.ZW=2∨d.ZW=3:=by omega
      have hni:¬ (⟨d.at_,d.name⟩:YM) ∈ m.uses:=fun z=>s3 hk ((L.fit.mem _).1 z)
      have hb:((d.ZW !=2) && (d.ZW !=3))=false:=by rcases hk with h | h <;> simp [h]
      rw [show(d.ZW !=4)=true by simp [k4],hb];simp only [Bool.not_false,Bool.and_true,Zgn];rw [Zae hF (by omega),decide_eq_false hni];simp only [Option.bind_some,Bool.or_self,Bool.and_false,cond_false];exact skip
    ·rw [s1];rw [show((3:Int)==7)=false from rfl,cond_false,show((3:Int)==3)=true from rfl,show(d.ZW !=5)=true by simp [s2],show((w.notes.length:Int)==80)=true by simp;omega];simp only [Bool.and_self,cond_true];exact skip
    ·rw [s1,s2];rw [show((0:Int)==7)=false from rfl,cond_false,show((0:Int)==3)=false from rfl];simp only [Bool.false_and,cond_false];obtain⟨m',q1,q2⟩:=L.step hF (by exact hfd) s3 s4;rw [show((0:Int) !=0)=false from rfl,show(((Ya w d).cells.length:Int) != (w.cells.length:Int))=false by rw [q2.len,L.len];simp];simp only [Bool.or_self,cond_false];rw [em,q1,Option.bind_some,ZvM hF q2.rt q2.fit,Option.bind_some];simp only [Bool.not_true,cond_false];unfold Zbg;rw [XD (by omega)];exact ih (i + 1) F' _ m' q2 (by omega) (by omega)
theorem ZvN (p:Int) (n a:Int):G (Jy p) n a=0:=by
 unfold G J4
 have h1:YU (Jy p) n a=none:=by
  unfold YU;split
  ·rw [YW]
   have:rowOf (Jy p) a.toNat= []:=by
    unfold rowOf Jy;rw [List.getElem?_replicate];split <;> rfl
   rw [this];rfl
  ·rfl
 rw [h1];rfl
theorem ZnG (p:Int):Fits (Jy p) ⟨[],[]⟩:=by
 refine⟨fun s=>⟨fun z=>(by cases z),fun z=>?_⟩,List.nodup_nil,rfl⟩;exfalso;obtain⟨c,h,_⟩:=z;obtain⟨h1,h2⟩:=X6 h;rw [YW] at h2
 have:rowOf (Jy p) s.at_.toNat= []:=by
  unfold rowOf Jy;rw [List.getElem?_replicate];split <;> rfl
 rw [this] at h2;cases h2
theorem Zr1 (hF:1000 <=F) {p:Int} (h0:0 <=p) (h1:p <=255) {l:List Zao} (hl:∀ a ∈ l,U8 a):∃ w m,Zql F p l=some (w,m,true)∧LV (1 + p % 6).toNat 120 w m:=by
 rw [Zlx hF h0 h1,show slL l 0 (if 120 < (l.length:Int) then 120 else(l.length:Int))=some (l.take 120) from Zuo l 120,Option.bind_some];obtain⟨R0,hlen⟩:=ZlR h0;have hl2:(l.take 120).length <=120:=by rw [List.length_take];omega
 obtain⟨w,m,e,L⟩:=Zm8 hF (l.take 120) hl2 (fun a h=>hl a (List.mem_of_mem_take h)) (l.take 120).length 0 F (Jy p) ⟨[],[]⟩ ⟨R0,ZnG p,hlen,fun n a=>by rw [ZvN];omega⟩ (by omega) (by omega);exact⟨w,m,e,L.mono hl2⟩
theorem Ziw (p:Int) (l:List Zao) (hp:0 <=p∧p <=255) (hl:∀ a ∈ l,U8 a):f7L 1000 p l=some true:=by
 have hF:1000 <=1000:=Nat.le_refl _;obtain⟨w,m,e,L⟩:=Zr1 hF hp.1 hp.2 hl;unfold f7L;rw [e,Option.bind_some];simp only [Bool.not_true,cond_false];have hfl:=L.rt.small.freed;refine Kh (l:=w.freed) hfl hF _ (fun k y next hy=>?_) (fun next=>?_)
 ·have hk:= (List.getElem?_eq_some_iff.1 hy).1;have hr:=L.rt.frr y (List.mem_of_getElem? hy);simp only [Zo0,ZY,hy,Option.bind_some];rw [decide_eq_true (by omega),cond_true,decide_eq_false (by omega),decide_eq_false (by omega)]
  rfl
 ·simp only [Zo0];rw [decide_eq_false (by omega),cond_false]
  have:m.ways.length <=w.notes.length:=by
   rw [L.fit.ways];unfold gives;rw [List.length_map];exact List.length_filter_le _ _
  rw [decide_eq_true (by omega)];simp [gd,ZzI]
end
end Go.Proofs.Ytekpjgmhkkjhgaa
end
