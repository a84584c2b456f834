/- Part 14. -/
import Derived.Test.YtcnahmgekicbdaaGreatRa13
set_option linter.all false
set_option maxHeartbeats 2000000
section
namespace Go.Proofs.YtcnahmgekicbdaaGreat
open Go.Lf
section
def Pl (w:Zc) (p:Int):Prop:=∃ k:Nat,p= (k:Int)∧k < w.Zf.length
structure Told (w:Zc) (e:Zd):Prop where
 pl:Pl w e.kV
 n0:0 <=e.n
 dd:((e.kZ=1∨e.kZ=2)∧Pl w e.kX)∨((e.kZ=3∨e.kZ=4)∧Pl w e.kX∧e.n=0)∨((e.kZ=5∨e.kZ=6)∧e.kX=0∧e.n=0)
theorem Zp2 {w:Zc} {p:Int} (h:Pl w p):(decide (p >=0) && decide (p < (w.Zf.length:Int)))=true:= (ZcO w p).2 h
theorem Zp3 {w:Zc} {p:Int} (h:¬ Pl w p):(decide (p >=0) && decide (p < (w.Zf.length:Int)))=false:=Bool.eq_false_iff.2 fun z=>h ((ZcO w p).1 z)
theorem seven (d:Int):d=1∨d=2∨d=3∨d=4∨d=5∨d=6∨(d ≠ 1∧d ≠ 2∧d ≠ 3∧d ≠ 4∧d ≠ 5∧d ≠ 6):=by omega
theorem Zag {a b:Int} (h:a ≠ b):(a==b)=false:=by rw [YP,decide_eq_false h]
section
variable {F:Nat} {w:Zc} {d p o n:Int}
theorem Zlt (h:d=1∨d=2) (hp:Pl w p) (hn:0 <=n):Told w ⟨d,p,o,n⟩↔Pl w o:=
 ⟨fun z=>by have:=z.dd;dsimp only at this;rcases this with q | q | q;exact q.2;all_goals (rcases q.1 with q | q <;> omega),fun z=>⟨hp,hn,.inl ⟨h,z⟩⟩⟩
theorem Zls (h:d=3∨d=4) (hp:Pl w p) (hn:0 <=n):Told w ⟨d,p,o,n⟩↔Pl w o∧n=0:=
 ⟨fun z=>by have:=z.dd;dsimp only at this;rcases this with q | q | q;omega;exact q.2;omega,fun z=>⟨hp,hn,.inr (.inl ⟨h,z⟩)⟩⟩
theorem Zlr (h:d=5∨d=6) (hp:Pl w p) (hn:0 <=n):Told w ⟨d,p,o,n⟩↔o=0∧n=0:=
 ⟨fun z=>by have:=z.dd;dsimp only at this;rcases this with q | q | q;omega;omega;exact q.2,fun z=>⟨hp,hn,.inr (.inr ⟨h,z⟩)⟩⟩
theorem Zlq (h:d ≠ 1∧d ≠ 2∧d ≠ 3∧d ≠ 4∧d ≠ 5∧d ≠ 6):¬ Told w ⟨d,p,o,n⟩:=fun z=>by
 have:=z.dd;dsimp only at this;omega
theorem ZDQ (w:Zc) (o:Int):some (decide (o >=0) && decide (o < (w.Zf.length:Int)))=ifc (Pl w o) (some true) (some false):=by
 by_cases h:Pl w o
 ·rw [Zp2 h,ZR h]
 ·rw [Zp3 h,ZG h]
theorem Uh {α:Type} {a b:Prop} (h:a↔b) (x y:α):ifc a x y=ifc b x y:=by rw [propext h]
theorem Ztw (w:Zc) (e:Zd):ZqX w e=ifc (Told w e) (some true) (some false):=by
 obtain⟨d,p,o,n⟩:=e;by_cases hp:Pl w p
 ·by_cases hn:n < 0
  ·rw [ZG fun z=>by have:=z.n0;dsimp only at this;omega];unfold ZqX Zcn;simp only [Bq0];rw [decide_eq_true hn,Bool.or_true,Cq1]
  have hn0:0 <=n:=by omega
  unfold ZqX ZiZ ZiY ZiX Zcn;simp only [Bq0];rw [Zp2 hp,decide_eq_false hn];simp only [Bool.not_true,Bool.or_false,Cq0];rcases seven d with rfl | rfl | rfl | rfl | rfl | rfl | h
  ·rw [Uh (Zlt (.inl rfl) hp hn0)];exact ZDQ w o
  ·rw [Uh (Zlt (.inr rfl) hp hn0)];exact ZDQ w o
  ·rw [Uh (Zls (.inl rfl) hp hn0)];show some ((decide (o >=0) && decide (o < (w.Zf.length:Int))) && (n==0))=_;by_cases h:Pl w o
   ·rw [Zp2 h,Bool.true_and,YP];by_cases h2:n=0
    ·rw [ZR ⟨h,h2⟩,decide_eq_true h2]
    ·rw [ZG fun z=>h2 z.2,decide_eq_false h2]
   ·rw [Zp3 h,ZG fun z=>h z.1];rfl
  ·rw [Uh (Zls (.inr rfl) hp hn0)];show some ((decide (o >=0) && decide (o < (w.Zf.length:Int))) && (n==0))=_;by_cases h:Pl w o
   ·rw [Zp2 h,Bool.true_and,YP];by_cases h2:n=0
    ·rw [ZR ⟨h,h2⟩,decide_eq_true h2]
    ·rw [ZG fun z=>h2 z.2,decide_eq_false h2]
   ·rw [Zp3 h,ZG fun z=>h z.1];rfl
  ·rw [Uh (Zlr (.inl rfl) hp hn0)];show some ((o==0) && (n==0))=_;rw [YP,YP,← Bool.decide_and];by_cases h:o=0∧n=0
   ·rw [ZR h,decide_eq_true h]
   ·rw [ZG h,decide_eq_false h]
  ·rw [Uh (Zlr (.inr rfl) hp hn0)];show some ((o==0) && (n==0))=_;rw [YP,YP,← Bool.decide_and];by_cases h:o=0∧n=0
   ·rw [ZR h,decide_eq_true h]
   ·rw [ZG h,decide_eq_false h]
  ·rw [ZG (Zlq h)];obtain⟨h1,h2,h3,h4,h5,h6⟩:=h;rw [Zag h1,Zag h2,Zag h3,Zag h4,Zag h5,Zag h6];rfl
 ·rw [ZG fun z=>hp z.pl];unfold ZqX Zcn;simp only [Bq0];rw [Zp3 hp];rfl
theorem Zv1 {l:List Zd} {k:Nat} (hk:k < l.length) (h2:l.length <=1000000) (next:Int ->Option Bool):Zi8 w l (k:Int) next=ifc (Told w (l.getD k default)) (next ((k + 1:Nat):Int)) (some false):=by
 unfold Zi8;rw [Yf hk,Cq1,Xe default hk];simp only [Bq0];obtain⟨d,p,o,n⟩:=l.getD k default;unfold ZgV;simp only [Bq0];by_cases hp:Pl w p
 ·by_cases hn:n < 0
  ·rw [ZG fun z=>by have:=z.n0;dsimp only at this;omega];rw [decide_eq_true hn,Bool.or_true,Cq1]
  have hn0:0 <=n:=by omega
  unfold Zi7 Zi6 Zi5 ZfZ ZgV;simp only [Bq0];rw [Zp2 hp,decide_eq_false hn,Xp (by omega)];simp only [Bool.not_true,Bool.or_false,Cq0]
  have g12:(bif(!(decide (o >=0) && decide (o < (w.Zf.length:Int)))) then some false else next ((k + 1:Nat):Int))=ifc (Pl w o) (next ((k + 1:Nat):Int)) (some false):=by
   by_cases h:Pl w o
   ·rw [Zp2 h,ZR h];rfl
   ·rw [Zp3 h,ZG h];rfl
  have g34:(bif((!(decide (o >=0) && decide (o < (w.Zf.length:Int)))) || (n !=0)) then some false else next ((k + 1:Nat):Int))=ifc (Pl w o∧n=0) (next ((k + 1:Nat):Int)) (some false):=by
   by_cases h:Pl w o
   ·rw [Zp2 h,Ko];by_cases h2:n=0
    ·rw [ZR ⟨h,h2⟩,decide_eq_false (fun z=>z h2)];rfl
    ·rw [ZG fun z=>h2 z.2,decide_eq_true h2];rfl
   ·rw [Zp3 h,ZG fun z=>h z.1];rfl
  have g56:(bif((o !=0) || (n !=0)) then some false else next ((k + 1:Nat):Int))=ifc (o=0∧n=0) (next ((k + 1:Nat):Int)) (some false):=by
   rw [Ko,Ko];by_cases h:o=0
   ·by_cases h2:n=0
    ·rw [ZR ⟨h,h2⟩,decide_eq_false (fun z=>z h),decide_eq_false (fun z=>z h2)];rfl
    ·rw [ZG fun z=>h2 z.2,decide_eq_true h2,Bool.or_true];rfl
   ·rw [ZG fun z=>h z.1,decide_eq_true h];rfl
  rcases seven d with rfl | rfl | rfl | rfl | rfl | rfl | h
  ·rw [Uh (Zlt (.inl rfl) hp hn0)];exact g12
  ·rw [Uh (Zlt (.inr rfl) hp hn0)];exact g12
  ·rw [Uh (Zls (.inl rfl) hp hn0)];exact g34
  ·rw [Uh (Zls (.inr rfl) hp hn0)];exact g34
  ·rw [Uh (Zlr (.inl rfl) hp hn0)];exact g56
  ·rw [Uh (Zlr (.inr rfl) hp hn0)];exact g56
  ·rw [ZG (Zlq h)];obtain⟨h1,h2,h3,h4,h5,h6⟩:=h;rw [Zag h1,Zag h2,Zag h3,Zag h4,Zag h5,Zag h6];rfl
 ·rw [ZG fun z=>hp z.pl];rw [Zp3 hp];rfl
def All (w:Zc) (l:List Zd):Prop:=∀ k,k < l.length ->Told w (l.getD k default)
theorem Zq3 (hF:100000 <=F) {l:List Zd} (hl:l.length <=450):Zut F w l=ifc (All w l) (some (decide ((l.length:Int) <=400))) (some false):=by
 unfold Zut All
 exact Wp (fun k=>(k:Int)) rfl (fun k=>Told w (l.getD k default)) (n:=l.length) (F:=F) (by omega) (fun k hk next=>Zv1 hk (by omega) next) (fun next=>by
  unfold Zi8;rw [YB,Cq0])
theorem Zht {l:List Zd} {k:Nat} (h:k < l.length) (f:Zd ->Bool):((l.take (k + 1)).countP f:Nat)= (l.take k).countP f + (if f (l.getD k default)=true then 1 else 0):=by
 rw [List.take_succ_eq_append_getElem h,List.countP_append,Zch h];congr 1;rw [List.countP_cons,List.countP_nil,Nat.zero_add]
theorem ZeB (hF:100000 <=F) {l:List Zd} (hl:l.length <=450) (e:Zd):ZdE F (QG.mk w l) e=some ((l.countP (Qy e):Nat):Int):=by
 unfold ZdE;refine YZ (fun k=>((((l.take k).countP (Qy e):Nat):Int),(k:Int))) rfl (n:=l.length) (by omega) (fun k hk next=>?_) (fun next=>?_)
 ·have hc:=List.countP_le_length (p:=Qy e) (l:=l.take k);rw [List.length_take] at hc;unfold Zhk;dsimp only;rw [Yf hk,Cq1,Xe default hk,Zht hk];simp only [Bq0];unfold ZeO;cases h:Qy e (l.getD k default) with
  | true=>rw [Cq1,if_pos rfl,Xp (by omega),Xp (by omega)]
  | false=>rw [Cq0,if_neg (by decide),Xp (by omega)];rfl
 ·unfold Zhk;dsimp only;rw [YB,Cq0,List.take_length]
def c3 (l:List Zd) (d p o:Int):Nat:=l.countP fun x=>((x.kZ==d) && (x.kV==p)) && (x.kX==o)
theorem KZ (hF:100000 <=F) {l:List Zd} (hl:l.length <=450) (d p o:Int):Zco F l d p o=some ((c3 l d p o:Nat):Int):=by
 unfold Zco c3;refine YZ (fun k=>((((l.take k).countP (fun x=>((x.kZ==d) && (x.kV==p)) && (x.kX==o)):Nat):Int),(k:Int))) rfl (n:=l.length) (by omega) (fun k hk next=>?_) (fun next=>?_)
 ·have hc:=List.countP_le_length (p:=fun x:Zd=>((x.kZ==d) && (x.kV==p)) && (x.kX==o)) (l:=l.take k);rw [List.length_take] at hc;unfold ZmA;dsimp only;rw [Yf hk,Cq1,Xe default hk,Zht hk];simp only [Bq0];unfold Zi3;cases h:((((l.getD k default).kZ==d) && ((l.getD k default).kV==p)) && ((l.getD k default).kX==o)) with
  | true=>rw [Cq1,if_pos rfl,Xp (by omega),Xp (by omega)]
  | false=>rw [Cq0,if_neg (by decide),Xp (by omega)];rfl
 ·unfold ZmA;dsimp only;rw [YB,Cq0,List.take_length]
theorem Zgx (hF:100000 <=F) {l:List Zd} (hl:l.length <=450) (d n:Int):Zjd F (QG.mk w l) d n=some (l.any fun x=>(x.kZ==d) && (x.n==n)):=by
 unfold Zjd
 rw [show(0:Int)= ((0:Nat):Int) from rfl,ZaG (fun k=>(k:Int)) (fun k=>(fun x:Zd=>(x.kZ==d) && (x.n==n)) (l.getD k default)) (r1:=some true) (r2:=some false) (n:=l.length) (by omega) (fun k hk next=>by
  unfold Zhj Zc0;dsimp only;rw [Yf hk,Cq1,Xe default hk,Wu];simp only [Bq0];rw [Xp (by omega)]) (fun next=>by
  unfold Zhj Zc0;dsimp only;rw [YB,Cq0];rfl),Ug l (fun x=>(x.kZ==d) && (x.n==n)) default]
 cases l.any (fun x=>(x.kZ==d) && (x.n==n)) <;> rfl
theorem Zs8 {l:List Zd} (ht:All w l) {d p o:Int} (hd:d=3∨d=4∨d=5∨d=6):l.countP (Qy ⟨d,p,o,0⟩)=c3 l d p o:=by
 unfold c3;refine List.countP_congr fun x hx=>?_
 obtain⟨k,hk,rfl⟩:=List.getElem_of_mem hx;have h:=ht k hk;rw [Zch hk] at h;generalize l[k]=x at *;have h2:=h.dd;unfold Qy;simp only [List.all_cons,List.all_nil,id,Bool.and_true,Ba0,beq_iff_eq]
 constructor
 ·rintro⟨a,b,c,_⟩;exact⟨⟨a.symm,b.symm⟩,c.symm⟩
 ·rintro⟨⟨a,b⟩,c⟩;exact⟨a.symm,b.symm,c.symm,by rcases h2 with q | q | q;omega;exact q.2.2.symm;exact q.2.2.symm⟩
end
end
section
def k1 (l:List Zd) (e:Zd):Nat:=l.countP fun x=>((x.kZ==1) && (x.n==e.n)) && ((e.kZ==1) || ((x.kV==e.kX) && (x.kX==e.kV)))
def k2 (l:List Zd) (e:Zd):Nat:=l.countP fun x=>(x.kZ==2) && (x.n==e.n)
def Zcc (w:Zc) (l:List Zd) (p:Int):Bool:= (List.range w.Zf.length).any fun q:Nat=>(inn w (q:Int)==p) && decide (c3 l 6 (q:Int) 0=0)
def atW (w:Zc) (p:Int):Int:= (w.Zf.getD p.toNat default).at_
def ZgR (w:Zc) (l:List Zd) (e:Zd):Bool:=l.any fun x=>((x.kZ==4) && (atW w x.kV==atW w e.kV)) && Zfk w x.kX.toNat e.kX.toNat
def QC (w:Zc) (l:List Zd) (e:Zd):Int:=
 bif(e.kZ !=6) && decide (c3 l 5 e.kV 0 > 0) then 1
 else bif e.kZ==1 then(bif decide (k1 l e > 0) then 2 else 0)
 else bif e.kZ==2 then(bif decide (k1 l e=0) || decide (k2 l e > 0) then 2 else bif ZgR w l e then 5 else 0)
 else bif e.kZ==6 then(bif(decide (c3 l 5 e.kV 0=0) || decide (c3 l 6 e.kV 0 > 0)) || Zcc w l e.kV then 3 else 0)
 else bif e.kZ==4 then(bif decide (c3 l 6 e.kX 0=0) || decide (c3 l 4 e.kV e.kX >=c3 l 3 e.kV e.kX) then 4 else 0)
 else 0
def Zv2 (F:Nat) (p0:Zc) (p1:List Zd) (p2:Zd) (v11 v13:Int):Option Int:=
 (bif(p2.kZ==1) then(bif decide (v11 > 0) then some 2 else(WV) ()) else(bif(p2.kZ==2) then(bif((v11==0) || (decide (v13 > 0))) then some 2 else loop F (ZfV F p0 p1 p2) 0) else(bif(p2.kZ==6) then(Zco F p1 5 p2.kV 0).bind fun x74=>(gd (!(x74==0)) (Zco F p1 6 p2.kV 0) default).bind fun x75=>(bif((x74==0) || (decide (x75 > 0))) then some 3 else(Zul F p0 p2.kV).bind fun x76=>loop F (ZfU F p1 x76) 0) else(bif(p2.kZ==4) then(Zco F p1 6 p2.kX 0).bind fun x94=>(gd (!(x94==0)) (Zco F p1 4 p2.kV p2.kX) default).bind fun x95=>(gd (!(x94==0)) (Zco F p1 3 p2.kV p2.kX) default).bind fun x96=>(bif((x94==0) || (decide (x95 >=x96))) then some 4 else(WV) ()) else(WV) ()))))
theorem ZfJ (a:Nat):decide ((a:Int) > 0)=decide (a > 0):=by
 by_cases h:a > 0
 ·rw [decide_eq_true h,decide_eq_true (by omega)]
 ·rw [decide_eq_false h,decide_eq_false (by omega)]
theorem Zjh (a:Nat):((a:Int)==0)=decide (a=0):=by
 rw [YP];by_cases h:a=0
 ·rw [decide_eq_true h,decide_eq_true (by omega)]
 ·rw [decide_eq_false h,decide_eq_false (by omega)]
theorem ZyY (a b:Nat):decide ((a:Int) >= (b:Int))=decide (a >=b):=by
 by_cases h:a >=b
 ·rw [decide_eq_true h,decide_eq_true (by omega)]
 ·rw [decide_eq_false h,decide_eq_false (by omega)]
theorem Zjy {α:Type} (l:List α) (f:α ->Bool):l.any f=decide (l.countP f > 0):=by
 rw [Bool.eq_iff_iff,decide_eq_true_eq,List.any_eq_true];exact(List.countP_pos_iff (p:=f) (l:=l)).symm
section
variable {F:Nat} {w:Zc}
theorem Told.Zg8 {e:Zd} (h:Told w e):ZO w.Zf e.kV=some (spt w e.kV.toNat)∧(spt w e.kV.toNat).at_=atW w e.kV:=by
 obtain⟨k,e1,hk⟩:=h.pl;rw [e1,Xg hk];exact⟨by rw [Int.toNat_natCast],rfl⟩
theorem ZxD (hF:100000 <=F) (h8:w.Zf.length <=8) (p:Int):Zul F w p=some (((List.range w.Zf.length).filter fun q:Nat=>inn w (q:Int)==p).map Int.ofNat):=by
 unfold Zul;refine YZ (fun k=>(((List.range k).filter fun q:Nat=>inn w (q:Int)==p).map Int.ofNat,(k:Int))) rfl (n:=w.Zf.length) (by omega) (fun k hk next=>?_) (fun next=>?_)
 ·have hl:=List.length_filter_le (fun q:Nat=>inn w (q:Int)==p) (List.range k);rw [List.length_range] at hl;unfold Zmn ZiP;dsimp only;rw [Yf hk,Cq1,Xg hk];simp only [Bq0];rw [Qu,List.range_succ,List.filter_append,List.map_append,Xp (by omega),List.filter_cons,List.filter_nil];cases h:(inn w (k:Int)==p) with
  | true=>
    rw [Cq1,if_pos rfl,Zru (by rw [List.length_map,List.length_singleton];omega)];rfl
  | false=>rw [Cq0,if_neg (by decide),List.map_nil,List.append_nil]
 ·unfold Zmn;dsimp only;rw [YB,Cq0]
theorem Zt2 (hF:100000 <=F) {l:List Zd} (hl:l.length <=450) {x76:List Int} (hx:x76.length <=8):loop F (ZfU F l x76) 0=bif x76.any (fun q=>decide (c3 l 6 q 0=0)) then some 3 else some 0:=by
 rw [show(0:Int)= ((0:Nat):Int) from rfl,ZaG (fun k=>(k:Int)) (fun k=>(fun q=>decide (c3 l 6 q ((0:Nat):Int)=0)) (x76.getD k 0)) (r1:=some 3) (r2:=some 0) (n:=x76.length) (by omega) (fun k hk next=>by
  unfold ZfU;rw [Yf hk,Cq1,Xe 0 hk];simp only [Bq0];rw [KZ hF hl];simp only [Bq0];rw [Zjh,Xp (by omega)];rfl) (fun next=>by
  unfold ZfU WV;rw [YB,Cq0])]
 rw [Ug x76 (fun q=>decide (c3 l 6 q ((0:Nat):Int)=0)) 0]
 rfl
theorem Zwj (hF:100000 <=F) (hS:X7 w) {l:List Zd} (hl:l.length <=450) (ht:All w l) {e:Zd} (he:Told w e) (hd:e.kZ=2):loop F (ZfV F w l e) 0=bif ZgR w l e then some 5 else some 0:=by
 unfold ZgR;obtain⟨a1,a2⟩:=he.Zg8;have ho:Pl w e.kX:=by have:=he.dd;rcases this with q | q | q;exact q.2;exact q.2.1;omega
 obtain⟨o,eo,ho⟩:=ho
 rw [show(0:Int)= ((0:Nat):Int) from rfl,ZaG (fun k=>(k:Int)) (fun k=>(fun x:Zd=>((x.kZ==4) && (atW w x.kV==atW w e.kV)) && Zfk w x.kX.toNat e.kX.toNat) (l.getD k default)) (r1:=some 5) (r2:=some 0) (n:=l.length) (by omega) (fun k hk next=>by
  have hx:=ht k hk;unfold ZfV;rw [Yf hk,Cq1,Xe default hk];simp only [Bq0];generalize l.getD k default=x at hx ⊢;obtain⟨b1,b2⟩:=hx.Zg8;cases h4:(x.kZ==4) with
  | false=>
    simp only [UR,Bool.false_and,Bq0,Cq0];rw [Xp (by omega)]
  | true=>
    have h4':x.kZ=4:=by simpa using h4
    have hxo:Pl w x.kX:=by have:=hx.dd;rcases this with q | q | q;omega;exact q.2.1;omega
    obtain⟨y,ey,hy⟩:=hxo;rw [XV,b1,XV,a1];simp only [Bq0,Bool.true_and];rw [b2,a2];cases h5:(atW w x.kV==atW w e.kV) with
    | false=>
      simp only [UR,Bool.false_and,Bq0,Cq0];rw [Xp (by omega)]
    | true=>
      rw [XV,eo,ey,lies (by omega) hS ho y];simp only [Bq0,Bool.true_and,Int.toNat_natCast];rw [Xp (by omega)]) (fun next=>by
  unfold ZfV WV;rw [YB,Cq0])]
 rw [Ug l (fun x:Zd=>((x.kZ==4) && (atW w x.kV==atW w e.kV)) && Zfk w x.kX.toNat e.kX.toNat) default]
 rfl
theorem Zuy (hF:100000 <=F) {l:List Zd} (hl:l.length <=450) (e:Zd):loop F (Zd2 F w l e) (0,0,0)=Zv2 F w l e ((k1 l e:Nat):Int) ((k2 l e:Nat):Int):=by
 refine YZ (fun k=>(((k1 (l.take k) e:Nat):Int),((k2 (l.take k) e:Nat):Int),(k:Int))) rfl (n:=l.length) (by omega) (fun k hk next=>?_) (fun next=>?_)
 ·have c1:k1 (l.take k) e <= (l.take k).length:=List.countP_le_length;have c2:k2 (l.take k) e <= (l.take k).length:=List.countP_le_length;rw [List.length_take] at c1 c2;have s1:=Zht hk (fun x=>((x.kZ==1) && (x.n==e.n)) && ((e.kZ==1) || ((x.kV==e.kX) && (x.kX==e.kV))));have s2:=Zht hk (fun x=>(x.kZ==2) && (x.n==e.n))
  change k1 (l.take (k + 1)) e=k1 (l.take k) e + _ at s1
  change k2 (l.take (k + 1)) e=k2 (l.take k) e + _ at s2
  unfold Zd2 ZiV ZiW;dsimp only;rw [Yf hk,Cq1,Xe default hk,s1,s2];simp only [Bq0];generalize l.getD k default=x;rw [Xp (show k < _ by omega),Xp (show k1 (l.take k) e < _ by omega),Xp (show k2 (l.take k) e < _ by omega)];cases h1:(((x.kZ==1) && (x.n==e.n)) && ((e.kZ==1) || ((x.kV==e.kX) && (x.kX==e.kV)))) <;> cases h2:((x.kZ==2) && (x.n==e.n)) <;> rfl
 ·unfold Zd2;dsimp only;rw [YB,Cq0,List.take_length]
  rfl
theorem ZnI (hF:100000 <=F) (hS:X7 w) {l:List Zd} (hl:l.length <=450) (ht:All w l) {e:Zd} (he:Told w e):Zup F w l e=some (QC w l e):=by
 have h8:=hS.p2;unfold Zup QC;rw [KZ hF hl]
 have hg:∀ b:Bool,(gd b (some ((c3 l 5 e.kV 0:Nat):Int)) default).bind (fun x5=>(bif(b && (decide (x5 > 0))) then some 1 else loop F (Zd2 F w l e) (0,0,0)))=bif b && decide (c3 l 5 e.kV 0 > 0) then some 1 else loop F (Zd2 F w l e) (0,0,0):=fun b=>by
  cases b with
  | false=>rfl
  | true=>
    rw [XV];simp only [Bq0];rw [ZfJ]
 rw [hg,Zuy hF hl];cases h0:(e.kZ !=6) && decide (c3 l 5 e.kV 0 > 0) with
 | true=>rfl
 | false=>
   simp only [Cq0];unfold Zv2;cases d1:(e.kZ==1) with
   | true=>
     simp only [Cq1];rw [ZfJ];cases decide (k1 l e > 0) <;> rfl
   | false=>
     simp only [Cq0];cases d2:(e.kZ==2) with
     | true=>
       simp only [Cq1];rw [ZfJ,Zjh,Zwj hF hS hl ht he (by simpa using d2)];cases (decide (k1 l e=0) || decide (k2 l e > 0)) <;> cases ZgR w l e <;> rfl
     | false=>
       simp only [Cq0];cases d6:(e.kZ==6) with
       | true=>
         simp only [Cq1];rw [KZ hF hl,KZ hF hl,ZxD hF h8];simp only [Bq0]
         rw [Zjh,Zt2 hF hl (by
          rw [List.length_map];have:=List.length_filter_le (fun q:Nat=>inn w (q:Int)==e.kV) (List.range w.Zf.length);rw [List.length_range] at this;omega),List.any_map,List.any_filter]
         have hk:(List.range w.Zf.length).any (fun x=>(inn w (x:Int)==e.kV) && ((fun q=>decide (c3 l 6 q 0=0)) ∘ Int.ofNat) x)=Zcc w l e.kV:=rfl;rw [hk];cases h5:decide (c3 l 5 e.kV 0=0) with
         | true=>rfl
         | false=>
           rw [Bool.not_false,XV];simp only [Bq0,Bool.false_or];rw [ZfJ];cases decide (c3 l 6 e.kV 0 > 0) <;> cases Zcc w l e.kV <;> rfl
       | false=>
         simp only [Cq0];cases d4:(e.kZ==4) with
         | true=>
           simp only [Cq1];rw [KZ hF hl,KZ hF hl,KZ hF hl];simp only [Bq0];rw [Zjh];cases h5:decide (c3 l 6 e.kX 0=0) with
           | true=>rfl
           | false=>
             rw [Bool.not_false,XV,XV];simp only [Bq0,Bool.false_or];rw [ZyY];cases decide (c3 l 4 e.kV e.kX >=c3 l 3 e.kV e.kX) <;> rfl
         | false=>rfl
end
end
section
section
variable {F:Nat} {w:Zc}
theorem ZsV (hF:100000 <=F) {l:List Zd} (hl:l.length <=450) (ht:All w l) (p:Int):Zum F ⟨w,l⟩ p=some (decide (c3 l 5 p 0 > 0)):=by
 unfold Zum;rw [ZeB hF hl,Zs8 ht (by omega)];simp only [Bq0];rw [ZfJ]
theorem ZmS (hF:100000 <=F) {l:List Zd} (hl:l.length <=450) (ht:All w l) (p:Int):ZgF F ⟨w,l⟩ p=some (decide (c3 l 6 p 0 > 0)):=by
 unfold ZgF;rw [ZeB hF hl,Zs8 ht (by omega)];simp only [Bq0];rw [ZfJ]
theorem Zp4 (a:Nat):(!decide (a > 0))=decide (a=0):=by
 cases a with
 | zero=>rfl
 | succ a=>rfl
theorem ZBf (hF:100000 <=F) {l:List Zd} (hl:l.length <=450) (ht:All w l) {e:Zd}:Zzl F ⟨w,l⟩ e=some (bif e.kZ==1 then decide (k1 l e > 0) else bif e.kZ==2 then decide (k1 l e=0) || decide (k2 l e > 0) else false):=by
 unfold Zzl;cases d1:(e.kZ==1) with
 | true=>
   simp only [Cq1];rw [Zgx hF hl];simp only [Bq0];rw [Zjy]
   have:l.countP (fun x=>(x.kZ==1) && (x.n==e.n))=k1 l e:=by
    unfold k1;rw [d1];exact List.countP_congr fun x _=>by simp
   rw [this]
 | false=>
   simp only [Cq0];cases d2:(e.kZ==2) with
   | true=>
     simp only [Cq1];rw [Zgx hF hl,ZeB hF hl];simp only [Bq0];rw [Zjy,Zjh]
     have:l.countP (Qy ⟨1,e.kX,e.kV,e.n⟩)=k1 l e:=by
      unfold k1;rw [d1];refine List.countP_congr fun x _=>?_
      unfold Qy;simp only [List.all_cons,List.all_nil,id,Bool.and_true,Ba0,beq_iff_eq,Bool.false_or]
      constructor
      ·rintro⟨a,b,c,d⟩;exact⟨⟨a.symm,d.symm⟩,b.symm,c.symm⟩
      ·rintro⟨⟨a,d⟩,b,c⟩;exact⟨a.symm,b.symm,c.symm,d.symm⟩
     rw [this];have:l.countP (fun x=>(x.kZ==2) && (x.n==e.n))=k2 l e:=rfl;rw [this];cases decide (k1 l e=0) with
     | true=>rfl
     | false=>rw [Bool.not_false,XV];rfl
   | false=>rfl
theorem ZCR (hF:100000 <=F) (h8:w.Zf.length <=8) {l:List Zd} (hl:l.length <=450) (ht:All w l) {e:Zd}:Zzk F ⟨w,l⟩ e=some (bif e.kZ !=6 then false else(Zcc w l e.kV || (decide (c3 l 5 e.kV 0=0) || decide (c3 l 6 e.kV 0 > 0)))):=by
 unfold Zzk;cases d6:(e.kZ !=6) with
 | true=>rfl
 | false=>
   simp only [Cq0]
   have e0:Zcl F ⟨w,l⟩ e (false,false)=some (decide (c3 l 5 e.kV 0=0) || decide (c3 l 6 e.kV 0 > 0)):=by
    unfold Zcl;dsimp only;rw [Cq0,ZsV hF hl ht,ZmS hF hl ht];simp only [Bq0];rw [Zp4];cases decide (c3 l 5 e.kV 0=0) with
    | true=>rfl
    | false=>rw [Bool.not_false,XV];rfl
   have e1:loop F (ZiS F ⟨w,l⟩ e) (0,false,false)=bif(List.range w.Zf.length).any (fun q:Nat=>(inn w (q:Int)==e.kV) && decide (c3 l 6 (q:Int) 0=0)) then some true else Zcl F ⟨w,l⟩ e (false,false):=by
    refine ZaG (S:=fun k=>((k:Int),false,false)) (fun q:Nat=>(inn w (q:Int)==e.kV) && decide (c3 l 6 (q:Int) 0=0)) (n:=w.Zf.length) (by omega) (fun k hk next=>?_) (fun next=>?_)
    ·unfold ZiS;dsimp only;rw [Yf hk,Cq1,Xg hk];simp only [Bq0];rw [Qu,Xp (by omega)];cases h:(inn w (k:Int)==e.kV) with
     | false=>rfl
     | true=>
       rw [Cq1,Cq0,ZmS hF hl ht];simp only [Bq0];rw [Zp4];cases decide (c3 l 6 (k:Int) 0=0) <;> rfl
    ·unfold ZiS;dsimp only;rw [YB,Cq0]
   rw [e1,e0];show(bif Zcc w l e.kV then _ else _)=_;cases Zcc w l e.kV <;> rfl
theorem Zym (hF:100000 <=F) {l:List Zd} (hl:l.length <=450) (ht:All w l) {e:Zd} (he:Told w e):Zzj F ⟨w,l⟩ e=some (bif e.kZ !=4 then false else decide (c3 l 6 e.kX 0=0) || decide (c3 l 4 e.kV e.kX >=c3 l 3 e.kV e.kX)):=by
 unfold Zzj;cases d4:(e.kZ !=4) with
 | true=>rfl
 | false=>
   have hd:e.kZ=4:=by simpa using d4
   have hn:e.n=0:=by have:=he.dd;rcases this with q | q | q;omega;exact q.2.2;exact q.2.2
   obtain⟨d,p,o,n⟩:=e;dsimp only at hd hn;subst hd hn;simp only [Cq0];rw [ZmS hF hl ht,ZeB hF hl,ZeB hF hl,Zs8 ht (by omega),Zs8 ht (by omega)];simp only [Bq0];rw [Zp4];cases decide (c3 l 6 o 0=0) with
   | true=>rfl
   | false=>
     rw [Bool.not_false,XV,XV];simp only [Bq0,Bool.false_or];rw [ZyY]
theorem ZFn (hF:100000 <=F) (hS:X7 w) {l:List Zd} {q y:Nat} (hq:q < w.Zf.length) (hne:y ≠ q) {x:Zd} (hx:x.kX= (y:Int)) (v15:Int) (next:Int×Bool ->Option Bool):loop F (ZiQ ⟨w,l⟩ v15 next x) (inn w (q:Int),false,false)=bif Zfk w y q then some true else next (Yy (v15 + 1),false):=by
 have h8:=hS.p2;obtain⟨m,hm,hs,hlt⟩:=UU (c:=fun k=>up w (k + 1) (q:Int) < 0∨up w (k + 1) (q:Int)= (y:Int)) (n:=w.Zf.length) (.inl (Jd (hS.inn.acy q hq) (by omega)));have hj:∀ j,j < m ->¬ up w (j + 1) (q:Int) < 0∧up w (j + 1) (q:Int) ≠ (y:Int):=fun j hj=>⟨fun z=>hlt j hj (.inl z),fun z=>hlt j hj (.inr z)⟩
 refine YZ (fun k=>(up w (k + 1) (q:Int),false,false)) (by show(up w (0 + 1) (q:Int),false,false)=_;rw [up1]) (n:=m) (by omega) (fun k hk nx=>?_) (fun nx=>?_)
 ·obtain⟨h2,h3⟩:=hj k hk;obtain⟨j,e,hj⟩:=Kk (hS.inn.up (q:= (q:Int)) ⟨by omega,by omega⟩ (k + 1)) h2;unfold ZiQ;dsimp only;rw [Jr w (k + 1),if_neg h2,hx];rw [e] at h3 ⊢;rw [Wu,Cq1,Cq0,Zag h3,Cq0,Bool.not_true,Cq0,Xg hj];simp only [Bq0];rw [Qu]
 ·unfold ZiQ ZfN;dsimp only;rcases hs with z | z
  ·rw [decide_eq_false (show ¬ up w (m + 1) (q:Int) >=0 by omega),Cq0,Cq0]
   have:Zfk w y q=false:=Bool.eq_false_iff.2 fun h=>by
    obtain⟨j,ej⟩:= (Zay hS.inn hq).1 h;cases j with
    | zero=>have:(q:Int)= (y:Int):=ej;omega
    | succ j=>
      rcases Nat.lt_or_ge j m with zz | zz
      ·exact(hj j zz).2 ej
      ·have:=Jd z (show m + 1 <=j + 1 by omega);omega
   rw [this];rfl
  ·rw [z,Wu,Cq1,Cq0,hx,beq_self_eq_true,(Zay hS.inn hq).2 ⟨m + 1,z⟩];rfl
theorem ZBe (hF:100000 <=F) (hS:X7 w) {l:List Zd} (hl:l.length <=450) (ht:All w l) {e:Zd} (he:Told w e):Zzi F ⟨w,l⟩ e=some (bif e.kZ !=2 then false else ZgR w l e):=by
 unfold Zzi;cases d2:(e.kZ !=2) with
 | true=>rfl
 | false=>
   have hd:e.kZ=2:=by simpa using d2
   simp only [Cq0];obtain⟨a1,a2⟩:=he.Zg8;have ho:Pl w e.kX:=by have:=he.dd;rcases this with q | q | q;exact q.2;exact q.2.1;omega
   obtain⟨o,eo,ho⟩:=ho
   have e1:loop F (ZiR F ⟨w,l⟩ e) (0,false)=bif(List.range l.length).any (fun k=>(fun x:Zd=>((x.kZ==4) && (atW w x.kV==atW w e.kV)) && Zfk w x.kX.toNat e.kX.toNat) (l.getD k default)) then some true else some false:=by
    refine ZaG (S:=fun k=>((k:Int),false)) (fun k=>(fun x:Zd=>((x.kZ==4) && (atW w x.kV==atW w e.kV)) && Zfk w x.kX.toNat e.kX.toNat) (l.getD k default)) (n:=l.length) (by omega) (fun k hk next=>?_) (fun next=>?_)
    ·have hx:=ht k hk;unfold ZiR;dsimp only;rw [Yf hk,Cq1,Xe default hk];simp only [Bq0];generalize l.getD k default=x at hx ⊢;obtain⟨b1,b2⟩:=hx.Zg8;have hne:(x.kZ !=4)= !(x.kZ==4):=rfl;rw [hne];cases h4:(x.kZ==4) with
     | false=>
       simp only [Bool.not_false,Bool.not_true,UR,Bool.true_or,Bool.false_and,Bq0,Cq0,Cq1];rw [Xp (by omega)]
     | true=>
       have h4':x.kZ=4:=by simpa using h4
       have hxo:Pl w x.kX:=by have:=hx.dd;rcases this with q | q | q;omega;exact q.2.1;omega
       obtain⟨y,ey,hy⟩:=hxo;simp only [Bool.not_true,Bool.not_false];rw [XV,b1,XV,a1];simp only [Bq0,Bool.true_and,Bool.false_or];rw [b2,a2];have hne2:(atW w x.kV !=atW w e.kV)= !(atW w x.kV==atW w e.kV):=rfl;rw [hne2];cases h5:(atW w x.kV==atW w e.kV) with
       | false=>
         simp only [Bool.not_false,Cq1,Bool.false_and,Cq0];rw [Xp (by omega)]
       | true=>
         simp only [Bool.not_true,Cq0,Bool.true_and];rw [eo,ey];simp only [Int.toNat_natCast];by_cases hyo:y=o
         ·subst hyo;rw [beq_self_eq_true,Cq1,(Zay hS.inn ho).2 ⟨0,rfl⟩];rfl
         ·rw [Zag (by omega),Cq0,Xg ho];simp only [Bq0];rw [Qu,ZFn hF hS ho hyo ey,Xp (by omega)]
    ·unfold ZiR;dsimp only;rw [YB,Cq0]
   rw [e1,Ug l (fun x:Zd=>((x.kZ==4) && (atW w x.kV==atW w e.kV)) && Zfk w x.kX.toNat e.kX.toNat) default];show(bif ZgR w l e then _ else _)=_;cases ZgR w l e <;> rfl
theorem ZtE (hF:100000 <=F) (hS:X7 w) {l:List Zd} (hl:l.length <=450) (ht:All w l) {e:Zd} (he:Told w e):Zuq F ⟨w,l⟩ e=some (QC w l e):=by
 unfold Zuq QC;rw [ZsV hF hl ht,ZBf hF hl ht,ZCR hF hS.p2 hl ht,Zym hF hl ht he,ZBe hF hS hl ht he];simp only [Bq0];obtain⟨d,p,o,n⟩:=e;dsimp only;rw [Bool.and_comm (decide (c3 l 5 p 0 > 0)) (d !=6)];cases h0:(d !=6) && decide (c3 l 5 p 0 > 0) with
 | true=>rfl
 | false=>
   simp only [Cq0];rw [Bool.or_comm (Zcc w l p)];generalize Zcc w l p=z1;generalize ZgR w l ⟨d,p,o,n⟩=z2;generalize (decide (c3 l 5 p 0=0) || decide (c3 l 6 p 0 > 0))=z3;generalize (decide (c3 l 6 o 0=0) || decide (c3 l 4 p o >=c3 l 3 p o))=z4;generalize decide (k1 l ⟨d,p,o,n⟩ > 0)=z5;generalize (decide (k1 l ⟨d,p,o,n⟩=0) || decide (k2 l ⟨d,p,o,n⟩ > 0))=z6;rcases seven d with rfl | rfl | rfl | rfl | rfl | rfl | h
   ·cases z5 <;> rfl
   ·cases z6 <;> cases z2 <;> rfl
   ·rfl
   ·cases z4 <;> rfl
   ·rfl
   ·cases z3 <;> cases z1 <;> rfl
   ·exact absurd he (Zlq h)
theorem ZnJ (w:Zc) (l:List Zd) (e:Zd):0 <=QC w l e:=by
 unfold QC
 repeat' (first | decide | (rw [Bool.cond_eq_ite];split))
theorem slT {α:Type} {l:List α} {k:Nat} (h:k <=l.length):slL l 0 (k:Int)=some (l.take k):=by
 unfold slL;rw [decide_eq_true (Int.le_refl 0),decide_eq_true (show(0:Int) <= (k:Int) by omega),decide_eq_true (show(k:Int) <= (l.length:Int) by omega)];simp only [Bool.and_self,Cq1,Int.toNat_natCast]
 rfl
theorem All.take {l:List Zd} (h:All w l) (k:Nat):All w (l.take k):=fun j hj=>by
 rw [List.length_take] at hj;have:=h j (by omega)
 rwa [List.getD_eq_getElem?_getD,List.getElem?_take_of_lt (by omega),← List.getD_eq_getElem?_getD]
theorem Zqm (hF:100000 <=F) (hS:X7 w) {l:List Zd} (hl:l.length <=450) (ht:All w l):∃ i r,Zoz F w l=some (i,r)∧loop F (Zcq F w l) (-1,0,0)=some (i,r,0):=by
 have hr:∀ k,k < l.length ->(slL l 0 (k:Int)).bind (fun z=>Zup F w z (l.getD k default))=some (QC w (l.take k) (l.getD k default))∧Zuq F ⟨w,l.take k⟩ (l.getD k default)=some (QC w (l.take k) (l.getD k default)):=fun k hk=>by
  have hlt:(l.take k).length <=450:=by rw [List.length_take];omega
  rw [slT (by omega)];exact⟨ZnI hF hS hlt (ht.take k) (ht k hk),ZtE hF hS hlt (ht.take k) (ht k hk)⟩
 by_cases hz:∃ k,k < l.length∧QC w (l.take k) (l.getD k default) > 0
 ·obtain⟨k0,hk0⟩:=hz;obtain⟨m,_,⟨hm,hc⟩,hlt⟩:=UU (c:=fun k=>k < l.length∧QC w (l.take k) (l.getD k default) > 0) hk0
  have h0:∀ k,k < m ->QC w (l.take k) (l.getD k default)=0:=fun k hk=>by
   have:=ZnJ w (l.take k) (l.getD k default);have h2:¬ QC w (l.take k) (l.getD k default) > 0:=fun z=>hlt k hk ⟨by omega,z⟩
   omega
  refine⟨(m:Int),QC w (l.take m) (l.getD m default),?_,?_⟩
  ·unfold Zoz;refine YZ (fun k=>(k:Int)) rfl (n:=m) (by omega) (fun k hk next=>?_) (fun next=>?_)
   ·obtain⟨e1,_⟩:=hr k (by omega);rw [slT (by omega)] at e1;simp only [Bq0] at e1;unfold Zcp;rw [Yf (by omega),Cq1,Xe default (by omega),slT (by omega)];simp only [Bq0];rw [e1,h0 k hk];simp only [Bq0];rw [Xp (by omega)];rfl
   ·obtain⟨e1,_⟩:=hr m hm;rw [slT (by omega)] at e1;simp only [Bq0] at e1;unfold Zcp;rw [Yf hm,Cq1,Xe default hm,slT (by omega)];simp only [Bq0];rw [e1];simp only [Bq0];rw [decide_eq_true hc];rfl
  ·refine YZ (fun k=>((-1:Int),(0:Int),(k:Int))) rfl (n:=m) (by omega) (fun k hk next=>?_) (fun next=>?_)
   ·obtain⟨_,e2⟩:=hr k (by omega);unfold Zcq;dsimp only;rw [Yf (by omega),Cq1,Xe default (by omega),slT (by omega)];simp only [Bq0];rw [e2,h0 k hk];simp only [Bq0];rw [Xp (by omega)];rfl
   ·obtain⟨_,e2⟩:=hr m hm;unfold Zcq Zf0;dsimp only;rw [Yf hm,Cq1,Xe default hm,slT (by omega)];simp only [Bq0];rw [e2];simp only [Bq0];rw [decide_eq_true hc];rfl
 ·have h0:∀ k,k < l.length ->QC w (l.take k) (l.getD k default)=0:=fun k hk=>by
   have:=ZnJ w (l.take k) (l.getD k default);have h2:¬ QC w (l.take k) (l.getD k default) > 0:=fun z=>hz ⟨k,hk,z⟩
   omega
  refine⟨-1,0,?_,?_⟩
  ·unfold Zoz;refine YZ (fun k=>(k:Int)) rfl (n:=l.length) (by omega) (fun k hk next=>?_) (fun next=>?_)
   ·obtain⟨e1,_⟩:=hr k (by omega);rw [slT (by omega)] at e1;simp only [Bq0] at e1;unfold Zcp;rw [Yf (by omega),Cq1,Xe default (by omega),slT (by omega)];simp only [Bq0];rw [e1,h0 k hk];simp only [Bq0];rw [Xp (by omega)];rfl
   ·unfold Zcp;rw [YB,Cq0]
  ·refine YZ (fun k=>((-1:Int),(0:Int),(k:Int))) rfl (n:=l.length) (by omega) (fun k hk next=>?_) (fun next=>?_)
   ·obtain⟨_,e2⟩:=hr k (by omega);unfold Zcq;dsimp only;rw [Yf (by omega),Cq1,Xe default (by omega),slT (by omega)];simp only [Bq0];rw [e2,h0 k hk];simp only [Bq0];rw [Xp (by omega)];rfl
   ·unfold Zcq Zf0;dsimp only;rw [YB,Cq0]
theorem Ztx (hF:100000 <=F) {l:List Zd} (hl:l.length <=450):loop F (Zi9 F w l) 0=ifc (All w l) (loop F (Zcq F w l) (-1,0,0)) (some (0,0,2)):=by
 unfold All
 exact Wp (fun k=>(k:Int)) rfl (fun k=>Told w (l.getD k default)) (n:=l.length) (F:=F) (by omega) (fun k hk next=>by
  unfold Zi9;rw [Yf hk,Cq1,Xe default hk];simp only [Bq0];rw [Ztw,Xp (by omega)];by_cases h:Told w (l.getD k default)
  ·rw [ZR h,ZR h];rfl
  ·rw [ZG h,ZG h];rfl) (fun next=>by
  unfold Zi9;rw [YB,Cq0])
end
end
section
def tab {α:Type} (n:Nat) (f:Nat ->α):List α:= (List.range n).map f
def Z9 {α:Type} (f:Nat ->α) (k:Nat) (v:α):Nat ->α:=fun j=>if j=k then v else f j
theorem Zv {α:Type} (f:Nat ->α) (k:Nat) (v:α):Z9 f k v k=v:=if_pos rfl
theorem ZF {α:Type} {f:Nat ->α} {k j:Nat} {v:α} (h:j ≠ k):Z9 f k v j=f j:=if_neg h
theorem Zua {α:Type} (f:Nat ->α) (k:Nat) (v w:α):Z9 (Z9 f k v) k w=Z9 f k w:=by funext j;unfold Z9;by_cases h:j=k <;> simp [h]
section
variable {α:Type} {n k:Nat} {f g:Nat ->α} {v:α}
theorem Qt:(tab n f).length=n:=by simp [tab]
theorem Zg5 (h:k < n):(tab n f)[k]? =some (f k):=by simp [tab,h]
theorem Yz (h:k < n):ZO (tab n f) (k:Int)=some (f k):=by rw [ZeI,Zg5 h]
theorem QM:Xa (tab n f) (k:Int) v=tab n (Z9 f k v):=by
 unfold Xa;apply List.ext_getElem?;intro j;rw [Int.toNat_natCast,List.getElem?_set,Qt];by_cases hj:j < n
 ·rw [Zg5 hj,Zg5 hj];unfold Z9;by_cases e:k=j
  ·subst e;simp [hj]
  ·rw [if_neg e,if_neg (fun q=>e q.symm)]
 ·rw [List.getElem?_eq_none (by rw [Qt];omega),List.getElem?_eq_none (by rw [Qt];omega)];by_cases e:k=j
  ·subst e;simp [hj]
  ·rw [if_neg e]
theorem Wd (h:∀ k,k < n ->f k=g k):tab n f=tab n g:=by
 unfold tab;exact List.map_congr_left fun k hk=>h k (List.mem_range.1 hk)
theorem ZhD:tab (n + 1) f=tab n f ++ [f n]:=by simp [tab,List.range_succ]
end
theorem ZA8 {α:Type} (n:Nat) (x:α):List.replicate n x=tab n fun _=>x:=by
 apply List.ext_getElem?;intro j;by_cases hj:j < n
 ·rw [Zg5 hj,List.getElem?_replicate,if_pos hj]
 ·rw [List.getElem?_eq_none (by simp;omega),List.getElem?_eq_none (by rw [Qt];omega)]
structure TS where
 st:Nat ->Int
 ma:Nat ->Nat ->Int
 kn:Nat ->List Int
 wa:Nat ->List Int
 be:Nat ->List Ze
 sn:Nat ->List Ze
 ld:Nat ->Nat
 sd:Int
 ev:List Zd
section
variable (s:Zc)
def nn:Nat:=s.Zf.length
def mm:Nat:=s.qG.toNat
def pl (p:Nat):Nat:= (spt s p).at_.toNat
def li (a b:Nat):Nat:=a * mm s + b
def K6 (σ:TS) (i:Nat):Zo:= ⟨(σ.ld i:Int),(σ.sn i).drop (σ.ld i)⟩
def vw (σ:TS):Zm:= ⟨tab (nn s) σ.st,tab (nn s) fun p=>tab (mm s * mm s) (σ.ma p),tab (nn s) σ.kn,tab (nn s) σ.wa,tab (mm s) σ.be,tab (mm s * mm s) (K6 σ),σ.sd⟩
def hal (σ:TS):ZE:= ⟨vw s σ,s,σ.ev⟩
def tell (d p q n:Int) (σ:TS):TS:= {σ with ev:=σ.ev ++ [⟨d,p,q,n⟩]}
def send (a b:Nat) (x:Ze) (σ:TS):TS:= {σ with sn:=Z9 σ.sn (li s a b) (σ.sn (li s a b) ++ [x])}
def wait (m:Nat) (x:Ze) (σ:TS):TS:= {σ with be:=Z9 σ.be m (σ.be m ++ [x])}
def W9 (σ:TS) (p:Nat):List Int:=tab (mm s * mm s) (σ.ma p)
def Xk (p q:Nat) (σ:TS):TS:=if pl s p=pl s q then wait (pl s p) ⟨5,p,q,0,W9 s σ q⟩ σ else send s (pl s q) (pl s p) ⟨5,p,q,0,W9 s σ q⟩ σ
def see (p q:Nat) (n:Int) (σ:TS):TS:=if σ.st p=1 then tell 2 p q n σ else σ
def note (p q:Nat) (σ:TS):TS:=if σ.st q=3 then Xk s p q σ else{σ with wa:=Z9 σ.wa q (σ.wa q ++ [(p:Int)])}
structure Few (B:Nat) (σ:TS):Prop where
 ev:σ.ev.length <=B
 sn:∀ i,i < mm s * mm s ->(σ.sn i).length <=B
 be:∀ m,m < mm s ->(σ.be m).length <=B
 wa:∀ q,q < nn s ->(σ.wa q).length <=B
 ld:∀ i,i < mm s * mm s ->σ.ld i <= (σ.sn i).length
 ws:∀ q,q < nn s ->∀ x ∈ σ.wa q,∃ k:Nat,x= (k:Int)∧k < nn s
end
section
variable {s:Zc} {σ:TS} {a b p q k B:Nat}
theorem X7.mm (h:X7 s):s.qG= (Proofs.YtcnahmgekicbdaaGreat.mm s:Int)∧1 <=Proofs.YtcnahmgekicbdaaGreat.mm s∧Proofs.YtcnahmgekicbdaaGreat.mm s <=4:=by
 have:=h.m1;have:=h.m2;unfold Proofs.YtcnahmgekicbdaaGreat.mm;omega
theorem X7.pl (h:X7 s) (hp:p < nn s):(spt s p).at_= (Proofs.YtcnahmgekicbdaaGreat.pl s p:Int)∧Proofs.YtcnahmgekicbdaaGreat.pl s p < Proofs.YtcnahmgekicbdaaGreat.mm s:=by
 have:=h.at_ p hp;have:=h.mm.1;unfold Proofs.YtcnahmgekicbdaaGreat.pl;omega
theorem Ka (ha:a < mm s) (hb:b < mm s):li s a b < mm s * mm s:=by
 unfold li;have:(a + 1) * mm s <=mm s * mm s:=Nat.mul_le_mul_right _ ha;rw [Nat.add_mul,Nat.one_mul] at this;omega
theorem Zca (hS:X7 s) (ha:a < mm s) (hb:b < mm s):Yy (Yy ((a:Int) * s.qG) + (b:Int))= ((li s a b:Nat):Int):=by
 obtain⟨e,h1,h4⟩:=hS.mm;have hl:=Ka ha hb;have h16:mm s * mm s <=16:=Nat.mul_le_mul h4 h4;have hm:a * mm s <=li s a b:=by unfold li;omega
 rw [e];have e1:(a:Int) * ((mm s:Nat):Int)= ((a * mm s:Nat):Int):=by rw [Int.natCast_mul]
 have e3:Yy ((a * mm s:Nat):Int)= ((a * mm s:Nat):Int):=Zak (by omega) (by omega);have e2:((a * mm s:Nat):Int) + (b:Int)= ((li s a b:Nat):Int):=by unfold li;omega
 rw [e1,e3,e2];exact Zak (by omega) (by omega)
theorem U0 (hS:X7 s) (hp:p < nn s):WU (hal s σ) (p:Int)=some (pl s p:Int):=by
 unfold WU;show(ZO s.Zf (p:Int)).bind _=_;rw [Xg hp];simp only [Bq0];rw [(hS.pl hp).1]
theorem Kv (h:Few s 800000 σ) (d p q n:Int):Zj2 (hal s σ) d p q n=some (hal s (tell d p q n σ)):=by
 unfold Zj2;show(app 32 σ.ev _).bind _=_;rw [app1 (by have:=h.ev;omega) (by decide)];rfl
theorem Zxw (h:Few s B σ) (ha:a < mm s) (hb:b < mm s) (x:Ze):tab (mm s * mm s) (Z9 (K6 σ) (li s a b) ⟨(σ.ld (li s a b):Int),(σ.sn (li s a b)).drop (σ.ld (li s a b)) ++ [x]⟩)=tab (mm s * mm s) (K6 (send s a b x σ)):=by
 refine Wd fun k hk=>?_
 by_cases e:k=li s a b
 ·subst e;rw [Zv];show _= (⟨_,(Z9 σ.sn (li s a b) _ (li s a b)).drop _⟩:Zo);rw [Zv];show _= (⟨_,(σ.sn (li s a b) ++ [x]).drop (σ.ld (li s a b))⟩:Zo);rw [List.drop_append_of_le_length (h.ld _ hk)];rfl
 ·rw [ZF e];show _= (⟨_,(Z9 σ.sn (li s a b) _ k).drop _⟩:Zo);rw [ZF e];rfl
theorem ZaC (hS:X7 s) (h:Few s 800000 σ) (ha:a < mm s) (hb:b < mm s) (x:Ze):Zmm (hal s σ) (a:Int) (b:Int) x=some (hal s (send s a b x σ)):=by
 unfold Zmm;show(ZO (tab (mm s * mm s) (K6 σ)) (Yy (Yy ((a:Int) * s.qG) + (b:Int)))).bind _=_;have hl:=Ka ha hb;rw [Zca hS ha hb,Yz hl];simp only [Bq0];have:((K6 σ (li s a b)).kG).length <=900000:=by have:=h.sn _ hl;unfold K6;simp;omega
 rw [app1 this (by decide)];simp only [Bq0];show some (ZE.mk (Zm.mk _ _ _ _ _ (Xa (tab (mm s * mm s) (K6 σ)) (Yy (Yy ((a:Int) * s.qG) + (b:Int))) _) _) _ _)=_;rw [Zca hS ha hb,QM,show(K6 σ (li s a b)).ZV= (σ.ld (li s a b):Int) from rfl,show(K6 σ (li s a b)).kG= (σ.sn (li s a b)).drop (σ.ld (li s a b)) from rfl,Zxw h ha hb x];rfl
theorem Zkq (h:Few s 800000 σ) (ha:a < mm s) (x:Ze):Zk1 (hal s σ) (a:Int) x=some (hal s (wait a x σ)):=by
 unfold Zk1;show(ZO (tab (mm s) σ.be) (a:Int)).bind _=_;rw [Yz ha];simp only [Bq0];rw [app1 (by have:=h.be a ha;omega) (by decide)];simp only [Bq0];show(ZO (tab (mm s) σ.be) (a:Int)).bind (fun _=>some (ZE.mk (Zm.mk _ _ _ _ (Xa (tab (mm s) σ.be) (a:Int) _) _ _) _ _))=_;rw [Yz ha,QM];rfl
theorem Zn2 (hS:X7 s) (hq:q < nn s):app 8 ([]:List Int) (W9 s σ q)=some (W9 s σ q):=by
 have:(W9 s σ q).length <=16:=by unfold W9;rw [Qt];exact Nat.mul_le_mul hS.mm.2.2 hS.mm.2.2
 rw [Zru (by simp;omega)];rfl
theorem ZeX (a b:Nat):(((a:Int))== ((b:Int)))=decide (a=b):=by
 rw [YP];by_cases h:a=b
 ·subst h;simp
 ·rw [decide_eq_false h,decide_eq_false (by omega)]
theorem Zlc (hS:X7 s) (h:Few s 800000 σ) (hp:p < nn s) (hq:q < nn s):Zuk (hal s σ) (p:Int) (q:Int)=some (hal s (Xk s p q σ)):=by
 unfold Zuk ZgE;show(ZO (tab (nn s) fun p=>tab (mm s * mm s) (σ.ma p)) (q:Int)).bind _=_;rw [Yz hq];simp only [Bq0];rw [show app 8 ([]:List Int) (tab (mm s * mm s) (σ.ma q))=some (W9 s σ q) from Zn2 hS hq];simp only [Bq0];rw [U0 hS hp,U0 hS hq];simp only [Bq0];rw [ZeX];unfold Xk;by_cases e:pl s p=pl s q
 ·rw [decide_eq_true e,Cq1,if_pos e,Zkq h (hS.pl hp).2];rfl
 ·rw [decide_eq_false e,Cq0,if_neg e,ZaC hS h (hS.pl hq).2 (hS.pl hp).2];rfl
theorem ZnE (h:Few s 800000 σ) {x:Ze} (hx:x.kX= (p:Int)) (hp:p < nn s):Zuo (hal s σ) x=some (hal s (if σ.st p=1 then tell 2 p x.kV x.n σ else σ)):=by
 unfold Zuo;rw [hx];show(ZO (tab (nn s) σ.st) (p:Int)).bind _=_;rw [Yz hp];simp only [Bq0];rw [YP];by_cases e:σ.st p=1
 ·rw [decide_eq_true e,Cq1,if_pos e,Kv h];rfl
 ·rw [decide_eq_false e,Cq0,if_neg e]
theorem ZkI (hS:X7 s) (h:Few s 800000 σ) {x:Ze} (hx:x.kV= (p:Int)) (hy:x.kX= (q:Int)) (hp:p < nn s) (hq:q < nn s):Zun (hal s σ) x=some (hal s (note s p q σ)):=by
 unfold Zun;rw [hx,hy];show(ZO (tab (nn s) σ.st) (q:Int)).bind _=_;rw [Yz hq];simp only [Bq0];unfold note;rw [YP];by_cases e:σ.st q=3
 ·rw [decide_eq_true e,Cq1,if_pos e,Zlc hS h hp hq];rfl
 ·rw [decide_eq_false e,Cq0,if_neg e];show(ZO (tab (nn s) σ.wa) (q:Int)).bind _=_;rw [Yz hq];simp only [Bq0];rw [app1 (by have:=h.wa _ hq;omega) (by decide)];simp only [Bq0];show(ZO (tab (nn s) σ.wa) (q:Int)).bind (fun _=>some (ZE.mk (Zm.mk _ _ _ (Xa (tab (nn s) σ.wa) (q:Int) _) _ _ _) _ _))=_;rw [Yz hq,QM];rfl
end
end
section
def Alo (s:Zc) (σ:TS) (p:Nat):Prop:=∀ k:Nat,k < nn s ->inn s (k:Int)= (p:Int) ->(k:Int) ∈ σ.kn p
def ins (k:Int) (l:List Int):List Int:=l.takeWhile (fun x=>decide (x < k)) ++ k::l.dropWhile (fun x=>decide (x < k))
def mx (f:Nat ->Int) (l:List Int) (i:Nat):Int:=if l.getD i 0 > f i then l.getD i 0 else f i
theorem ZDh:∀ (l:List Int) (a b:Int),l.Pairwise (· < ·) ->(∀ x ∈ l,a <=x∧x < b) ->(l.length:Int) <=max 0 (b - a):=by
 intro l
 induction l with
 | nil=>intro a b _ _;simp;omega
 | cons x xs ih=>
   intro a b h1 h2;obtain⟨p1,p2⟩:=List.pairwise_cons.1 h1;have:=ih (x + 1) b p2 fun y hy=>⟨by have:=p1 y hy;omega,(h2 y (by simp [hy])).2⟩
   have:=h2 x (by simp);rw [List.length_cons];omega
section
variable {s:Zc} {σ:TS} {F p k q:Nat}
theorem ZxJ {l:List Int} (hF:1000 <=F) (hl:l.length <=500) (x:Int):∃ r,ZoB F l x=some r∧(r >=0↔x ∈ l):=by
 unfold ZoB;by_cases hz:∃ j,j < l.length∧l.getD j 0=x
 ·obtain⟨j,hj⟩:=hz;obtain⟨m,_,⟨hm,hx⟩,hlt⟩:=UU (c:=fun j=>j < l.length∧l.getD j 0=x) hj;refine⟨(m:Int),YZ (fun k=>(k:Int)) rfl (n:=m) (by omega) (fun k hk next=>?_) (fun next=>?_),?_⟩
  ·unfold ZcZ;rw [Yf (show k < l.length by omega),Cq1,Xe 0 (show k < l.length by omega)];simp only [Bq0];rw [YP,decide_eq_false (fun e=>hlt k hk ⟨by omega,e.symm⟩),Cq0,Xp (by omega)]
  ·unfold ZcZ;rw [Yf hm,Cq1,Xe 0 hm];simp only [Bq0];rw [YP,decide_eq_true hx.symm,Cq1]
  ·exact⟨fun _=>by rw [← hx];exact XT hm,fun _=>by omega⟩
 ·refine⟨-1,YZ (fun k=>(k:Int)) rfl (n:=l.length) (by omega) (fun k hk next=>?_) (fun next=>?_),?_⟩
  ·unfold ZcZ;rw [Yf hk,Cq1,Xe 0 hk];simp only [Bq0];rw [YP,decide_eq_false (fun e=>hz ⟨k,hk,e.symm⟩),Cq0,Xp (by omega)]
  ·unfold ZcZ;rw [YB,Cq0]
  ·refine⟨fun h=>by omega,fun h=>?_⟩;obtain⟨j,hj,e⟩:=List.getElem_of_mem h;exact absurd ⟨j,hj,by rw [Zch hj];exact e⟩ hz
theorem contains_eq {l:List Int} (hF:1000 <=F) (hl:l.length <=500) (x:Int):Zuj F l x=some (decide (x ∈ l)):=by
 obtain⟨r,h1,h2⟩:=ZxJ (F:=F) hF hl x;unfold Zuj;rw [h1];simp only [Bq0];congr 1;by_cases h:x ∈ l
 ·rw [decide_eq_true h,decide_eq_true (h2.2 h)]
 ·rw [decide_eq_false h,decide_eq_false fun q=>h (h2.1 q)]
theorem Zea (hF:1000 <=F) (hS:X7 s) (hp:p < nn s) (hl:(σ.kn p).length <=500):Zoy F (hal s σ) (p:Int)=ifc (Alo s σ p) (some true) (some false):=by
 unfold Zoy Zml;simp only [Bq0];have h8:=hS.p2
 have e:=Wp (body:=ZiN F (hal s σ) (p:Int)) (r1:=some false) (r2:=some true) (s0:= ((0:Int),false)) (fun k=>((k:Int),false)) rfl (fun k:Nat=>inn s (k:Int)= (p:Int) ->(k:Int) ∈ σ.kn p) (n:=nn s) (F:=F) (by unfold nn;omega) (fun k hk next=>by
  unfold ZiN;dsimp only;rw [show(hal s σ).qK.Zf=s.Zf from rfl,show((s.Zf.length:Nat):Int)= ((nn s:Nat):Int) from rfl,Yf hk,Cq1,Xg hk];simp only [Bq0];rw [Qu,YP];by_cases e:inn s (k:Int)= (p:Int)
  ·rw [decide_eq_true e,Cq1,Cq0];show(ZO (tab (nn s) σ.kn) (p:Int)).bind _=_;rw [Yz hp];simp only [Bq0];rw [contains_eq hF hl];simp only [Bq0,Bool.not_false,Bool.not_true,Cq1,Cq0];by_cases m:(k:Int) ∈ σ.kn p
   ·rw [decide_eq_true m,Bool.not_true,Cq0,ZR (fun _=>m),Xp (by unfold nn at hk;omega)]
   ·rw [decide_eq_false m,Bool.not_false,Cq1,ZG (fun z=>m (z e))];rfl
  ·rw [decide_eq_false e,Cq0,ZR (fun z=>absurd z e),Xp (by unfold nn at hk;omega)]) (fun next=>by
  unfold ZiN;dsimp only;rw [show(hal s σ).qK.Zf=s.Zf from rfl,show((s.Zf.length:Nat):Int)= ((nn s:Nat):Int) from rfl,YB,Cq0]
  rfl)
 rw [e];rfl
def ZHl (s:Zc) (p:Nat):List Nat:= (List.range (nn s)).filter fun q:Nat=>inn s (q:Int)== (p:Int)
theorem ZxE:k ∈ ZHl s p↔k < nn s∧inn s (k:Int)= (p:Int):=by unfold ZHl;simp
end
theorem Zkr {l:List Int} {k:Int}:(l.takeWhile fun x=>decide (x < k)).length <=l.length:=by
 induction l with
 | nil=>simp
 | cons x xs ih=>
   rw [List.takeWhile_cons];by_cases h:x < k <;> simp [h];omega
theorem ZLp {l:List Int} {k:Int}:∀ j,j < (l.takeWhile fun x=>decide (x < k)).length ->l.getD j 0 < k:=by
 induction l with
 | nil=>intro j hj;simp at hj
 | cons x xs ih=>
   intro j hj;rw [List.takeWhile_cons] at hj;by_cases h:x < k
   ·rw [decide_eq_true h,if_pos rfl,List.length_cons] at hj;cases j with
    | zero=>simpa using h
    | succ j=>have:=ih j (by omega);simpa using this
   ·rw [decide_eq_false h] at hj;simp at hj
theorem ZLq {l:List Int} {k:Int} (hs:l.Pairwise (· < ·)):∀ j,(l.takeWhile fun x=>decide (x < k)).length <=j ->j < l.length ->k <=l.getD j 0:=by
 induction l with
 | nil=>intro j _ hj;simp at hj
 | cons x xs ih=>
   intro j h1 h2;obtain⟨p1,p2⟩:=List.pairwise_cons.1 hs;rw [List.takeWhile_cons] at h1;by_cases h:x < k
   ·rw [decide_eq_true h,if_pos rfl,List.length_cons] at h1;cases j with
    | zero=>omega
    | succ j=>have:=ih p2 j (by omega) (by simpa using h2);simpa using this
   ·cases j with
    | zero=>simpa using h
    | succ j=>
      have hj:j < xs.length:=by simpa using h2
      have:=p1 _ (XT (d:=0) hj);simp only [List.getD_cons_succ];omega
theorem Znx {l:List Int} {k:Int}:l.take (l.takeWhile fun x=>decide (x < k)).length=l.takeWhile (fun x=>decide (x < k))∧l.drop (l.takeWhile fun x=>decide (x < k)).length=l.dropWhile (fun x=>decide (x < k)):=by
 have h:=List.takeWhile_append_dropWhile (p:=fun x:Int=>decide (x < k)) (l:=l)
 constructor
 ·conv=>lhs;rw [← h]
  rw [List.takeWhile_append_dropWhile];have:∀ (a b:List Int),(a ++ b).take a.length=a:=fun a b=>by simp
  conv=>lhs;arg 2;rw [← h]
  exact this _ _
 ·have:∀ (a b:List Int),(a ++ b).drop a.length=b:=fun a b=>by simp
  conv=>lhs;arg 2;rw [← h]
  exact this _ _
theorem ZHp (k:Int) (l:List Int):ins k l=l.take (l.takeWhile fun x=>decide (x < k)).length ++ k::l.drop (l.takeWhile fun x=>decide (x < k)).length:=by
 unfold ins;rw [Znx.1,Znx.2]
theorem Ws {k x:Int} {l:List Int}:x ∈ ins k l↔x=k∨x ∈ l:=by
 unfold ins
 conv=>rhs;rhs;rw [← List.takeWhile_append_dropWhile (p:=fun x:Int=>decide (x < k)) (l:=l)]
 simp only [List.mem_append,List.mem_cons]
 constructor
 ·rintro(h | h | h)
  ·exact .inr (.inl h)
  ·exact .inl h
  ·exact .inr (.inr h)
 ·rintro(h | h | h)
  ·exact .inr (.inl h)
  ·exact .inl h
  ·exact .inr (.inr h)
theorem Zqp {k:Int}:∀ {l:List Int},l.Pairwise (· < ·) ->k ∉ l ->(ins k l).Pairwise (· < ·):=by
 intro l
 induction l with
 | nil=>intro _ _;simp [ins]
 | cons x xs ih=>
   intro hs hk;obtain⟨p1,p2⟩:=List.pairwise_cons.1 hs;simp at hk;by_cases h:x < k
   ·have e:ins k (x::xs)=x::ins k xs:=by unfold ins;simp [List.takeWhile_cons,List.dropWhile_cons,h]
    rw [e]
    exact List.pairwise_cons.2 ⟨fun y hy=>by rcases Ws.1 hy with z | z;· rw [z];exact h
                                             ·exact p1 y z,ih p2 hk.2⟩
   ·have e:ins k (x::xs)=k::x::xs:=by unfold ins;simp [List.takeWhile_cons,List.dropWhile_cons,h]
    rw [e]
    exact List.pairwise_cons.2 ⟨fun y hy=>by rcases List.mem_cons.1 hy with z | z;· rw [z];omega
                                             ·have:=p1 y z;omega,hs⟩
theorem ZBt (a b:Int):ZoC a b=some (decide (a < b)):=by
 unfold ZoC Zk0;simp [gd]
theorem Zkw {F:Nat} {l:List Int} {k:Int} (hF:1000 <=F) (hl:l.length <=500) (hs:l.Pairwise (· < ·)) (hk:k ∉ l):ZkZ F l k=some (((l.takeWhile fun x=>decide (x < k)).length:Int),false):=by
 unfold ZkZ;obtain⟨c,hc⟩:∃ c,c= (l.takeWhile fun x=>decide (x < k)).length:= ⟨_,rfl⟩
 have h1:∀ j,j < c ->l.getD j 0 < k:=fun j hj=>ZLp j (by omega)
 have h2:∀ j,c <=j ->j < l.length ->k <=l.getD j 0:=fun j a b=>ZLq hs j (by omega) b
 have hcl:c <=l.length:=by rw [hc];exact Zkr
 rw [← hc]
 have key:∀ d F i j:Nat,d < F ->j - i <=d ->i <=c ->c <=j ->j <=l.length ->loop F (ZeM l k) ((i:Int),(j:Int))=some ((c:Int),false):=by
  intro d
  induction d with
  | zero=>
    intro F i j hF hd hi hj hjl;have:i=c:=by omega
    subst this;have:j=i:=by omega
    subst this;cases F with
    | zero=>omega
    | succ F=>
      rw [UA];unfold ZeM;dsimp only;rw [YB,Cq0,ZHf];by_cases hlt:j < l.length
      ·rw [decide_eq_true hlt,Xe 0 hlt];have:l.getD j 0 ≠ k:=fun e=>hk (by rw [← e];exact XT hlt)
       rw [XV];simp only [Bq0];rw [YP,decide_eq_false this];simp [gd,ZkX,Xe 0 hlt]
      ·rw [decide_eq_false hlt];simp [gd]
  | succ d ih=>
    intro F i j hF hd hi hj hjl;by_cases hij:i < j
    ·cases F with
     | zero=>omega
     | succ F=>
       rw [UA];unfold ZeM;dsimp only;have e1:Yy ((i:Int) + (j:Int))= ((i + j:Nat):Int):=by rw [Zak (by omega) (by omega)];omega
       have e2:IntKind.wrap .u64 (((i + j:Nat):Int))= ((i + j:Nat):Int):=by
        show(((i + j:Nat):Int)) % 18446744073709551616=_;omega
       have e3:Yy ((((i + j:Nat):Int)) / 2)= (((i + j) / 2:Nat):Int):=by rw [Zak (by omega) (by omega)];omega
       obtain⟨m,hm⟩:∃ m,m= (i + j) / 2:= ⟨_,rfl⟩
       rw [Yf hij,Cq1,e1,e2,e3,← hm,Xe 0 (by omega)];simp only [Bq0];rw [ZBt];simp only [Bq0];by_cases hx:l.getD m 0 < k
       ·rw [decide_eq_true hx,Cq1,Xp (by omega)];have:m < c:=Classical.byContradiction fun z=>by have:=h2 m (by omega) (by omega);omega
        exact ih F (m + 1) j (by omega) (by omega) (by omega) hj hjl
       ·rw [decide_eq_false hx,Cq0];have:c <=m:=Classical.byContradiction fun z=>by have:=h1 m (by omega);omega
        exact ih F i m (by omega) (by omega) hi this (by omega)
    ·exact ih F i j (by omega) (by omega) hi hj hjl
 have:=key l.length F 0 l.length (by omega) (by omega) (Nat.zero_le _) hcl (Nat.le_refl _);exact this
theorem insert_eq {l:List Int} {k:Int} (hl:l.length <=500):ZoA l ((l.takeWhile fun x=>decide (x < k)).length:Int) [k]=some (ins k l):=by
 unfold ZoA;have:=Zkr (l:=l) (k:=k);rw [Nm0 (by omega),decide_eq_true (show(0:Int) <= ((l.takeWhile fun x=>decide (x < k)).length:Int) by omega),decide_eq_true (show((l.takeWhile fun x=>decide (x < k)).length:Int) <= (l.length:Int) by omega)];show some _=_;rw [Int.toNat_natCast,ZHp,List.append_assoc];rfl
theorem Zqf {β:Type} {F n:Nat} {f:Nat ->Int} {l:List Int} {r:Option β} (hF:n < F) (hn:n <=1000) (hl:l.length=n) {body:Int×List Int ->(Int×List Int ->Option β) ->Option β}
 (hb:∀ v8 (k:Nat),k < n ->∀ next,body ((k:Int),v8) next= (ZO l (k:Int)).bind fun x=>(ZO v8 (k:Int)).bind fun y=>(ZO v8 (k:Int)).bind fun z=>next (Yy ((k:Int) + 1),Xa v8 (k:Int) (if x > y then x else y)))
 (he:∀ next,body ((n:Int),tab n (mx f l)) next=r):loop F body (0,tab n f)=r:=by
 refine YZ (fun k=>((k:Int),tab n fun i=>if i < k then mx f l i else f i)) (by simp) hF (fun k hk next=>?_) (fun next=>?_)
 ·rw [hb _ _ hk,Xe 0 (by rw [hl];exact hk)];simp only [Bq0];rw [Yz hk];simp only [Bq0];rw [if_neg (Nat.lt_irrefl _),QM,Xp (by omega)];congr 2;refine Wd fun i hi=>?_
  unfold Z9;by_cases e:i=k
  ·subst e;rw [if_pos rfl,if_pos (Nat.lt_succ_self _)];rfl
  ·rw [if_neg e];show(if i < k then mx f l i else f i)=_;by_cases h:i < k
   ·rw [if_pos h,if_pos (by omega)]
   ·rw [if_neg h,if_neg (by omega)]
 ·have:(tab n fun i=>if i < n then mx f l i else f i)=tab n (mx f l):=Wd fun i hi=>by rw [if_pos hi]
  show body ((n:Int),tab n fun i=>if i < n then mx f l i else f i) next=r;rw [this];exact he next
section
variable {F n:Nat} {f:Nat ->Int} {l:List Int}
theorem ZeH (hF:1000 <=F) (hn:n <=500) (hl:l.length=n):ZkY F [tab n f,l]=some (tab n (mx f l)):=by
 unfold ZkY ZgE;have e0:ZO [tab n f,l] 0=some (tab n f):=rfl;rw [e0];simp only [Bq0];rw [Zru (by rw [Qt];simp;omega)];simp only [Bq0,List.nil_append];have e1:slL [tab n f,l] 1 (([tab n f,l].length:Nat):Int)=some [l]:=rfl;rw [e1];simp only [Bq0];refine YZ (fun k=>((k:Int),if k=0 then tab n f else tab n (mx f l))) rfl (n:=1) (by omega) (fun k hk next=>?_) (fun next=>?_)
 ·have:k=0:=by omega
  subst this;unfold Zhi;dsimp only;rw [show decide (((0:Nat):Int) < (([l].length:Nat):Int))=true from rfl,Cq1,show ZO [l] ((0:Nat):Int)=some l from rfl];simp only [Bq0];refine Zqf (by omega) (by omega) hl (fun v8 k hk next=>?_) (fun next'=>?_)
  ·unfold Zhh;dsimp only;rw [hl,Yf hk,Cq1]
  ·unfold Zhh;dsimp only;rw [hl,YB,Cq0];rfl
 ·unfold Zhi;dsimp only;rw [show decide (((1:Nat):Int) < (([l].length:Nat):Int))=false from rfl,Cq0];rfl
end
end
section
def Qq (n:Nat) (f:Nat ->Nat):Nat:= ((List.range n).map f).sum
section
variable {n k:Nat} {f g:Nat ->Nat}
theorem Kw:Qq (n + 1) f=Qq n f + f n:=by simp [Qq,List.range_succ]
theorem ZaZ (h:∀ k,k < n ->f k=g k):Qq n f=Qq n g:=by
 unfold Qq;rw [List.map_congr_left fun k hk=>h k (List.mem_range.1 hk)]
theorem ZA9 (h:∀ k,k < n ->f k <=g k):Qq n f <=Qq n g:=by
 induction n with
 | zero=>simp [Qq]
 | succ n ih=>rw [Kw,Kw];have:=ih fun k hk=>h k (by omega);have:=h n (by omega);omega
theorem UK (h:k < n):f k <=Qq n f:=by
 induction n with
 | zero=>omega
 | succ n ih=>
   rw [Kw];by_cases e:k=n
   ·subst e;omega
   ·have:=ih (by omega);omega
theorem ZnA {v:Nat} (h:k < n):Qq n (Z9 f k v) + f k=Qq n f + v:=by
 induction n with
 | zero=>omega
 | succ n ih=>
   rw [Kw,Kw];by_cases e:k=n
   ·subst e;rw [Zv,ZaZ (f:=Z9 f k v) (g:=f) fun j hj=>ZF (by omega)];omega
   ·have:=ih (by omega);rw [ZF (by omega)];omega
theorem ZbU (h:k < n) (hg:∀ j,j < n ->j ≠ k ->g j=f j):Qq n g + f k=Qq n f + g k:=by
 rw [ZaZ (f:=g) (g:=Z9 f k (g k)) fun j hj=>by
  by_cases e:j=k
  ·subst e;rw [Zv]
  ·rw [ZF e,hg j hj e]]
 exact ZnA h
theorem ZhE (n c:Nat):Qq n (fun _=>c)=n * c:=by
 induction n with
 | zero=>simp [Qq]
 | succ n ih=>rw [Kw,ih,Nat.succ_mul]
end
def ew (x:Ze):Nat:=if x.kW=1 then 1 else if x.kW=2 then 2 else if x.kW=5 then 1 else 0
def sw (x:Int):Nat:=if x=1 then 11 else if x=3 then 0 else 2
def fl (σ:TS) (i:Nat):List Ze:= (σ.sn i).drop (σ.ld i)
def lw (σ:TS) (i:Nat):Nat:= (σ.sn i).length + ((fl σ i).map ew).sum
def Pot (s:Zc) (σ:TS):Nat:=σ.ev.length + Qq (mm s * mm s) (lw σ) + Qq (mm s) (fun m=>(σ.be m).length) + Qq (nn s) (fun q=>2 * (σ.wa q).length) + Qq (nn s) (fun p=>sw (σ.st p))
structure Wf (s:Zc) (B:Nat) (σ:TS):Prop where
 pot:Pot s σ <=B
 ld:∀ i,i < mm s * mm s ->σ.ld i <= (σ.sn i).length
 ws:∀ q,q < nn s ->∀ x ∈ σ.wa q,∃ k:Nat,x= (k:Int)∧k < nn s
section
variable {s:Zc} {σ:TS} {B a b p q m:Nat}
theorem Wf.few (h:Wf s B σ) (hB:B <=800000):Few s 800000 σ:=by
 have hp:=h.pot;unfold Pot at hp;refine⟨by omega,fun i hi=>?_,fun m hm=>?_,fun q hq=>?_,h.ld,h.ws⟩
 ·have:=UK (f:=lw σ) hi;unfold lw at this;unfold lw at hp;omega
 ·have:=UK (f:=fun m=>(σ.be m).length) hm;omega
 ·have:=UK (f:=fun q=>2 * (σ.wa q).length) hq;omega
theorem Zw2 (d p q n:Int):Pot s (tell d p q n σ)=Pot s σ + 1:=by
 show(σ.ev ++ [_]).length + Qq (mm s * mm s) (lw σ) + Qq (mm s) (fun m=>(σ.be m).length) + Qq (nn s) (fun q=>2 * (σ.wa q).length) + Qq (nn s) (fun p=>sw (σ.st p))=_;rw [List.length_append,List.length_singleton];unfold Pot;omega
theorem ZsU (hl:σ.ld (li s a b) <= (σ.sn (li s a b)).length) (x:Ze):fl (send s a b x σ) (li s a b)=fl σ (li s a b) ++ [x]:=by
 show(Z9 σ.sn (li s a b) _ (li s a b)).drop (σ.ld (li s a b))=_;rw [Zv,List.drop_append_of_le_length hl];rfl
theorem ZiH {i:Nat} (hi:i ≠ li s a b) (x:Ze):fl (send s a b x σ) i=fl σ i:=by
 show(Z9 σ.sn (li s a b) _ i).drop (σ.ld i)=_;rw [ZF hi];rfl
theorem ZcL (x:Ze):(send s a b x σ).sn (li s a b)=σ.sn (li s a b) ++ [x]:=Zv _ _ _
theorem Ul {i:Nat} (hi:i ≠ li s a b) (x:Ze):(send s a b x σ).sn i=σ.sn i:=ZF hi
theorem Zw3 (ha:a < mm s) (hb:b < mm s) (hl:∀ i,i < mm s * mm s ->σ.ld i <= (σ.sn i).length) (x:Ze):Pot s (send s a b x σ)=Pot s σ + 1 + ew x:=by
 have hi:=Ka ha hb;have h:=ZbU (f:=lw σ) (g:=lw (send s a b x σ)) hi fun j _ hj=>by unfold lw;rw [Ul hj,ZiH hj]
 have e:lw (send s a b x σ) (li s a b)=lw σ (li s a b) + 1 + ew x:=by
  unfold lw;rw [ZcL,ZsU (hl _ hi),List.length_append,List.map_append,List.sum_append];simp;omega
 show σ.ev.length + Qq (mm s * mm s) (lw (send s a b x σ)) + Qq (mm s) (fun m=>(σ.be m).length) + Qq (nn s) (fun q=>2 * (σ.wa q).length) + Qq (nn s) (fun p=>sw (σ.st p))=_;unfold Pot;omega
theorem Zp1 (hm:m < mm s) (l:List Ze):Pot s {σ with be:=Z9 σ.be m l} + (σ.be m).length=Pot s σ + l.length:=by
 have h:=ZbU (f:=fun m=>(σ.be m).length) (g:=fun j=>(Z9 σ.be m l j).length) hm fun j _ hj=>by rw [ZF hj]
 rw [Zv] at h;show σ.ev.length + Qq (mm s * mm s) (lw σ) + Qq (mm s) (fun j=>(Z9 σ.be m l j).length) + Qq (nn s) (fun q=>2 * (σ.wa q).length) + Qq (nn s) (fun p=>sw (σ.st p)) + _=_;unfold Pot;omega
theorem Zw1 (hm:m < mm s) (x:Ze):Pot s (wait m x σ)=Pot s σ + 1:=by
 have:=Zp1 (σ:=σ) hm (σ.be m ++ [x]);rw [List.length_append,List.length_singleton] at this;unfold wait;omega
theorem ZG7 (hq:q < nn s) (l:List Int):Pot s {σ with wa:=Z9 σ.wa q l} + 2 * (σ.wa q).length=Pot s σ + 2 * l.length:=by
 have h:=ZbU (f:=fun q=>2 * (σ.wa q).length) (g:=fun j=>2 * (Z9 σ.wa q l j).length) hq fun j _ hj=>by rw [ZF hj]
 rw [Zv] at h;show σ.ev.length + Qq (mm s * mm s) (lw σ) + Qq (mm s) (fun m=>(σ.be m).length) + Qq (nn s) (fun j=>2 * (Z9 σ.wa q l j).length) + Qq (nn s) (fun p=>sw (σ.st p)) + _=_;unfold Pot;omega
theorem ZG8 (hp:p < nn s) (v:Int):Pot s {σ with st:=Z9 σ.st p v} + sw (σ.st p)=Pot s σ + sw v:=by
 have h:=ZbU (f:=fun p=>sw (σ.st p)) (g:=fun j=>sw (Z9 σ.st p v j)) hp fun j _ hj=>by rw [ZF hj]
 rw [Zv] at h;show σ.ev.length + Qq (mm s * mm s) (lw σ) + Qq (mm s) (fun m=>(σ.be m).length) + Qq (nn s) (fun q=>2 * (σ.wa q).length) + Qq (nn s) (fun j=>sw (Z9 σ.st p v j)) + _=_;unfold Pot;omega
theorem ZCI (p q n:Int) (l:List Int):ew ⟨5,p,q,n,l⟩=1:=rfl
theorem Wf.tell (h:Wf s B σ) (d p q n:Int):Wf s (B + 1) (tell d p q n σ):= ⟨by rw [Zw2];have:=h.pot;omega,h.ld,h.ws⟩
theorem Wf.send (h:Wf s B σ) (ha:a < mm s) (hb:b < mm s) (x:Ze):Wf s (B + 1 + ew x) (send s a b x σ):=by
 refine⟨by rw [Zw3 ha hb h.ld];have:=h.pot;omega,fun i hi=>?_,h.ws⟩;show σ.ld i <=_;by_cases e:i=li s a b
 ·subst e;rw [ZcL,List.length_append];have:=h.ld _ hi;omega
 ·rw [Ul e];exact h.ld i hi
theorem Wf.wait (h:Wf s B σ) (hm:m < mm s) (x:Ze):Wf s (B + 1) (wait m x σ):= ⟨by rw [Zw1 hm];have:=h.pot;omega,h.ld,h.ws⟩
theorem Wf.up (h:Wf s B σ) {B':Nat} (hb:B <=B'):Wf s B' σ:= ⟨Nat.le_trans h.pot hb,h.ld,h.ws⟩
theorem Wf.Xk (hS:X7 s) (h:Wf s B σ) (hp:p < nn s) (hq:q < nn s):Wf s (B + 2) (Xk s p q σ):=by
 unfold Proofs.YtcnahmgekicbdaaGreat.Xk;by_cases e:pl s p=pl s q
 ·rw [if_pos e];exact(h.wait (hS.pl hp).2 _).up (by omega)
 ·rw [if_neg e];exact(h.send (hS.pl hq).2 (hS.pl hp).2 _).up (by rw [ZCI];omega)
theorem Wf.wa (h:Wf s B σ) (hq:q < nn s) {l:List Int} (hl:∀ x ∈ l,∃ k:Nat,x= (k:Int)∧k < nn s) {B':Nat} (hB:B + 2 * l.length <=B' + 2 * (σ.wa q).length):Wf s B' {σ with wa:=Z9 σ.wa q l}:=by
 refine⟨?_,h.ld,fun j hj x hx=>?_⟩
 ·have:=ZG7 (σ:=σ) hq l;have:=h.pot;omega
 ·have hx:x ∈ Z9 σ.wa q l j:=hx;by_cases e:j=q
  ·subst e;rw [Zv] at hx;exact hl x hx
  ·rw [ZF e] at hx;exact h.ws j hj x hx
theorem Wf.st (h:Wf s B σ) (hp:p < nn s) (v:Int) {B':Nat} (hB:B + sw v <=B' + sw (σ.st p)):Wf s B' {σ with st:=Z9 σ.st p v}:=
 ⟨by have:=ZG8 (σ:=σ) hp v;have:=h.pot;omega,h.ld,h.ws⟩
theorem Wf.note (hS:X7 s) (h:Wf s B σ) (hp:p < nn s) (hq:q < nn s):Wf s (B + 2) (note s p q σ):=by
 unfold Proofs.YtcnahmgekicbdaaGreat.note;by_cases e:σ.st q=3
 ·rw [if_pos e];exact h.Xk hS hp hq
 ·rw [if_neg e]
  exact h.wa hq (fun x hx=>by
   rcases List.mem_append.1 hx with hx | hx
   ·exact h.ws q hq x hx
   ·rw [List.mem_singleton.1 hx];exact⟨p,rfl,hp⟩) (by rw [List.length_append,List.length_singleton];omega)
theorem Wf.see (h:Wf s B σ) (p q:Nat) (n:Int):Wf s (B + 1) (see p q n σ):=by
 unfold Proofs.YtcnahmgekicbdaaGreat.see;by_cases e:σ.st p=1
 ·rw [if_pos e];exact h.tell _ _ _ _
 ·rw [if_neg e];exact h.up (by omega)
end
end
section
structure Kn (s:Zc) (σ:TS):Prop where
 srt:∀ q,q < nn s ->(σ.kn q).Pairwise (· < ·)
 rng:∀ q,q < nn s ->∀ x ∈ σ.kn q,∃ k:Nat,x= (k:Int)∧k < nn s∧inn s (k:Int)= (q:Int)∧σ.st k=3
noncomputable section
variable (s:Zc)
def Zdm (σ:TS) (p K:Nat) (i:Nat):Int:=if i / mm s=pl s p∧i % mm s < K∧i % mm s ≠ pl s p then((σ.sn i).length:Int) else σ.ma p i
def JW (p:Nat) (σ:TS):TS:= {σ with st:=Z9 σ.st p 3,ev:=σ.ev ++ [⟨6,(p:Int),0,0⟩],wa:=Z9 σ.wa p []}
def Zw (p:Nat) (l:List Int) (σ:TS):TS:=l.foldl (fun σ x=>Xk s x.toNat p σ) σ
def ZPw (p:Nat) (σ:TS):TS:= {σ with ma:=Z9 σ.ma p (Zdm s σ p (mm s))}
def Yn (p:Nat) (σ:TS):TS:=ZPw s p (Zw s p (σ.wa p) (JW p σ))
def YN (k:Nat) (l:List Int) (σ:TS):TS:= {σ with kn:=Z9 σ.kn (inn s (k:Int)).toNat (ins (k:Int) (σ.kn (inn s (k:Int)).toNat)),ma:=Z9 σ.ma (inn s (k:Int)).toNat (mx (σ.ma (inn s (k:Int)).toNat) l)}
def Zar (die:Nat ->TS ->TS) (k:Nat) (l:List Int) (σ:TS):TS:=
 ifc ((YN s k l σ).st (inn s (k:Int)).toNat=2∧Alo s (YN s k l σ) (inn s (k:Int)).toNat) (die (inn s (k:Int)).toNat (YN s k l σ)) (YN s k l σ)
def ZmT (die:Nat ->TS ->TS) (p:Nat) (σ:TS):TS:=
 if inn s (p:Int) < 0 then σ
 else if pl s (inn s (p:Int)).toNat=pl s p then Zar s die p (W9 s σ p) σ
 else send s (pl s p) (pl s (inn s (p:Int)).toNat) ⟨4,(p:Int),0,0,W9 s σ p⟩ σ
def Zjl:Nat ->Nat ->TS ->TS
 | 0,_,σ=>σ
 | d + 1,p,σ=>ZmT s (Zjl d) p (Yn s p σ)
end
section
variable {s:Zc} {σ:TS} {F B p q:Nat}
theorem Zl2:ZE.mk (Zm.mk (tab (nn s) σ.st) (tab (nn s) fun p=>tab (mm s * mm s) (σ.ma p)) (tab (nn s) σ.kn) (tab (nn s) σ.wa) (tab (mm s) σ.be) (tab (mm s * mm s) (K6 σ)) σ.sd) (Zc.mk s.qG s.Zf) σ.ev=hal s σ:=rfl
theorem Zc8 (p q:Nat) (σ:TS):(Xk s p q σ).st=σ.st∧(Xk s p q σ).kn=σ.kn∧(Xk s p q σ).ma=σ.ma∧(Xk s p q σ).ld=σ.ld∧(Xk s p q σ).sd=σ.sd∧(Xk s p q σ).ev=σ.ev∧(Xk s p q σ).wa=σ.wa:=by
 unfold Xk;split <;> exact⟨rfl,rfl,rfl,rfl,rfl,rfl,rfl⟩
theorem Zcx (p:Nat):∀ (l:List Int) (σ:TS),(Zw s p l σ).st=σ.st∧(Zw s p l σ).kn=σ.kn∧(Zw s p l σ).ma=σ.ma∧(Zw s p l σ).ld=σ.ld∧(Zw s p l σ).sd=σ.sd∧(Zw s p l σ).ev=σ.ev∧(Zw s p l σ).wa=σ.wa:=by
 intro l
 induction l with
 | nil=>intro σ;exact⟨rfl,rfl,rfl,rfl,rfl,rfl,rfl⟩
 | cons x l ih=>
   intro σ;have h1:=ih (Xk s x.toNat p σ);have h2:=Zc8 (s:=s) x.toNat p σ;have e:Zw s p (x::l) σ=Zw s p l (Xk s x.toNat p σ):=rfl;rw [e];exact⟨h1.1.trans h2.1,h1.2.1.trans h2.2.1,h1.2.2.1.trans h2.2.2.1,h1.2.2.2.1.trans h2.2.2.2.1,h1.2.2.2.2.1.trans h2.2.2.2.2.1,h1.2.2.2.2.2.1.trans h2.2.2.2.2.2.1,h1.2.2.2.2.2.2.trans h2.2.2.2.2.2.2⟩
theorem Zrm (p k:Nat) (l:List Int) (hk:k < l.length) (σ:TS):Zw s p (l.take (k + 1)) σ=Xk s (l.getD k 0).toNat p (Zw s p (l.take k) σ):=by
 unfold Zw;rw [List.take_succ_eq_append_getElem hk,List.foldl_append,Zch hk];rfl
theorem ZhB (hS:X7 s) (hp:p < nn s):∀ (l:List Int) (B:Nat) (σ:TS),Wf s B σ ->(∀ x ∈ l,∃ k:Nat,x= (k:Int)∧k < nn s) ->Wf s (B + 2 * l.length) (Zw s p l σ):=by
 intro l
 induction l with
 | nil=>intro B σ h _;exact h
 | cons x l ih=>
   intro B σ h hx;obtain⟨k,e,hk⟩:=hx x (by simp);have h1:=ih (B + 2) (Xk s x.toNat p σ) (by rw [e,Int.toNat_natCast];exact h.Xk hS hk hp) (fun y hy=>hx y (by simp [hy]));exact h1.up (by rw [List.length_cons];omega)
theorem Zv3 {x:Int} (h:x ≠ 3):2 <=sw x:=by
 unfold sw;by_cases e:x=1
 ·rw [if_pos e];omega
 ·rw [if_neg e,if_neg h];omega
theorem Zlp (h:Wf s B σ) (hp:p < nn s) (h3:σ.st p ≠ 3):2 <=B∧Wf s (B - 1 - 2 * (σ.wa p).length) (JW p σ)∧2 * (σ.wa p).length + 2 <=B:=by
 have h2:=Zv3 h3
 have Z0X:2 + 2 * (σ.wa p).length <=Pot s σ:=by
  have a1:=UK (f:=fun p=>sw (σ.st p)) hp;have a2:=UK (f:=fun q=>2 * (σ.wa q).length) hp;unfold Pot;omega
 have hb:=h.pot;have w1:=h.st hp (3:Int) (B':=B - 2) (by rw [show sw (3:Int)=0 from rfl];omega);have w2:=w1.tell 6 (p:Int) 0 0
 have w3:=w2.wa (l:= []) hp (by simp) (B':=B - 1 - 2 * (σ.wa p).length) (by
  show _ <=_ + 2 * (σ.wa p).length;simp;omega)
 exact⟨by omega,w3,by omega⟩
theorem Wf.ma (h:Wf s B σ) (f:Nat ->Nat ->Int):Wf s B {σ with ma:=f}:= ⟨h.pot,h.ld,h.ws⟩
theorem ZaA {k:Nat} {l:List Int} (h:Wf s B σ):Wf s B (YN s k l σ):= ⟨h.pot,h.ld,h.ws⟩
theorem ZrT (hS:X7 s) (h:Wf s B σ) (hp:p < nn s) (h3:σ.st p ≠ 3):Wf s (B - 1) (Yn s p σ):=by
 obtain⟨h1,h2,h4⟩:=Zlp h hp h3;have:=ZhB hS hp (σ.wa p) _ _ h2 (h.ws p hp);exact(this.up (by omega)).ma _
theorem QV (p:Nat) (σ:TS):(Yn s p σ).st=Z9 σ.st p 3∧(Yn s p σ).kn=σ.kn∧(Yn s p σ).ld=σ.ld∧(Yn s p σ).sd=σ.sd∧(Yn s p σ).ev=σ.ev ++ [⟨6,(p:Int),0,0⟩]∧(Yn s p σ).wa=Z9 σ.wa p []:=by
 have h:=Zcx (s:=s) p (σ.wa p) (JW p σ);exact⟨h.1,h.2.1,h.2.2.2.1,h.2.2.2.2.1,h.2.2.2.2.2.1,h.2.2.2.2.2.2⟩
theorem Zsw (h:Kn s σ) (p:Nat):Kn s (Yn s p σ):=by
 have e:=QV (s:=s) p σ;refine⟨fun q hq=>by rw [e.2.1];exact h.srt q hq,fun q hq x hx=>?_⟩;rw [e.2.1] at hx;obtain⟨k,h1,h2,h3,h4⟩:=h.rng q hq x hx;refine⟨k,h1,h2,h3,?_⟩;rw [e.1];by_cases z:k=p
 ·subst z;exact Zv _ _ _
 ·rw [ZF z];exact h4
theorem Kn.len (hS:X7 s) (h:Kn s σ) (hq:q < nn s):(σ.kn q).length <=8:=by
 have:=ZDh (σ.kn q) 0 (nn s) (h.srt q hq) fun x hx=>by
  obtain⟨k,e,hk,_⟩:=h.rng q hq x hx;omega
 have h8:=hS.p2;unfold nn at this;omega
theorem QS (hS:X7 s) (hp:p < nn s) (h0:¬ inn s (p:Int) < 0):inn s (p:Int)= ((inn s (p:Int)).toNat:Int)∧(inn s (p:Int)).toNat < nn s:=by
 obtain⟨k,e,hk⟩:=Kk (hS.inn.rng p hp) h0;rw [e,Int.toNat_natCast];exact⟨rfl,hk⟩
theorem Wl (hS:X7 s) (h:Kn s σ) (hp:p < nn s) (h0:¬ inn s (p:Int) < 0) (h3:σ.st p=3) (hn:(p:Int) ∉ σ.kn (inn s (p:Int)).toNat) (l:List Int):Kn s (YN s p l σ):=by
 obtain⟨e,hq⟩:=QS hS hp h0;refine⟨fun q hq'=>?_,fun q hq' x hx=>?_⟩
 ·show(Z9 σ.kn _ _ q).Pairwise _;by_cases z:q= (inn s (p:Int)).toNat
  ·subst z;rw [Zv];exact Zqp (h.srt _ hq) hn
  ·rw [ZF z];exact h.srt q hq'
 ·have hx:x ∈ Z9 σ.kn _ _ q:=hx;by_cases z:q= (inn s (p:Int)).toNat
  ·subst z;rw [Zv] at hx;rcases Ws.1 hx with w | w
   ·exact⟨p,w,hp,e,h3⟩
   ·exact h.rng _ hq x w
  ·rw [ZF z] at hx;exact h.rng q hq' x hx
theorem WI {M a b i:Nat} (hb:b < M):i=a * M + b↔i / M=a∧i % M=b:=by
 have hM:0 < M:=by omega
 constructor
 ·intro e;subst e;have e1:(a * M + b) / M=a:=by rw [Nat.mul_comm,Nat.mul_add_div hM,Nat.div_eq_of_lt hb,Nat.add_zero]
  exact⟨e1,by rw [Nat.mul_comm,Nat.mul_add_mod,Nat.mod_eq_of_lt hb]⟩
 ·rintro⟨h1,h2⟩;have:=Nat.div_add_mod i M;rw [h1,h2,Nat.mul_comm] at this;exact this.symm
theorem ZtR (σ:TS) (p i:Nat):Zdm s σ p 0 i=σ.ma p i:=by unfold Zdm;rw [if_neg];rintro⟨_,h,_⟩;omega
theorem ZtS {k:Nat} (hk:k < mm s) (hne:k ≠ pl s p) (i:Nat):Zdm s σ p (k + 1) i=Z9 (Zdm s σ p k) (li s (pl s p) k) ((σ.sn (li s (pl s p) k)).length:Int) i:=by
 unfold Z9;by_cases e:i=li s (pl s p) k
 ·rw [if_pos e];obtain⟨e1,e2⟩:= (WI hk).1 e;unfold Zdm;rw [if_pos ⟨e1,by omega,by omega⟩,e]
 ·rw [if_neg e];unfold Zdm;by_cases c:i / mm s=pl s p∧i % mm s < k∧i % mm s ≠ pl s p
  ·rw [if_pos c,if_pos ⟨c.1,by omega,c.2.2⟩]
  ·rw [if_neg c,if_neg];rintro⟨c1,c2,c3⟩;refine c ⟨c1,?_,c3⟩;have:i % mm s ≠ k:=fun z=>e ((WI hk).2 ⟨c1,z⟩)
   omega
theorem ZtT {k:Nat} (hne:k=pl s p) (i:Nat):Zdm s σ p (k + 1) i=Zdm s σ p k i:=by
 unfold Zdm;by_cases c:i / mm s=pl s p∧i % mm s < k∧i % mm s ≠ pl s p
 ·rw [if_pos c,if_pos ⟨c.1,by omega,c.2.2⟩]
 ·rw [if_neg c,if_neg];rintro⟨c1,c2,c3⟩;exact c ⟨c1,by omega,c3⟩
def Zdn (s:Zc) (f:Nat ->Nat ->Int):List (List Int):=tab (nn s) fun j=>tab (mm s * mm s) (f j)
theorem ZkJ {f:Nat ->Nat ->Int} (hp:p < nn s):ZO (Zdn s f) (p:Int)=some (tab (mm s * mm s) (f p)):=Yz hp
theorem Zfy {f:Nat ->Nat ->Int} {g:Nat ->Int}:Xa (Zdn s f) (p:Int) (tab (mm s * mm s) g)=Zdn s (Z9 f p g):=by
 unfold Zdn;rw [QM];refine Wd fun j _=>?_
 by_cases e:j=p
 ·subst e;rw [Zv,Zv]
 ·rw [ZF e,ZF e]
theorem ZdP {f g:Nat ->Nat ->Int} (h:∀ j,j < nn s ->∀ i,i < mm s * mm s ->f j i=g j i):Zdn s f=Zdn s g:=Wd fun j hj=>Wd fun i hi=>h j hj i hi
theorem Zwi (h:Wf s B σ) (hB:B <=800000) {i:Nat} (hi:i < mm s * mm s):Yy ((K6 σ i).ZV + ((K6 σ i).kG.length:Int))= ((σ.sn i).length:Int):=by
 have h1:=h.ld i hi;have h2:= (h.few hB).sn i hi;show Yy ((σ.ld i:Int) + (((σ.sn i).drop (σ.ld i)).length:Int))=_;rw [List.length_drop,Zak (by omega) (by omega)];omega
theorem Zqg {β:Type} (hF:1000 <=F) (hS:X7 s) (h:Wf s B σ) (hB:B <=800000) (hp:p < nn s) {r:Option β} {body:Int×List (List Int) ->(Int×List (List Int) ->Option β) ->Option β}
 (hb:∀ (v:List (List Int)) (k:Nat),k < mm s ->∀ next,body ((k:Int),v) next=bif((k:Int) != (pl s p:Int)) then((ZO v (p:Int)).bind fun x=>(ZO x (Yy (Yy ((pl s p:Int) * s.qG) + (k:Int)))).bind fun _=>next (Yy ((k:Int) + 1),Xa v (p:Int) (Xa x (Yy (Yy ((pl s p:Int) * s.qG) + (k:Int))) ((σ.sn (li s (pl s p) k)).length:Int)))) else next (Yy ((k:Int) + 1),v))
 (he:∀ next,body ((mm s:Int),Zdn s (ZPw s p σ).ma) next=r):loop F body (0,Zdn s σ.ma)=r:=by
 obtain⟨_,_,h4⟩:=hS.mm;have hpl:= (hS.pl hp).2
 refine YZ (fun k=>((k:Int),Zdn s (Z9 σ.ma p (Zdm s σ p k)))) (by
  have:Zdn s (Z9 σ.ma p (Zdm s σ p 0))=Zdn s σ.ma:=ZdP fun j _ i _=>by
   by_cases e:j=p
   ·subst e;rw [Zv,ZtR]
   ·rw [ZF e]
  rw [this];rfl) (n:=mm s) (by omega) (fun k hk next=>?_) (fun next=>?_)
 ·rw [hb _ _ hk]
  have e1:(((k:Int)) != ((pl s p:Int)))=decide (k ≠ pl s p):=by
   rw [Ko];by_cases z:k=pl s p
   ·subst z;simp
   ·rw [decide_eq_true z,decide_eq_true (by omega)]
  rw [e1];by_cases z:k ≠ pl s p
  ·rw [decide_eq_true z,Cq1,ZkJ hp,Zv];simp only [Bq0];rw [Zca hS hpl hk,Yz (Ka hpl hk)];simp only [Bq0];rw [QM,Zfy,Xp (by omega)];congr 2;refine ZdP fun j _ i hi=>?_
   by_cases e:j=p
   ·subst e;rw [Zv,Zv,ZtS hk z]
   ·rw [ZF e,ZF e,ZF e]
  ·have z:=Classical.not_not.1 z;rw [decide_eq_false (by simpa using z),Cq0,Xp (by omega)];congr 2;refine ZdP fun j _ i hi=>?_
   by_cases e:j=p
   ·subst e;rw [Zv,Zv,ZtT z]
   ·rw [ZF e,ZF e]
 ·exact he next
end
end
section
section
variable {s:Zc} {σ:TS} {F B p q:Nat} {die:Nat ->TS ->TS}
theorem Zig (hS:X7 s):mm s * mm s <=16:=Nat.mul_le_mul hS.mm.2.2 hS.mm.2.2
theorem ZlP (hS:X7 s):decide (((mm s:Nat):Int) < s.qG)=false:=by rw [hS.mm.1];exact YB _
theorem Zfz (hS:X7 s) {k:Nat} (hk:k < mm s):decide ((k:Int) < s.qG)=true:=by rw [hS.mm.1];exact Yf hk
theorem Zty (hF:100000 <=F) (hS:X7 s) (hp:p < nn s) (hw:Wf s B σ) (hB:B <=700000) (hk:Kn s σ) (h3:σ.st p=3) (hn:¬ inn s (p:Int) < 0 ->(p:Int) ∉ σ.kn (inn s (p:Int)).toNat) (U7:ZE×Int ->Option ZE) (nx:Int×List (List Int) ->Option ZE)
 (hx:¬ inn s (p:Int) < 0 ->(YN s p (W9 s σ p) σ).st (inn s (p:Int)).toNat=2 ->U7 (hal s (YN s p (W9 s σ p) σ),((inn s (p:Int)).toNat:Int))=some (hal s (die (inn s (p:Int)).toNat (YN s p (W9 s σ p) σ)))):
 ZiL F (p:Int) U7 (tab (nn s) σ.st) (tab (nn s) σ.kn) (tab (nn s) σ.wa) (tab (mm s) σ.be) (tab (mm s * mm s) (K6 σ)) σ.sd s.qG s.Zf σ.ev (pl s p:Int) ((mm s:Int),Zdn s σ.ma) nx=some (hal s (ZmT s die p σ)):=by
 have h16:=Zig hS;unfold ZiL;dsimp only;rw [ZlP hS,Cq0,Xg hp];simp only [Bq0];rw [Qu];unfold ZmT;by_cases h0:inn s (p:Int) < 0
 ·rw [decide_eq_true h0,Cq1,if_pos h0];rfl
 ·rw [decide_eq_false h0,Cq0,if_neg h0];obtain⟨eq,hq⟩:=QS hS hp h0;have hn:=hn h0;have hx:=hx h0;obtain⟨q,hqe⟩:∃ q,q= (inn s (p:Int)).toNat:= ⟨_,rfl⟩
  rw [← hqe] at eq hq hn hx ⊢;rw [eq,show Zdn s σ.ma=tab (nn s) fun p=>tab (mm s * mm s) (σ.ma p) from rfl,Zl2,U0 hS hq];simp only [Bq0];rw [ZeX,Yz hp];simp only [Bq0];by_cases e:pl s q=pl s p
  ·rw [decide_eq_true e,Cq1,if_pos e,Yz hq];simp only [Bq0];have hl:=hk.len hS hq;rw [Zkw (by omega) (by omega) (hk.srt q hq) hn];simp only [Bq0,Bool.not_false,Cq1];rw [insert_eq (by omega)];simp only [Bq0];rw [QM];unfold ZiJ;rw [Qu,eq,Yz hq];simp only [Bq0];rw [ZeH (by omega) (by omega) Qt];simp only [Bq0];rw [Yz hq];simp only [Bq0]
   have e3:Xa (tab (nn s) fun p=>tab (mm s * mm s) (σ.ma p)) (q:Int) (tab (mm s * mm s) (mx (σ.ma q) (tab (mm s * mm s) (σ.ma p))))=tab (nn s) fun j=>tab (mm s * mm s) ((YN s p (W9 s σ p) σ).ma j):=by
    have:=Zfy (s:=s) (p:=q) (f:=σ.ma) (g:=mx (σ.ma q) (tab (mm s * mm s) (σ.ma p)));unfold Zdn at this;rw [this];show _=tab (nn s) fun j=>tab (mm s * mm s) (Z9 σ.ma (inn s (p:Int)).toNat _ j)
    rw [← hqe];rfl
   have e4:tab (nn s) (Z9 σ.kn q (ins (p:Int) (σ.kn q)))=tab (nn s) (YN s p (W9 s σ p) σ).kn:=by
    show _=tab (nn s) (Z9 σ.kn (inn s (p:Int)).toNat _);rw [← hqe]
   rw [e3,e4];have e5:ZE.mk (Zm.mk (tab (nn s) σ.st) (tab (nn s) fun j=>tab (mm s * mm s) ((YN s p (W9 s σ p) σ).ma j)) (tab (nn s) (YN s p (W9 s σ p) σ).kn) (tab (nn s) σ.wa) (tab (mm s) σ.be) (tab (mm s * mm s) (K6 σ)) σ.sd) (Zc.mk s.qG s.Zf) σ.ev=hal s (YN s p (W9 s σ p) σ):=rfl;rw [e5];have hk3:=Wl hS hk hp h0 h3 (by rw [← hqe];exact hn) (W9 s σ p);rw [YP];unfold Zar;rw [← hqe];have e6:(YN s p (W9 s σ p) σ).st q=σ.st q:=rfl;by_cases h2:σ.st q=2
   ·rw [decide_eq_true h2,XV,Zea (by omega) hS hq (by have:=hk3.len hS hq;omega)];by_cases hA:Alo s (YN s p (W9 s σ p) σ) q
    ·rw [ZR hA];simp only [Bq0,Bool.and_self,Cq1];rw [hx (by rw [e6];exact h2),ZR ⟨by rw [e6];exact h2,hA⟩];rfl
    ·rw [ZG hA];simp only [Bq0,Bool.and_false,Cq0];rw [ZG fun z=>hA z.2]
     rfl
   ·rw [decide_eq_false h2,UR];simp only [Bq0,Bool.false_and,Cq0];rw [ZG fun z=>h2 (by rw [← e6];exact z.1)]
    rfl
  ·rw [decide_eq_false e,Cq0,if_neg e];unfold ZgE;rw [show app 8 ([]:List Int) (tab (mm s * mm s) (σ.ma p))=some (W9 s σ p) from Zn2 hS hp];simp only [Bq0];rw [ZaC hS (hw.few (by omega)) (hS.pl hp).2 (hS.pl hq).2];rfl
theorem ZoV (hF:1000000 <=F) (hS:X7 s):∀ (d p:Nat) (σ:TS) (F':Nat),d < F' ->p < nn s ->up s d (p:Int) < 0 ->Wf s B σ ->B <=700000 ->Kn s σ ->σ.st p ≠ 3 ->loop F' (ZkV F) (hal s σ,(p:Int))=some (hal s (Zjl s d p σ)):=by
 intro d
 induction d generalizing B with
 | zero=>intro p σ F' _ _ hu _ _ _ _;exact absurd hu (by show ¬ ((p:Int)) < 0;omega)
 | succ d ih=>
   intro p σ F' hd hp hu hw hB hk h3;cases F' with
   | zero=>omega
   | succ F'=>
     obtain⟨b1,w0,b2⟩:=Zlp hw hp h3;have wA:=ZrT hS hw hp h3;have kA:=Zsw hk p;have sA:=QV (s:=s) p σ;have w1:=hw.st hp (3:Int) (B':=B) (by rw [show sw (3:Int)=0 from rfl];omega);have sB:=Zcx (s:=s) p (σ.wa p) (JW p σ);rw [UA];unfold ZkV;dsimp only;rw [show(hal s σ).Za.qV=tab (nn s) σ.st from rfl,Yz hp];simp only [Bq0];rw [QM,show ZE.mk (Zm.mk (tab (nn s) (Z9 σ.st p 3)) (hal s σ).Za.qX (hal s σ).Za.qZ (hal s σ).Za.Zp (hal s σ).Za.Zw (hal s σ).Za.kQ (hal s σ).Za.kK) (hal s σ).qK (hal s σ).kU=hal s {σ with st:=Z9 σ.st p 3} from rfl,Kv (w1.few (by omega))];simp only [Bq0];rw [show(hal s (tell 6 (p:Int) 0 0 {σ with st:=Z9 σ.st p 3})).Za.Zp=tab (nn s) σ.wa from rfl,Yz hp];simp only [Bq0];rw [QM];refine YZ (fun k=>((k:Int),tab (nn s) (Zw s p ((σ.wa p).take k) (JW p σ)).st,(tab (nn s) fun j=>tab (mm s * mm s) ((Zw s p ((σ.wa p).take k) (JW p σ)).ma j)),tab (nn s) (Zw s p ((σ.wa p).take k) (JW p σ)).kn,tab (nn s) (Zw s p ((σ.wa p).take k) (JW p σ)).wa,tab (mm s) (Zw s p ((σ.wa p).take k) (JW p σ)).be,tab (mm s * mm s) (K6 (Zw s p ((σ.wa p).take k) (JW p σ))),(Zw s p ((σ.wa p).take k) (JW p σ)).sd,s.qG,s.Zf,(Zw s p ((σ.wa p).take k) (JW p σ)).ev)) rfl (n:= (σ.wa p).length) (by omega) (fun k hk' next=>?_) (fun next=>?_)
     ·unfold Zmk;dsimp only;rw [Yf hk',Cq1,Xe 0 hk'];simp only [Bq0];obtain⟨j,ej,hj⟩:=hw.ws p hp _ (XT (d:=0) hk');have wk:=ZhB hS hp ((σ.wa p).take k) _ _ w0 (fun x hx=>hw.ws p hp x (List.mem_of_mem_take hx));have hlen:((σ.wa p).take k).length <= (σ.wa p).length:=by rw [List.length_take];omega
      rw [Zl2,ej,Zlc hS (wk.few (by omega)) hj hp];simp only [Bq0];rw [Zrm p k _ hk',ej,Int.toNat_natCast,Xp (by omega)];rfl
     ·unfold Zmk;dsimp only;rw [YB,Cq0,List.take_length,Zl2,U0 hS hp];simp only [Bq0];have wB:=ZhB hS hp (σ.wa p) _ _ w0 (hw.ws p hp);refine Zqg (by omega) hS wB (by omega) hp (fun v k hk' next=>?_) (fun next=>?_)
      ·unfold ZiL ZiK;dsimp only;rw [Zfz hS hk',Cq1];by_cases z:k=pl s p
       ·subst z;rw [show(((pl s p:Nat):Int) != ((pl s p:Nat):Int))=false by simp,Cq0,Cq0]
       ·have:(((k:Int)) != ((pl s p:Int)))=true:=by rw [Ko];exact decide_eq_true (by omega)
        rw [this,Cq1,Cq1,Zca hS (hS.pl hp).2 hk',Yz (Ka (hS.pl hp).2 hk')];simp only [Bq0];rw [Zwi wB (by omega) (Ka (hS.pl hp).2 hk')]
      ·have hpA:(Yn s p σ).st p=3:=by rw [sA.1,Zv]
       have hnot:¬ inn s (p:Int) < 0 ->(p:Int) ∉ (Yn s p σ).kn (inn s (p:Int)).toNat:=fun h0 hm=>by
        obtain⟨eq,hq⟩:=QS hS hp h0;rw [sA.2.1] at hm;obtain⟨k,e1,e2,e3,e4⟩:=hk.rng _ hq _ hm;have:k=p:=by omega
        subst this;exact h3 e4
       have ht:=Zty (F:=F) (die:=Zjl s d) (by omega) hS hp wA (by omega) kA hpA hnot (fun x=>loop F' (ZkV F) x) next fun h0 h2=>by
        obtain⟨eq,hq⟩:=QS hS hp h0;refine ih (B:=B - 1) _ _ F' (by omega) hq ?_ ((ZaA wA).up (Nat.le_refl _)) (by omega) (Wl hS kA hp h0 hpA (hnot h0) _) (by rw [h2];decide);rw [← eq];have hu:(if((p:Int)) < 0 then(p:Int) else up s d (inn s (p:Int))) < 0:=hu
        rwa [if_neg (by omega)] at hu
       exact ht
end
end
section
theorem ZBb {α:Type} {l:List α} {c:Nat} (h:c <=l.length):slL l 0 (c:Int)=some (l.take c):=by
 unfold slL;rw [decide_eq_true (show(0:Int) <=0 by omega),decide_eq_true (show(0:Int) <= (c:Int) by omega),decide_eq_true (show(c:Int) <= (l.length:Int) by omega)];simp
theorem ZrW {α:Type} {l:List α} {c:Nat} (h:c <=l.length):slL l (c:Int) (l.length:Int)=some (l.drop c):=by
 unfold slL;rw [decide_eq_true (show(0:Int) <= (c:Int) by omega),decide_eq_true (show(c:Int) <= (l.length:Int) by omega),decide_eq_true (show(l.length:Int) <= (l.length:Int) by omega)];simp
section
variable {s:Zc} {σ:TS} {F B p q:Nat} {die:Nat ->TS ->TS}
end
end
section
noncomputable section
variable (s:Zc)
def Uf (p:Nat) (σ:TS):TS:= {σ with st:=Z9 σ.st p 2,ev:=σ.ev ++ [⟨5,(p:Int),0,0⟩]}
def ZgB (fall:Nat ->TS ->TS) (p:Nat) (σ:TS) (k:Nat):TS:=
 if pl s k=pl s p then(if σ.st k=1 then fall k σ else σ)
 else if(k:Int) ∈ σ.kn p then σ else send s (pl s p) (pl s k) ⟨3,(k:Int),0,0,[]⟩ σ
def Zmh (p:Nat) (σ:TS):TS:=ifc (σ.st p=2∧Alo s σ p) (Zjl s (nn s) p σ) σ
def Zn8 (p k:Nat):List Nat:= (List.range k).filter fun q:Nat=>inn s (q:Int)== (p:Int)
def fk (fall:Nat ->TS ->TS) (p k:Nat) (σ:TS):TS:= (Zn8 s p k).foldl (ZgB s fall p) σ
def JP:Nat ->Nat ->TS ->TS
 | 0,_,σ=>σ
 | d + 1,p,σ=>Zmh s p (fk s (JP d) p (nn s) (Uf p σ))
end
section
variable {s:Zc} {σ:TS} {F B p q d:Nat} {fall:Nat ->TS ->TS}
theorem ZcV (p k:Nat):Zn8 s p (k + 1)=Zn8 s p k ++ (if inn s (k:Int)= (p:Int) then [k] else []):=by
 unfold Zn8;rw [List.range_succ,List.filter_append,List.filter_cons,List.filter_nil,YP];by_cases h:inn s (k:Int)= (p:Int) <;> simp [h]
theorem Zir (p k:Nat):(Zn8 s p k).length <=k:=by
 unfold Zn8;have:=List.length_filter_le (fun q:Nat=>inn s (q:Int)== (p:Int)) (List.range k)
 rwa [List.length_range] at this
theorem Zza {k:Nat} (h:inn s (k:Int)= (p:Int)):fk s fall p (k + 1) σ=ZgB s fall p (fk s fall p k σ) k:=by
 unfold fk;rw [ZcV,if_pos h,List.foldl_append];rfl
theorem ZEG {k:Nat} (h:inn s (k:Int) ≠ (p:Int)):fk s fall p (k + 1) σ=fk s fall p k σ:=by
 unfold fk;rw [ZcV,if_neg h,List.append_nil]
structure Gd (s:Zc) (B:Nat) (σ:TS):Prop where
 wf:Wf s B σ
 kn:Kn s σ
theorem Gd.up (h:Gd s B σ) {B':Nat} (hb:B <=B'):Gd s B' σ:= ⟨h.wf.up hb,h.kn⟩
theorem ZMs (h:Kn s σ) {v:Int} (h3:σ.st p ≠ 3) {e:List Zd}:Kn s {σ with st:=Z9 σ.st p v,ev:=e}:=by
 refine⟨h.srt,fun q hq x hx=>?_⟩;obtain⟨k,h1,h2,h4,h5⟩:=h.rng q hq x hx;refine⟨k,h1,h2,h4,?_⟩;show Z9 σ.st p v k=3;rw [ZF (fun z=>by subst z;exact h3 h5)];exact h5
theorem Zsv (h:Kn s σ) (a b:Nat) (x:Ze):Kn s (send s a b x σ):= ⟨h.srt,h.rng⟩
theorem Zoo (h:Gd s B σ) (hp:p < nn s) (h1:σ.st p=1):11 <=B∧Gd s (B - 8) (Uf p σ):=by
 have hb:=h.wf.pot
 have h11:11 <=Pot s σ:=by
  have:=UK (f:=fun p=>sw (σ.st p)) hp;have e:sw (σ.st p)=11:=by rw [h1];rfl
  unfold Pot;omega
 have w1:=h.wf.st hp (2:Int) (B':=B - 9) (by rw [h1];show B + 2 <=B - 9 + 11;omega);exact⟨by omega,(w1.tell 5 (p:Int) 0 0).up (by omega),ZMs h.kn (by rw [h1];decide)⟩
theorem ZvX (hp:p < nn s) (hu:up s (d + 1) (p:Int) < 0):up s d (inn s (p:Int)) < 0:=by
 have hu:(if((p:Int)) < 0 then(p:Int) else up s d (inn s (p:Int))) < 0:=hu
 rwa [if_neg (by omega)] at hu
theorem ZzI (hS:X7 s):∀ (d p:Nat) (σ:TS) (B:Nat),p < nn s ->up s d (p:Int) < 0 ->Gd s B σ ->σ.st p ≠ 3 ->Gd s B (Zjl s d p σ):=by
 intro d
 induction d with
 | zero=>intro p σ B hp hu _ _;exact absurd hu (by show ¬ ((p:Int)) < 0;omega)
 | succ d ih=>
   intro p σ B hp hu h h3;have wA:=ZrT hS h.wf hp h3;have kA:=Zsw h.kn p;have sA:=QV (s:=s) p σ;have b1:= (Zlp h.wf hp h3).1;have hpA:(Yn s p σ).st p=3:=by rw [sA.1,Zv]
   show Gd s B (ZmT s (Zjl s d) p (Yn s p σ));unfold ZmT;by_cases h0:inn s (p:Int) < 0
   ·rw [if_pos h0];exact⟨wA.up (by omega),kA⟩
   ·rw [if_neg h0];obtain⟨eq,hq⟩:=QS hS hp h0
    have hnot:(p:Int) ∉ (Yn s p σ).kn (inn s (p:Int)).toNat:=fun hm=>by
     rw [sA.2.1] at hm;obtain⟨k,e1,e2,e3,e4⟩:=h.kn.rng _ hq _ hm;have:k=p:=by omega
     subst this;exact h3 e4
    have k3:=Wl hS kA hp h0 hpA hnot (W9 s (Yn s p σ) p);by_cases e:pl s (inn s (p:Int)).toNat=pl s p
    ·rw [if_pos e];unfold Zar;by_cases c:(YN s p (W9 s (Yn s p σ) p) (Yn s p σ)).st (inn s (p:Int)).toNat=2∧Alo s (YN s p (W9 s (Yn s p σ) p) (Yn s p σ)) (inn s (p:Int)).toNat
     ·rw [ZR c];refine(ih _ _ (B - 1) hq ?_ ⟨ZaA wA,k3⟩ (by rw [c.1];decide)).up (by omega);rw [← eq];exact ZvX hp hu
     ·rw [ZG c];exact⟨(ZaA wA).up (by omega),k3⟩
    ·rw [if_neg e];exact⟨(wA.send (hS.pl hp).2 (hS.pl hq).2 _).up (by show B - 1 + 1 + 0 <=B;omega),Zsv kA _ _ _⟩
theorem ZBa (hS:X7 s) (ih:∀ (k:Nat) (σ:TS) (B:Nat),k < nn s ->ZbO s d k ->Gd s B σ ->σ.st k=1 ->Gd s B (fall k σ)) {k:Nat} (hk:k < nn s) (hp:p < nn s) (hs:ZbO s d k) (h:Gd s B σ):Gd s (B + 1) (ZgB s fall p σ k):=by
 unfold ZgB;by_cases e:pl s k=pl s p
 ·rw [if_pos e];by_cases e1:σ.st k=1
  ·rw [if_pos e1];exact(ih k σ B hk hs h e1).up (by omega)
  ·rw [if_neg e1];exact h.up (by omega)
 ·rw [if_neg e];by_cases e1:(k:Int) ∈ σ.kn p
  ·rw [if_pos e1];exact h.up (by omega)
  ·rw [if_neg e1];exact⟨(h.wf.send (hS.pl hp).2 (hS.pl hk).2 _).up (by show B + 1 + 0 <=B + 1;omega),Zsv h.kn _ _ _⟩
theorem ZEH (hS:X7 s) (ih:∀ (k:Nat) (σ:TS) (B:Nat),k < nn s ->ZbO s d k ->Gd s B σ ->σ.st k=1 ->Gd s B (fall k σ)) (hp:p < nn s) (hs:ZbO s (d + 1) p) (h:Gd s B σ):∀ k,k <=nn s ->Gd s (B + (Zn8 s p k).length) (fk s fall p k σ):=by
 intro k
 induction k with
 | zero=>intro _;exact h
 | succ k ihk=>
   intro hk;have h1:=ihk (by omega);by_cases e:inn s (k:Int)= (p:Int)
   ·rw [Zza e,ZcV,if_pos e,List.length_append,List.length_singleton];exact ZBa hS ih (by omega) hp (hs.kid e) h1
   ·rw [ZEG e,ZcV,if_neg e,List.append_nil];exact h1
theorem ZcH (hS:X7 s) (hp:p < nn s):up s (nn s) (p:Int) < 0:=hS.inn.acy p hp
theorem Zmi (hS:X7 s):∀ (d p:Nat) (σ:TS) (B:Nat),p < nn s ->ZbO s d p ->Gd s B σ ->σ.st p=1 ->Gd s B (JP s d p σ):=by
 intro d
 induction d with
 | zero=>intro p σ B hp hs _ _;exact absurd rfl (hs p hp 0 (Nat.le_refl _))
 | succ d ih=>
   intro p σ B hp hs h h1;obtain⟨b,g0⟩:=Zoo h hp h1;have g1:=ZEH hS ih hp hs g0 (nn s) (Nat.le_refl _);have hl:=Zir (s:=s) p (nn s);have h8:nn s <=8:=hS.p2;have g2:=g1.up (B':=B) (by omega);show Gd s B (Zmh s p (fk s (JP s d) p (nn s) (Uf p σ)));unfold Zmh;by_cases c:(fk s (JP s d) p (nn s) (Uf p σ)).st p=2∧Alo s (fk s (JP s d) p (nn s) (Uf p σ)) p
   ·rw [ZR c];exact ZzI hS _ _ _ _ hp (ZcH hS hp) g2 (by rw [c.1];decide)
   ·rw [ZG c];exact g2
def WJ (s:Zc) (σ:TS):List Int×List (List Int)×List (List Int)×List (List Int)×List (List Ze)×List Zo×Int×Int×List ZU×List Zd:=
 (tab (nn s) σ.st,(tab (nn s) fun j=>tab (mm s * mm s) (σ.ma j)),tab (nn s) σ.kn,tab (nn s) σ.wa,tab (mm s) σ.be,tab (mm s * mm s) (K6 σ),σ.sd,s.qG,s.Zf,σ.ev)
theorem Zui (hF:1000000 <=F) (hS:X7 s) (hp:p < nn s) (h:Gd s B σ) (hB:B <=700000):Zd1 F (p:Int) (WJ s σ)=some (hal s (Zmh s p σ)):=by
 unfold Zd1 WJ;dsimp only;rw [Yz hp];simp only [Bq0];rw [YP,Zl2];unfold Zmh;by_cases h2:σ.st p=2
 ·rw [decide_eq_true h2,XV,Zea (by omega) hS hp (by have:=h.kn.len hS hp;omega)];by_cases hA:Alo s σ p
  ·rw [ZR hA,ZR ⟨h2,hA⟩];simp only [Bq0,Bool.and_self,Cq1];unfold Zze;have h8:nn s <=8:=hS.p2;rw [ZoV hF hS _ _ _ F (by omega) hp (ZcH hS hp) h.wf hB h.kn (by rw [h2];decide)];rfl
  ·rw [ZG hA,ZG fun z=>hA z.2];simp only [Bq0,Bool.and_false,Cq0]
 ·rw [decide_eq_false h2,UR,ZG fun z=>h2 z.1];simp only [Bq0,Bool.false_and,Cq0]
theorem Zhc (k:Int) (nx:Int×List Int×List (List Int)×List (List Int)×List (List Int)×List (List Ze)×List Zo×Int×Int×List ZU×List Zd ->Option ZE):Zd0 F (p:Int) k nx (WJ s σ)=nx (Yy (k + 1),WJ s σ):=rfl
theorem ZkT (hF:1000000 <=F) (hS:X7 s):∀ (d p:Nat) (σ:TS) (F' B:Nat),d < F' ->p < nn s ->ZbO s d p ->Gd s B σ ->B <=700000 ->σ.st p=1 ->loop F' (ZkW F) (hal s σ,(p:Int))=some (hal s (JP s d p σ)):=by
 intro d
 induction d with
 | zero=>intro p σ F' B _ hp hs _ _ _;exact absurd rfl (hs p hp 0 (Nat.le_refl _))
 | succ d ih=>
   intro p σ F' B hd hp hs h hB h1;cases F' with
   | zero=>omega
   | succ F'=>
     obtain⟨b,g0⟩:=Zoo h hp h1;have gk:=ZEH hS (fun k σ B hk hs h e=>Zmi hS d k σ B hk hs h e) hp hs g0;have h8:nn s <=8:=hS.p2;have w1:=h.wf.st hp (2:Int) (B':=B) (by rw [h1];show B + 2 <=B + 11;omega);rw [UA];generalize hnx:loop F' (ZkW F)=nx;unfold ZkW Zmt;dsimp only;rw [show(hal s σ).Za.qV=tab (nn s) σ.st from rfl,Yz hp];simp only [Bq0];rw [QM,show ZE.mk (Zm.mk (tab (nn s) (Z9 σ.st p 2)) (hal s σ).Za.qX (hal s σ).Za.qZ (hal s σ).Za.Zp (hal s σ).Za.Zw (hal s σ).Za.kQ (hal s σ).Za.kK) (hal s σ).qK (hal s σ).kU=hal s {σ with st:=Z9 σ.st p 2} from rfl,Kv (w1.few (by omega))];simp only [Bq0];refine YZ (fun k=>((k:Int),WJ s (fk s (JP s d) p k (Uf p σ)))) rfl (n:=nn s) (by omega) (fun k hk next=>?_) (fun next=>?_)
     ·have gk':=gk k (by omega);have hl:=Zir (s:=s) p k;have hB':B - 8 + (Zn8 s p k).length <=700000:=by omega
      obtain⟨σk,hσ⟩:∃ σk,σk=fk s (JP s d) p k (Uf p σ):= ⟨_,rfl⟩
      rw [← hσ] at gk' ⊢;have fw:=gk'.wf.few (by omega);unfold ZiU;rw [show(WJ s σk)= (tab (nn s) σk.st,(tab (nn s) fun j=>tab (mm s * mm s) (σk.ma j)),tab (nn s) σk.kn,tab (nn s) σk.wa,tab (mm s) σk.be,tab (mm s * mm s) (K6 σk),σk.sd,s.qG,s.Zf,σk.ev) from rfl];dsimp only;rw [show(hal s (tell 5 (p:Int) 0 0 {σ with st:=Z9 σ.st p 2})).qK.Zf=s.Zf from rfl,show((s.Zf.length:Nat):Int)= ((nn s:Nat):Int) from rfl,Yf hk,Cq1,Xg hk];simp only [Bq0];rw [Qu,YP];by_cases e:inn s (k:Int)= (p:Int)
      ·rw [decide_eq_true e,Cq1,Zl2,U0 hS hk,U0 hS hp];simp only [Bq0];rw [Zza e,← hσ,ZeX];unfold ZgB;by_cases e1:pl s k=pl s p
       ·rw [decide_eq_true e1,Cq1,if_pos e1,Yz hk];simp only [Bq0];rw [YP];by_cases e2:σk.st k=1
        ·rw [decide_eq_true e2,Cq1,if_pos e2,← hnx,ih k σk F' _ (by omega) hk (hs.kid e) gk' hB' e2];simp only [Bq0];exact(Zhc (s:=s) (σ:=JP s d k σk) (F:=F) (p:=p) (k:Int) next).trans (by rw [Xp (by omega)])
        ·rw [decide_eq_false e2,Cq0,if_neg e2];exact(Zhc (s:=s) (σ:=σk) (F:=F) (p:=p) (k:Int) next).trans (by rw [Xp (by omega)])
       ·rw [decide_eq_false e1,Cq0,if_neg e1,Yz hp];simp only [Bq0];rw [contains_eq (by omega) (by have:=gk'.kn.len hS hp;omega)];simp only [Bq0];by_cases e2:(k:Int) ∈ σk.kn p
        ·rw [decide_eq_true e2,Bool.not_true,Cq0,if_pos e2];exact(Zhc (s:=s) (σ:=σk) (F:=F) (p:=p) (k:Int) next).trans (by rw [Xp (by omega)])
        ·rw [decide_eq_false e2,Bool.not_false,Cq1,if_neg e2];rw [ZaC hS fw (hS.pl hp).2 (hS.pl hk).2];simp only [Bq0];exact(Zhc (s:=s) (σ:=send s (pl s p) (pl s k) ⟨3,(k:Int),0,0,[]⟩ σk) (F:=F) (p:=p) (k:Int) next).trans (by rw [Xp (by omega)])
      ·rw [decide_eq_false e,Cq0,ZEG e,← hσ,Xp (by omega)]
       rfl
     ·have gk':=gk (nn s) (Nat.le_refl _);have hl:=Zir (s:=s) p (nn s);refine(?_:ZiU F (p:Int) _ _ _ next=Zd1 F (p:Int) (WJ s (fk s (JP s d) p (nn s) (Uf p σ)))).trans (Zui hF hS hp gk' (by omega));unfold ZiU WJ;dsimp only;rw [show(hal s (tell 5 (p:Int) 0 0 {σ with st:=Z9 σ.st p 2})).qK.Zf=s.Zf from rfl,show((s.Zf.length:Nat):Int)= ((nn s:Nat):Int) from rfl,YB,Cq0]
end
end
section
section
variable {s:Zc} {σ:TS} {F B p q d:Nat} {fall:Nat ->TS ->TS}
end
end
section
def drop1 (i:Nat) (σ:TS):TS:= {σ with ld:=Z9 σ.ld i (σ.ld i + 1)}
noncomputable def ZdS (s:Zc) (k:Nat) (l:List Int) (σ:TS):TS:=Zar s (Zjl s (nn s)) k l σ
noncomputable def ZkL (s:Zc) (b:Nat) (x:Ze) (σ:TS):TS:=
 if x.kW=1 then see x.kX.toNat x.kV.toNat x.n σ
 else if x.kW=2 then note s x.kV.toNat x.kX.toNat σ
 else if x.kW=3 then(if σ.st x.kV.toNat=1 then JP s (nn s) x.kV.toNat σ else σ)
 else if x.kW=4 then ZdS s x.kV.toNat x.qX σ
 else wait b x σ
def hd (σ:TS) (i:Nat):Ze:= (σ.sn i).getD (σ.ld i) default
noncomputable def ZgA (s:Zc) (a b:Nat) (σ:TS):TS:=ZkL s b (hd σ (li s a b)) (drop1 (li s a b) σ)
def ZAu (s:Zc) (b:Nat) (x:Ze):Prop:=∃ p:Nat,x.kV= (p:Int)∧p < nn s∧
 ((x.kW=1∧∃ q:Nat,x.kX= (q:Int)∧q < nn s)∨(x.kW=2∧∃ q:Nat,x.kX= (q:Int)∧q < nn s)∨x.kW=3∨(x.kW=4∧0 <=inn s (p:Int)∧x.qX.length=mm s * mm s)∨(x.kW=5∧pl s p=b∧x.qX.length=mm s * mm s∧∃ q:Nat,x.kX= (q:Int)∧q < nn s))
def Zvf (s:Zc) (x:Ze) (σ:TS):Prop:=x.kW=4 ->σ.st x.kV.toNat=3∧x.kV ∉ σ.kn (inn s x.kV).toNat
section
variable {s:Zc} {σ:TS} {F B a b p q:Nat} {x:Ze} {l:List Int}
theorem Zme (h:σ.ld p < (σ.sn p).length):fl σ p=hd σ p::(σ.sn p).drop (σ.ld p + 1):=by
 unfold fl hd;rw [List.drop_eq_getElem_cons h,Zch h]
theorem Zw4 (hp:p < mm s * mm s) (h:σ.ld p < (σ.sn p).length):Pot s (drop1 p σ) + ew (hd σ p)=Pot s σ:=by
 have e:=ZbU (f:=lw σ) (g:=lw (drop1 p σ)) hp fun j _ hj=>by
  unfold lw fl;show _ + (((σ.sn j).drop (Z9 σ.ld p _ j)).map ew).sum=_;rw [ZF hj];rfl
 have e1:lw (drop1 p σ) p + ew (hd σ p)=lw σ p:=by
  show(σ.sn p).length + (((σ.sn p).drop (Z9 σ.ld p _ p)).map ew).sum + _= (σ.sn p).length + ((fl σ p).map ew).sum;rw [Zv,Zme h,List.map_cons,List.sum_cons];omega
 show σ.ev.length + Qq (mm s * mm s) (lw (drop1 p σ)) + Qq (mm s) (fun m=>(σ.be m).length) + Qq (nn s) (fun q=>2 * (σ.wa q).length) + Qq (nn s) (fun p=>sw (σ.st p)) + _=_;unfold Pot;omega
theorem ZsQ (h:Gd s B σ) (hp:p < mm s * mm s) (hl:σ.ld p < (σ.sn p).length):ew (hd σ p) <=B∧Gd s (B - ew (hd σ p)) (drop1 p σ):=by
 have:=Zw4 (s:=s) hp hl;have:=h.wf.pot;refine⟨by omega,⟨by omega,fun i hi=>?_,h.wf.ws⟩,⟨h.kn.srt,h.kn.rng⟩⟩;show Z9 σ.ld p _ i <=_;by_cases e:i=p
 ·subst e;rw [Zv];exact hl
 ·rw [ZF e];exact h.wf.ld i hi
theorem Zxy (hS:X7 s) (h:Gd s B σ) (hp:p < nn s) (h0:¬ inn s (p:Int) < 0) (h3:σ.st p=3) (hn:(p:Int) ∉ σ.kn (inn s (p:Int)).toNat):Gd s B (ZdS s p l σ):=by
 obtain⟨eq,hq⟩:=QS hS hp h0;have k3:=Wl hS h.kn hp h0 h3 hn l;unfold ZdS Zar;by_cases c:(YN s p l σ).st (inn s (p:Int)).toNat=2∧Alo s (YN s p l σ) (inn s (p:Int)).toNat
 ·rw [ZR c];exact ZzI hS _ _ _ _ hq (ZcH hS hq) ⟨ZaA h.wf,k3⟩ (by rw [c.1];decide)
 ·rw [ZG c];exact⟨ZaA h.wf,k3⟩
theorem Zwk (h:Gd s B σ) (p q:Nat) (n:Int):Gd s (B + 1) (see p q n σ):=by
 refine⟨h.wf.see p q n,?_⟩;unfold see;split <;> exact⟨h.kn.srt,h.kn.rng⟩
theorem ZDc (hS:X7 s) (h:Gd s B σ) (hp:p < nn s) (hq:q < nn s):Gd s (B + 2) (Xk s p q σ):=by
 have e:=Zc8 (s:=s) p q σ;exact⟨h.wf.Xk hS hp hq,⟨fun j hj=>by rw [e.2.1];exact h.kn.srt j hj,fun j hj y hy=>by rw [e.2.1] at hy;rw [e.1];exact h.kn.rng j hj y hy⟩⟩
theorem Zsm (hS:X7 s) (h:Gd s B σ) (hp:p < nn s) (hq:q < nn s):Gd s (B + 2) (note s p q σ):=by
 refine⟨h.wf.note hS hp hq,?_⟩;unfold note;split
 ·exact(ZDc hS h hp hq).kn
 ·exact⟨h.kn.srt,h.kn.rng⟩
theorem ZAX (h:Gd s B σ) (ha:a < mm s) (x:Ze):Gd s (B + 1) (wait a x σ):= ⟨h.wf.wait ha x,⟨h.kn.srt,h.kn.rng⟩⟩
theorem Zim (hp:x.kV= (p:Int)) (hd:Zvf s x σ) (h4:x.kW=4):σ.st p=3∧(p:Int) ∉ σ.kn (inn s (p:Int)).toNat:=by
 have:=hd h4;rw [hp,Int.toNat_natCast] at this;exact this
theorem ZxA (hS:X7 s) (h:Gd s B σ) (hb:b < mm s) (hx:ZAu s b x) (hd:Zvf s x σ):Gd s (B + ew x) (ZkL s b x σ):=by
 obtain⟨p,hp,hpn,c⟩:=hx;unfold ZkL;rw [hp,Int.toNat_natCast];rcases c with⟨k,q,hq,KS⟩ | ⟨k,q,hq,KS⟩ | k | ⟨k,h0,hl⟩ | ⟨k,e,hl,q,hq,KS⟩
 ·rw [if_pos k,hq,Int.toNat_natCast];exact(Zwk h q p x.n).up (by unfold ew;rw [if_pos k];omega)
 ·rw [if_neg (by omega),if_pos k,hq,Int.toNat_natCast];exact(Zsm hS h hpn KS).up (by unfold ew;rw [if_neg (by omega),if_pos k];omega)
 ·rw [if_neg (by omega),if_neg (by omega),if_pos k];split
  ·exact(Zmi hS _ _ _ _ hpn (ZbO.all hS.inn) h (by assumption)).up (by omega)
  ·exact h.up (by omega)
 ·rw [if_neg (by omega),if_neg (by omega),if_neg (by omega),if_pos k];have:=Zim hp hd k;exact(Zxy hS h hpn (by omega) this.1 this.2).up (by omega)
 ·rw [if_neg (by omega),if_neg (by omega),if_neg (by omega),if_neg (by omega)];exact(ZAX h hb x).up (by unfold ew;rw [if_neg (by omega),if_neg (by omega),if_pos k];omega)
theorem Zn7 (hS:X7 s) (h:Gd s B σ) (ha:a < mm s) (hb:b < mm s) (hl:σ.ld (li s a b) < (σ.sn (li s a b)).length) (hx:ZAu s b (hd σ (li s a b))) (hd:Zvf s (hd σ (li s a b)) σ):Gd s B (ZgA s a b σ):=by
 obtain⟨h1,h2⟩:=ZsQ h (Ka ha hb) hl;exact(ZxA hS h2 hb hx hd).up (by omega)
theorem ZEV {xs ys:List Ze} (h:xs.length + ys.length <=1000000):app 56 xs ys=some (xs ++ ys):=Zrs h (by decide)
theorem Zqi (h:Gd s B σ) (hB:B <=700000) (hp:p < mm s * mm s) (hl:σ.ld p < (σ.sn p).length):
 Xa (Xa (tab (mm s * mm s) (K6 σ)) (p:Int) ⟨(K6 σ p).ZV,(fl σ p).drop 1⟩) (p:Int) ⟨Yy ((K6 σ p).ZV + 1),(fl σ p).drop 1⟩=tab (mm s * mm s) (K6 (drop1 p σ)):=by
 have hs:= (h.wf.few (by omega)).sn p hp;rw [QM,QM,Zua];refine Wd fun j hj=>?_
 by_cases e:j=p
 ·subst e;rw [Zv];show _= (⟨((Z9 σ.ld j _ j:Nat):Int),(σ.sn j).drop (Z9 σ.ld j _ j)⟩:Zo);rw [Zv,show(K6 σ j).ZV= (σ.ld j:Int) from rfl,Xp (by omega)];unfold fl;rw [List.drop_drop]
 ·rw [ZF e];show _= (⟨((Z9 σ.ld p _ j:Nat):Int),(σ.sn j).drop (Z9 σ.ld p _ j)⟩:Zo);rw [ZF e];rfl
theorem ZFF (hl:σ.ld p < (σ.sn p).length):ZO (K6 σ p).kG 0=some (hd σ p):=by
 show ZO (fl σ p) 0=_;rw [Zme hl];rfl
theorem ZFE (h:Gd s B σ) (hB:B <=700000) (hp:p < mm s * mm s) (hl:σ.ld p < (σ.sn p).length):slL (K6 σ p).kG 1 (((K6 σ p).kG.length:Nat):Int)=some ((fl σ p).drop 1)∧((fl σ p).drop 1).length <=800000:=by
 have hs:= (h.wf.few (by omega)).sn p hp;refine⟨?_,by unfold fl;rw [List.length_drop,List.length_drop];omega⟩;show slL (fl σ p) ((1:Nat):Int) (((fl σ p).length:Nat):Int)=_;exact ZrW (by unfold fl;rw [List.length_drop];omega)
theorem Zox (hF:1000000 <=F) (hS:X7 s) (h:Gd s B σ) (hB:B <=700000) (hp:p < nn s) (h0:¬ inn s (p:Int) < 0) (h3:σ.st p=3) (hn:(p:Int) ∉ σ.kn (inn s (p:Int)).toNat) (hx:x.kV= (p:Int)) (hm:x.qX.length=mm s * mm s):
 ZoF F (hal s σ) x=some (hal s (ZdS s p x.qX σ)):=by
 obtain⟨eq,hq⟩:=QS hS hp h0;have k3:=Wl hS h.kn hp h0 h3 hn x.qX;have w3:Wf s B (YN s p x.qX σ):=ZaA h.wf;have h16:=Zig hS;unfold ZoF;rw [hx];show(ZO s.Zf (p:Int)).bind _=_;rw [Xg hp];simp only [Bq0];obtain⟨q,hqe⟩:∃ q,q= (inn s (p:Int)).toNat:= ⟨_,rfl⟩
 rw [← hqe] at eq hq hn;rw [Qu,eq];have hl:=h.kn.len hS hq;rw [show(hal s σ).Za.qZ=tab (nn s) σ.kn from rfl,Yz hq];simp only [Bq0];rw [Zkw (by omega) (by omega) (h.kn.srt q hq) hn];simp only [Bq0,Bool.not_false,Cq1];rw [insert_eq (by omega)];simp only [Bq0];rw [QM];unfold ZeQ;rw [Qu,eq,show(hal s σ).Za.qX=Zdn s σ.ma from rfl,ZkJ hq];simp only [Bq0];rw [ZeH (by omega) (by omega) hm];simp only [Bq0]
 have e4:tab (nn s) (Z9 σ.kn q (ins (p:Int) (σ.kn q)))=tab (nn s) (YN s p x.qX σ).kn:=by
  show _=tab (nn s) (Z9 σ.kn (inn s (p:Int)).toNat _);rw [← hqe]
 have e3:Zdn s (Z9 σ.ma q (mx (σ.ma q) x.qX))=tab (nn s) fun j=>tab (mm s * mm s) ((YN s p x.qX σ).ma j):=by
  show _=tab (nn s) fun j=>tab (mm s * mm s) (Z9 σ.ma (inn s (p:Int)).toNat _ j)
  rw [← hqe];rfl
 rw [Zfy,e3,e4,show(hal s σ).Za.qV=tab (nn s) σ.st from rfl,Yz hq];simp only [Bq0];have e5:ZE.mk (Zm.mk (tab (nn s) σ.st) (tab (nn s) fun j=>tab (mm s * mm s) ((YN s p x.qX σ).ma j)) (tab (nn s) (YN s p x.qX σ).kn) (hal s σ).Za.Zp (hal s σ).Za.Zw (hal s σ).Za.kQ (hal s σ).Za.kK) (hal s σ).qK (hal s σ).kU=hal s (YN s p x.qX σ):=rfl;rw [e5,YP];unfold ZdS Zar;rw [← hqe];have e6:(YN s p x.qX σ).st q=σ.st q:=rfl;have h8:nn s <=8:=hS.p2;by_cases h2:σ.st q=2
 ·rw [decide_eq_true h2,XV,Zea (by omega) hS hq (by have:=k3.len hS hq;omega)];by_cases hA:Alo s (YN s p x.qX σ) q
  ·rw [ZR hA];simp only [Bq0,Bool.and_self,Cq1];unfold Zze;rw [ZoV hF hS _ _ _ F (by omega) hq (ZcH hS hq) w3 hB k3 (by rw [e6,h2];decide),ZR ⟨by rw [e6];exact h2,hA⟩];rfl
  ·rw [ZG hA];simp only [Bq0,Bool.and_false,Cq0];rw [ZG fun z=>hA z.2];rfl
 ·rw [decide_eq_false h2,UR];simp only [Bq0,Bool.false_and,Cq0];rw [ZG fun z=>h2 (by rw [← e6];exact z.1)];rfl
theorem Zt0 (hF:1000000 <=F) (hS:X7 s) (h:Gd s B σ) (hB:B <=600000) (ha:a < mm s) (hb:b < mm s) (hl:σ.ld (li s a b) < (σ.sn (li s a b)).length) (hx:ZAu s b (hd σ (li s a b))) (hd:Zvf s (hd σ (li s a b)) σ):Zzn F (hal s σ) (a:Int) (b:Int)=some (hal s (ZgA s a b σ)):=by
 have hi:=Ka ha hb;obtain⟨_,g'⟩:=ZsQ h hi hl;have fw:=g'.wf.few (by omega);obtain⟨t1,t2⟩:=ZFE h (by omega) hi hl;unfold Zzn;show(ZO (tab (mm s * mm s) (K6 σ)) (Yy (Yy ((a:Int) * s.qG) + (b:Int)))).bind _=_;rw [Zca hS ha hb,Yz hi];simp only [Bq0];rw [ZFF hl];simp only [Bq0];rw [t1];simp only [Bq0];unfold Zs4;rw [ZEV (by rw [List.length_nil];omega)];simp only [Bq0,List.nil_append]
 have el:∀ (β:Type) (f:List Zo ->β),f (Xa (Xa (hal s σ).Za.kQ (Yy ((Yy ((a:Int) * (hal s σ).qK.qG)) + (b:Int))) (Zo.mk (K6 σ (li s a b)).ZV ((fl σ (li s a b)).drop 1))) (Yy ((Yy ((a:Int) * (hal s σ).qK.qG)) + (b:Int))) (Zo.mk (Yy ((K6 σ (li s a b)).ZV + 1)) ((fl σ (li s a b)).drop 1)))=f (tab (mm s * mm s) (K6 (drop1 (li s a b) σ))):=fun β f=>by
  rw [show(hal s σ).qK.qG=s.qG from rfl,Zca hS ha hb,show(hal s σ).Za.kQ=tab (mm s * mm s) (K6 σ) from rfl,Zqi h (by omega) hi hl]
 have el:=el _ id;simp only [id] at el;rw [el];have e5:ZE.mk (Zm.mk (hal s σ).Za.qV (hal s σ).Za.qX (hal s σ).Za.qZ (hal s σ).Za.Zp (hal s σ).Za.Zw (tab (mm s * mm s) (K6 (drop1 (li s a b) σ))) (hal s σ).Za.kK) (hal s σ).qK (hal s σ).kU=hal s (drop1 (li s a b) σ):=rfl;rw [e5];unfold ZgA ZkL;obtain⟨y,hy⟩:∃ y,y=Proofs.YtcnahmgekicbdaaGreat.hd σ (li s a b):= ⟨_,rfl⟩
 rw [← hy] at hx hd ⊢;obtain⟨p,hp,hpn,c⟩:=hx;simp only [YP];rcases c with⟨k,q,hq,KS⟩ | ⟨k,q,hq,KS⟩ | k | ⟨k,h0,hm⟩ | ⟨k,e,hm,q,hq,KS⟩
 ·rw [decide_eq_true k,Cq1,if_pos k,ZnE fw hq KS,hp,hq,Int.toNat_natCast,Int.toNat_natCast]
  rfl
 ·rw [decide_eq_false (by omega),Cq0,decide_eq_true k,Cq1,if_neg (by omega),if_pos k,ZkI hS fw hp hq hpn KS,hp,hq,Int.toNat_natCast,Int.toNat_natCast]
  rfl
 ·rw [decide_eq_false (by omega),Cq0,decide_eq_false (by omega),Cq0,decide_eq_true k,Cq1,if_neg (by omega),if_neg (by omega),if_pos k,hp,Int.toNat_natCast];show(ZO (tab (nn s) σ.st) (p:Int)).bind _=_;rw [Yz hpn];simp only [Bq0];by_cases e:σ.st p=1
  ·rw [decide_eq_true e,Cq1,if_pos (show(drop1 (li s a b) σ).st p=1 from e)];unfold Zzp;have h8:nn s <=8:=hS.p2;rw [ZkT hF hS (nn s) _ _ F _ (by omega) hpn (ZbO.all hS.inn) g' (by omega) e];rfl
  ·rw [decide_eq_false e,Cq0,if_neg (show ¬ (drop1 (li s a b) σ).st p=1 from e)];rfl
 ·have hD:=Zim hp hd k;rw [decide_eq_false (by omega),Cq0,decide_eq_false (by omega),Cq0,decide_eq_false (by omega),Cq0,decide_eq_true k,Cq1,if_neg (by omega),if_neg (by omega),if_neg (by omega),if_pos k,Zox hF hS g' (by omega) hpn (by omega) hD.1 hD.2 hp hm,hp,Int.toNat_natCast];rfl
 ·rw [decide_eq_false (by omega),Cq0,decide_eq_false (by omega),Cq0,decide_eq_false (by omega),Cq0,decide_eq_false (by omega),Cq0,decide_eq_true k,Cq1,if_neg (by omega),if_neg (by omega),if_neg (by omega),if_neg (by omega)];unfold Zs3;rw [hp,U0 hS hpn,e];simp only [Bq0];rw [Zkq fw hb];rfl
end
end
section
section
variable {s:Zc} {σ:TS} {F B a b p q:Nat} {x:Ze} {l:List Int}
end
end
section
noncomputable section
def dep (s:Zc) (q:Nat):Nat:=@dite _ (∃ m,m <=nn s∧up s (m + 1) (q:Int) < 0∧∀ k,k < m ->¬ up s (k + 1) (q:Int) < 0) (Classical.propDecidable _) (fun h=>Classical.choose h) (fun _=>0)
def rdy (s:Zc) (ld:Nat ->Nat) (w:Nat) (x:Ze):Prop:=∀ b:Nat,b < mm s ->b ≠ w ->x.qX.getD (li s b w) 0 <= (ld (li s b w):Int)
def ZdN (s:Zc) (x:Ze):Nat:=dep s x.kX.toNat
def UM (s:Zc) (ld:Nat ->Nat) (w:Nat) (l:List Ze):Nat ->Option Nat
 | 0=>none
 | k + 1=>ifc (rdy s ld w (l.getD k default)∧∀ j,UM s ld w l k=some j ->ZdN s (l.getD j default) < ZdN s (l.getD k default)) (some k) (UM s ld w l k)
def ZbK {α:Type} (l:List α) (i:Nat):List α:=l.take i ++ l.drop (i + 1)
def rung (s:Zc) (w i:Nat) (σ:TS):TS:=
 if σ.st ((σ.be w).getD i default).kV.toNat=1 then tell 4 ((σ.be w).getD i default).kV ((σ.be w).getD i default).kX 0 {σ with be:=Z9 σ.be w (ZbK (σ.be w) i)} else{σ with be:=Z9 σ.be w (ZbK (σ.be w) i)}
def ZbZ (s:Zc) (w:Nat):Nat ->TS ->TS
 | 0,σ=>σ
 | n + 1,σ=>match UM s σ.ld w (σ.be w) (σ.be w).length with
   | none=>σ
   | some i=>ZbZ s w n (rung s w i σ)
end
def BeS (s:Zc) (x:Ze):Prop:= (∃ p:Nat,x.kV= (p:Int)∧p < nn s)∧(∃ q:Nat,x.kX= (q:Int)∧q < nn s)∧x.qX.length=mm s * mm s
section
variable {s:Zc} {σ:TS} {F B a b p q w:Nat} {x:Ze} {l:List Ze}
theorem ZzJ (hS:X7 s) (hq:q < nn s):dep s q <=nn s∧up s (dep s q + 1) (q:Int) < 0∧∀ k,k < dep s q ->¬ up s (k + 1) (q:Int) < 0:=by
 have h:∃ m,m <=nn s∧up s (m + 1) (q:Int) < 0∧∀ k,k < m ->¬ up s (k + 1) (q:Int) < 0:=
  UU (c:=fun k=>up s (k + 1) (q:Int) < 0) (n:=nn s) (Jd (hS.inn.acy q hq) (by unfold nn;omega))
 unfold dep;rw [dif_pos h];exact Classical.choose_spec h
theorem Zjm {β:Type} (hF:1000 <=F) (hS:X7 s) (hq:q < nn s) {r:Int ->Option β} {body:Int×Int ->(Int×Int ->Option β) ->Option β}
 (hb:∀ v n next,body (v,n) next=bif decide (v >=0) then(ZO s.Zf v).bind fun x=>next (x.J3,Yy (n + 1)) else r n):loop F body (inn s (q:Int),0)=r (dep s q:Int):=by
 obtain⟨h1,h2,h3⟩:=ZzJ hS hq;have h8:nn s <=8:=hS.p2;refine YZ (fun k=>(up s (k + 1) (q:Int),(k:Int))) (by show(up s (0 + 1) (q:Int),((0:Nat):Int))=_;rw [up1];rfl) (n:=dep s q) (by omega) (fun k hk next=>?_) (fun next=>?_)
 ·have h:=h3 k hk;obtain⟨j,e,hj⟩:=Kk (hS.inn.up (q:= (q:Int)) ⟨by omega,by unfold nn at hq;omega⟩ (k + 1)) h;rw [hb,Jr s (k + 1),if_neg h,e,Wu,Cq1,Xg hj];simp only [Bq0];rw [Qu,Xp (by omega)]
 ·rw [hb,decide_eq_false (by omega),Cq0]
theorem ZpO (hF:1000 <=F) (hS:X7 s) (hw:w < mm s) (hx:x.qX.length=mm s * mm s):ZoE F (hal s σ) (w:Int) x=ifc (rdy s σ.ld w x) (some true) (some false):=by
 have h4:=hS.mm.2.2;unfold ZoE
 exact Wp (body:=ZeP (hal s σ) (w:Int) x) (r1:=some false) (r2:=some true) (s0:= (0:Int)) (fun k=>(k:Int)) rfl (fun k:Nat=>k ≠ w ->x.qX.getD (li s k w) 0 <= (σ.ld (li s k w):Int)) (n:=mm s) (F:=F) (by omega) (fun k hk next=>by
  unfold ZeP;rw [show(hal s σ).qK.qG=s.qG from rfl,Zfz hS hk,Cq1];by_cases e:k=w
  ·subst e;rw [show(((k:Int)) != ((k:Int)))=false by simp,Cq0,ZR (fun z=>absurd rfl z),Xp (by omega)]
  ·have e1:(((k:Int)) != ((w:Int)))=true:=by rw [Ko];exact decide_eq_true (by omega)
   have hi:=Ka hk hw;rw [e1,Cq1,Zca hS hk hw,show(hal s σ).Za.kQ=tab (mm s * mm s) (K6 σ) from rfl,Yz hi];simp only [Bq0];rw [Xe 0 (by rw [hx];exact hi)];simp only [Bq0];rw [show(K6 σ (li s k w)).ZV= (σ.ld (li s k w):Int) from rfl];by_cases c:x.qX.getD (li s k w) 0 <= (σ.ld (li s k w):Int)
   ·rw [decide_eq_false (by omega),Cq0,ZR (fun _=>c),Xp (by omega)]
   ·rw [decide_eq_true (by omega),Cq1,ZG (fun z=>c (z e))]) (fun next=>by
  unfold ZeP;rw [show(hal s σ).qK.qG=s.qG from rfl,ZlP hS,Cq0])
theorem ZcP {ld:Nat ->Nat}:∀ k j,UM s ld w l k=some j ->j < k:=by
 intro k
 induction k with
 | zero=>intro j h;cases h
 | succ k ih=>
   intro j h;rw [UM] at h;by_cases c:rdy s ld w (l.getD k default)∧∀ j,UM s ld w l k=some j ->ZdN s (l.getD j default) < ZdN s (l.getD k default)
   ·rw [ZR c] at h;cases h;omega
   ·rw [ZG c] at h;have:=ih j h;omega
def pI (o:Option Nat):Int:=match o with | none=>-1 | some j=>(j:Int)
noncomputable def pD (s:Zc) (l:List Ze) (o:Option Nat):Int:=match o with | none=>0 | some j=>(ZdN s (l.getD j default):Int)
theorem ZkF (hF:1000000 <=F) (hS:X7 s) (hw:w < mm s) (hl:l.length <=700000) (hx:∀ x ∈ l,BeS s x):
 ZiT F (w:Int) (tab (nn s) σ.st) (tab (nn s) fun p=>tab (mm s * mm s) (σ.ma p)) (tab (nn s) σ.kn) (tab (nn s) σ.wa) (tab (mm s) σ.be) (tab (mm s * mm s) (K6 σ)) σ.sd s.qG s.Zf σ.ev l=some (pI (UM s σ.ld w l l.length)):=by
 unfold ZiT;refine YZ (fun k=>(pI (UM s σ.ld w l k),pD s l (UM s σ.ld w l k),(k:Int))) rfl (n:=l.length) (by omega) (fun k hk next=>?_) (fun next=>?_)
 ·unfold Zmr;dsimp only;rw [Yf hk,Cq1,Xe default hk];simp only [Bq0];obtain⟨x,ex⟩:∃ x,x=l.getD k default:= ⟨_,rfl⟩
  obtain⟨_,⟨q,hq,KS⟩,hm⟩:=hx _ (XT (d:=default) hk);rw [← ex] at hq hm ⊢;rw [Zl2,ZpO (by omega) hS hw hm,hq];have ed:ZdN s x=dep s q:=by unfold ZdN;rw [hq,Int.toNat_natCast]
  rw [UM,← ex];have j0:∀ (a b:Int),Zcm (k:Int) next (a,b)=next (a,b,((k + 1:Nat):Int)):=fun a b=>by unfold Zcm;dsimp only;rw [Xp (by omega)]
  by_cases r:rdy s σ.ld w x
  ·rw [ZR r];simp only [Bq0,Bool.true_and];cases hpk:UM s σ.ld w l k with
   | none=>
     rw [show decide (pI none < 0)=true from rfl,Bool.not_true,Cq0,Cq1];unfold Zmo;simp only [Bq0];rw [Xg KS];simp only [Bq0];rw [Qu,Zjm (r:=fun n=>ZfO (k:Int) next n) (by omega) hS KS (fun v n nx=>by unfold ZqU;dsimp only;rw [Bool.not_true,Cq0]),ZR ⟨r,fun j z=>by cases z⟩];unfold ZfO;rw [j0];show _=next ((k:Int),(ZdN s (l.getD k default):Int),_);rw [← ex,ed]
   | some j=>
     rw [show decide (pI (some j) < 0)=false from decide_eq_false (by simp [pI]),Bool.not_false,Cq1];unfold Zmq;simp only [Bq0];rw [Xg KS];simp only [Bq0];rw [Qu,Zjm (r:=fun n=>ZfQ F s.Zf (pI (some j)) (pD s l (some j)) (k:Int) next x true n) (by omega) hS KS (fun v n nx=>by unfold ZqV;dsimp only;rw [Bool.not_true,Cq0])];unfold ZfQ;rw [Bool.true_and];by_cases c:ZdN s (l.getD j default) < ZdN s x
     ·rw [decide_eq_true (show(dep s q:Int) > pD s l (some j) by show(dep s q:Int) > (ZdN s (l.getD j default):Int);omega),Cq1];unfold Zmp;simp only [Bq0];rw [hq,Xg KS];simp only [Bq0];rw [Qu,Zjm (r:=fun n=>ZfP (k:Int) next n) (by omega) hS KS (fun v n nx=>by unfold ZqW;dsimp only;rw [Bool.not_true,Cq0]),ZR ⟨r,fun j' z=>by cases z;exact c⟩];unfold ZfP;rw [j0];show _=next ((k:Int),(ZdN s (l.getD k default):Int),_);rw [← ex,ed]
     ·rw [decide_eq_false (show ¬ (dep s q:Int) > pD s l (some j) by show ¬ (dep s q:Int) > (ZdN s (l.getD j default):Int);omega),Cq0,ZG (fun z=>c (z.2 j rfl)),j0]
  ·rw [ZG r,ZG (fun z=>r z.1)];simp only [Bq0,Bool.false_and,Cq0];rw [j0]
 ·unfold Zmr;dsimp only;rw [YB,Cq0]
end
end
section
noncomputable def rings (s:Zc):Nat ->TS ->TS
 | 0,σ=>σ
 | k + 1,σ=>ZbZ s k ((rings s k σ).be k).length (rings s k σ)
def BeA (s:Zc) (σ:TS):Prop:=∀ w,w < mm s ->∀ x ∈ σ.be w,BeS s x
section
variable {s:Zc} {σ:TS} {F B a b p q w i n:Nat} {x:Ze} {l:List Ze}
theorem Zjp {α:Type} {l:List α} {i:Nat} (h:i < l.length):(ZbK l i).length + 1=l.length:=by
 unfold ZbK;rw [List.length_append,List.length_take,List.length_drop];omega
theorem Zcu {α:Type} {l:List α} {i:Nat} {x:α} (h:x ∈ ZbK l i):x ∈ l:=by
 unfold ZbK at h;rcases List.mem_append.1 h with h | h
 ·exact List.mem_of_mem_take h
 ·exact List.mem_of_mem_drop h
theorem Jt (s:Zc) (w i:Nat) (σ:TS):(rung s w i σ).be=Z9 σ.be w (ZbK (σ.be w) i)∧(rung s w i σ).ld=σ.ld∧(rung s w i σ).st=σ.st∧(rung s w i σ).kn=σ.kn∧(rung s w i σ).ma=σ.ma∧(rung s w i σ).sn=σ.sn∧(rung s w i σ).wa=σ.wa∧(rung s w i σ).sd=σ.sd:=by
 unfold rung;split <;> exact⟨rfl,rfl,rfl,rfl,rfl,rfl,rfl,rfl⟩
theorem Zr2 (h:Gd s B σ) (hw:w < mm s) (hi:i < (σ.be w).length):Gd s B (rung s w i σ):=by
 have hb:=h.wf.pot;have h1:(σ.be w).length <=Pot s σ:=by have:=UK (f:=fun m=>(σ.be m).length) hw;unfold Pot;omega
 have hp:=Zp1 (s:=s) (σ:=σ) hw (ZbK (σ.be w) i);have hc:=Zjp hi;have w1:Wf s (B - 1) {σ with be:=Z9 σ.be w (ZbK (σ.be w) i)}:= ⟨by omega,h.wf.ld,h.wf.ws⟩
 unfold rung;split
 ·exact⟨(w1.tell _ _ _ _).up (by omega),⟨h.kn.srt,h.kn.rng⟩⟩
 ·exact⟨w1.up (by omega),⟨h.kn.srt,h.kn.rng⟩⟩
theorem ZnH (h:BeA s σ):BeA s (rung s w i σ):=fun v hv x hx=>by
 rw [(Jt s w i σ).1] at hx;by_cases e:v=w
 ·subst e;rw [Zv] at hx;exact h v hv x (Zcu hx)
 ·rw [ZF e] at hx;exact h v hv x hx
theorem ZBh (hw:w < mm s):∀ (n:Nat) (σ:TS),Gd s B σ ->BeA s σ ->Gd s B (ZbZ s w n σ)∧BeA s (ZbZ s w n σ):=by
 intro n
 induction n with
 | zero=>intro σ h hb;exact⟨h,hb⟩
 | succ n ih=>
   intro σ h hb;rw [ZbZ];cases hpk:UM s σ.ld w (σ.be w) (σ.be w).length with
   | none=>exact⟨h,hb⟩
   | some i=>exact ih _ (Zr2 h hw (ZcP _ _ hpk)) (ZnH hb)
theorem ZhU (h:Gd s B σ) (hb:BeA s σ):∀ k,k <=mm s ->Gd s B (rings s k σ)∧BeA s (rings s k σ):=by
 intro k
 induction k with
 | zero=>intro _;exact⟨h,hb⟩
 | succ k ih=>
   intro hk;obtain⟨h1,h2⟩:=ih (by omega);exact ZBh (by omega) _ _ h1 h2
theorem del_eq (hi:i < l.length) (hl:l.length <=700000):ZoD l (i:Int) (Yy ((i:Int) + 1))=some (ZbK l i):=by
 unfold ZoD;rw [Xp (by omega)]
 have e1:slL l (i:Int) ((i + 1:Nat):Int)=some ((l.take (i + 1)).drop i):=by
  unfold slL;rw [decide_eq_true (show(0:Int) <= (i:Int) by omega),decide_eq_true (show(i:Int) <= ((i + 1:Nat):Int) by omega),decide_eq_true (show((i + 1:Nat):Int) <= (l.length:Int) by omega)]
  rfl
 rw [e1];simp only [Bq0];rw [YP,decide_eq_false (by omega),Cq0,ZBb (by omega)];simp only [Bq0];rw [ZrW (by omega)];simp only [Bq0];rw [ZEV (by rw [List.length_take,List.length_drop];omega)];rfl
theorem ZtF (hF:1000000 <=F) (hS:X7 s) (hB:B <=600000) (hw:w < mm s):∀ (n F':Nat) (σ:TS),n < F' ->(σ.be w).length <=n ->Gd s B σ ->BeA s σ ->loop F' (ZdZ F (w:Int)) (WJ s σ)=some (hal s (ZbZ s w n σ)):=by
 intro n
 induction n with
 | zero=>
   intro F' σ hn hl h hb;cases F' with
   | zero=>omega
   | succ F'=>
     rw [UA];unfold ZdZ WJ;dsimp only;rw [Yz hw];simp only [Bq0];rw [ZkF hF hS hw (by omega) (hb w hw)];have:(σ.be w).length=0:=by omega
     simp only [Bq0];rw [this,show decide (pI (UM s σ.ld w (σ.be w) 0) < 0)=true from rfl,Cq1];rfl
 | succ n ih=>
   intro F' σ hn hl h hb;cases F' with
   | zero=>omega
   | succ F'=>
     rw [UA];generalize hnx:loop F' (ZdZ F (w:Int))=nx;have hlen:= (h.wf.few (by omega)).be w hw;unfold ZdZ;rw [show WJ s σ= (tab (nn s) σ.st,(tab (nn s) fun j=>tab (mm s * mm s) (σ.ma j)),tab (nn s) σ.kn,tab (nn s) σ.wa,tab (mm s) σ.be,tab (mm s * mm s) (K6 σ),σ.sd,s.qG,s.Zf,σ.ev) from rfl];dsimp only;have hl7:(σ.be w).length <=600000:=by have:=h.wf.pot;have:=UK (f:=fun m=>(σ.be m).length) hw;unfold Pot at *;omega
     rw [Yz hw];simp only [Bq0];rw [ZkF hF hS hw (by omega) (hb w hw),ZbZ];simp only [Bq0];cases hpk:UM s σ.ld w (σ.be w) (σ.be w).length with
     | none=>rw [show decide (pI none < 0)=true from rfl,Cq1];rfl
     | some i=>
       have hi:=ZcP _ _ hpk;rw [decide_eq_false (show ¬ pI (some i) < 0 by simp [pI]),Cq0,show pI (some i)= (i:Int) from rfl,Xe default hi];simp only [Bq0];rw [del_eq hi (by omega)];simp only [Bq0];obtain⟨⟨p,hp,hpn⟩,_,_⟩:=hb w hw _ (XT (d:=default) hi);rw [hp,Yz hpn];simp only [Bq0];have gr:=Zr2 h hw hi;have br:=ZnH (w:=w) (i:=i) hb;have lr:((rung s w i σ).be w).length <=n:=by rw [(Jt s w i σ).1,Zv];have:=Zjp hi;omega
       have hih:=ih F' (rung s w i σ) (by omega) lr gr br;rw [hnx] at hih;refine Eq.trans ?_ hih;unfold rung;rw [hp,Int.toNat_natCast,YP,QM];by_cases e:σ.st p=1
       ·rw [decide_eq_true e,Cq1,if_pos e,show ZE.mk (Zm.mk (tab (nn s) σ.st) (tab (nn s) fun j=>tab (mm s * mm s) (σ.ma j)) (tab (nn s) σ.kn) (tab (nn s) σ.wa) (tab (mm s) (Z9 σ.be w (ZbK (σ.be w) i))) (tab (mm s * mm s) (K6 σ)) σ.sd) (Zc.mk s.qG s.Zf) σ.ev=hal s {σ with be:=Z9 σ.be w (ZbK (σ.be w) i)} from rfl];have hpb:=Zp1 (s:=s) (σ:=σ) hw (ZbK (σ.be w) i);have:=Zjp hi;have:=h.wf.pot;have w1:Wf s B {σ with be:=Z9 σ.be w (ZbK (σ.be w) i)}:= ⟨by omega,h.wf.ld,h.wf.ws⟩
        rw [Kv (w1.few (by omega))]
        rfl
       ·rw [decide_eq_false e,Cq0,if_neg e];rfl
end
end
section
noncomputable section
variable (s:Zc)
def UH (p:Nat) (σ:TS):TS:=
 if inn s (p:Int) < 0 then Yn s p σ
 else if pl s (inn s (p:Int)).toNat=pl s p then YN s p (W9 s (Yn s p σ) p) (Yn s p σ)
 else send s (pl s p) (pl s (inn s (p:Int)).toNat) ⟨4,(p:Int),0,0,W9 s (Yn s p σ) p⟩ (Yn s p σ)
def kK (p q:Nat) (σ:TS):TS:=tell 1 p q σ.sd {σ with sd:=σ.sd + 1}
inductive Act:TS ->TS ->Prop
 | fall {σ:TS} {p:Nat} (hp:p < nn s) (h:σ.st p=1):Act σ (Uf p σ)
 | WZ {σ:TS} {p k:Nat} (hp:p < nn s) (hk:k < nn s) (hi:inn s (k:Int)= (p:Int)) (h:σ.st p ≠ 1) (hr:pl s k ≠ pl s p) (hn:(k:Int) ∉ σ.kn p):Act σ (send s (pl s p) (pl s k) ⟨3,(k:Int),0,0,[]⟩ σ)
 | die {σ:TS} {p:Nat} (hp:p < nn s) (h:σ.st p=2) (ha:Alo s σ p):Act σ (UH s p σ)
 | Zdj {σ:TS} {p q:Nat} (hp:p < nn s) (hq:q < nn s) (h:σ.st p=1) (e:pl s p=pl s q):Act σ (see q p σ.sd (kK p q σ))
 | Zdi {σ:TS} {p q:Nat} (hp:p < nn s) (hq:q < nn s) (h:σ.st p=1) (e:pl s p ≠ pl s q):Act σ (send s (pl s p) (pl s q) ⟨1,(p:Int),(q:Int),σ.sd,[]⟩ (kK p q σ))
 | Zdf {σ:TS} {p q:Nat} (hp:p < nn s) (hq:q < nn s) (h:σ.st p=1) (e:pl s p=pl s q):Act σ (note s p q (tell 3 p q 0 σ))
 | Zde {σ:TS} {p q:Nat} (hp:p < nn s) (hq:q < nn s) (h:σ.st p=1) (e:pl s p ≠ pl s q):Act σ (send s (pl s p) (pl s q) ⟨2,(p:Int),(q:Int),0,[]⟩ (tell 3 p q 0 σ))
 | Zdo {σ:TS} {a b p q:Nat} (ha:a < mm s) (hb:b < mm s) (hl:σ.ld (li s a b) < (σ.sn (li s a b)).length) (hk:(hd σ (li s a b)).kW=1) (hp:(hd σ (li s a b)).kV= (p:Int)) (hq:(hd σ (li s a b)).kX= (q:Int)) (hpn:p < nn s) (KS:q < nn s):Act σ (see q p (hd σ (li s a b)).n (drop1 (li s a b) σ))
 | Zdr {σ:TS} {a b p q:Nat} (ha:a < mm s) (hb:b < mm s) (hl:σ.ld (li s a b) < (σ.sn (li s a b)).length) (hk:(hd σ (li s a b)).kW=2) (hp:(hd σ (li s a b)).kV= (p:Int)) (hq:(hd σ (li s a b)).kX= (q:Int)) (hpn:p < nn s) (KS:q < nn s):Act σ (note s p q (drop1 (li s a b) σ))
 | Zdp {σ:TS} {a b p:Nat} (ha:a < mm s) (hb:b < mm s) (hl:σ.ld (li s a b) < (σ.sn (li s a b)).length) (hk:(hd σ (li s a b)).kW=3) (hp:(hd σ (li s a b)).kV= (p:Int)) (hpn:p < nn s):Act σ (drop1 (li s a b) σ)
 | ZbH {σ:TS} {a b p:Nat} (ha:a < mm s) (hb:b < mm s) (hl:σ.ld (li s a b) < (σ.sn (li s a b)).length) (hk:(hd σ (li s a b)).kW=4) (hp:(hd σ (li s a b)).kV= (p:Int)) (hpn:p < nn s) (h0:0 <=inn s (p:Int)) (hm:(hd σ (li s a b)).qX.length=mm s * mm s) (h3:σ.st p=3) (hn:(p:Int) ∉ σ.kn (inn s (p:Int)).toNat):Act σ (YN s p (hd σ (li s a b)).qX (drop1 (li s a b) σ))
 | Zdq {σ:TS} {a b:Nat} (ha:a < mm s) (hb:b < mm s) (hl:σ.ld (li s a b) < (σ.sn (li s a b)).length) (hk:(hd σ (li s a b)).kW=5):Act σ (wait b (hd σ (li s a b)) (drop1 (li s a b) σ))
 | ring {σ:TS} {w i:Nat} (hw:w < mm s) (h:UM s σ.ld w (σ.be w) (σ.be w).length=some i):Act σ (rung s w i σ)
inductive JC:TS ->TS ->Prop
 | refl {σ:TS}:JC σ σ
 | tail {σ τ υ:TS}:JC σ τ ->Act s τ υ ->JC σ υ
def Zg3 (x:Yc) (σ:TS):Prop:=
 (x.act=1∧∃ p q:Nat,x.a= (p:Int)∧x.b= (q:Int)∧p < nn s∧q < nn s∧σ.st p=1)∨
 (x.act=2∧∃ p q:Nat,x.a= (p:Int)∧x.b= (q:Int)∧p < nn s∧q < nn s∧σ.st p=1)∨
 (x.act=3∧∃ p:Nat,x.a= (p:Int)∧p < nn s∧σ.st p=1)∨
 (x.act=4∧∃ a b:Nat,x.a= (a:Int)∧x.b= (b:Int)∧a < mm s∧b < mm s∧σ.ld (li s a b) < (σ.sn (li s a b)).length)
def ZgI (x:Yc) (σ:TS):TS:=
 if x.act=1 then(if pl s x.a.toNat=pl s x.b.toNat then see x.b.toNat x.a.toNat σ.sd (kK x.a.toNat x.b.toNat σ) else send s (pl s x.a.toNat) (pl s x.b.toNat) ⟨1,x.a,x.b,σ.sd,[]⟩ (kK x.a.toNat x.b.toNat σ))
 else if x.act=2 then(if pl s x.a.toNat=pl s x.b.toNat then note s x.a.toNat x.b.toNat (tell 3 x.a x.b 0 σ) else send s (pl s x.a.toNat) (pl s x.b.toNat) ⟨2,x.a,x.b,0,[]⟩ (tell 3 x.a x.b 0 σ))
 else if x.act=3 then JP s (nn s) x.a.toNat σ
 else ZgA s x.a.toNat x.b.toNat σ
def stepW (x:Yc) (σ:TS):TS:=rings s (mm s) (ZgI s x σ)
end
section
variable {s:Zc} {σ τ υ:TS} {F B a b p q w i n d:Nat} {x:Ze}
theorem JC.trans (h:JC s σ τ) (h':JC s τ υ):JC s σ υ:=by
 induction h' with
 | refl=>exact h
 | tail _ a ih=>exact .tail ih a
theorem JC.one (h:Act s σ τ):JC s σ τ:= .tail .refl h
theorem JC.keep {P:TS ->Prop} (hP:∀ σ τ,P σ ->Act s σ τ ->P τ) (h:JC s σ τ) (h0:P σ):P τ:=by
 induction h with
 | refl=>exact h0
 | tail _ a ih=>exact hP _ _ ih a
theorem WK {α:Type} (f:TS ->α ->TS) (Q:TS ->Prop):∀ (l:List α) (σ:TS),Q σ ->(∀ σ x,x ∈ l ->Q σ ->Q (f σ x)) ->Q (l.foldl f σ):=by
 intro l
 induction l with
 | nil=>intro σ h _;exact h
 | cons x l ih=>intro σ h hf;exact ih _ (hf σ x (by simp) h) fun σ y hy=>hf σ y (by simp [hy])
theorem QB (p q:Nat) (n:Int) (σ:TS):(see p q n σ).st=σ.st∧(see p q n σ).kn=σ.kn∧(see p q n σ).ma=σ.ma∧(see p q n σ).ld=σ.ld∧(see p q n σ).sn=σ.sn∧(see p q n σ).be=σ.be∧(see p q n σ).wa=σ.wa∧(see p q n σ).sd=σ.sd:=by
 unfold see;split <;> exact⟨rfl,rfl,rfl,rfl,rfl,rfl,rfl,rfl⟩
theorem X6 (p q:Nat) (σ:TS):(note s p q σ).st=σ.st∧(note s p q σ).kn=σ.kn∧(note s p q σ).ma=σ.ma∧(note s p q σ).ld=σ.ld∧(note s p q σ).sd=σ.sd∧(note s p q σ).ev=σ.ev:=by
 unfold note;split
 ·have:=Zc8 (s:=s) p q σ;exact⟨this.1,this.2.1,this.2.2.1,this.2.2.2.1,this.2.2.2.2.1,this.2.2.2.2.2.1⟩
 ·exact⟨rfl,rfl,rfl,rfl,rfl,rfl⟩
theorem ZCS (p:Nat) (σ:TS):(UH s p σ).st=Z9 σ.st p 3:=by
 have e:= (QV (s:=s) p σ).1;unfold UH;split
 ·exact e
 ·split
  ·exact e
  ·exact e
theorem Zop {f:Nat ->Int} {k j:Nat} {v:Int} (hv:v ≠ 1) (h:f j ≠ 1):Z9 f k v j ≠ 1:=by
 unfold Z9;by_cases e:j=k
 ·rw [if_pos e];exact hv
 ·rw [if_neg e];exact h
theorem ZJY (h:Act s σ τ) (hp:σ.st p ≠ 1):τ.st p ≠ 1:=by
 cases h with
 | fall hq h=>exact Zop (by decide) hp
 | WZ=>exact hp
 | die hq h ha=>rw [ZCS];exact Zop (by decide) hp
 | Zdj=>rw [(QB _ _ _ _).1];exact hp
 | Zdi=>exact hp
 | Zdf=>rw [(X6 _ _ _).1];exact hp
 | Zde=>exact hp
 | Zdo=>rw [(QB _ _ _ _).1];exact hp
 | Zdr=>rw [(X6 _ _ _).1];exact hp
 | Zdp=>exact hp
 | ZbH=>exact hp
 | Zdq=>exact hp
 | ring=>rw [(Jt _ _ _ _).2.2.1];exact hp
theorem ZDn (h:JC s σ τ) (hp:σ.st p ≠ 1):τ.st p ≠ 1:=h.keep (P:=fun σ=>σ.st p ≠ 1) (fun _ _ h a=>ZJY a h) hp
theorem ZoW (hS:X7 s):∀ (d p:Nat) (σ:TS),p < nn s ->up s d (p:Int) < 0 ->σ.st p=2 ->Alo s σ p ->JC s σ (Zjl s d p σ):=by
 intro d
 induction d with
 | zero=>intro p σ hp hu _ _;exact absurd hu (by show ¬ ((p:Int)) < 0;omega)
 | succ d ih=>
   intro p σ hp hu h2 hA;have h1:JC s σ (UH s p σ):= .one (.die hp h2 hA);show JC s σ (ZmT s (Zjl s d) p (Yn s p σ));unfold ZmT;unfold UH at h1;by_cases h0:inn s (p:Int) < 0
   ·rw [if_pos h0] at h1 ⊢;exact h1
   ·rw [if_neg h0] at h1 ⊢;obtain⟨eq,hq⟩:=QS hS hp h0;by_cases e:pl s (inn s (p:Int)).toNat=pl s p
    ·rw [if_pos e] at h1 ⊢;unfold Zar;by_cases c:(YN s p (W9 s (Yn s p σ) p) (Yn s p σ)).st (inn s (p:Int)).toNat=2∧Alo s (YN s p (W9 s (Yn s p σ) p) (Yn s p σ)) (inn s (p:Int)).toNat
     ·rw [ZR c];exact h1.trans (ih _ _ hq (by rw [← eq];exact ZvX hp hu) c.1 c.2)
     ·rw [ZG c];exact h1
    ·rw [if_neg e] at h1 ⊢;exact h1
theorem ZkU (hS:X7 s):∀ (d p:Nat) (σ:TS),p < nn s ->ZbO s d p ->σ.st p=1 ->JC s σ (JP s d p σ):=by
 intro d
 induction d with
 | zero=>intro p σ hp hs _;exact absurd rfl (hs p hp 0 (Nat.le_refl _))
 | succ d ih=>
   intro p σ hp hs h1;have h0:JC s σ (Uf p σ):= .one (.fall hp h1);have hne:(Uf p σ).st p ≠ 1:=by show Z9 σ.st p 2 p ≠ 1;rw [Zv];decide
   have hk:JC s σ (fk s (JP s d) p (nn s) (Uf p σ))∧(fk s (JP s d) p (nn s) (Uf p σ)).st p ≠ 1:=by
    refine WK _ (fun τ=>JC s σ τ∧τ.st p ≠ 1) _ _ ⟨h0,hne⟩ (fun τ k hk ⟨ha,hτ⟩=>?_);obtain⟨hkn,hki⟩:=ZxE.1 (show k ∈ ZHl s p from hk)
    have:JC s τ (ZgB s (JP s d) p τ k):=by
     unfold ZgB;by_cases e:pl s k=pl s p
     ·rw [if_pos e];by_cases e1:τ.st k=1
      ·rw [if_pos e1];exact ih k τ hkn (hs.kid hki) e1
      ·rw [if_neg e1];exact .refl
     ·rw [if_neg e];by_cases e1:(k:Int) ∈ τ.kn p
      ·rw [if_pos e1];exact .refl
      ·rw [if_neg e1];exact .one (.WZ hp hkn hki hτ e e1)
    exact⟨ha.trans this,ZDn this hτ⟩
   show JC s σ (Zmh s p (fk s (JP s d) p (nn s) (Uf p σ)));unfold Zmh;by_cases c:(fk s (JP s d) p (nn s) (Uf p σ)).st p=2∧Alo s (fk s (JP s d) p (nn s) (Uf p σ)) p
   ·rw [ZR c];exact hk.1.trans (ZoW hS _ _ _ hp (ZcH hS hp) c.1 c.2)
   ·rw [ZG c];exact hk.1
theorem ZtG (hw:w < mm s):∀ (n:Nat) (σ:TS),JC s σ (ZbZ s w n σ):=by
 intro n
 induction n with
 | zero=>intro σ;exact .refl
 | succ n ih=>
   intro σ;rw [ZbZ];cases hpk:UM s σ.ld w (σ.be w) (σ.be w).length with
   | none=>exact .refl
   | some i=>exact(JC.one (.ring hw hpk)).trans (ih _)
theorem ZdM:∀ k,k <=mm s ->JC s σ (rings s k σ):=by
 intro k
 induction k with
 | zero=>intro _;exact .refl
 | succ k ih=>intro hk;exact(ih (by omega)).trans (ZtG (by omega) _ _)
theorem Zt1 (hS:X7 s) (ha:a < mm s) (hb:b < mm s) (hl:σ.ld (li s a b) < (σ.sn (li s a b)).length) (hx:ZAu s b (hd σ (li s a b))) (hD:Zvf s (hd σ (li s a b)) σ):JC s σ (ZgA s a b σ):=by
 obtain⟨p,hp,hpn,c⟩:=hx;unfold ZgA ZkL;rcases c with⟨k,q,hq,KS⟩ | ⟨k,q,hq,KS⟩ | k | ⟨k,h0,hm⟩ | ⟨k,e,hm,q,hq,KS⟩
 ·rw [if_pos k,hp,hq,Int.toNat_natCast,Int.toNat_natCast];exact .one (.Zdo ha hb hl k hp hq hpn KS)
 ·rw [if_neg (by omega),if_pos k,hp,hq,Int.toNat_natCast,Int.toNat_natCast];exact .one (.Zdr ha hb hl k hp hq hpn KS)
 ·rw [if_neg (by omega),if_neg (by omega),if_pos k,hp,Int.toNat_natCast];have h1:JC s σ (drop1 (li s a b) σ):= .one (.Zdp ha hb hl k hp hpn);by_cases e:(drop1 (li s a b) σ).st p=1
  ·rw [if_pos e];exact h1.trans (ZkU hS _ _ _ hpn (ZbO.all hS.inn) e)
  ·rw [if_neg e];exact h1
 ·rw [if_neg (by omega),if_neg (by omega),if_neg (by omega),if_pos k,hp,Int.toNat_natCast];obtain⟨h3,hn⟩:=Zim hp hD k;obtain⟨eq,hq⟩:=QS hS hpn (by omega);have h1:JC s σ (YN s p (hd σ (li s a b)).qX (drop1 (li s a b) σ)):= .one (.ZbH ha hb hl k hp hpn h0 hm h3 hn);unfold ZdS Zar;by_cases c:(YN s p (hd σ (li s a b)).qX (drop1 (li s a b) σ)).st (inn s (p:Int)).toNat=2∧Alo s (YN s p (hd σ (li s a b)).qX (drop1 (li s a b) σ)) (inn s (p:Int)).toNat
  ·rw [ZR c];exact h1.trans (ZoW hS _ _ _ hq (ZcH hS hq) c.1 c.2)
  ·rw [ZG c];exact h1
 ·rw [if_neg (by omega),if_neg (by omega),if_neg (by omega),if_neg (by omega)];exact .one (.Zdq ha hb hl k)
end
end
section
def ZAv (s:Zc) (a b:Nat) (x:Ze):Prop:=∃ p:Nat,x.kV= (p:Int)∧p < nn s∧x.qX.length <=16∧
 ((x.kW=1∧pl s p=a∧∃ q:Nat,x.kX= (q:Int)∧q < nn s∧pl s q=b)∨(x.kW=2∧pl s p=a∧∃ q:Nat,x.kX= (q:Int)∧q < nn s∧pl s q=b)∨(x.kW=3∧pl s p=b∧0 <=inn s (p:Int)∧pl s (inn s (p:Int)).toNat=a)∨(x.kW=4∧0 <=inn s (p:Int)∧x.qX.length=mm s * mm s∧pl s p=a∧pl s (inn s (p:Int)).toNat=b)∨(x.kW=5∧pl s p=b∧x.qX.length=mm s * mm s∧∃ q:Nat,x.kX= (q:Int)∧q < nn s∧pl s q=a))
theorem ZAv.s {s:Zc} {a b:Nat} {x:Ze} (h:ZAv s a b x):ZAu s b x:=by
 obtain⟨p,hp,hpn,_,c⟩:=h;refine⟨p,hp,hpn,?_⟩;rcases c with⟨k,_,q,hq,KS,_⟩ | ⟨k,_,q,hq,KS,_⟩ | ⟨k,_⟩ | ⟨k,h0,hm,_⟩ | ⟨k,e,hm,q,hq,KS,_⟩
 ·exact .inl ⟨k,q,hq,KS⟩
 ·exact .inr (.inl ⟨k,q,hq,KS⟩)
 ·exact .inr (.inr (.inl k))
 ·exact .inr (.inr (.inr (.inl ⟨k,h0,hm⟩)))
 ·exact .inr (.inr (.inr (.inr ⟨k,e,hm,q,hq,KS⟩)))
structure P1 (s:Zc) (σ:TS):Prop where
 lets:∀ a b,a < mm s ->b < mm s ->∀ x ∈ σ.sn (li s a b),ZAv s a b x
 self:∀ a,a < mm s ->σ.sn (li s a a)= []
 bea:∀ w,w < mm s ->∀ x ∈ σ.be w,BeS s x∧x.kW=5
 ws:∀ q,q < nn s ->∀ x ∈ σ.wa q,∃ k:Nat,x= (k:Int)∧k < nn s
section
variable {s:Zc} {σ τ υ:TS} {F B a b p q w i n d:Nat} {x:Ze}
theorem Zqj {a b a' b':Nat} (hb:b < mm s) (hb':b' < mm s) (h:li s a b=li s a' b'):a=a'∧b=b':=by
 obtain⟨e1,e2⟩:= (WI hb).1 (show li s a b=a * mm s + b from rfl);obtain⟨e3,e4⟩:= (WI hb').1 (show li s a' b'=a' * mm s + b' from rfl);rw [h] at e1 e2;exact⟨by omega,by omega⟩
theorem P1.congr (h:P1 s σ) (h1:τ.sn=σ.sn) (h2:τ.be=σ.be) (h3:τ.wa=σ.wa):P1 s τ:= ⟨by rw [h1];exact h.lets,by rw [h1];exact h.self,by rw [h2];exact h.bea,by rw [h3];exact h.ws⟩
theorem P1.send (h:P1 s σ) (ha:a < mm s) (hb:b < mm s) (hne:a ≠ b) (hx:ZAv s a b x):P1 s (Proofs.YtcnahmgekicbdaaGreat.send s a b x σ):=by
 refine⟨fun a' b' ha' hb' y hy=>?_,fun a' ha'=>?_,h.bea,h.ws⟩
 ·by_cases e:li s a' b'=li s a b
  ·obtain⟨rfl,rfl⟩:=Zqj hb' hb e;rw [ZcL] at hy;rcases List.mem_append.1 hy with hy | hy
   ·exact h.lets _ _ ha' hb' y hy
   ·rw [List.mem_singleton.1 hy];exact hx
  ·rw [Ul e] at hy;exact h.lets _ _ ha' hb' y hy
 ·rw [Ul (fun e=>hne (by obtain⟨e1,e2⟩:=Zqj ha' hb e;omega))];exact h.self a' ha'
theorem P1.wait (h:P1 s σ) (hx:BeS s x∧x.kW=5):P1 s (Proofs.YtcnahmgekicbdaaGreat.wait a x σ):=by
 refine⟨h.lets,h.self,fun w hw y hy=>?_,h.ws⟩;have hy:y ∈ Z9 σ.be a (σ.be a ++ [x]) w:=hy;by_cases e:w=a
 ·subst e;rw [Zv] at hy;rcases List.mem_append.1 hy with hy | hy
  ·exact h.bea w hw y hy
  ·rw [List.mem_singleton.1 hy];exact hx
 ·rw [ZF e] at hy;exact h.bea w hw y hy
theorem P1.Xk (hS:X7 s) (h:P1 s σ) (hp:p < nn s) (hq:q < nn s):P1 s (Proofs.YtcnahmgekicbdaaGreat.Xk s p q σ):=by
 unfold Proofs.YtcnahmgekicbdaaGreat.Xk;by_cases e:pl s p=pl s q
 ·rw [if_pos e];exact h.wait ⟨⟨⟨p,rfl,hp⟩,⟨q,rfl,hq⟩,Qt⟩,rfl⟩
 ·rw [if_neg e];exact h.send (hS.pl hq).2 (hS.pl hp).2 (fun z=>e z.symm) ⟨p,rfl,hp,(by show(tab _ _).length <=16;rw [Qt];exact Zig hS),.inr (.inr (.inr (.inr ⟨rfl,rfl,Qt,q,rfl,hq,rfl⟩)))⟩
theorem P1.see (h:P1 s σ) (p q:Nat) (n:Int):P1 s (Proofs.YtcnahmgekicbdaaGreat.see p q n σ):=by
 have e:=QB p q n σ;exact h.congr e.2.2.2.2.1 e.2.2.2.2.2.1 e.2.2.2.2.2.2.1
theorem P1.note (hS:X7 s) (h:P1 s σ) (hp:p < nn s) (hq:q < nn s):P1 s (Proofs.YtcnahmgekicbdaaGreat.note s p q σ):=by
 unfold Proofs.YtcnahmgekicbdaaGreat.note;by_cases e:σ.st q=3
 ·rw [if_pos e];exact h.Xk hS hp hq
 ·rw [if_neg e];refine⟨h.lets,h.self,h.bea,fun j hj y hy=>?_⟩;have hy:y ∈ Z9 σ.wa q (σ.wa q ++ [(p:Int)]) j:=hy;by_cases e1:j=q
  ·subst e1;rw [Zv] at hy;rcases List.mem_append.1 hy with hy | hy
   ·exact h.ws j hj y hy
   ·rw [List.mem_singleton.1 hy];exact⟨p,rfl,hp⟩
  ·rw [ZF e1] at hy;exact h.ws j hj y hy
theorem P1.JW (h:P1 s σ) (p:Nat):P1 s (Proofs.YtcnahmgekicbdaaGreat.JW p σ):=by
 refine⟨h.lets,h.self,h.bea,fun j hj y hy=>?_⟩;have hy:y ∈ Z9 σ.wa p [] j:=hy;by_cases e1:j=p
 ·subst e1;rw [Zv] at hy;cases hy
 ·rw [ZF e1] at hy;exact h.ws j hj y hy
theorem P1.Zw (hS:X7 s) (h:P1 s σ) (hp:p < nn s) (l:List Int) (hl:∀ x ∈ l,∃ k:Nat,x= (k:Int)∧k < nn s):P1 s (Proofs.YtcnahmgekicbdaaGreat.Zw s p l σ):=
 WK _ (P1 s) l σ h fun τ x hx hτ=>by
  obtain⟨k,e,hk⟩:=hl x hx;rw [e,Int.toNat_natCast];exact hτ.Xk hS hk hp
theorem P1.Yn (hS:X7 s) (h:P1 s σ) (hp:p < nn s):P1 s (Proofs.YtcnahmgekicbdaaGreat.Yn s p σ):= ((h.JW p).Zw hS hp _ (h.ws p hp)).congr rfl rfl rfl
theorem P1.UH (hS:X7 s) (h:P1 s σ) (hp:p < nn s):P1 s (Proofs.YtcnahmgekicbdaaGreat.UH s p σ):=by
 have hA:=h.Yn hS hp;unfold Proofs.YtcnahmgekicbdaaGreat.UH;by_cases h0:inn s (p:Int) < 0
 ·rw [if_pos h0];exact hA
 ·rw [if_neg h0];obtain⟨eq,hq⟩:=QS hS hp h0;by_cases e:pl s (inn s (p:Int)).toNat=pl s p
  ·rw [if_pos e];exact hA.congr rfl rfl rfl
  ·rw [if_neg e];exact hA.send (hS.pl hp).2 (hS.pl hq).2 (fun z=>e z.symm) ⟨p,rfl,hp,(by show(tab _ _).length <=16;rw [Qt];exact Zig hS),.inr (.inr (.inr (.inl ⟨rfl,by omega,Qt,rfl,rfl⟩)))⟩
theorem Zcf (h:σ.ld i < (σ.sn i).length):hd σ i ∈ σ.sn i:=XT h
theorem P1.act (hS:X7 s) (h:P1 s σ) (ac:Act s σ τ):P1 s τ:=by
 cases ac with
 | fall=>exact h.congr rfl rfl rfl
 | @WZ p k hp hk hi h1 hr hn=>
   exact h.send (hS.pl hp).2 (hS.pl hk).2 (fun z=>hr z.symm) ⟨k,rfl,hk,(by show 0 <=16;omega),.inr (.inr (.inl ⟨rfl,rfl,by omega,by rw [hi,Int.toNat_natCast]⟩))⟩
 | die hp=>exact h.UH hS hp
 | Zdj hp hq h1 e=>exact(h.congr (τ:=kK _ _ σ) rfl rfl rfl).see _ _ _
 | @Zdi p q hp hq h1 e=>exact(h.congr (τ:=kK _ _ σ) rfl rfl rfl).send (hS.pl hp).2 (hS.pl hq).2 e ⟨p,rfl,hp,(by show 0 <=16;omega),.inl ⟨rfl,rfl,q,rfl,hq,rfl⟩⟩
 | Zdf hp hq h1 e=>exact(h.congr (τ:=tell _ _ _ _ σ) rfl rfl rfl).note hS hp hq
 | @Zde p q hp hq h1 e=>exact(h.congr (τ:=tell _ _ _ _ σ) rfl rfl rfl).send (hS.pl hp).2 (hS.pl hq).2 e ⟨p,rfl,hp,(by show 0 <=16;omega),.inr (.inl ⟨rfl,rfl,q,rfl,hq,rfl⟩)⟩
 | Zdo=>exact(h.congr (τ:=drop1 _ σ) rfl rfl rfl).see _ _ _
 | Zdr ha hb hl hk hp hq hpn KS=>exact(h.congr (τ:=drop1 _ σ) rfl rfl rfl).note hS hpn KS
 | Zdp=>exact h.congr rfl rfl rfl
 | ZbH=>exact h.congr rfl rfl rfl
 | @Zdq a b ha hb hl hk=>
   have hm:=Zcf hl;obtain⟨p,hp,hpn,_,c⟩:=h.lets a b ha hb _ hm;refine(h.congr (τ:=drop1 _ σ) rfl rfl rfl).wait ⟨?_,hk⟩;rcases c with⟨k,_⟩ | ⟨k,_⟩ | ⟨k,_⟩ | ⟨k,_⟩ | ⟨k,e,hm,q,hq,KS,_⟩
   ·omega
   ·omega
   ·omega
   ·omega
   ·exact⟨⟨p,hp,hpn⟩,⟨q,hq,KS⟩,hm⟩
 | @ring w i hw hpk=>
   have e:=Jt s w i σ;refine⟨by rw [e.2.2.2.2.2.1];exact h.lets,by rw [e.2.2.2.2.2.1];exact h.self,fun v hv y hy=>?_,by rw [e.2.2.2.2.2.2.1];exact h.ws⟩;rw [e.1] at hy;by_cases z:v=w
   ·subst z;rw [Zv] at hy;exact h.bea v hv y (Zcu hy)
   ·rw [ZF z] at hy;exact h.bea v hv y hy
def SnM (σ τ:TS):Prop:=∀ i,(σ.sn i).length <= (τ.sn i).length
theorem SnM.refl' (h:τ.sn=σ.sn):SnM σ τ:=fun i=>by rw [h];exact Nat.le_refl _
theorem SnM.trans (h:SnM σ τ) (h':SnM τ υ):SnM σ υ:=fun i=>Nat.le_trans (h i) (h' i)
theorem SnM.send (x:Ze):SnM σ (Proofs.YtcnahmgekicbdaaGreat.send s a b x σ):=fun i=>by
 by_cases e:i=li s a b
 ·subst e;rw [ZcL,List.length_append];omega
 ·rw [Ul e];exact Nat.le_refl _
theorem SnM.Xk (p q:Nat):SnM σ (Proofs.YtcnahmgekicbdaaGreat.Xk s p q σ):=by
 unfold Proofs.YtcnahmgekicbdaaGreat.Xk;split
 ·exact .refl' rfl
 ·exact .send _
theorem SnM.Zw (p:Nat) (l:List Int):SnM σ (Proofs.YtcnahmgekicbdaaGreat.Zw s p l σ):=WK _ (SnM σ) l σ (.refl' rfl) fun τ x _ h=>h.trans (.Xk _ _)
theorem SnM.note (p q:Nat):SnM σ (Proofs.YtcnahmgekicbdaaGreat.note s p q σ):=by
 unfold Proofs.YtcnahmgekicbdaaGreat.note;split
 ·exact .Xk _ _
 ·exact .refl' rfl
theorem SnM.Yn (p:Nat):SnM σ (Proofs.YtcnahmgekicbdaaGreat.Yn s p σ):= (SnM.Zw (σ:=Proofs.YtcnahmgekicbdaaGreat.JW p σ) p (σ.wa p)).trans (.refl' rfl)
structure P2 (s:Zc) (σ:TS):Prop where
 ld:∀ i,σ.ld i <= (σ.sn i).length
 kn:Kn s σ
theorem P2.of (h:P2 s σ) (h1:τ.ld=σ.ld) (h2:SnM σ τ) (h3:τ.kn=σ.kn) (h4:∀ k,σ.st k=3 ->τ.st k=3):P2 s τ:=
 ⟨fun i=>by rw [h1];exact Nat.le_trans (h.ld i) (h2 i),fun q hq=>by rw [h3];exact h.kn.srt q hq,fun q hq x hx=>by
   rw [h3] at hx;obtain⟨k,a,b,c,d⟩:=h.kn.rng q hq x hx;exact⟨k,a,b,c,h4 k d⟩⟩
theorem P2.drop (h:P2 s σ) (hl:σ.ld i < (σ.sn i).length):P2 s (drop1 i σ):= ⟨fun j=>by
 show Z9 σ.ld i (σ.ld i + 1) j <= (σ.sn j).length;by_cases e:j=i
 ·subst e;rw [Zv];exact hl
 ·rw [ZF e];exact h.ld j,⟨h.kn.srt,h.kn.rng⟩⟩
theorem ZIC {f:Nat ->Int} {k j:Nat} (h:f j=3):Z9 f k 3 j=3:=by
 unfold Z9;by_cases e:j=k
 ·rw [if_pos e]
 ·rw [if_neg e];exact h
theorem P2.Yn (h:P2 s σ) (p:Nat):P2 s (Proofs.YtcnahmgekicbdaaGreat.Yn s p σ):=by
 have sA:=QV (s:=s) p σ;exact h.of sA.2.2.1 (.Yn p) sA.2.1 fun k hk=>by rw [sA.1];exact ZIC hk
theorem P2.not_mem (h:P2 s σ) {q:Nat} (hq:q < nn s) (h2:σ.st p ≠ 3):(p:Int) ∉ σ.kn q:=fun hm=>by
 obtain⟨k,e1,_,_,e4⟩:=h.kn.rng q hq _ hm;have:k=p:=by omega
 subst this;exact h2 e4
theorem P2.act (hS:X7 s) (h:P2 s σ) (ac:Act s σ τ):P2 s τ:=by
 cases ac with
 | @fall p hp h1=>
   refine h.of rfl (.refl' rfl) rfl fun k hk=>?_
   show Z9 σ.st p 2 k=3;rw [ZF (fun z=>by subst z;rw [h1] at hk;cases hk)];exact hk
 | WZ=>exact h.of rfl (.send _) rfl fun _ z=>z
 | @die p hp h2 hA=>
   have hD:=h.Yn p;have sA:=QV (s:=s) p σ;unfold UH;by_cases h0:inn s (p:Int) < 0
   ·rw [if_pos h0];exact hD
   ·rw [if_neg h0];obtain⟨eq,hq⟩:=QS hS hp h0;by_cases e:pl s (inn s (p:Int)).toNat=pl s p
    ·rw [if_pos e];exact⟨hD.ld,Wl hS hD.kn hp h0 (by rw [sA.1,Zv]) (by rw [sA.2.1];exact h.not_mem hq (by rw [h2];decide)) _⟩
    ·rw [if_neg e];exact hD.of rfl (.send _) rfl fun _ z=>z
 | @Zdj p q=>have e:=QB q p σ.sd (kK p q σ);exact h.of e.2.2.2.1 (.refl' e.2.2.2.2.1) e.2.1 fun k z=>by rw [e.1];exact z
 | @Zdi p q=>exact h.of rfl (SnM.trans (.refl' (τ:=kK p q σ) rfl) (.send _)) rfl fun _ z=>z
 | @Zdf p q=>have e:=X6 (s:=s) p q (tell 3 p q 0 σ);exact h.of e.2.2.2.1 (SnM.trans (.refl' (τ:=tell 3 p q 0 σ) rfl) (.note _ _)) e.2.1 fun k z=>by rw [e.1];exact z
 | @Zde p q=>exact h.of rfl (SnM.trans (.refl' (τ:=tell 3 p q 0 σ) rfl) (.send _)) rfl fun _ z=>z
 | @Zdo a b p q ha hb hl=>have e:=QB q p (hd σ (li s a b)).n (drop1 (li s a b) σ);exact(h.drop hl).of e.2.2.2.1 (.refl' e.2.2.2.2.1) e.2.1 fun k z=>by rw [e.1];exact z
 | @Zdr a b p q ha hb hl=>have e:=X6 (s:=s) p q (drop1 (li s a b) σ);exact(h.drop hl).of e.2.2.2.1 (.note _ _) e.2.1 fun k z=>by rw [e.1];exact z
 | Zdp ha hb hl=>exact h.drop hl
 | ZbH ha hb hl hk hp hpn h0 hm h3 hn=>exact⟨(h.drop hl).ld,Wl hS (h.drop hl).kn hpn (by omega) h3 hn _⟩
 | Zdq ha hb hl=>exact(h.drop hl).of rfl (.refl' rfl) rfl fun _ z=>z
 | @ring w i=>have e:=Jt s w i σ;exact h.of e.2.1 (.refl' e.2.2.2.2.2.1) e.2.2.2.1 fun k z=>by rw [e.2.2.1];exact z
structure KI (s:Zc) (σ:TS):Prop where
 k1:∀ (i j:Nat) (x:Ze),(σ.sn i)[j]? =some x ->x.kW=4 ->∃ k:Nat,x.kV= (k:Int)∧k < nn s∧σ.st k=3∧((k:Int) ∈ σ.kn (inn s (k:Int)).toNat↔j < σ.ld i)
 k2:∀ (i i' j j':Nat) (x x':Ze),(σ.sn i)[j]? =some x ->(σ.sn i')[j']? =some x' ->x.kW=4 ->x'.kW=4 ->x.kV=x'.kV ->i=i'∧j=j'
 k3:∀ p,p < nn s ->σ.st p=3 ->0 <=inn s (p:Int) ->(p:Int) ∈ σ.kn (inn s (p:Int)).toNat∨∃ (i j:Nat) (x:Ze),(σ.sn i)[j]? =some x∧x.kW=4∧x.kV= (p:Int)
 k4:∀ p,p < nn s ->σ.st p=3 ->Alo s σ p
def S4 (σ τ:TS):Prop:=∀ (i j:Nat) (x:Ze),x.kW=4 ->((τ.sn i)[j]? =some x↔(σ.sn i)[j]? =some x)
theorem S4.refl' (h:τ.sn=σ.sn):S4 σ τ:=fun i j x _=>by rw [h]
theorem S4.trans (h:S4 σ τ) (h':S4 τ υ):S4 σ υ:=fun i j x hx=>(h' i j x hx).trans (h i j x hx)
theorem X9 {x y:Ze} {j:Nat}:((send s a b x σ).sn i)[j]? =some y↔(σ.sn i)[j]? =some y∨(i=li s a b∧j= (σ.sn i).length∧y=x):=by
 by_cases e:i=li s a b
 ·subst e;rw [ZcL];rcases Nat.lt_trichotomy j (σ.sn (li s a b)).length with h | h | h
  ·rw [List.getElem?_append_left h];exact⟨.inl,fun z=>z.elim id fun w=>absurd w.2.1 (by omega)⟩
  ·subst h;rw [List.getElem?_append_right (Nat.le_refl _),Nat.sub_self]
   constructor
   ·intro z;simp at z;exact .inr ⟨rfl,rfl,z.symm⟩
   ·rintro(z | ⟨_,_,z⟩)
    ·rw [List.getElem?_eq_none (Nat.le_refl _)] at z;cases z
    ·simp [z]
  ·constructor
   ·intro z;have:= (Li0 z).1;rw [List.length_append,List.length_singleton] at this;omega
   ·rintro(z | ⟨_,z,_⟩)
    ·have:= (Li0 z).1;omega
    ·omega
 ·rw [Ul e];exact⟨.inl,fun z=>z.elim id fun w=>absurd w.1 e⟩
theorem S4.send (hx:x.kW ≠ 4):S4 σ (Proofs.YtcnahmgekicbdaaGreat.send s a b x σ):=fun i j y hy=>by
 rw [X9];exact⟨fun z=>z.elim id fun w=>absurd (w.2.2 ▸ hy) hx,.inl⟩
theorem S4.Xk (p q:Nat):S4 σ (Proofs.YtcnahmgekicbdaaGreat.Xk s p q σ):=by
 unfold Proofs.YtcnahmgekicbdaaGreat.Xk;split
 ·exact .refl' rfl
 ·exact .send (by show(5:Int) ≠ 4;decide)
theorem S4.Zw (p:Nat) (l:List Int):S4 σ (Proofs.YtcnahmgekicbdaaGreat.Zw s p l σ):=WK _ (S4 σ) l σ (.refl' rfl) fun τ x _ h=>h.trans (.Xk _ _)
theorem S4.note (p q:Nat):S4 σ (Proofs.YtcnahmgekicbdaaGreat.note s p q σ):=by
 unfold Proofs.YtcnahmgekicbdaaGreat.note;split
 ·exact .Xk _ _
 ·exact .refl' rfl
theorem S4.Yn (p:Nat):S4 σ (Proofs.YtcnahmgekicbdaaGreat.Yn s p σ):= (S4.Zw (σ:=Proofs.YtcnahmgekicbdaaGreat.JW p σ) p (σ.wa p)).trans (.refl' rfl)
theorem KI.same (h:KI s σ) (h1:∀ p,τ.st p=3↔σ.st p=3) (h2:τ.kn=σ.kn) (h3:τ.ld=σ.ld) (h4:S4 σ τ):KI s τ:=by
 refine⟨fun i j x hx hk=>?_,fun i i' j j' x x' hx hx' hk hk' e=>h.k2 i i' j j' x x' ((h4 i j x hk).1 hx) ((h4 i' j' x' hk').1 hx') hk hk' e,fun p hp h3' h0=>?_,fun p hp h3'=>?_⟩
 ·obtain⟨k,e1,e2,e3,e4⟩:=h.k1 i j x ((h4 i j x hk).1 hx) hk;exact⟨k,e1,e2,(h1 k).2 e3,by rw [h2,h3];exact e4⟩
 ·rw [h2];exact(h.k3 p hp ((h1 p).1 h3') h0).imp id fun⟨i,j,x,a,b,c⟩=>⟨i,j,x,(h4 i j x b).2 a,b,c⟩
 ·intro k hk e;rw [h2];exact h.k4 p hp ((h1 p).1 h3') k hk e
theorem KI.drop (h:KI s σ) (hl:σ.ld i < (σ.sn i).length) (hk:(hd σ i).kW ≠ 4):KI s (drop1 i σ):=by
 refine⟨fun i' j x hx hk'=>?_,h.k2,h.k3,h.k4⟩;obtain⟨k,e1,e2,e3,e4⟩:=h.k1 i' j x hx hk';refine⟨k,e1,e2,e3,e4.trans ?_⟩;show j < σ.ld i'↔j < Z9 σ.ld i (σ.ld i + 1) i';by_cases e:i'=i
 ·subst e;rw [Zv]
  have:j ≠ σ.ld i':=fun z=>hk (by
   subst z;have hx:(σ.sn i')[σ.ld i']? =some x:=hx;unfold hd;rw [List.getD_eq_getElem?_getD,hx];exact hk')
  omega
 ·rw [ZF e]
theorem ZPa {f:Nat ->Int} {k j:Nat} {v:Int} (hv:v ≠ 3) (h:f k ≠ 3):Z9 f k v j=3↔f j=3:=by
 unfold Z9;by_cases e:j=k
 ·subst e;rw [if_pos rfl];exact⟨fun z=>absurd z hv,fun z=>absurd z h⟩
 ·rw [if_neg e]
theorem KI.die (hS:X7 s) (hP:P2 s σ) (h:KI s σ) (hp:p < nn s) (h2:σ.st p=2) (hA:Alo s σ p):KI s (UH s p σ):=by
 have sA:=QV (s:=s) p σ;have h4:=S4.Yn (s:=s) (σ:=σ) p
 have no4:∀ (i j:Nat) (x:Ze),(σ.sn i)[j]? =some x ->x.kW=4 ->x.kV ≠ (p:Int):=fun i j x hx hk e=>by
  obtain⟨k,e1,_,e3,_⟩:=h.k1 i j x hx hk;have:k=p:=by omega
  subst this;rw [h2] at e3;cases e3
 have st3:∀ k,σ.st k=3 ->Z9 σ.st p 3 k=3:=fun k hk=>by
  unfold Z9;by_cases e:k=p
  ·rw [if_pos e]
  ·rw [if_neg e];exact hk
 have ZtA:∀ k,Z9 σ.st p 3 k=3 ->k=p∨σ.st k=3:=fun k hk=>by
  by_cases e:k=p
  ·exact .inl e
  ·rw [ZF e] at hk;exact .inr hk
 unfold UH;by_cases h0:inn s (p:Int) < 0
 ·rw [if_pos h0];refine⟨fun i j x hx hk=>?_,fun i i' j j' x x' hx hx' hk hk' e=>h.k2 i i' j j' x x' ((h4 i j x hk).1 hx) ((h4 i' j' x' hk').1 hx') hk hk' e,fun k hk h3' h0'=>?_,fun k hk h3'=>?_⟩
  ·obtain⟨k,e1,e2,e3,e4⟩:=h.k1 i j x ((h4 i j x hk).1 hx) hk;exact⟨k,e1,e2,by rw [sA.1];exact st3 k e3,by rw [sA.2.1,sA.2.2.1];exact e4⟩
  ·rw [sA.1] at h3';rcases ZtA k h3' with e | e
   ·subst e;omega
   ·rw [sA.2.1];exact(h.k3 k hk e h0').imp id fun⟨i,j,x,a,b,c⟩=>⟨i,j,x,(h4 i j x b).2 a,b,c⟩
  ·rw [sA.1] at h3';intro j hj e;rw [sA.2.1];rcases ZtA k h3' with z | z
   ·subst z;exact hA j hj e
   ·exact h.k4 k hk z j hj e
 ·rw [if_neg h0];obtain⟨eq,hq⟩:=QS hS hp h0;by_cases e:pl s (inn s (p:Int)).toNat=pl s p
  ·rw [if_pos e]
   have kne:∀ (k q':Nat),k ≠ p ->(((k:Int)) ∈ Z9 (Yn s p σ).kn (inn s (p:Int)).toNat (ins (p:Int) ((Yn s p σ).kn (inn s (p:Int)).toNat)) q'↔(k:Int) ∈ σ.kn q'):=fun k q' hne=>by
    rw [sA.2.1];by_cases z:q'= (inn s (p:Int)).toNat
    ·subst z;rw [Zv,Ws];exact⟨fun w=>w.elim (fun w=>absurd (by omega) hne) id,.inr⟩
    ·rw [ZF z]
   refine⟨fun i j x hx hk=>?_,fun i i' j j' x x' hx hx' hk hk' e=>h.k2 i i' j j' x x' ((h4 i j x hk).1 hx) ((h4 i' j' x' hk').1 hx') hk hk' e,fun k hk h3' h0'=>?_,fun k hk h3'=>?_⟩
   ·have hx':= (h4 i j x hk).1 hx;obtain⟨k,e1,e2,e3,e4⟩:=h.k1 i j x hx' hk;have hne:k ≠ p:=fun z=>no4 i j x hx' hk (by rw [e1,z])
    refine⟨k,e1,e2,by show(Yn s p σ).st k=3;rw [sA.1];exact st3 k e3,?_⟩;refine(kne k _ hne).trans ?_;show _↔j < (Yn s p σ).ld i;rw [sA.2.2.1];exact e4
   ·have h3':(Yn s p σ).st k=3:=h3';rw [sA.1] at h3';rcases ZtA k h3' with z | z
    ·subst z;left;show _ ∈ Z9 _ _ _ _;rw [Zv];exact Ws.2 (.inl rfl)
    ·have hne:k ≠ p:=fun w=>by subst w;rw [h2] at z;cases z
     refine(h.k3 k hk z h0').imp (fun w=>(kne k _ hne).2 w) fun⟨i,j,x,a,b,c⟩=>⟨i,j,x,(h4 i j x b).2 a,b,c⟩
   ·have h3':(Yn s p σ).st k=3:=h3';rw [sA.1] at h3';intro j hj ej
    have hold:(j:Int) ∈ σ.kn k:=by
     rcases ZtA k h3' with z | z
     ·subst z;exact hA j hj ej
     ·exact h.k4 k hk z j hj ej
    show _ ∈ Z9 _ _ _ _;rw [sA.2.1];by_cases z:k= (inn s (p:Int)).toNat
    ·subst z;rw [Zv];exact Ws.2 (.inr hold)
    ·rw [ZF z];exact hold
  ·rw [if_neg e];obtain⟨y,hy⟩:∃ y:Ze,y= ⟨4,(p:Int),0,0,W9 s (Yn s p σ) p⟩:= ⟨_,rfl⟩
   rw [← hy];have yk:y.kW=4:=by rw [hy]
   have yp:y.kV= (p:Int):=by rw [hy]
   refine⟨fun i j x hx hk=>?_,fun i i' j j' x x' hx hx' hk hk' e=>?_,fun k hk h3' h0'=>?_,fun k hk h3'=>?_⟩
   ·rcases X9.1 hx with hx | ⟨e1,e2,e3⟩
    ·obtain⟨k,e1,e2,e3,e4⟩:=h.k1 i j x ((h4 i j x hk).1 hx) hk
     exact⟨k,e1,e2,by show(Yn s p σ).st k=3;rw [sA.1];exact st3 k e3,by
      show _ ∈ (Yn s p σ).kn _↔_ < (Yn s p σ).ld i;rw [sA.2.1,sA.2.2.1];exact e4⟩
    ·refine⟨p,by rw [e3];exact yp,hp,by show(Yn s p σ).st p=3;rw [sA.1,Zv],?_⟩;show _ ∈ (Yn s p σ).kn _↔_ < (Yn s p σ).ld i;rw [sA.2.1,e2,e1];have:= (hP.Yn p).ld (li s (pl s p) (pl s (inn s (p:Int)).toNat));exact⟨fun w=>absurd w (hP.not_mem hq (by rw [h2];decide)),fun w=>by omega⟩
   ·rcases X9.1 hx with hx | ⟨a1,a2,a3⟩ <;> rcases X9.1 hx' with hx' | ⟨b1,b2,b3⟩
    ·exact h.k2 i i' j j' x x' ((h4 i j x hk).1 hx) ((h4 i' j' x' hk').1 hx') hk hk' e
    ·exact absurd (by rw [e,b3,yp]) (no4 i j x ((h4 i j x hk).1 hx) hk)
    ·exact absurd (by rw [← e,a3,yp]) (no4 i' j' x' ((h4 i' j' x' hk').1 hx') hk')
    ·have:i=i':=by rw [a1,b1]
     subst this;exact⟨rfl,by rw [a2,b2]⟩
   ·have h3':(Yn s p σ).st k=3:=h3';rw [sA.1] at h3';rcases ZtA k h3' with z | z
    ·subst z;exact .inr ⟨_,_,y,X9.2 (.inr ⟨rfl,rfl,rfl⟩),yk,yp⟩
    ·refine(h.k3 k hk z h0').imp (fun w=>by show _ ∈ (Yn s p σ).kn _;rw [sA.2.1];exact w) fun⟨i,j,x,a,b,c⟩=>⟨i,j,x,X9.2 (.inl ((h4 i j x b).2 a)),b,c⟩
   ·have h3':(Yn s p σ).st k=3:=h3';rw [sA.1] at h3';intro j hj ej;show _ ∈ (Yn s p σ).kn k;rw [sA.2.1];rcases ZtA k h3' with z | z
    ·subst z;exact hA j hj ej
    ·exact h.k4 k hk z j hj ej
theorem KI.ZbH (hS:X7 s) (h:KI s σ) (hl:σ.ld i < (σ.sn i).length) (hk:(hd σ i).kW=4) (hp:(hd σ i).kV= (p:Int)) (hpn:p < nn s) (l:List Int):KI s (YN s p l (drop1 i σ)):=by
 have hh:(σ.sn i)[σ.ld i]? =some (hd σ i):=by
  unfold hd;rw [List.getD_eq_getElem?_getD,List.getElem?_eq_getElem hl];rfl
 have kne:∀ (k q':Nat),k ≠ p ->(((k:Int)) ∈ Z9 σ.kn (inn s (p:Int)).toNat (ins (p:Int) (σ.kn (inn s (p:Int)).toNat)) q'↔(k:Int) ∈ σ.kn q'):=fun k q' hne=>by
  by_cases z:q'= (inn s (p:Int)).toNat
  ·subst z;rw [Zv,Ws];exact⟨fun w=>w.elim (fun w=>absurd (by omega) hne) id,.inr⟩
  ·rw [ZF z]
 have kup:∀ (k q':Nat),(k:Int) ∈ σ.kn q' ->((k:Int)) ∈ Z9 σ.kn (inn s (p:Int)).toNat (ins (p:Int) (σ.kn (inn s (p:Int)).toNat)) q':=fun k q' hm=>by
  by_cases e:k=p
  ·by_cases z:q'= (inn s (p:Int)).toNat
   ·subst z;rw [Zv];exact Ws.2 (.inr hm)
   ·rw [ZF z];exact hm
  ·exact(kne k q' e).2 hm
 refine⟨fun i' j x hx hk'=>?_,h.k2,fun k hk' h3 h0=>(h.k3 k hk' h3 h0).imp (fun w=>kup k _ w) id,fun k hk' h3 j hj e=>kup j k (h.k4 k hk' h3 j hj e)⟩;obtain⟨k,e1,e2,e3,e4⟩:=h.k1 i' j x hx hk';refine⟨k,e1,e2,e3,?_⟩;show(k:Int) ∈ Z9 σ.kn (inn s (p:Int)).toNat (ins (p:Int) (σ.kn (inn s (p:Int)).toNat)) (inn s (k:Int)).toNat↔j < Z9 σ.ld i (σ.ld i + 1) i';by_cases z:k=p
 ·subst z;obtain⟨a,c⟩:=h.k2 i' i j _ x _ hx hh hk' hk (by rw [e1,hp]);subst a c;rw [Zv,Zv];exact⟨fun _=>by omega,fun _=>Ws.2 (.inl rfl)⟩
 ·rw [kne k _ z];by_cases e:i'=i
  ·subst e;rw [Zv]
   have:j ≠ σ.ld i':=fun w=>by
    subst w;have hx:(σ.sn i')[σ.ld i']? =some x:=hx;rw [hh] at hx;cases hx;rw [hp] at e1;omega
   exact e4.trans (by omega)
  ·rw [ZF e];exact e4
theorem KI.act (hS:X7 s) (hP:P2 s σ) (h:KI s σ) (ac:Act s σ τ):KI s τ:=by
 cases ac with
 | @fall p hp h1=>exact h.same (fun k=>ZPa (by decide) (by rw [h1];decide)) rfl rfl (.refl' rfl)
 | WZ=>exact h.same (fun _=>Iff.rfl) rfl rfl (.send (by show(3:Int) ≠ 4;decide))
 | die hp h2 hA=>exact h.die hS hP hp h2 hA
 | @Zdj p q=>have e:=QB q p σ.sd (kK p q σ);exact h.same (fun k=>by rw [e.1];exact Iff.rfl) e.2.1 e.2.2.2.1 (.refl' e.2.2.2.2.1)
 | @Zdi p q=>exact h.same (fun _=>Iff.rfl) rfl rfl (S4.trans (.refl' (τ:=kK p q σ) rfl) (.send (by show(1:Int) ≠ 4;decide)))
 | @Zdf p q=>have e:=X6 (s:=s) p q (tell 3 p q 0 σ);exact h.same (fun k=>by rw [e.1];exact Iff.rfl) e.2.1 e.2.2.2.1 (S4.trans (.refl' (τ:=tell 3 p q 0 σ) rfl) (.note _ _))
 | @Zde p q=>exact h.same (fun _=>Iff.rfl) rfl rfl (S4.trans (.refl' (τ:=tell 3 p q 0 σ) rfl) (.send (by show(2:Int) ≠ 4;decide)))
 | @Zdo a b p q ha hb hl hk=>have e:=QB q p (hd σ (li s a b)).n (drop1 (li s a b) σ);exact(h.drop hl (by rw [hk];decide)).same (fun k=>by rw [e.1]) e.2.1 e.2.2.2.1 (.refl' e.2.2.2.2.1)
 | @Zdr a b p q ha hb hl hk=>have e:=X6 (s:=s) p q (drop1 (li s a b) σ);exact(h.drop hl (by rw [hk];decide)).same (fun k=>by rw [e.1]) e.2.1 e.2.2.2.1 (.note _ _)
 | Zdp ha hb hl hk=>exact h.drop hl (by rw [hk];decide)
 | ZbH ha hb hl hk hp hpn=>exact h.ZbH hS hl hk hp hpn _
 | Zdq ha hb hl hk=>exact(h.drop hl (by rw [hk];decide)).same (fun _=>Iff.rfl) rfl rfl (.refl' rfl)
 | @ring w i=>have e:=Jt s w i σ;exact h.same (fun k=>by rw [e.2.2.1]) e.2.2.2.1 e.2.1 (.refl' e.2.2.2.2.2.1)
end
end
section
def SD (σ:TS):Prop:=0 <=σ.sd∧σ.sd <= (σ.ev.length:Int)
structure Ok (s:Zc) (B:Nat) (σ:TS):Prop where
 gd:Gd s B σ
 p1:P1 s σ
 p2:P2 s σ
 ki:KI s σ
 sd:SD σ
section
variable {s:Zc} {σ τ υ:TS} {F B a b p q w i n d:Nat} {x:Yc}
theorem SD.of (h:SD σ) (h1:τ.sd=σ.sd) (h2:σ.ev.length <=τ.ev.length):SD τ:= ⟨by rw [h1];exact h.1,by rw [h1];have:=h.2;omega⟩
theorem Zwl (p q:Nat) (n:Int) (σ:TS):σ.ev.length <= (see p q n σ).ev.length:=by
 unfold see;split
 ·show _ <= (σ.ev ++ [_]).length;rw [List.length_append];omega
 ·exact Nat.le_refl _
theorem SD.act (h:SD σ) (ac:Act s σ τ):SD τ:=by
 cases ac with
 | fall=>exact h.of rfl (by show _ <= (σ.ev ++ [_]).length;rw [List.length_append];omega)
 | WZ=>exact h
 | @die p hp h2 hA=>
   have sA:=QV (s:=s) p σ;have:SD (Yn s p σ):=h.of sA.2.2.2.1 (by rw [sA.2.2.2.2.1,List.length_append];omega);unfold UH;split
   ·exact this
   ·split
    ·exact this
    ·exact this
 | @Zdj p q hp hq=>
   have e:=QB q p σ.sd (kK p q σ);have e2:=Zwl q p σ.sd (kK p q σ);have e3:(kK p q σ).ev.length=σ.ev.length + 1:=by show(σ.ev ++ [_]).length=_;simp
   refine⟨?_,?_⟩
   ·rw [e.2.2.2.2.2.2.2];show 0 <=σ.sd + 1;have:=h.1;omega
   ·rw [e.2.2.2.2.2.2.2];show σ.sd + 1 <=_;have:=h.2;omega
 | @Zdi p q=>
   have e3:(kK p q σ).ev.length=σ.ev.length + 1:=by show(σ.ev ++ [_]).length=_;simp
   exact⟨by show 0 <=σ.sd + 1;have:=h.1;omega,by show σ.sd + 1 <= ((kK p q σ).ev.length:Int);have:=h.2;omega⟩
 | @Zdf p q=>
   have e:=X6 (s:=s) p q (tell 3 p q 0 σ);exact h.of e.2.2.2.2.1 (by rw [e.2.2.2.2.2];show _ <= (σ.ev ++ [_]).length;rw [List.length_append];omega)
 | Zde=>exact h.of rfl (by show _ <= (σ.ev ++ [_]).length;rw [List.length_append];omega)
 | @Zdo a b p q=>exact h.of (QB q p (hd σ (li s a b)).n (drop1 (li s a b) σ)).2.2.2.2.2.2.2 (Zwl q p (hd σ (li s a b)).n (drop1 (li s a b) σ))
 | @Zdr a b p q=>have e:=X6 (s:=s) p q (drop1 (li s a b) σ);exact h.of e.2.2.2.2.1 (by rw [e.2.2.2.2.2];exact Nat.le_refl _)
 | Zdp=>exact h
 | ZbH=>exact h
 | Zdq=>exact h
 | @ring w i=>
   refine h.of (Jt s w i σ).2.2.2.2.2.2.2 ?_;unfold rung;split
   ·show _ <= (σ.ev ++ [_]).length;rw [List.length_append];omega
   ·exact Nat.le_refl _
theorem Ok.acts (hS:X7 s) (h:Ok s B σ) (ha:JC s σ τ) {B':Nat} (g:Gd s B' τ):Ok s B' τ:=by
 have:=ha.keep (P:=fun σ=>P1 s σ∧P2 s σ∧KI s σ∧SD σ) (fun _ _ ⟨a,b,c,d⟩ ac=>⟨a.act hS ac,b.act hS ac,c.act hS b ac,d.act ac⟩) ⟨h.p1,h.p2,h.ki,h.sd⟩;exact⟨g,this.1,this.2.1,this.2.2.1,this.2.2.2⟩
theorem Ok.head (h:Ok s B σ) (ha:a < mm s) (hb:b < mm s) (hl:σ.ld (li s a b) < (σ.sn (li s a b)).length):ZAv s a b (hd σ (li s a b))∧Zvf s (hd σ (li s a b)) σ:=by
 have hx:=h.p1.lets a b ha hb _ (Zcf hl);refine⟨hx,fun hk=>?_⟩
 have hh:(σ.sn (li s a b))[σ.ld (li s a b)]? =some (hd σ (li s a b)):=by
  unfold hd;rw [List.getD_eq_getElem?_getD,List.getElem?_eq_getElem hl];rfl
 obtain⟨k,e1,e2,e3,e4⟩:=h.ki.k1 _ _ _ hh hk;rw [e1,Int.toNat_natCast];exact⟨e3,fun m=>absurd (e4.1 m) (Nat.lt_irrefl _)⟩
theorem ZlA (h:Gd s B σ) (p q:Nat):Gd s (B + 1) (kK p q σ):=
 ⟨(Wf.tell (σ:= {σ with sd:=σ.sd + 1}) ⟨h.wf.pot,h.wf.ld,h.wf.ws⟩ 1 p q σ.sd),⟨h.kn.srt,h.kn.rng⟩⟩
theorem Zlu (h:Gd s B σ) (d p q n:Int):Gd s (B + 1) (tell d p q n σ):= ⟨h.wf.tell d p q n,⟨h.kn.srt,h.kn.rng⟩⟩
theorem ZrY (h:Gd s B σ) (ha:a < mm s) (hb:b < mm s) (x:Ze):Gd s (B + 1 + ew x) (send s a b x σ):= ⟨h.wf.send ha hb x,⟨h.kn.srt,h.kn.rng⟩⟩
theorem Zhr (hS:X7 s) (h:Ok s B σ) (hx:Zg3 s x σ):Gd s (B + 4) (ZgI s x σ)∧JC s σ (ZgI s x σ):=by
 unfold ZgI;rcases hx with⟨k,p,q,ep,eq,hp,hq,h1⟩ | ⟨k,p,q,ep,eq,hp,hq,h1⟩ | ⟨k,p,ep,hp,h1⟩ | ⟨k,a,b,ea,eb,ha,hb,hl⟩
 ·rw [if_pos k,ep,eq,Int.toNat_natCast,Int.toNat_natCast];by_cases e:pl s p=pl s q
  ·rw [if_pos e];exact⟨(Zwk (ZlA h.gd p q) q p σ.sd).up (by omega),.one (.Zdj hp hq h1 e)⟩
  ·rw [if_neg e];exact⟨(ZrY (ZlA h.gd p q) (hS.pl hp).2 (hS.pl hq).2 _).up (by show B + 1 + 1 + 1 <=B + 4;omega),.one (.Zdi hp hq h1 e)⟩
 ·rw [if_neg (by omega),if_pos k,ep,eq,Int.toNat_natCast,Int.toNat_natCast];by_cases e:pl s p=pl s q
  ·rw [if_pos e];exact⟨(Zsm hS (Zlu h.gd 3 p q 0) hp hq).up (by omega),.one (.Zdf hp hq h1 e)⟩
  ·rw [if_neg e];exact⟨(ZrY (Zlu h.gd 3 p q 0) (hS.pl hp).2 (hS.pl hq).2 _).up (by show B + 1 + 1 + 2 <=B + 4;omega),.one (.Zde hp hq h1 e)⟩
 ·rw [if_neg (by omega),if_neg (by omega),if_pos k,ep,Int.toNat_natCast];exact⟨(Zmi hS _ _ _ _ hp (ZbO.all hS.inn) h.gd h1).up (by omega),ZkU hS _ _ _ hp (ZbO.all hS.inn) h1⟩
 ·rw [if_neg (by omega),if_neg (by omega),if_neg (by omega),ea,eb,Int.toNat_natCast,Int.toNat_natCast];obtain⟨hf,hD⟩:=h.head ha hb hl;exact⟨(Zn7 hS h.gd ha hb hl hf.s hD).up (by omega),Zt1 hS ha hb hl hf.s hD⟩
theorem Zuz (hS:X7 s) (h:Ok s B σ) (k:x.act=4) (hx:Zg3 s x σ):Gd s B (ZgI s x σ):=by
 unfold ZgI;rcases hx with⟨k',_⟩ | ⟨k',_⟩ | ⟨k',_⟩ | ⟨_,a,b,ea,eb,ha,hb,hl⟩
 ·omega
 ·omega
 ·omega
 ·rw [if_neg (by omega),if_neg (by omega),if_neg (by omega),ea,eb,Int.toNat_natCast,Int.toNat_natCast];obtain⟨hf,hD⟩:=h.head ha hb hl;exact Zn7 hS h.gd ha hb hl hf.s hD
theorem P1.ZJK (h:P1 s σ):BeA s σ:=fun w hw x hx=>(h.bea w hw x hx).1
theorem step_ok (hS:X7 s) (h:Ok s B σ) (hx:Zg3 s x σ):Ok s (B + 4) (stepW s x σ):=by
 obtain⟨g,ac⟩:=Zhr hS h hx;have o1:=h.acts hS ac g;exact o1.acts hS (ZdM (mm s) (Nat.le_refl _)) (ZhU g o1.p1.ZJK (mm s) (Nat.le_refl _)).1
theorem Zv4 (hS:X7 s) (h:Ok s B σ) (k:x.act=4) (hx:Zg3 s x σ):Ok s B (stepW s x σ):=by
 have g:=Zuz hS h k hx;have o1:=h.acts hS (Zhr hS h hx).2 g;exact o1.acts hS (ZdM (mm s) (Nat.le_refl _)) (ZhU g o1.p1.ZJK (mm s) (Nat.le_refl _)).1
theorem Zkt (hS:X7 s) (h:Ok s B σ) (hx:Zg3 s x σ):JC s σ (stepW s x σ):= (Zhr hS h hx).2.trans (ZdM (mm s) (Nat.le_refl _))
theorem ZpM (hF:1000000 <=F) (hS:X7 s) (hB:B <=600000) (h:Gd s B σ) (hb:BeA s σ):Zbb F (WJ s σ)=some (hal s (rings s (mm s) σ)):=by
 have h4:=hS.mm.2.2;unfold Zbb;rw [show WJ s σ= (tab (nn s) σ.st,(tab (nn s) fun j=>tab (mm s * mm s) (σ.ma j)),tab (nn s) σ.kn,tab (nn s) σ.wa,tab (mm s) σ.be,tab (mm s * mm s) (K6 σ),σ.sd,s.qG,s.Zf,σ.ev) from rfl];dsimp only;refine YZ (fun k=>((k:Int),WJ s (rings s k σ))) rfl (n:=mm s) (by omega) (fun k hk next=>?_) (fun next=>?_)
 ·obtain⟨g1,g2⟩:=ZhU h hb k (by omega);have hl7:((rings s k σ).be k).length <=600000:=by have:=g1.wf.pot;have:=UK (f:=fun m=>((rings s k σ).be m).length) hk;unfold Pot at *;omega
  unfold Zmw;rw [show WJ s (rings s k σ)= (tab (nn s) (rings s k σ).st,(tab (nn s) fun j=>tab (mm s * mm s) ((rings s k σ).ma j)),tab (nn s) (rings s k σ).kn,tab (nn s) (rings s k σ).wa,tab (mm s) (rings s k σ).be,tab (mm s * mm s) (K6 (rings s k σ)),(rings s k σ).sd,s.qG,s.Zf,(rings s k σ).ev) from rfl];dsimp only;rw [Zfz hS hk,Cq1,Zl2];unfold ZCr;rw [show loop F (ZdZ F (k:Int)) ((hal s (rings s k σ)).Za.qV,(hal s (rings s k σ)).Za.qX,(hal s (rings s k σ)).Za.qZ,(hal s (rings s k σ)).Za.Zp,(hal s (rings s k σ)).Za.Zw,(hal s (rings s k σ)).Za.kQ,(hal s (rings s k σ)).Za.kK,(hal s (rings s k σ)).qK.qG,(hal s (rings s k σ)).qK.Zf,(hal s (rings s k σ)).kU)=some (hal s (rings s (k + 1) σ)) from ZtF hF hS hB hk _ F (rings s k σ) (by omega) (Nat.le_refl _) g1 g2];simp only [Bq0];rw [Xp (by omega)];rfl
 ·unfold Zmw WJ;dsimp only;rw [ZlP hS,Cq0];rfl
theorem Zks (hF:1000000 <=F) (hS:X7 s) (hB:B <=500000) (h:Ok s B σ) (hx:Zg3 s x σ):Zur F (hal s σ) x=some (hal s (stepW s x σ)):=by
 obtain⟨g,ac⟩:=Zhr hS h hx;have o1:=h.acts hS ac g;have fin:=ZpM (F:=F) hF hS (by omega) g o1.p1.ZJK;unfold stepW;have fw:=h.gd.wf.few (by omega);have hsd:=h.sd;have hev:=fw.ev;unfold Zur;simp only [YP];unfold ZgI at fin ⊢;rcases hx with⟨k,p,q,ep,eq,hp,hq,h1⟩ | ⟨k,p,q,ep,eq,hp,hq,h1⟩ | ⟨k,p,ep,hp,h1⟩ | ⟨k,a,b,ea,eb,ha,hb,hl⟩
 ·rw [if_pos k,ep,eq,Int.toNat_natCast,Int.toNat_natCast] at fin ⊢;have es:Yy (σ.sd + 1)=σ.sd + 1:=Zak (by have:=hsd.1;omega) (by have:=hsd.2;omega);rw [decide_eq_true k,Cq1,show(hal s σ).Za.kK=σ.sd from rfl,Kv fw];simp only [Bq0]
  have e5:ZE.mk (Zm.mk (hal s (tell 1 p q σ.sd σ)).Za.qV (hal s (tell 1 p q σ.sd σ)).Za.qX (hal s (tell 1 p q σ.sd σ)).Za.qZ (hal s (tell 1 p q σ.sd σ)).Za.Zp (hal s (tell 1 p q σ.sd σ)).Za.Zw (hal s (tell 1 p q σ.sd σ)).Za.kQ (Yy ((hal s (tell 1 p q σ.sd σ)).Za.kK + 1))) (hal s (tell 1 p q σ.sd σ)).qK (hal s (tell 1 p q σ.sd σ)).kU=hal s (kK p q σ):=by
   rw [show(hal s (tell 1 p q σ.sd σ)).Za.kK=σ.sd from rfl,es];rfl
  have gs:=ZlA h.gd p q;rw [e5,U0 hS hp,U0 hS hq];simp only [Bq0];rw [show decide (((pl s p:Nat):Int)= ((pl s q:Nat):Int))=decide (pl s p=pl s q) by rw [← YP];exact ZeX _ _];by_cases e:pl s p=pl s q
  ·rw [if_pos e] at fin ⊢;rw [decide_eq_true e,Cq1,ZnE (gs.wf.few (by omega)) rfl hq];exact fin
  ·rw [if_neg e] at fin ⊢;rw [decide_eq_false e,Cq0,ZaC hS (gs.wf.few (by omega)) (hS.pl hp).2 (hS.pl hq).2];exact fin
 ·rw [if_neg (by omega),if_pos k,ep,eq,Int.toNat_natCast,Int.toNat_natCast] at fin ⊢;rw [decide_eq_false (by omega),Cq0,decide_eq_true k,Cq1,Kv fw];simp only [Bq0];have gs:=Zlu h.gd 3 p q 0;rw [U0 hS hp,U0 hS hq];simp only [Bq0];rw [show decide (((pl s p:Nat):Int)= ((pl s q:Nat):Int))=decide (pl s p=pl s q) by rw [← YP];exact ZeX _ _];by_cases e:pl s p=pl s q
  ·rw [if_pos e] at fin ⊢;rw [decide_eq_true e,Cq1,ZkI hS (gs.wf.few (by omega)) rfl rfl hp hq];exact fin
  ·rw [if_neg e] at fin ⊢;rw [decide_eq_false e,Cq0,ZaC hS (gs.wf.few (by omega)) (hS.pl hp).2 (hS.pl hq).2];exact fin
 ·rw [if_neg (by omega),if_neg (by omega),if_pos k,ep,Int.toNat_natCast] at fin ⊢;rw [decide_eq_false (by omega),Cq0,decide_eq_false (by omega),Cq0,decide_eq_true k,Cq1];unfold Zzp;have h8:nn s <=8:=hS.p2;rw [ZkT hF hS (nn s) _ _ F _ (by omega) hp (ZbO.all hS.inn) h.gd (by omega) h1];exact fin
 ·rw [if_neg (by omega),if_neg (by omega),if_neg (by omega),ea,eb,Int.toNat_natCast,Int.toNat_natCast] at fin ⊢;obtain⟨hf,hD⟩:=h.head ha hb hl;rw [decide_eq_false (by omega),Cq0,decide_eq_false (by omega),Cq0,decide_eq_false (by omega),Cq0,decide_eq_true k,Cq1,Zt0 hF hS h.gd (by omega) ha hb hl hf.s hD];exact fin
end
end
section
section
variable {s:Zc} {σ τ υ:TS} {F B a b p q w i n d:Nat} {x:Yc}
theorem ZlI {z:Int} (h:¬ ∃ k:Nat,z= (k:Int)∧k < nn s):(decide (z >=0) && decide (z < (s.Zf.length:Int)))=false:=Bool.eq_false_iff.2 fun e=>h ((ZcO s z).1 e)
theorem ZRI (h:σ.ld i <= (σ.sn i).length):decide (((K6 σ i).kG.length:Int) > 0)=decide (σ.ld i < (σ.sn i).length):=by
 have e:(K6 σ i).kG.length= (σ.sn i).length - σ.ld i:=by show((σ.sn i).drop (σ.ld i)).length=_;rw [List.length_drop]
 rw [e];congr 1;rw [eq_iff_iff];omega
theorem ZeC (hS:X7 s) {z:Int}:(0 <=z∧z < s.qG)↔∃ k:Nat,z= (k:Int)∧k < mm s:=by
 rw [hS.mm.1]
 constructor
 ·rintro⟨h1,h2⟩;exact⟨z.toNat,by omega,by omega⟩
 ·rintro⟨k,rfl,h⟩;omega
theorem Zna (hS:X7 s) (h:Ok s B σ):Zzs (hal s σ) x=ifc (Zg3 s x σ) (some true) (some false):=by
 unfold Zzs Zcn;rw [show(hal s σ).qK=s from rfl];simp only [Bq0]
 obtain⟨L,v,eL,hL⟩:∃ (L:Bool) (v:Int),((gd (decide (x.a >=0) && decide (x.a < (s.Zf.length:Int))) (ZO (hal s σ).Za.qV x.a) default)=some v∧(((decide (x.a >=0) && decide (x.a < (s.Zf.length:Int))) && (v==1))=L))∧(L=true↔∃ p:Nat,x.a= (p:Int)∧p < nn s∧σ.st p=1):=by
  by_cases hp:∃ p:Nat,x.a= (p:Int)∧p < nn s
  ·obtain⟨p,ep,hp⟩:=hp;refine⟨decide (σ.st p=1),σ.st p,⟨?_,?_⟩,?_⟩
   ·rw [ep,Zg7 hp,XV];exact Yz hp
   ·rw [ep,Zg7 hp,Bool.true_and,YP]
   ·rw [decide_eq_true_eq]
    constructor
    ·exact fun z=>⟨p,ep,hp,z⟩
    ·rintro⟨p',e,_,z⟩;have:p'=p:=by omega
     subst this;exact z
  ·refine⟨false,default,⟨by rw [ZlI hp];rfl,by rw [ZlI hp];rfl⟩,?_⟩
   constructor
   ·intro z;cases z
   ·rintro⟨p,e,h1,_⟩;exact absurd ⟨p,e,h1⟩ hp
 rw [eL.1];simp only [Bq0]
 have j:∀ v13:Bool,(v13=true↔x.act=1∨x.act=2) ->ZfS (hal s σ) x (decide (x.a >=0) && decide (x.a < (s.Zf.length:Int))) v v13=ifc (Zg3 s x σ) (some true) (some false):=fun v13 hv=>by
  unfold ZfS;rw [eL.2];by_cases k12:x.act=1∨x.act=2
  ·rw [hv.2 k12,Cq1];unfold Zcn;rw [show(hal s σ).qK=s from rfl];cases hLb:L with
   | false=>
     rw [UR];simp only [Bq0,Bool.false_and];have:¬ ∃ p:Nat,x.a= (p:Int)∧p < nn s∧σ.st p=1:=fun z=>by have:=hL.2 z;rw [hLb] at this;cases this
     rw [ZG];rintro(⟨_,p,q,e1,_,h1,_,z⟩ | ⟨_,p,q,e1,_,h1,_,z⟩ | ⟨_,p,e1,h1,z⟩ | ⟨k',_⟩)
     ·exact this ⟨p,e1,h1,z⟩
     ·exact this ⟨p,e1,h1,z⟩
     ·exact this ⟨p,e1,h1,z⟩
     ·omega
   | true=>
     rw [XV];simp only [Bq0,Bool.true_and];obtain⟨p,ep,hp,h1⟩:=hL.1 hLb;by_cases hq:∃ q:Nat,x.b= (q:Int)∧q < nn s
     ·obtain⟨q,eq,hq⟩:=hq;rw [eq,Zg7 hq,ZR];rcases k12 with k | k
      ·exact .inl ⟨k,p,q,ep,eq,hp,hq,h1⟩
      ·exact .inr (.inl ⟨k,p,q,ep,eq,hp,hq,h1⟩)
     ·rw [ZlI hq,ZG];rintro(⟨_,p',q,_,e1,_,z,_⟩ | ⟨_,p',q,_,e1,_,z,_⟩ | ⟨k',_⟩ | ⟨k',_⟩)
      ·exact hq ⟨q,e1,z⟩
      ·exact hq ⟨q,e1,z⟩
      ·omega
      ·omega
  ·have:v13=false:=Bool.eq_false_iff.2 fun z=>k12 (hv.1 z)
   rw [this,Cq0,YP,YP];by_cases k3:x.act=3
   ·rw [decide_eq_true k3,Cq1];cases hLb:L with
    | false=>
      have:¬ ∃ p:Nat,x.a= (p:Int)∧p < nn s∧σ.st p=1:=fun z=>by have:=hL.2 z;rw [hLb] at this;cases this
      rw [ZG];rintro(⟨k',_⟩ | ⟨k',_⟩ | ⟨_,p,e1,h1,z⟩ | ⟨k',_⟩)
      ·omega
      ·omega
      ·exact this ⟨p,e1,h1,z⟩
      ·omega
    | true=>
      obtain⟨p,ep,hp,h1⟩:=hL.1 hLb;rw [ZR (.inr (.inr (.inl ⟨k3,p,ep,hp,h1⟩)))]
   ·rw [decide_eq_false k3,Cq0];by_cases k4:x.act=4
    ·rw [decide_eq_true k4,Cq1,show(hal s σ).qK.qG=s.qG from rfl];by_cases hr:((0 <=x.a∧x.a < s.qG)∧(0 <=x.b∧x.b < s.qG))∧x.a ≠ x.b
     ·have:((decide ((if x.b < x.a then x.b else x.a) >=0)) && (decide ((if x.b > x.a then x.b else x.a) < s.qG)) && (x.a !=x.b))=true:=by
       rw [Ko,decide_eq_true hr.2,decide_eq_true (by split <;> omega),decide_eq_true (by split <;> omega)];rfl
      rw [this,Cq1];obtain⟨a,ea,ha⟩:= (ZeC hS).1 hr.1.1;obtain⟨b,eb,hb⟩:= (ZeC hS).1 hr.1.2;have hi:=Ka ha hb;rw [ea,eb,Zca hS ha hb,show(hal s σ).Za.kQ=tab (mm s * mm s) (K6 σ) from rfl,Yz hi];simp only [Bq0];rw [ZRI (h.p2.ld _)];by_cases hl:σ.ld (li s a b) < (σ.sn (li s a b)).length
      ·rw [decide_eq_true hl,ZR (.inr (.inr (.inr ⟨k4,a,b,ea,eb,ha,hb,hl⟩)))]
      ·rw [decide_eq_false hl,ZG];rintro(⟨k',_⟩ | ⟨k',_⟩ | ⟨k',_⟩ | ⟨_,a',b',e1,e2,_,_,h'⟩)
       ·omega
       ·omega
       ·omega
       ·have:a'=a:=by omega
        have:b'=b:=by omega
        subst a' b';exact hl h'
     ·have:((decide ((if x.b < x.a then x.b else x.a) >=0)) && (decide ((if x.b > x.a then x.b else x.a) < s.qG)) && (x.a !=x.b))=false:=by
       rw [Bool.eq_false_iff];intro z;rw [Ba0,Ba0,decide_eq_true_eq,decide_eq_true_eq,Ko,decide_eq_true_eq] at z;obtain⟨⟨z1,z2⟩,z3⟩:=z;split at z1 <;> split at z2 <;> (apply hr;omega)
      rw [this,Cq0,ZG];rintro(⟨k',_⟩ | ⟨k',_⟩ | ⟨k',_⟩ | ⟨_,a',b',e1,e2,h1,h2,h'⟩)
      ·omega
      ·omega
      ·omega
      ·refine hr ⟨⟨(ZeC hS).2 ⟨a',e1,h1⟩,(ZeC hS).2 ⟨b',e2,h2⟩⟩,fun z=>?_⟩;have:a'=b':=by omega
       subst this;rw [h.p1.self a' h1] at h';simp at h'
    ·rw [decide_eq_false k4,Cq0,ZG];rintro(⟨k',_⟩ | ⟨k',_⟩ | ⟨k',_⟩ | ⟨k',_⟩)
     ·omega
     ·omega
     ·omega
     ·omega
 rw [YP];by_cases k1:x.act=1
 ·rw [decide_eq_true k1,Cq1];exact j true ⟨fun _=>.inl k1,fun _=>rfl⟩
 ·rw [decide_eq_false k1,Cq0,YP];exact j _ ⟨fun z=>.inr (of_decide_eq_true z),fun z=>decide_eq_true (z.resolve_left k1)⟩
end
end
section
def ts0:TS:= ⟨fun _=>1,fun _ _=>0,fun _=>[],fun _=>[],fun _=>[],fun _=>[],fun _=>0,0,[]⟩
noncomputable def Jk (s:Zc) (l:List Yc):Nat ->TS×List Int
 | 0=>(ts0,[])
 | k + 1=>ifc (Zg3 s (l.getD k default) (Jk s l k).1) (stepW s (l.getD k default) (Jk s l k).1,(Jk s l k).2 ++ [(k:Int)]) (Jk s l k)
section
variable {s:Zc} {σ τ υ:TS} {F B a b p q w i n d k:Nat} {l:List Yc}
theorem ZDV (hS:X7 s):Yy (s.qG * s.qG)= ((mm s * mm s:Nat):Int):=by
 obtain⟨e,h1,h4⟩:=hS.mm;have h16:=Zig hS;rw [e,← Int.natCast_mul];exact Zak (by omega) (by omega)
theorem Zqd {α:Type} (z:α) {Jm n:Nat} (h:Jm * n <=100000):mkL z Jm (n:Int) (n:Int)=some (tab n fun _=>z):=by
 unfold mkL;rw [decide_eq_true (show(0:Int) <= (n:Int) by omega),decide_eq_true (show(n:Int) <= (n:Int) by omega),Int.toNat_natCast,Nm0 h,ZA8];rfl
theorem Zrn (hF:1000 <=F) (hS:X7 s):Zzv F s=some (hal s ts0):=by
 have h8:nn s <=8:=hS.p2;obtain⟨em,h1,h4⟩:=hS.mm;have h16:=Zig hS;unfold Zzv;refine YZ (fun k=>((k:Int),tab k (fun _=>(1:Int)),tab k (fun _=>tab (mm s * mm s) fun _=>(0:Int)),tab k (fun _=>([]:List Int)),tab k (fun _=>([]:List Int)))) rfl (n:=nn s) (by omega) (fun k hk next=>?_) (fun next=>?_)
 ·unfold Zmy;dsimp only;rw [show((s.Zf.length:Nat):Int)= ((nn s:Nat):Int) from rfl,Yf hk,Cq1,app1 (by rw [Qt];omega) (by decide)];simp only [Bq0];rw [ZDV hS,Zqd _ (by omega)];simp only [Bq0];rw [app1 (by rw [Qt];omega) (by decide)];simp only [Bq0];rw [app1 (by rw [Qt];omega) (by decide)];simp only [Bq0];rw [Xp (by omega),ZhD,ZhD,ZhD]
 ·unfold Zmy;dsimp only;rw [show((s.Zf.length:Nat):Int)= ((nn s:Nat):Int) from rfl,YB,Cq0,ZDV hS];have e1:mkL ([]:List Ze) 24 s.qG s.qG=some (tab (mm s) fun _=>[]):=by rw [em];exact Zqd _ (by omega)
  rw [e1];simp only [Bq0];rw [Zqd _ (by omega)];rfl
theorem Zfm {n:Nat} {f:Nat ->Nat} (h:∀ k,k < n ->f k=0):Qq n f=0:=by rw [ZaZ (g:=fun _=>0) h,ZhE];simp
theorem ZRC (s:Zc):Pot s ts0=11 * nn s:=by
 have e1:Qq (mm s * mm s) (lw ts0)=0:=Zfm fun k _=>rfl
 have e2:Qq (mm s) (fun m=>(ts0.be m).length)=0:=Zfm fun k _=>rfl
 have e3:Qq (nn s) (fun q=>2 * (ts0.wa q).length)=0:=Zfm fun k _=>rfl
 have e4:Qq (nn s) (fun p=>sw (ts0.st p))=nn s * 11:= (ZaZ (g:=fun _=>11) fun k _=>rfl).trans (ZhE _ _);unfold Pot;rw [e1,e2,e3,e4];show 0 + 0 + 0 + 0 + nn s * 11=_;omega
theorem ok0 (hS:X7 s):Ok s 88 ts0:=by
 have h8:nn s <=8:=hS.p2;have nil:∀ {α:Type} (x:α),¬ x ∈ ([]:List α):=fun x h=>by cases h
 have no3:∀ p,¬ ts0.st p=3:=fun p h=>absurd h (by show ¬ ((1:Int)=3);decide)
 have kn:Kn s ts0:= ⟨fun q _=>List.Pairwise.nil,fun q _ x hx=>absurd hx (nil x)⟩
 have k1:KI s ts0:= ⟨fun i j x hx _=>by simp [ts0] at hx,fun i i' j j' x x' hx _ _ _ _=>by simp [ts0] at hx,fun p _ h=>absurd h (no3 p),fun p _ h=>absurd h (no3 p)⟩
 have w:Wf s 88 ts0:= ⟨by rw [ZRC];omega,fun i _=>Nat.le_refl _,fun q _ x hx=>absurd hx (nil x)⟩
 exact⟨⟨w,kn⟩,⟨fun a b _ _ x hx=>absurd hx (nil x),fun a _=>rfl,fun w _ x hx=>absurd hx (nil x),fun q _ x hx=>absurd hx (nil x)⟩,⟨fun i=>Nat.le_refl _,kn⟩,k1,⟨Int.le_refl _,Int.le_refl _⟩⟩
theorem ZlG (hS:X7 s):∀ k,Ok s (88 + 4 * k) (Jk s l k).1∧(Jk s l k).2.length <=k∧JC s ts0 (Jk s l k).1:=by
 intro k
 induction k with
 | zero=>exact⟨ok0 hS,Nat.le_refl _,.refl⟩
 | succ k ih=>
   obtain⟨h1,h2,h3⟩:=ih;rw [Jk];by_cases hA:Zg3 s (l.getD k default) (Jk s l k).1
   ·rw [ZR hA];refine⟨?_,by rw [List.length_append,List.length_singleton];omega,h3.trans (Zkt hS h1 hA)⟩;have:=step_ok hS h1 hA;exact⟨this.gd.up (by omega),this.p1,this.p2,this.ki,this.sd⟩
   ·rw [ZG hA];exact⟨⟨h1.gd.up (by omega),h1.p1,h1.p2,h1.ki,h1.sd⟩,by omega,h3⟩
theorem ZtO (hF:1000000 <=F) (hS:X7 s) (hl:l.length <=100):Zzu F (hal s ts0) l=some (hal s (Jk s l l.length).1,(Jk s l l.length).2):=by
 unfold Zzu;refine YZ (fun k=>((Jk s l k).2,(k:Int),WJ s (Jk s l k).1)) rfl (n:=l.length) (by omega) (fun k hk next=>?_) (fun next=>?_)
 ·obtain⟨h1,h2,_⟩:=ZlG (l:=l) hS k;rw [Jk];obtain⟨σ,hσ⟩:∃ σ,σ= (Jk s l k).1:= ⟨_,rfl⟩
  obtain⟨dn,hd⟩:∃ dn,dn= (Jk s l k).2:= ⟨_,rfl⟩
  rw [← hd] at h2;rw [← hσ] at h1 ⊢;unfold Zmx;rw [show WJ s σ= (tab (nn s) σ.st,(tab (nn s) fun j=>tab (mm s * mm s) (σ.ma j)),tab (nn s) σ.kn,tab (nn s) σ.wa,tab (mm s) σ.be,tab (mm s * mm s) (K6 σ),σ.sd,s.qG,s.Zf,σ.ev) from rfl];dsimp only;rw [Yf hk,Cq1,Xe default hk];simp only [Bq0];rw [Zl2,Zna hS h1];by_cases hA:Zg3 s (l.getD k default) σ
  ·rw [ZR hA,ZR hA];simp only [Bq0,Cq1];rw [Zks hF hS (by omega) h1 hA];simp only [Bq0];rw [← hd,Zru (by rw [List.length_singleton];omega)];simp only [Bq0];unfold ZfW;dsimp only;rw [Xp (by omega)];rfl
  ·rw [ZG hA,ZG hA];simp only [Bq0,Cq0];unfold ZfW;dsimp only;rw [Xp (by omega),← hσ];rfl
 ·unfold Zmx WJ;dsimp only;rw [YB,Cq0];rfl
end
end
section
section
variable {s:Zc} {σ τ υ:TS} {F B a b p q w i n d k:Nat}
end
end
section
def opn (s:Zc) (σ:TS) (k:Nat):List Nat:= (List.range k).filter fun i=>decide (σ.ld i < (σ.sn i).length)
def opens (s:Zc) (σ:TS):List Nat:=opn s σ (mm s * mm s)
def Zib (ls:List Nat) (picks:List Int) (r:Nat):Nat:=if r < picks.length then ls.getD ((picks.getD r 0).toNat % ls.length) 0 else ls.getD 0 0
def Ziq (s:Zc) (i:Nat):Yc:= ⟨4,((i / mm s:Nat):Int),((i % mm s:Nat):Int)⟩
noncomputable def drK (s:Zc) (picks:List Int) (σ:TS):Nat ->TS
 | 0=>σ
 | r + 1=>if opens s (drK s picks σ r)= [] then drK s picks σ r else stepW s (Ziq s (Zib (opens s (drK s picks σ r)) picks r)) (drK s picks σ r)
section
variable {s:Zc} {σ τ υ:TS} {F B a b p q w i n d k r:Nat} {l:List Yc} {picks:List Int}
theorem Ztd:∀ (d p:Nat) (σ:TS),(Zjl s d p σ).ld=σ.ld:=by
 intro d
 induction d with
 | zero=>intro p σ;rfl
 | succ d ih=>
   intro p σ;have e:= (QV (s:=s) p σ).2.2.1;show(ZmT s (Zjl s d) p (Yn s p σ)).ld=_;unfold ZmT;split
   ·exact e
   ·split
    ·unfold Zar;by_cases c:(YN s p (W9 s (Yn s p σ) p) (Yn s p σ)).st (inn s (p:Int)).toNat=2∧Alo s (YN s p (W9 s (Yn s p σ) p) (Yn s p σ)) (inn s (p:Int)).toNat
     ·rw [ZR c,ih];exact e
     ·rw [ZG c];exact e
    ·exact e
theorem Zzc:∀ (d p:Nat) (σ:TS),(JP s d p σ).ld=σ.ld:=by
 intro d
 induction d with
 | zero=>intro p σ;rfl
 | succ d ih=>
   intro p σ
   have h:(fk s (JP s d) p (nn s) (Uf p σ)).ld=σ.ld:=by
    refine WK _ (fun τ=>τ.ld=σ.ld) _ _ rfl fun τ x _ h=>?_
    unfold ZgB;split
    ·split
     ·rw [ih];exact h
     ·exact h
    ·split
     ·exact h
     ·exact h
   show(Zmh s p _).ld=_;unfold Zmh;by_cases c:(fk s (JP s d) p (nn s) (Uf p σ)).st p=2∧Alo s (fk s (JP s d) p (nn s) (Uf p σ)) p
   ·rw [ZR c,Ztd];exact h
   ·rw [ZG c];exact h
theorem ZxB:(ZgA s a b σ).ld=Z9 σ.ld (li s a b) (σ.ld (li s a b) + 1):=by
 unfold ZgA ZkL;split
 ·rw [(QB _ _ _ _).2.2.2.1];rfl
 ·split
  ·rw [(X6 _ _ _).2.2.2.1];rfl
  ·split
   ·split
    ·rw [Zzc];rfl
    ·rfl
   ·split
    ·unfold ZdS Zar;by_cases c:(YN s (hd σ (li s a b)).kV.toNat (hd σ (li s a b)).qX (drop1 (li s a b) σ)).st (inn s ((hd σ (li s a b)).kV.toNat:Int)).toNat=2∧Alo s (YN s (hd σ (li s a b)).kV.toNat (hd σ (li s a b)).qX (drop1 (li s a b) σ)) (inn s ((hd σ (li s a b)).kV.toNat:Int)).toNat
     ·rw [ZR c,Ztd];rfl
     ·rw [ZG c];rfl
    ·rfl
theorem Zwt (w:Nat):∀ (n:Nat) (σ:TS),(ZbZ s w n σ).ld=σ.ld:=by
 intro n
 induction n with
 | zero=>intro σ;rfl
 | succ n ih=>
   intro σ;rw [ZbZ];split
   ·rfl
   ·rw [ih,(Jt _ _ _ _).2.1]
theorem Zws:∀ k,(rings s k σ).ld=σ.ld:=by
 intro k
 induction k with
 | zero=>rfl
 | succ k ih=>rw [rings,Zwt,ih]
theorem Zxa:opn s σ (k + 1)=opn s σ k ++ (if σ.ld k < (σ.sn k).length then [k] else []):=by
 unfold opn;rw [List.range_succ,List.filter_append];congr 1;by_cases h:σ.ld k < (σ.sn k).length
 ·rw [if_pos h];simp [h]
 ·rw [if_neg h];simp [h]
theorem ZBp:(opn s σ k).length <=k:=by
 have:=List.length_filter_le (fun i=>decide (σ.ld i < (σ.sn i).length)) (List.range k);rw [List.length_range] at this;exact this
theorem Zft:i ∈ opens s σ↔i < mm s * mm s∧σ.ld i < (σ.sn i).length:=by unfold opens opn;simp
theorem Zfs {ls:List Nat} (h:ls ≠ []):Zib ls picks r ∈ ls:=by
 have hl:0 < ls.length:=List.length_pos_iff.2 h;unfold Zib;split
 ·exact XT (Nat.mod_lt _ hl)
 ·exact XT hl
theorem Zio (hS:X7 s) (h:i ∈ opens s σ):Zg3 s (Ziq s i) σ:=by
 obtain⟨h1,h2⟩:=Zft.1 h;have hm:=hS.mm.2.1;obtain⟨_,h1',_⟩:=hS.mm;refine .inr (.inr (.inr ⟨rfl,i / mm s,i % mm s,rfl,rfl,Nat.div_lt_of_lt_mul h1,Nat.mod_lt _ (by omega),?_⟩));have:li s (i / mm s) (i % mm s)=i:=by unfold li;rw [Nat.mul_comm];exact Nat.div_add_mod _ _
 rw [this];exact h2
theorem ZxC (hS:X7 s):(stepW s (Ziq s i) σ).ld=Z9 σ.ld i (σ.ld i + 1):=by
 have:li s (i / mm s) (i % mm s)=i:=by unfold li;rw [Nat.mul_comm];exact Nat.div_add_mod _ _
 unfold stepW;rw [Zws];unfold ZgI Ziq;rw [if_neg (show ¬ ((4:Int)=1) by decide),if_neg (show ¬ ((4:Int)=2) by decide),if_neg (show ¬ ((4:Int)=3) by decide),Int.toNat_natCast,Int.toNat_natCast,ZxB,this]
def lds (s:Zc) (σ:TS):Nat:=Qq (mm s * mm s) σ.ld
theorem ZmR (hS:X7 s) (h:Ok s B σ):∀ r,Ok s B (drK s picks σ r)∧JC s σ (drK s picks σ r):=by
 intro r
 induction r with
 | zero=>exact⟨h,.refl⟩
 | succ r ih=>
   rw [drK];by_cases e:opens s (drK s picks σ r)= []
   ·rw [if_pos e];exact ih
   ·rw [if_neg e];have hA:=Zio (σ:=drK s picks σ r) hS (Zfs (picks:=picks) (r:=r) e);exact⟨Zv4 hS ih.1 rfl hA,ih.2.trans (Zkt hS ih.1 hA)⟩
theorem ZHh (h:Ok s B σ):lds s σ <=B:=by
 have h1:lds s σ <=Qq (mm s * mm s) (lw σ):=ZA9 fun k hk=>Nat.le_trans (h.gd.wf.ld k hk) (by unfold lw;omega)
 have:=h.gd.wf.pot;unfold Pot at this;omega
theorem Ztc (hS:X7 s):∀ r,(∀ j,j < r ->opens s (drK s picks σ j) ≠ []) ->lds s (drK s picks σ r)=lds s σ + r:=by
 intro r
 induction r with
 | zero=>intro _;rfl
 | succ r ih=>
   intro hj;have e:=ih fun j hjr=>hj j (by omega)
   have hn:=hj r (by omega);rw [drK,if_neg hn];obtain⟨h1,_⟩:=Zft.1 (Zfs (picks:=picks) (r:=r) hn);unfold lds at *;rw [ZxC hS];have:=ZnA (f:= (drK s picks σ r).ld) (v:= (drK s picks σ r).ld (Zib (opens s (drK s picks σ r)) picks r) + 1) h1;omega
theorem ZJh (hS:X7 s) (h:Ok s B σ) (picks:List Int):∃ n,n <=B∧opens s (drK s picks σ n)= []∧∀ j,j < n ->opens s (drK s picks σ j) ≠ []:=by
 by_cases hz:∃ n,n < B + 1∧opens s (drK s picks σ n)= []
 ·obtain⟨n,hn,e⟩:=hz;obtain⟨m,hm,c,hlt⟩:=UU (c:=fun i=>opens s (drK s picks σ i)= []) e;exact⟨m,by omega,c,hlt⟩
 ·have hall:∀ j,j < B + 1 ->opens s (drK s picks σ j) ≠ []:=fun j hj q=>hz ⟨j,hj,q⟩
  have:=Ztc (picks:=picks) (σ:=σ) hS (B + 1) hall;have:=ZHh (ZmR (picks:=picks) hS h (B + 1)).1;omega
theorem ZBk {a b:Nat} (hb:0 < b) (ha:a <=1000000):ZtJ (a:Int) (b:Int)=some ((a / b:Nat):Int):=by
 unfold ZtJ;rw [beq_eq_false_iff_ne.2 (by omega),Cq0,← Int.ofNat_tdiv];have:=Nat.div_le_self a b;generalize a / b=q at *;exact congrArg some (Zak (by omega) (by omega))
theorem Zr3 {a b:Nat} (hb:0 < b):ZnM (a:Int) (b:Int)=some ((a % b:Nat):Int):=by
 unfold ZnM;rw [beq_eq_false_iff_ne.2 (by omega),Cq0];rfl
theorem ZiB {l:List Nat} (h:k < l.length):ZO (l.map Int.ofNat) (k:Int)=some ((l.getD k 0:Nat):Int):=by
 rw [Xe 0 (by rw [List.length_map];exact h)];simp [List.getD_eq_getElem?_getD,h]
theorem Zxb (hk:k < mm s * mm s) {β:Type} (next:List Int×Int ->Option β) {l1:List Int×Int ->Option β} (h16:mm s * mm s <=16) (hs:(σ.sn k).length <=800000)
 (e1:∀ v,l1 v=next v):
 ((ZO (tab (mm s * mm s) (K6 σ)) (k:Int)).bind fun x=>(bif decide ((x.kG.length:Int) > 0) then(app 8 ((opn s σ k).map Int.ofNat) [(k:Int)]).bind fun z=>l1 (z,Yy ((k:Int) + 1)) else l1 ((opn s σ k).map Int.ofNat,Yy ((k:Int) + 1))))=next ((opn s σ (k + 1)).map Int.ofNat,((k + 1:Nat):Int)):=by
 have hl:=ZBp (s:=s) (σ:=σ) (k:=k);rw [Yz hk];simp only [Bq0];rw [show(K6 σ k).kG= (σ.sn k).drop (σ.ld k) from rfl,List.length_drop,Zxa];by_cases c:σ.ld k < (σ.sn k).length
 ·rw [decide_eq_true (by omega),Cq1,Zru (by rw [List.length_map,List.length_singleton];omega),if_pos c];simp only [Bq0];rw [e1,Xp (by omega),List.map_append];rfl
 ·rw [decide_eq_false (by omega),Cq0,if_neg c,e1,Xp (by omega),List.append_nil]
theorem ZhN (hF:1000000 <=F) (hS:X7 s) (h:Ok s B σ) (hB:B <=500000) (hr:r <=500000) (hp:∀ x ∈ picks,0 <=x) (hpl:picks.length <=100) (next:_ ->Option (Zm×(List Zd)×Int×Int)):
 Zf2 F s picks ((r:Int),WJ s σ) next=if opens s σ= [] then some (vw s σ,σ.ev,(r:Int),0) else next (((r + 1:Nat):Int),WJ s (stepW s (Ziq s (Zib (opens s σ) picks r)) σ)):=by
 have h16:=Zig hS;obtain⟨em,h1,h4⟩:=hS.mm;have fw:=h.gd.wf.few (by omega);unfold Zf2 WJ;dsimp only;refine YZ (fun k=>((opn s σ k).map Int.ofNat,(k:Int))) rfl (n:=mm s * mm s) (by omega) (fun k hk nx=>?_) (fun nx=>?_)
 ·unfold ZmG;dsimp only;rw [Qt,Yf hk,Cq1];exact Zxb hk nx h16 (fw.sn k hk) (l1:=fun v=>nx v) fun v=>rfl
 ·unfold ZmG;dsimp only;rw [Qt,YB,Cq0,List.length_map];show(bif((((opens s σ).length:Nat):Int)==0) then _ else(ZO ((opens s σ).map Int.ofNat) 0).bind _)=_;by_cases e:opens s σ= []
  ·rw [if_pos e,e];rfl
  ·have hl:0 < (opens s σ).length:=List.length_pos_iff.2 e;rw [if_neg e,beq_eq_false_iff_ne.2 (by omega),Cq0,show(0:Int)= ((0:Nat):Int) from rfl,ZiB hl];simp only [Bq0];have hm:=Zfs (picks:=picks) (r:=r) e
   have go:∀ v:Nat,v ∈ opens s σ ->Zf1 F s (r:Int) (tab (nn s) σ.st) (tab (nn s) fun j=>tab (mm s * mm s) (σ.ma j)) (tab (nn s) σ.kn) (tab (nn s) σ.wa) (tab (mm s) σ.be) (tab (mm s * mm s) (K6 σ)) σ.sd s.qG s.Zf σ.ev next (v:Int)=next (((r + 1:Nat):Int),WJ s (stepW s (Ziq s v) σ)):=fun v hv=>by
    have hv1:= (Zft.1 hv).1;unfold Zf1;rw [em,ZBk (by omega) (by omega),Zr3 (by omega)];simp only [Bq0];rw [← em,Zl2,show Yc.mk 4 ((v / mm s:Nat):Int) ((v % mm s:Nat):Int)=Ziq s v from rfl,Zks hF hS hB h (Zio hS hv)];simp only [Bq0];rw [Xp (by omega)];rfl
   by_cases c:r < picks.length
   ·rw [Yf c,Cq1,Xe 0 c];simp only [Bq0];have h0:=hp _ (XT (d:=0) c);obtain⟨y,hy⟩:∃ y:Nat,picks.getD r 0= (y:Int):= ⟨(picks.getD r 0).toNat,by omega⟩
    show(ZnM (picks.getD r 0) (((opens s σ).length:Nat):Int)).bind _=_;unfold Zib at hm ⊢;rw [if_pos c] at hm ⊢;rw [hy] at hm ⊢;rw [Int.toNat_natCast] at hm ⊢;rw [Zr3 hl];simp only [Bq0];show(ZO ((opens s σ).map Int.ofNat) _).bind _=_;rw [ZiB (Nat.mod_lt _ hl)];simp only [Bq0];exact go _ hm
   ·rw [show decide ((r:Int) < (picks.length:Int))=false from decide_eq_false (by omega),Cq0];unfold Zib at hm ⊢;rw [if_neg c] at hm ⊢;exact go _ hm
end
end
section
section
variable {s:Zc} {σ τ υ:TS} {F B a b p q w i n d k r:Nat} {l:List Yc} {picks:List Int}
theorem ZQ9 {k:Nat} (h:k < 9223372036854775807):Yy ((k:Int) + 1)= ((k + 1:Nat):Int):=Zak (by omega) (by omega)
theorem ZtP (hF:picks.length < F) (hl:picks.length <=9223372036854775807):Zq0 F picks=ifc (∀ k,k < picks.length ->0 <=picks.getD k 0) (some (decide ((picks.length:Int) <=100))) (some false):=by
 unfold Zq0;refine Wp (fun k=>(k:Int)) rfl (fun k=>0 <=picks.getD k 0) (n:=picks.length) (by omega) (fun k hk next=>?_) (fun next=>?_)
 ·unfold ZmD;rw [Yf hk,Cq1,Xe 0 hk];simp only [Bq0];by_cases c:0 <=picks.getD k 0
  ·rw [ZR c,decide_eq_false (by omega),Cq0,ZQ9 (by omega)]
  ·rw [ZG c,decide_eq_true (by omega),Cq1]
 ·unfold ZmD;rw [YB,Cq0]
theorem Zpg:(∀ k,k < picks.length ->0 <=picks.getD k 0)↔∀ x ∈ picks,0 <=x:=by
 constructor
 ·intro h x hx;obtain⟨k,hk,e⟩:=List.getElem_of_mem hx;have:=h k hk;rw [List.getD_eq_getElem?_getD,List.getElem?_eq_getElem hk] at this;rw [← e];exact this
 ·intro h k hk;exact h _ (XT hk)
noncomputable def Km (s:Zc) (l:List Yc) (picks:List Int) (n:Nat):TS:=drK s picks (Jk s l l.length).1 n
theorem Zq8 (hF:1000000 <=F) (hS:X7 s) (hl:l.length <=100) (hp:∀ x ∈ picks,0 <=x) (hpl:picks.length <=100) {n:Nat} (hn:n <=500000) (he:opens s (Km s l picks n)= []) (hj:∀ j,j < n ->opens s (Km s l picks j) ≠ []):
 ZzB F s l picks=some (vw s (Km s l picks n),(Km s l picks n).ev,(n:Int),0):=by
 obtain⟨ok,dl,_⟩:=ZlG (l:=l) hS l.length;unfold ZzB;rw [Zd5 (by omega),ZR hS];simp only [Bq0,Za7,Bool.false_or];rw [decide_eq_false (by omega),decide_eq_false (by omega)];simp only [Bool.or_self,Bool.not_false,Cq1];refine YZ (fun k=>(k:Int)) rfl (n:=picks.length) (by omega) (fun k hk next=>?_) (fun next=>?_)
 ·unfold ZmF ZCt;rw [Yf hk,Cq1,Xe 0 hk];simp only [Bq0];rw [decide_eq_false (by have:=hp _ (XT (d:=0) hk);omega),Cq0,Xp (by omega)]
 ·unfold ZmF;rw [YB,Cq0];unfold Zja;rw [show decide ((-1:Int) >=0)=false from rfl,Cq0,Zrn (by omega) hS];simp only [Bq0];rw [ZtO hF hS hl];simp only [Bq0];refine YZ (fun k=>((k:Int),WJ s (Km s l picks k))) rfl (n:=n) (by omega) (fun k hk next=>?_) (fun next=>?_)
  ·have o:= (ZmR (picks:=picks) hS ok k).1;show Zf2 F s picks ((k:Int),WJ s (drK s picks (Jk s l l.length).1 k)) next=_;rw [ZhN hF hS o (by omega) (by omega) hp hpl,if_neg (show ¬ opens s (drK s picks (Jk s l l.length).1 k)= [] from hj k hk)];have:=hj k hk;unfold Km at *;rw [drK,if_neg this]
  ·have o:= (ZmR (picks:=picks) hS ok n).1;show Zf2 F s picks ((n:Int),WJ s (drK s picks (Jk s l l.length).1 n)) next=_;rw [ZhN hF hS o (by omega) (by omega) hp hpl,if_pos (show opens s (drK s picks (Jk s l l.length).1 n)= [] from he)];rfl
theorem ZCM (hS:X7 s) (hl:l.length <=100) (picks:List Int):∃ n,n <=488∧opens s (Km s l picks n)= []∧(∀ j,j < n ->opens s (Km s l picks j) ≠ [])∧Ok s 488 (Km s l picks n)∧JC s ts0 (Km s l picks n)∧JC s (Jk s l l.length).1 (Km s l picks n)∧lds s (Km s l picks n)=lds s (Jk s l l.length).1 + n:=by
 obtain⟨ok,dl,ac⟩:=ZlG (l:=l) hS l.length;have ok:Ok s 488 (Jk s l l.length).1:= ⟨ok.gd.up (by omega),ok.p1,ok.p2,ok.ki,ok.sd⟩
 obtain⟨n,h1,h2,h3⟩:=ZJh hS ok picks;obtain⟨o,a⟩:=ZmR (picks:=picks) hS ok n;exact⟨n,h1,h2,h3,o,ac.trans a,a,Ztc hS n h3⟩
end
end
section
def ZQt (s:Zc) (e:Zd):Prop:= (∃ p:Nat,e.kV= (p:Int)∧p < nn s)∧(∃ q:Nat,e.kX= (q:Int)∧q < nn s)
def EvR (s:Zc) (σ:TS):Prop:=∀ e ∈ σ.ev,ZQt s e
section
variable {s:Zc} {σ τ υ:TS} {F B a b p q w i n d k r:Nat} {l:List Yc} {picks:List Int} {x:Ze}
theorem EvR.add (h:EvR s σ) {e:Zd} (he:ZQt s e) (ht:τ.ev=σ.ev ++ [e]):EvR s τ:=fun y hy=>by
 rw [ht] at hy;rcases List.mem_append.1 hy with hy | hy
 ·exact h y hy
 ·rw [List.mem_singleton.1 hy];exact he
theorem EvR.congr (h:EvR s σ) (ht:τ.ev=σ.ev):EvR s τ:=fun y hy=>h y (by rwa [ht] at hy)
theorem EvR.see (h:EvR s σ) (hp:p < nn s) (hq:q < nn s) (n:Int):EvR s (Proofs.YtcnahmgekicbdaaGreat.see p q n σ):=by
 unfold Proofs.YtcnahmgekicbdaaGreat.see;split
 ·exact h.add ⟨⟨p,rfl,hp⟩,⟨q,rfl,hq⟩⟩ rfl
 ·exact h
theorem EvR.act (hS:X7 s) (h1:P1 s σ) (h:EvR s σ) (ac:Act s σ τ):EvR s τ:=by
 cases ac with
 | @fall p hp=>exact h.add ⟨⟨p,rfl,hp⟩,⟨0,rfl,by omega⟩⟩ rfl
 | WZ=>exact h
 | @die p hp h2 hA=>
   have:EvR s (Yn s p σ):=h.add ⟨⟨p,rfl,hp⟩,⟨0,rfl,by omega⟩⟩ (QV (s:=s) p σ).2.2.2.2.1;unfold UH;split
   ·exact this
   ·split
    ·exact this
    ·exact this
 | @Zdj p q hp hq=>exact EvR.see (h.add (τ:=kK p q σ) (e:= ⟨1,p,q,σ.sd⟩) ⟨⟨p,rfl,hp⟩,⟨q,rfl,hq⟩⟩ rfl) hq hp _
 | @Zdi p q hp hq=>exact h.add (τ:=kK p q σ) (e:= ⟨1,p,q,σ.sd⟩) ⟨⟨p,rfl,hp⟩,⟨q,rfl,hq⟩⟩ rfl
 | @Zdf p q hp hq=>exact(h.add (τ:=tell 3 p q 0 σ) (e:= ⟨3,p,q,0⟩) ⟨⟨p,rfl,hp⟩,⟨q,rfl,hq⟩⟩ rfl).congr (X6 (s:=s) p q (tell 3 p q 0 σ)).2.2.2.2.2
 | @Zde p q hp hq=>exact h.add (τ:=tell 3 p q 0 σ) (e:= ⟨3,p,q,0⟩) ⟨⟨p,rfl,hp⟩,⟨q,rfl,hq⟩⟩ rfl
 | Zdo ha hb hl hk hp hq hpn KS=>exact EvR.see (σ:=drop1 _ σ) h KS hpn _
 | @Zdr a b p q ha hb hl hk hp hq hpn KS=>exact h.congr (X6 (s:=s) p q (drop1 (li s a b) σ)).2.2.2.2.2
 | Zdp=>exact h
 | ZbH=>exact h
 | Zdq=>exact h
 | @ring w i hw hpk=>
   have hm:=h1.bea w hw;unfold rung;split
   ·rename_i hst;have hi:i < (σ.be w).length:=ZcP _ _ hpk;obtain⟨⟨⟨p,e1,h1'⟩,⟨q,e2,h2'⟩,_⟩,_⟩:=hm _ (XT (d:=default) hi);exact h.add (τ:=tell 4 _ _ 0 _) (e:= ⟨4,((σ.be w).getD i default).kV,((σ.be w).getD i default).kX,0⟩) ⟨⟨p,e1,h1'⟩,⟨q,e2,h2'⟩⟩ rfl
   ·exact h
theorem ZzD (hS:X7 s) (h:JC s ts0 σ):EvR s σ:=by
 have h0:=ok0 hS;exact(h.keep (P:=fun σ=>P1 s σ∧EvR s σ) (fun _ _ ⟨a,b⟩ ac=>⟨a.act hS ac,b.act hS a ac⟩) ⟨h0.p1,fun e he=>absurd he (by simp [ts0])⟩).2
def Giv (s:Zc) (l:List Yc) (picks:List Int):Prop:=X7 s∧l.length <=100∧(∀ x ∈ picks,0 <=x)∧picks.length <=100
theorem ZtQ (hF:picks.length < F) (hl:picks.length <=9223372036854775807):Zq0 F picks=ifc ((∀ x ∈ picks,0 <=x)∧picks.length <=100) (some true) (some false):=by
 rw [ZtP hF hl];by_cases c:∀ k,k < picks.length ->0 <=picks.getD k 0
 ·rw [ZR c];by_cases c2:picks.length <=100
  ·rw [ZR ⟨Zpg.1 c,c2⟩,decide_eq_true (by omega)]
  ·rw [ZG fun q=>c2 q.2,decide_eq_false (by omega)]
 ·rw [ZG c,ZG fun q=>c (Zpg.2 q.1)]
theorem ZyV (hF:1000000 <=F) {pp:List (List Int)} (hpp:pp.length <=100) (hl:∀ x ∈ pp,x.length < F∧x.length <=9223372036854775807):∃ g:Bool,ZzA F s l pp=some g∧(g=true ->∀ x ∈ pp,Giv s l x):=by
 have h:=Wp (body:=Zi4 F s l pp) (r1:=some false) (r2:= (ZzC s).bind fun x18=>(gd x18 (Zq1 F s) default).bind fun KG=>some ((x18 && KG) && (decide ((l.length:Int) <=100)))) (s0:= (0:Int)) (fun k=>(k:Int)) rfl (fun k=>(∀ x ∈ pp.getD k [],0 <=x)∧(pp.getD k []).length <=100) (n:=pp.length) (F:=F) (by omega) (fun k hk next=>by
  unfold Zi4;rw [Yf hk,Cq1,Xe [] hk];simp only [Bq0];rw [ZtQ (hl _ (XT hk)).1 (hl _ (XT hk)).2];by_cases c:(∀ x ∈ pp.getD k [],0 <=x)∧(pp.getD k []).length <=100
  ·rw [ZR c,ZR c];simp only [Bq0,Bool.not_true,Cq0];rw [Xp (by omega)]
  ·rw [ZG c,ZG c];rfl) (fun next=>by
  unfold Zi4;rw [YB,Cq0])
 unfold ZzA;rw [h];by_cases c:∀ k,k < pp.length ->(∀ x ∈ pp.getD k [],0 <=x)∧(pp.getD k []).length <=100
 ·rw [ZR c];unfold ZzC;simp only [Bq0];cases h30:decide ((s.Zf.length:Int) <=30) with
  | false=>exact⟨_,rfl,fun q=>by cases q⟩
  | true=>
    simp only [XV,Bool.true_and];rw [ZtD (by omega)];by_cases hS:X7 s
    ·rw [ZR hS];refine⟨_,rfl,fun q x hx=>?_⟩;simp only [Bool.true_and,decide_eq_true_eq] at q;obtain⟨k,hk,e⟩:=List.getElem_of_mem hx;have:=c k hk;rw [List.getD_eq_getElem?_getD,List.getElem?_eq_getElem hk] at this;have e':(some pp[k]).getD []=x:=e;rw [e'] at this;exact⟨hS,by omega,this.1,this.2⟩
    ·rw [ZG hS];exact⟨_,rfl,fun q=>by cases q⟩
 ·rw [ZG c];exact⟨_,rfl,fun q=>by cases q⟩
theorem ZnY (hp:p < nn s):ZgV s (p:Int)=some true:=by
 unfold ZgV;rw [decide_eq_true (by omega),show decide ((p:Int) < (s.Zf.length:Int))=true from decide_eq_true (by show(p:Int) < ((nn s:Nat):Int);omega)];rfl
theorem Zq7 (hF:1000000 <=F) (hg:Giv s l picks):∃ n,n <=488∧opens s (Km s l picks n)= []∧Ok s 488 (Km s l picks n)∧JC s ts0 (Km s l picks n)∧JC s (Jk s l l.length).1 (Km s l picks n)∧lds s (Km s l picks n)=lds s (Jk s l l.length).1 + n∧
 Zzz F s l picks=some (vw s (Km s l picks n),(Km s l picks n).ev,(n:Int),true):=by
 obtain⟨hS,hl,hp,hpl⟩:=hg;obtain⟨n,hn,he,hj,ok,ac,ac2,e2⟩:=ZCM hS hl picks;refine⟨n,hn,he,ok,ac,ac2,e2,?_⟩;have hr:=ZzD hS ac;have hev:(Km s l picks n).ev.length <=488:=by have:=ok.gd.wf.pot;unfold Pot at this;omega
 unfold Zzz;rw [Zq8 hF hS hl hp hpl (by omega) he hj];simp only [Bq0,Za7,Bool.false_or];rw [show(vw s (Km s l picks n)).qV=tab (nn s) (Km s l picks n).st from rfl,Qt,show((nn s:Nat):Int)= ((s.Zf.length:Nat):Int) from rfl,Za7,decide_eq_false (by omega)];simp only [Bool.or_self,Cq0];refine YZ (fun k=>(k:Int)) rfl (n:= (Km s l picks n).ev.length) (by omega) (fun k hk next=>?_) (fun next=>?_)
 ·unfold ZmC;dsimp only;rw [Yf hk,Cq1,Xe default hk];simp only [Bq0];obtain⟨⟨p,e1,h1⟩,⟨q,e2,h2⟩⟩:=hr _ (XT (d:=default) hk);rw [e1,e2,ZnY h1];simp only [Bq0,Bool.not_true,Bool.not_false,XV];rw [ZnY h2];simp only [Bq0,Bool.not_true,Bool.or_self,Cq0];rw [Xp (by omega)]
 ·unfold ZmC;dsimp only;rw [YB,Cq0]
end
end
section
def kc (k:Int) (p q:Nat) (l:List Ze):Nat:=l.countP fun x=>((x.kW==k) && (x.kV== (p:Int))) && (x.kX== (q:Int))
def asks (s:Zc) (σ:TS) (p q:Nat):Nat:=kc 2 p q (fl σ (li s (pl s p) (pl s q)))
def bb (s:Zc) (σ:TS) (p q:Nat):Nat:=kc 5 p q (σ.be (pl s p)) + kc 5 p q (fl σ (li s (pl s q) (pl s p)))
def wat (σ:TS) (p q:Nat):Nat:= (σ.wa q).count (p:Int)
def ec (σ:TS) (d:Int) (p q:Nat):Nat:=c3 σ.ev d p q
structure Bal (s:Zc) (σ:TS):Prop where
 le:∀ p q,p < nn s ->q < nn s ->ec σ 4 p q + bb s σ p q + wat σ p q + asks s σ p q <=ec σ 3 p q
 eq:∀ p q,p < nn s ->q < nn s ->σ.st p=1 ->ec σ 4 p q + bb s σ p q + wat σ p q + asks s σ p q=ec σ 3 p q
 dead:∀ p q,p < nn s ->q < nn s ->0 < ec σ 4 p q + bb s σ p q ->σ.st q=3
 wz:∀ p q,p < nn s ->q < nn s ->σ.st q=3 ->wat σ p q=0
section
variable {s:Zc} {σ τ υ:TS} {F B a b p q w i j n d r p0 q0:Nat} {x:Ze} {k:Int}
def one (c:Prop) [Decidable c]:Nat:=if c then 1 else 0
theorem JZ {c:Prop} [Decidable c] (h:c):one c=1:=if_pos h
theorem Xc {c:Prop} [Decidable c] (h:¬ c):one c=0:=if_neg h
theorem ZfC (l m:List Ze):kc k p q (l ++ m)=kc k p q l + kc k p q m:=by unfold kc;rw [List.countP_append]
theorem ZcY (l:List Ze):kc k p q (x::l)=kc k p q l + one (x.kW=k∧x.kV= (p:Int)∧x.kX= (q:Int)):=by
 unfold kc;rw [List.countP_cons];congr 1;by_cases c:x.kW=k∧x.kV= (p:Int)∧x.kX= (q:Int)
 ·rw [JZ c,c.1,c.2.1,c.2.2];simp
 ·rw [Xc c,if_neg];simp only [Ba0,beq_iff_eq];exact fun z=>c ⟨z.1.1,z.1.2,z.2⟩
theorem ZlR:kc k p q []=0:=rfl
theorem ZxF {l:List Ze} (hi:i < l.length):kc k p q l=kc k p q (ZbK l i) + one ((l.getD i default).kW=k∧(l.getD i default).kV= (p:Int)∧(l.getD i default).kX= (q:Int)):=by
 have e:l=l.take i ++ l.getD i default::l.drop (i + 1):=by
  rw [List.getD_eq_getElem?_getD,List.getElem?_eq_getElem hi];simp
 unfold ZbK
 conv=>lhs;rw [e]
 rw [ZfC,ZcY,ZfC];omega
theorem ZcW (hl:σ.ld (li s a b) <= (σ.sn (li s a b)).length) (j:Nat):kc k p q (fl (send s a b x σ) j)=kc k p q (fl σ j) + (if j=li s a b then one (x.kW=k∧x.kV= (p:Int)∧x.kX= (q:Int)) else 0):=by
 by_cases e:j=li s a b
 ·subst e;rw [if_pos rfl,ZsU hl,ZfC,ZcY,ZlR,Nat.zero_add]
 ·rw [if_neg e,ZiH e];rfl
theorem ZcX (hl:σ.ld i < (σ.sn i).length) (j:Nat):kc k p q (fl σ j)=kc k p q (fl (drop1 i σ) j) + (if j=i then one ((hd σ i).kW=k∧(hd σ i).kV= (p:Int)∧(hd σ i).kX= (q:Int)) else 0):=by
 by_cases e:j=i
 ·subst e;rw [if_pos rfl,Zme hl,ZcY];congr 2;show _= (σ.sn j).drop (Z9 σ.ld j (σ.ld j + 1) j);rw [Zv]
 ·rw [if_neg e,Nat.add_zero];congr 1;show _= (σ.sn j).drop (Z9 σ.ld i (σ.ld i + 1) j);rw [ZF e];rfl
theorem Zbf (l:List Zd) (e:Zd) (d p q:Int):c3 (l ++ [e]) d p q=c3 l d p q + one (e.kZ=d∧e.kV=p∧e.kX=q):=by
 unfold c3;rw [List.countP_append,List.countP_cons,List.countP_nil,Nat.zero_add];congr 1;by_cases c:e.kZ=d∧e.kV=p∧e.kX=q
 ·rw [JZ c,c.1,c.2.1,c.2.2];simp
 ·rw [Xc c,if_neg];simp only [Ba0,beq_iff_eq];exact fun z=>c ⟨z.1.1,z.1.2,z.2⟩
theorem ZeY (d':Int) (p' q' n:Int):ec (tell d' p' q' n σ) k p q=ec σ k p q + one (d'=k∧p'= (p:Int)∧q'= (q:Int)):=Zbf _ _ _ _ _
theorem ZzG {e:Zd} (h:τ.ev=σ.ev ++ [e]):ec τ k p q=ec σ k p q + one (e.kZ=k∧e.kV= (p:Int)∧e.kX= (q:Int)):=by unfold ec;rw [h];exact Zbf _ _ _ _ _
theorem Zk6 (h:τ.ev=σ.ev):ec τ k p q=ec σ k p q:=by unfold ec;rw [h]
theorem Ztj (h1:τ.sn=σ.sn) (h2:τ.ld=σ.ld):asks s τ p q=asks s σ p q:=by unfold asks fl;rw [h1,h2]
theorem ZPS (h1:τ.sn=σ.sn) (h2:τ.ld=σ.ld) (h3:τ.be=σ.be):bb s τ p q=bb s σ p q:=by unfold bb fl;rw [h1,h2,h3]
theorem ZpD (h:τ.wa=σ.wa):wat τ p q=wat σ p q:=by unfold wat;rw [h]
structure Un (s:Zc) (σ τ:TS):Prop where
 a:∀ p q,asks s τ p q=asks s σ p q
 b:∀ p q,bb s τ p q=bb s σ p q
 w:∀ p q,wat τ p q=wat σ p q
 e3:∀ p q,ec τ 3 p q=ec σ 3 p q
 e4:∀ p q,ec τ 4 p q=ec σ 4 p q
theorem Un.trans (h:Un s σ τ) (h':Un s τ υ):Un s σ υ:= ⟨fun p q=>(h'.a p q).trans (h.a p q),fun p q=>(h'.b p q).trans (h.b p q),fun p q=>(h'.w p q).trans (h.w p q),fun p q=>(h'.e3 p q).trans (h.e3 p q),fun p q=>(h'.e4 p q).trans (h.e4 p q)⟩
theorem Bal.un (h:Bal s σ) (u:Un s σ τ) (s1:∀ p,p < nn s ->τ.st p=1 ->σ.st p=1) (s3:∀ p,p < nn s ->(σ.st p=3↔τ.st p=3)):Bal s τ:=
 ⟨fun p q hp hq=>by rw [u.e4,u.b,u.w,u.a,u.e3];exact h.le p q hp hq,fun p q hp hq z=>by rw [u.e4,u.b,u.w,u.a,u.e3];exact h.eq p q hp hq (s1 p hp z),fun p q hp hq z=>by rw [u.e4,u.b] at z;exact(s3 q hq).1 (h.dead p q hp hq z),fun p q hp hq z=>by rw [u.w];exact h.wz p q hp hq ((s3 q hq).2 z)⟩
theorem Un.send (hl:σ.ld (li s a b) <= (σ.sn (li s a b)).length) (h2:x.kW ≠ 2) (h5:x.kW ≠ 5):Un s σ (Proofs.YtcnahmgekicbdaaGreat.send s a b x σ):=by
 refine⟨fun p q=>?_,fun p q=>?_,fun p q=>rfl,fun p q=>rfl,fun p q=>rfl⟩
 ·unfold asks;rw [ZcW hl,Xc (fun z=>h2 z.1)];split <;> rfl
 ·unfold bb;rw [ZcW hl,Xc (fun z=>h5 z.1)];show kc 5 p q (σ.be (pl s p)) + _=_;split <;> rfl
theorem Un.drop (hl:σ.ld i < (σ.sn i).length) (h2:(hd σ i).kW ≠ 2) (h5:(hd σ i).kW ≠ 5):Un s σ (drop1 i σ):=by
 refine⟨fun p q=>?_,fun p q=>?_,fun p q=>rfl,fun p q=>rfl,fun p q=>rfl⟩
 ·have:=ZcX (k:=2) (p:=p) (q:=q) hl (li s (pl s p) (pl s q));rw [Xc (fun z=>h2 z.1)] at this;unfold asks;rw [this];split <;> rfl
 ·have:=ZcX (k:=5) (p:=p) (q:=q) hl (li s (pl s q) (pl s p));rw [Xc (fun z=>h5 z.1)] at this;unfold bb;rw [this];show kc 5 p q (σ.be (pl s p)) + _=_;split <;> rfl
theorem Un.tell (d' p' q' n:Int) (h3:d' ≠ 3) (h4:d' ≠ 4):Un s σ (Proofs.YtcnahmgekicbdaaGreat.tell d' p' q' n σ):=
 ⟨fun _ _=>rfl,fun _ _=>rfl,fun _ _=>rfl,fun p q=>by rw [ZeY,Xc (fun z=>h3 z.1)];rfl,fun p q=>by rw [ZeY,Xc (fun z=>h4 z.1)];rfl⟩
theorem Un.see (p q:Nat) (n:Int):Un s σ (Proofs.YtcnahmgekicbdaaGreat.see p q n σ):=by
 unfold Proofs.YtcnahmgekicbdaaGreat.see;split
 ·exact Un.tell _ _ _ _ (by decide) (by decide)
 ·exact⟨fun _ _=>rfl,fun _ _=>rfl,fun _ _=>rfl,fun _ _=>rfl,fun _ _=>rfl⟩
theorem Zti (hS:X7 s) (hl:∀ i,σ.ld i <= (σ.sn i).length) (hp0:p0 < nn s) (hq0:q0 < nn s) (hp:p < nn s) (hq:q < nn s):
 bb s (Xk s p0 q0 σ) p q=bb s σ p q + one (p0=p∧q0=q)∧asks s (Xk s p0 q0 σ) p q=asks s σ p q:=by
 unfold Xk;by_cases e:pl s p0=pl s q0
 ·rw [if_pos e];refine⟨?_,rfl⟩;unfold bb;show kc 5 p q (Z9 σ.be (pl s p0) (σ.be (pl s p0) ++ [_]) (pl s p)) + kc 5 p q (fl σ (li s (pl s q) (pl s p)))=_;by_cases e2:pl s p=pl s p0
  ·rw [e2,Zv,ZfC,ZcY,ZlR,Nat.zero_add];by_cases c:p0=p∧q0=q
   ·rw [JZ c,JZ ⟨rfl,by show((p0:Int))=p;omega,by show((q0:Int))=q;omega⟩];omega
   ·rw [Xc c,Xc (fun z=>c ⟨by have:((p0:Int))=p:=z.2.1;omega,by have:((q0:Int))=q:=z.2.2;omega⟩)];omega
  ·rw [ZF e2,Xc (fun z=>e2 (by rw [z.1]))];omega
 ·rw [if_neg e];refine⟨?_,?_⟩
  ·unfold bb;rw [ZcW (hl _)];show kc 5 p q (σ.be (pl s p)) + (_ + _)=_;by_cases c:p0=p∧q0=q
   ·obtain⟨rfl,rfl⟩:=c;rw [if_pos rfl,JZ ⟨rfl,rfl,rfl⟩,JZ ⟨rfl,rfl⟩];omega
   ·rw [Xc c,Xc (fun z=>c ⟨by have:((p0:Int))=p:=z.2.1;omega,by have:((q0:Int))=q:=z.2.2;omega⟩)];split <;> omega
  ·unfold asks;rw [ZcW (hl _),Xc (fun z=>by have:(5:Int)=2:=z.1;omega)];split <;> rfl
theorem ZDb (hl:∀ i,σ.ld i <= (σ.sn i).length) (p q:Nat):∀ i,(Xk s p q σ).ld i <= ((Xk s p q σ).sn i).length:=fun i=>by
 rw [(Zc8 (s:=s) p q σ).2.2.2.1];exact Nat.le_trans (hl i) (SnM.Xk p q i)
theorem ZzV (hS:X7 s) (hq0:q0 < nn s) (hp:p < nn s) (hq:q < nn s):∀ (l:List Int) (σ:TS),(∀ i,σ.ld i <= (σ.sn i).length) ->(∀ x ∈ l,∃ k:Nat,x= (k:Int)∧k < nn s) ->
 bb s (Zw s q0 l σ) p q=bb s σ p q + (if q0=q then l.count (p:Int) else 0)∧asks s (Zw s q0 l σ) p q=asks s σ p q:=by
 intro l
 induction l with
 | nil=>intro σ _ _;exact⟨by show bb s σ p q=_;split <;> rfl,rfl⟩
 | cons x l ih=>
   intro σ hl hx;obtain⟨k,rfl,hk⟩:=hx x (by simp);have h1:=ih (Xk s k q0 σ) (ZDb hl k q0) fun y hy=>hx y (by simp [hy])
   have h2:=Zti (p:=p) (q:=q) hS hl hk hq0 hp hq;show bb s (Zw s q0 l (Xk s ((k:Int)).toNat q0 σ)) p q=_∧asks s (Zw s q0 l (Xk s ((k:Int)).toNat q0 σ)) p q=_;rw [Int.toNat_natCast,h1.1,h1.2,h2.1,h2.2];refine⟨?_,rfl⟩;rw [List.count_cons];by_cases e:q0=q
   ·rw [if_pos e,if_pos e];by_cases c:k=p
    ·rw [JZ ⟨c,e⟩,if_pos (by simp [c])];omega
    ·rw [Xc (fun z=>c z.1),if_neg (by simp;omega)];omega
   ·rw [if_neg e,if_neg e,Xc (fun z=>e z.2)]
theorem Zsl (hS:X7 s) (hl:∀ i,σ.ld i <= (σ.sn i).length) (hp0:p0 < nn s) (hq0:q0 < nn s) (hp:p < nn s) (hq:q < nn s):
 asks s (note s p0 q0 σ) p q=asks s σ p q∧(σ.st q0=3 ->bb s (note s p0 q0 σ) p q=bb s σ p q + one (p0=p∧q0=q)∧wat (note s p0 q0 σ) p q=wat σ p q)∧
 (σ.st q0 ≠ 3 ->bb s (note s p0 q0 σ) p q=bb s σ p q∧wat (note s p0 q0 σ) p q=wat σ p q + one (p0=p∧q0=q)):=by
 unfold note;by_cases e:σ.st q0=3
 ·rw [if_pos e];have h:=Zti (p:=p) (q:=q) hS hl hp0 hq0 hp hq;exact⟨h.2,fun _=>⟨h.1,ZpD (Zc8 (s:=s) p0 q0 σ).2.2.2.2.2.2⟩,fun z=>absurd e z⟩
 ·rw [if_neg e];refine⟨rfl,fun z=>absurd z e,fun _=>⟨rfl,?_⟩⟩;unfold wat;show(Z9 σ.wa q0 (σ.wa q0 ++ [(p0:Int)]) q).count (p:Int)=_;by_cases c:q=q0
  ·subst c;rw [Zv,List.count_append,List.count_singleton];by_cases c2:p0=p
   ·rw [JZ ⟨c2,rfl⟩,if_pos (by simp [c2])]
   ·rw [Xc (fun z=>c2 z.1),if_neg (by simp;omega)]
  ·rw [ZF c,Xc (fun z=>c z.2.symm)];rfl
end
end
section
def P3 (s:Zc) (σ:TS):Prop:=∀ w,w < mm s ->∀ x ∈ σ.be w,∃ p:Nat,x.kV= (p:Int)∧p < nn s∧pl s p=w
section
variable {s:Zc} {σ τ υ:TS} {F B a b p q w i j n d r p0 q0:Nat} {x:Ze} {k:Int}
theorem P3.congr (h:P3 s σ) (e:τ.be=σ.be):P3 s τ:=fun w hw x hx=>h w hw x (by rwa [e] at hx)
theorem P3.wait (h:P3 s σ) (hx:x.kV= (p:Int)) (hp:p < nn s) (hm:pl s p=a):P3 s (Proofs.YtcnahmgekicbdaaGreat.wait a x σ):=fun w hw y hy=>by
 have hy:y ∈ Z9 σ.be a (σ.be a ++ [x]) w:=hy;by_cases e:w=a
 ·subst e;rw [Zv] at hy;rcases List.mem_append.1 hy with hy | hy
  ·exact h w hw y hy
  ·rw [List.mem_singleton.1 hy];exact⟨p,hx,hp,hm⟩
 ·rw [ZF e] at hy;exact h w hw y hy
theorem P3.Xk (h:P3 s σ) (hp:p < nn s) (q:Nat):P3 s (Proofs.YtcnahmgekicbdaaGreat.Xk s p q σ):=by
 unfold Proofs.YtcnahmgekicbdaaGreat.Xk;split
 ·exact h.wait rfl hp rfl
 ·exact h.congr rfl
theorem P3.note (h:P3 s σ) (hp:p < nn s) (q:Nat):P3 s (Proofs.YtcnahmgekicbdaaGreat.note s p q σ):=by
 unfold Proofs.YtcnahmgekicbdaaGreat.note;split
 ·exact h.Xk hp q
 ·exact h.congr rfl
theorem P3.act (h1:P1 s σ) (h:P3 s σ) (ac:Act s σ τ):P3 s τ:=by
 cases ac with
 | fall=>exact h.congr rfl
 | WZ=>exact h.congr rfl
 | @die p hp h2 hA=>
   have hA:P3 s (Yn s p σ):=by
    have:P3 s (Zw s p (σ.wa p) (JW p σ)):=WK _ (P3 s) (σ.wa p) (JW p σ) (h.congr rfl) fun τ x hx hτ=>by
     obtain⟨k,rfl,hk⟩:=h1.ws p hp x hx;exact hτ.Xk (by rw [Int.toNat_natCast];exact hk) p
    exact this.congr rfl
   unfold UH;split
   ·exact hA
   ·split
    ·exact hA.congr rfl
    ·exact hA.congr rfl
 | @Zdj p q=>exact h.congr (QB q p σ.sd (kK p q σ)).2.2.2.2.2.1
 | Zdi=>exact h.congr rfl
 | @Zdf p q hp=>exact(h.congr (τ:=tell 3 p q 0 σ) rfl).note hp q
 | Zde=>exact h.congr rfl
 | @Zdo a b p q=>exact(h.congr (τ:=drop1 (li s a b) σ) rfl).congr (QB _ _ _ _).2.2.2.2.2.1
 | @Zdr a b p q ha hb hl hk hp hq hpn KS=>exact(h.congr (τ:=drop1 (li s a b) σ) rfl).note hpn q
 | Zdp=>exact h.congr rfl
 | ZbH=>exact h.congr rfl
 | @Zdq a b ha hb hl hk=>
   obtain⟨p,hp,hpn,_,c⟩:=h1.lets a b ha hb _ (Zcf hl);refine(h.congr (τ:=drop1 (li s a b) σ) rfl).wait hp hpn ?_;rcases c with⟨k,_⟩ | ⟨k,_⟩ | ⟨k,_⟩ | ⟨k,_⟩ | ⟨k,e,_⟩
   ·omega
   ·omega
   ·omega
   ·omega
   ·exact e
 | @ring w i hw hpk=>
   have e:=Jt s w i σ;intro v hv y hy;rw [e.1] at hy;by_cases z:v=w
   ·subst z;rw [Zv] at hy;exact h v hv y (Zcu hy)
   ·rw [ZF z] at hy;exact h v hv y hy
theorem Zla {d:Int} (h:x.kW=d) (hp:x.kV= (p0:Int)) (hq:x.kX= (q0:Int)):one (x.kW=d∧x.kV= (p:Int)∧x.kX= (q:Int))=one (p0=p∧q0=q):=by
 rw [hp,hq];by_cases c:p0=p∧q0=q
 ·rw [JZ c,JZ ⟨h,by omega,by omega⟩]
 ·rw [Xc c,Xc (fun z=>c ⟨by have:=z.2.1;omega,by have:=z.2.2;omega⟩)]
theorem Zjj (n:Int):ec (tell k p0 q0 n σ) k p q=ec σ k p q + one (p0=p∧q0=q):=by
 rw [ZeY];congr 1;by_cases c:p0=p∧q0=q
 ·rw [JZ c,JZ ⟨rfl,by omega,by omega⟩]
 ·rw [Xc c,Xc (fun z=>c ⟨by have:=z.2.1;omega,by have:=z.2.2;omega⟩)]
theorem Zk5 (d':Int) (n:Int) (h:d' ≠ k):ec (tell d' p0 q0 n σ) k p q=ec σ k p q:=by
 rw [ZeY,Xc (fun z=>h z.1)];rfl
theorem Un.of (h1:τ.sn=σ.sn) (h2:τ.ld=σ.ld) (h3:τ.be=σ.be) (h4:τ.wa=σ.wa) (h5:τ.ev=σ.ev):Un s σ τ:=
 ⟨fun _ _=>Ztj h1 h2,fun _ _=>ZPS h1 h2 h3,fun _ _=>ZpD h4,fun _ _=>Zk6 h5,fun _ _=>Zk6 h5⟩
theorem Bal.Yn (hS:X7 s) (h1:P1 s σ) (h2:P2 s σ) (h:Bal s σ) (hp0:p0 < nn s):Bal s (Proofs.YtcnahmgekicbdaaGreat.Yn s p0 σ):=by
 have sA:=QV (s:=s) p0 σ
 have bA:∀ p q,p < nn s ->q < nn s ->bb s (Proofs.YtcnahmgekicbdaaGreat.Yn s p0 σ) p q=bb s σ p q + (if p0=q then(σ.wa p0).count (p:Int) else 0)∧asks s (Proofs.YtcnahmgekicbdaaGreat.Yn s p0 σ) p q=asks s σ p q:=fun p q hp hq=>
  ZzV hS hp0 hp hq (σ.wa p0) (JW p0 σ) h2.ld (h1.ws p0 hp0)
 have wA:∀ p q,wat (Proofs.YtcnahmgekicbdaaGreat.Yn s p0 σ) p q=if p0=q then 0 else wat σ p q:=fun p q=>by
  unfold wat;rw [sA.2.2.2.2.2];by_cases e:p0=q
  ·subst e;rw [Zv,if_pos rfl];rfl
  ·rw [ZF (fun z=>e z.symm),if_neg e]
 have e3:∀ p q,ec (Proofs.YtcnahmgekicbdaaGreat.Yn s p0 σ) 3 p q=ec σ 3 p q:=fun p q=>by rw [ZzG sA.2.2.2.2.1,Xc (fun z=>by have:(6:Int)=3:=z.1;omega)];rfl
 have e4:∀ p q,ec (Proofs.YtcnahmgekicbdaaGreat.Yn s p0 σ) 4 p q=ec σ 4 p q:=fun p q=>by rw [ZzG sA.2.2.2.2.1,Xc (fun z=>by have:(6:Int)=4:=z.1;omega)];rfl
 have tot:∀ p q,p < nn s ->q < nn s ->ec (Proofs.YtcnahmgekicbdaaGreat.Yn s p0 σ) 4 p q + bb s (Proofs.YtcnahmgekicbdaaGreat.Yn s p0 σ) p q + wat (Proofs.YtcnahmgekicbdaaGreat.Yn s p0 σ) p q + asks s (Proofs.YtcnahmgekicbdaaGreat.Yn s p0 σ) p q=ec σ 4 p q + bb s σ p q + wat σ p q + asks s σ p q:=fun p q hp hq=>by
  obtain⟨b1,b2⟩:=bA p q hp hq;rw [b1,b2,wA,e4];by_cases e:p0=q
  ·rw [if_pos e,if_pos e,e];unfold wat;omega
  ·rw [if_neg e,if_neg e];omega
 refine⟨fun p q hp hq=>by rw [tot p q hp hq,e3];exact h.le p q hp hq,fun p q hp hq z=>?_,fun p q hp hq z=>?_,fun p q hp hq z=>?_⟩
 ·rw [tot p q hp hq,e3];rw [sA.1] at z;refine h.eq p q hp hq ?_;by_cases e:p=p0
  ·subst e;rw [Zv] at z;omega
  ·rwa [ZF e] at z
 ·rw [sA.1];by_cases e:q=p0
  ·subst e;rw [Zv]
  ·rw [ZF e];rw [e4,(bA p q hp hq).1,if_neg (fun z=>e z.symm)] at z;exact h.dead p q hp hq z
 ·rw [wA];by_cases e:p0=q
  ·rw [if_pos e]
  ·rw [if_neg e];rw [sA.1,ZF (fun z=>e z.symm)] at z;exact h.wz p q hp hq z
theorem Bal.act (hS:X7 s) (h1:P1 s σ) (h2:P2 s σ) (h3:P3 s σ) (h:Bal s σ) (ac:Act s σ τ):Bal s τ:=by
 have id1:∀ (ρ:TS),ρ.st=σ.st ->∀ p,p < nn s ->ρ.st p=1 ->σ.st p=1:=fun ρ e p _ z=>by rwa [e] at z
 have id3:∀ (ρ:TS),ρ.st=σ.st ->∀ p,p < nn s ->(σ.st p=3↔ρ.st p=3):=fun ρ e p _=>by rw [e]
 cases ac with
 | @fall p0 hp0 hst=>
   refine h.un ((Un.of (s:=s) (σ:=σ) (τ:= {σ with st:=Z9 σ.st p0 2}) rfl rfl rfl rfl rfl).trans (Un.tell (σ:= {σ with st:=Z9 σ.st p0 2}) 5 p0 0 0 (by decide) (by decide))) (fun p _ z=>?_) (fun p _=>?_)
   ·have z:Z9 σ.st p0 2 p=1:=z;by_cases e:p=p0
    ·subst e;exact hst
    ·rwa [ZF e] at z
   ·show _↔Z9 σ.st p0 2 p=3;by_cases e:p=p0
    ·subst e;rw [Zv,hst];decide
    ·rw [ZF e]
 | WZ=>exact h.un (Un.send (h2.ld _) (show(3:Int) ≠ 2 by decide) (show(3:Int) ≠ 5 by decide)) (id1 _ rfl) (id3 _ rfl)
 | @die p0 hp0 hst hA=>
   have hB:=Bal.Yn hS h1 h2 h hp0;unfold UH;split
   ·exact hB
   ·split
    ·exact hB.un ⟨fun _ _=>rfl,fun _ _=>rfl,fun _ _=>rfl,fun _ _=>rfl,fun _ _=>rfl⟩ (fun _ _ z=>z) (fun _ _=>Iff.rfl)
    ·refine hB.un (Un.send ?_ (show(4:Int) ≠ 2 by decide) (show(4:Int) ≠ 5 by decide)) (fun _ _ z=>z) (fun _ _=>Iff.rfl);rw [(QV (s:=s) p0 σ).2.2.1];exact Nat.le_trans (h2.ld _) (SnM.Yn p0 _)
 | @Zdj p0 q0 hp hq=>exact h.un (((Un.of (s:=s) (σ:=σ) (τ:= {σ with sd:=σ.sd + 1}) rfl rfl rfl rfl rfl).trans (Un.tell (σ:= {σ with sd:=σ.sd + 1}) 1 p0 q0 σ.sd (by decide) (by decide))).trans (Un.see q0 p0 σ.sd)) (id1 _ (QB q0 p0 σ.sd (kK p0 q0 σ)).1) (id3 _ (QB q0 p0 σ.sd (kK p0 q0 σ)).1)
 | @Zdi p0 q0 hp hq=>exact h.un (((Un.of (s:=s) (σ:=σ) (τ:= {σ with sd:=σ.sd + 1}) rfl rfl rfl rfl rfl).trans (Un.tell (σ:= {σ with sd:=σ.sd + 1}) 1 p0 q0 σ.sd (by decide) (by decide))).trans (Un.send (x:= ⟨1,p0,q0,σ.sd,[]⟩) (h2.ld _) (show(1:Int) ≠ 2 by decide) (show(1:Int) ≠ 5 by decide))) (id1 _ rfl) (id3 _ rfl)
 | @Zdf p0 q0 hp0 hq0 hst e0=>
   have e:=X6 (s:=s) p0 q0 (tell 3 p0 q0 0 σ);have e3:∀ p q,ec (note s p0 q0 (tell 3 p0 q0 0 σ)) 3 p q=ec σ 3 p q + one (p0=p∧q0=q):=fun p q=>by rw [Zk6 e.2.2.2.2.2,Zjj]
   have e4:∀ p q,ec (note s p0 q0 (tell 3 p0 q0 0 σ)) 4 p q=ec σ 4 p q:=fun p q=>by rw [Zk6 e.2.2.2.2.2,Zk5 _ _ (by decide)]
   have nt:=fun p q hp hq=>Zsl (p:=p) (q:=q) (σ:=tell 3 p0 q0 0 σ) hS h2.ld hp0 hq0 hp hq
   have ta:∀ p q,asks s (tell 3 p0 q0 0 σ) p q=asks s σ p q:=fun _ _=>rfl
   have tb:∀ p q,bb s (tell 3 p0 q0 0 σ) p q=bb s σ p q:=fun _ _=>rfl
   have tw:∀ p q,wat (tell 3 p0 q0 0 σ) p q=wat σ p q:=fun _ _=>rfl
   have ts:(tell 3 p0 q0 0 σ).st q0=σ.st q0:=rfl;refine⟨fun p q hp hq=>?_,fun p q hp hq z=>?_,fun p q hp hq z=>?_,fun p q hp hq z=>?_⟩
   ·have l:=h.le p q hp hq;obtain⟨n1,n2,n3⟩:=nt p q hp hq;rw [e3,e4,n1,ta];by_cases c:σ.st q0=3
    ·obtain⟨m1,m2⟩:=n2 c;rw [m1,m2,tb,tw];omega
    ·obtain⟨m1,m2⟩:=n3 c;rw [m1,m2,tb,tw];omega
   ·rw [e.1] at z;have l:=h.eq p q hp hq z;obtain⟨n1,n2,n3⟩:=nt p q hp hq;rw [e3,e4,n1,ta];by_cases c:σ.st q0=3
    ·obtain⟨m1,m2⟩:=n2 c;rw [m1,m2,tb,tw];omega
    ·obtain⟨m1,m2⟩:=n3 c;rw [m1,m2,tb,tw];omega
   ·rw [e.1];obtain⟨n1,n2,n3⟩:=nt p q hp hq;rw [e4] at z;by_cases c:σ.st q0=3
    ·obtain⟨m1,m2⟩:=n2 c;rw [m1,tb] at z;by_cases cc:p0=p∧q0=q
     ·rw [← cc.2];exact c
     ·rw [Xc cc] at z;exact h.dead p q hp hq z
    ·obtain⟨m1,m2⟩:=n3 c;rw [m1,tb] at z;exact h.dead p q hp hq z
   ·rw [e.1] at z;obtain⟨n1,n2,n3⟩:=nt p q hp hq;have l:=h.wz p q hp hq z;by_cases c:σ.st q0=3
    ·obtain⟨m1,m2⟩:=n2 c;rw [m2,tw];exact l
    ·obtain⟨m1,m2⟩:=n3 c;rw [m2,tw,l,Xc (fun cc=>c (by rw [cc.2];exact z))]
 | @Zde p0 q0 hp0 hq0 hst e0=>
   have e3:∀ p q,ec (send s (pl s p0) (pl s q0) ⟨2,p0,q0,0,[]⟩ (tell 3 p0 q0 0 σ)) 3 p q=ec σ 3 p q + one (p0=p∧q0=q):=fun p q=>Zjj 0
   have e4:∀ p q,ec (send s (pl s p0) (pl s q0) ⟨2,p0,q0,0,[]⟩ (tell 3 p0 q0 0 σ)) 4 p q=ec σ 4 p q:=fun p q=>Zk5 _ _ (by decide)
   have ea:∀ p q,asks s (send s (pl s p0) (pl s q0) ⟨2,p0,q0,0,[]⟩ (tell 3 p0 q0 0 σ)) p q=asks s σ p q + one (p0=p∧q0=q):=fun p q=>by
    unfold asks;rw [ZcW (σ:=tell 3 p0 q0 0 σ) (h2.ld _),Zla (x:= ⟨2,p0,q0,0,[]⟩) (d:=2) (p0:=p0) (q0:=q0) rfl rfl rfl];by_cases c:p0=p∧q0=q
    ·rw [if_pos (by rw [c.1,c.2])];rfl
    ·rw [Xc c];split <;> rfl
   have eb:∀ p q,bb s (send s (pl s p0) (pl s q0) ⟨2,p0,q0,0,[]⟩ (tell 3 p0 q0 0 σ)) p q=bb s σ p q:=fun p q=>by
    unfold bb;rw [ZcW (σ:=tell 3 p0 q0 0 σ) (h2.ld _),Xc (fun z=>by have:(2:Int)=5:=z.1;omega)];show kc 5 p q (σ.be (pl s p)) + _=_;split <;> rfl
   have ew:∀ p q,wat (send s (pl s p0) (pl s q0) ⟨2,p0,q0,0,[]⟩ (tell 3 p0 q0 0 σ)) p q=wat σ p q:=fun p q=>rfl
   refine⟨fun p q hp hq=>?_,fun p q hp hq z=>?_,fun p q hp hq z=>?_,fun p q hp hq z=>?_⟩
   ·have l:=h.le p q hp hq;rw [e3,e4,ea,eb,ew];omega
   ·have l:=h.eq p q hp hq z;rw [e3,e4,ea,eb,ew];omega
   ·rw [e4,eb] at z;exact h.dead p q hp hq z
   ·rw [ew];exact h.wz p q hp hq z
 | @Zdo a b p0 q0 ha hb hl hk hp hq hpn KS=>exact h.un ((Un.drop hl (by omega) (by omega)).trans (Un.see q0 p0 _)) (id1 _ (QB q0 p0 (hd σ (li s a b)).n (drop1 (li s a b) σ)).1) (id3 _ (QB q0 p0 (hd σ (li s a b)).n (drop1 (li s a b) σ)).1)
 | @Zdr a b p0 q0 ha hb hl hk hpe hqe hp0 hq0=>
   have e:=X6 (s:=s) p0 q0 (drop1 (li s a b) σ);have hlet:=h1.lets a b ha hb _ (Zcf hl)
   have hpq:pl s p0=a∧pl s q0=b:=by
    obtain⟨p',hp',_,_,c⟩:=hlet;have:p'=p0:=by omega
    subst this;rcases c with⟨k,_⟩ | ⟨k,e1,q',hq',_,e2⟩ | ⟨k,_⟩ | ⟨k,_⟩ | ⟨k,_⟩
    ·omega
    ·have:q'=q0:=by omega
     subst this;exact⟨e1,e2⟩
    ·omega
    ·omega
    ·omega
   have hd2:∀ i,(drop1 (li s a b) σ).ld i <= ((drop1 (li s a b) σ).sn i).length:= (h2.drop hl).ld;have e3:∀ p q,ec (note s p0 q0 (drop1 (li s a b) σ)) 3 p q=ec σ 3 p q:=fun p q=>by rw [Zk6 e.2.2.2.2.2];rfl
   have e4:∀ p q,ec (note s p0 q0 (drop1 (li s a b) σ)) 4 p q=ec σ 4 p q:=fun p q=>by rw [Zk6 e.2.2.2.2.2];rfl
   have nt:=fun p q hp hq=>Zsl (p:=p) (q:=q) (σ:=drop1 (li s a b) σ) hS hd2 hp0 hq0 hp hq
   have ta:∀ p q,asks s σ p q=asks s (drop1 (li s a b) σ) p q + one (p0=p∧q0=q):=fun p q=>by
    have:=ZcX (k:=2) (p:=p) (q:=q) hl (li s (pl s p) (pl s q));rw [Zla (d:=2) (p0:=p0) (q0:=q0) hk hpe hqe] at this;unfold asks;rw [this];by_cases c:p0=p∧q0=q
    ·rw [if_pos (by rw [← c.1,← c.2,hpq.1,hpq.2])]
    ·rw [Xc c];split <;> rfl
   have tb:∀ p q,bb s (drop1 (li s a b) σ) p q=bb s σ p q:=fun p q=>by
    have:=ZcX (k:=5) (p:=p) (q:=q) hl (li s (pl s q) (pl s p));rw [Xc (fun z=>by have:=z.1;omega)] at this;unfold bb;rw [this];show kc 5 p q (σ.be (pl s p)) + _=_;split <;> rfl
   have tw:∀ p q,wat (drop1 (li s a b) σ) p q=wat σ p q:=fun _ _=>rfl
   have ts:(drop1 (li s a b) σ).st=σ.st:=rfl;refine⟨fun p q hp hq=>?_,fun p q hp hq z=>?_,fun p q hp hq z=>?_,fun p q hp hq z=>?_⟩
   ·have l:=h.le p q hp hq;obtain⟨n1,n2,n3⟩:=nt p q hp hq;rw [e3,e4,n1];rw [ta] at l;by_cases c:σ.st q0=3
    ·obtain⟨m1,m2⟩:=n2 c;rw [m1,m2,tb,tw];omega
    ·obtain⟨m1,m2⟩:=n3 c;rw [m1,m2,tb,tw];omega
   ·rw [e.1] at z;have l:=h.eq p q hp hq z;obtain⟨n1,n2,n3⟩:=nt p q hp hq;rw [e3,e4,n1];rw [ta] at l;by_cases c:σ.st q0=3
    ·obtain⟨m1,m2⟩:=n2 c;rw [m1,m2,tb,tw];omega
    ·obtain⟨m1,m2⟩:=n3 c;rw [m1,m2,tb,tw];omega
   ·rw [e.1];obtain⟨n1,n2,n3⟩:=nt p q hp hq;rw [e4] at z;by_cases c:σ.st q0=3
    ·obtain⟨m1,m2⟩:=n2 c;rw [m1,tb] at z;by_cases cc:p0=p∧q0=q
     ·rw [← cc.2];exact c
     ·rw [Xc cc] at z;exact h.dead p q hp hq z
    ·obtain⟨m1,m2⟩:=n3 c;rw [m1,tb] at z;exact h.dead p q hp hq z
   ·rw [e.1] at z;obtain⟨n1,n2,n3⟩:=nt p q hp hq;have l:=h.wz p q hp hq z;by_cases c:σ.st q0=3
    ·obtain⟨m1,m2⟩:=n2 c;rw [m2,tw];exact l
    ·obtain⟨m1,m2⟩:=n3 c;rw [m2,tw,l,Xc (fun cc=>c (by rw [cc.2];exact z))]
 | Zdp ha hb hl hk=>exact h.un (Un.drop hl (by omega) (by omega)) (id1 _ rfl) (id3 _ rfl)
 | ZbH ha hb hl hk=>exact h.un ((Un.drop hl (by omega) (by omega)).trans ⟨fun _ _=>rfl,fun _ _=>rfl,fun _ _=>rfl,fun _ _=>rfl,fun _ _=>rfl⟩) (id1 _ rfl) (id3 _ rfl)
 | @Zdq a b ha hb hl hk=>
   obtain⟨p0,hpe,hp0,_,c⟩:=h1.lets a b ha hb _ (Zcf hl)
   obtain⟨q0,hqe,hq0,e1,e2⟩:∃ q0:Nat,(hd σ (li s a b)).kX= (q0:Int)∧q0 < nn s∧pl s p0=b∧pl s q0=a:=by
    rcases c with⟨k,_⟩ | ⟨k,_⟩ | ⟨k,_⟩ | ⟨k,_⟩ | ⟨k,e,_,q,h1,h2,h3⟩
    ·omega
    ·omega
    ·omega
    ·omega
    ·exact⟨q,h1,h2,e,h3⟩
   refine h.un ⟨fun p q=>?_,fun p q=>?_,fun _ _=>rfl,fun _ _=>rfl,fun _ _=>rfl⟩ (id1 _ rfl) (id3 _ rfl)
   ·have:=ZcX (k:=2) (p:=p) (q:=q) hl (li s (pl s p) (pl s q));rw [Xc (fun z=>by have:=z.1;omega)] at this;show asks s (drop1 (li s a b) σ) p q=_;unfold asks;rw [this];split <;> rfl
   ·have:=ZcX (k:=5) (p:=p) (q:=q) hl (li s (pl s q) (pl s p));rw [Zla (d:=5) (p0:=p0) (q0:=q0) hk hpe hqe] at this;unfold bb;rw [this];show kc 5 p q (Z9 σ.be b (σ.be b ++ [hd σ (li s a b)]) (pl s p)) + kc 5 p q (fl (drop1 (li s a b) σ) (li s (pl s q) (pl s p)))=_;by_cases c:p0=p∧q0=q
    ·rw [if_pos (by rw [← c.1,← c.2,e1,e2]),show pl s p=b by rw [← c.1,e1],Zv,ZfC,ZcY,ZlR,Zla (d:=5) (p0:=p0) (q0:=q0) hk hpe hqe];omega
    ·rw [Xc c]
     have:kc 5 p q (Z9 σ.be b (σ.be b ++ [hd σ (li s a b)]) (pl s p))=kc 5 p q (σ.be (pl s p)):=by
      by_cases z:pl s p=b
      ·rw [z,Zv,ZfC,ZcY,ZlR,Zla (d:=5) (p0:=p0) (q0:=q0) hk hpe hqe,Xc c];rfl
      ·rw [ZF z]
     rw [this];split <;> omega
 | @ring w i hw hpk=>
   have e:=Jt s w i σ;have hi:i < (σ.be w).length:=ZcP _ _ hpk;obtain⟨x,hx⟩:∃ x,x= (σ.be w).getD i default:= ⟨_,rfl⟩
   have hm:x ∈ σ.be w:=by rw [hx];exact XT hi
   obtain⟨p0,hpe,hp0,hpw⟩:=h3 w hw x hm;obtain⟨⟨_,⟨q0,hqe,hq0⟩,_⟩,hk⟩:=h1.bea w hw x hm;have ea:∀ p q,asks s (rung s w i σ) p q=asks s σ p q:=fun p q=>Ztj e.2.2.2.2.2.1 e.2.1
   have ew:∀ p q,wat (rung s w i σ) p q=wat σ p q:=fun p q=>ZpD e.2.2.2.2.2.2.1
   have eb:∀ p q,bb s σ p q=bb s (rung s w i σ) p q + one (p0=p∧q0=q):=fun p q=>by
    have hc:=ZxF (k:=5) (p:=p) (q:=q) hi;rw [← hx,Zla (d:=5) (p0:=p0) (q0:=q0) hk hpe hqe] at hc;have hf:fl (rung s w i σ)=fl σ:=by unfold fl;rw [e.2.1,e.2.2.2.2.2.1]
    unfold bb;rw [hf,e.1];by_cases z:pl s p=w
    ·rw [z,Zv,hc];omega
    ·rw [ZF z,Xc (fun c=>z (by rw [← c.1];exact hpw))];omega
   have e3:∀ p q,ec (rung s w i σ) 3 p q=ec σ 3 p q:=fun p q=>by
    unfold rung;split
    ·rw [ZeY,Xc (fun z=>by have:=z.1;omega)];rfl
    ·rfl
   have e4:∀ p q,ec (rung s w i σ) 4 p q=ec σ 4 p q + (if σ.st p0=1 then one (p0=p∧q0=q) else 0):=fun p q=>by
    unfold rung;rw [← hx,hpe,Int.toNat_natCast];split
    ·rw [hqe,Zjj];rfl
    ·rfl
   refine⟨fun p q hp hq=>?_,fun p q hp hq z=>?_,fun p q hp hq z=>?_,fun p q hp hq z=>?_⟩
   ·have l:=h.le p q hp hq;rw [eb] at l;rw [e3,e4,ea,ew];split <;> omega
   ·rw [e.2.2.1] at z;have l:=h.eq p q hp hq z;rw [eb] at l;rw [e3,e4,ea,ew];by_cases c:p0=p∧q0=q
    ·rw [if_pos (by rw [c.1];exact z)];omega
    ·rw [Xc c] at l ⊢;split <;> omega
   ·rw [e.2.2.1];refine h.dead p q hp hq ?_;rw [eb];rw [e4] at z;split at z <;> omega
   ·rw [ew];rw [e.2.2.1] at z;exact h.wz p q hp hq z
end
end
end Go.Proofs.YtcnahmgekicbdaaGreat
end
