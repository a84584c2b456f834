/- WeighDoes returns true, whatever the number of machines, the world and the deed. No condition. Part 14 of the proof. -/
import Derived.Test.YtbmbbcaaimehkaaGreatDa13
set_option linter.all false
set_option maxHeartbeats 2000000
section
namespace Go.Proofs.YtbmbbcaaimehkaaGreat
open Go.Lf
def X6 (w:Zb) (p:Nat):List Int:=w.qK.getD p []
def Zhl (to:Int) (y:Zr):Zg:= ⟨1,to,y,[],[],0,0,0⟩
def ZtK (to p at_ age:Int):Zg:= ⟨3,to,⟨0,0,0,0,0⟩,[],[],p,at_,age⟩
def ZtU (to:Int) (qV Yc:List Int):Zg:= ⟨2,to,⟨0,0,0,0,0⟩,qV,Yc,0,0,0⟩
def Zd4 (x:Zr) (e:ZA):Zr:= ⟨x.msg,x.place,x.from_,e.age,x.hops + 1⟩
def told (m:Int) (x:Zr) (e:ZA) (now:Bool):List Zg:=if now=false∧x.from_ ≠ m∧x.from_ ≠ e.ZX then [ZtK x.from_ x.place e.ZX e.age] else []
def QB (w:Zb) (m:Nat) (x:Zr) (now:Bool):Zb×List Zv:=
 if(E w m x.place.toNat).here=true then({w with qK:=Yl w.qK x.place (X6 w x.place.toNat ++ [x.msg])},[⟨1,x.place,(m:Int),x.msg,x.hops⟩])
 else if now=false∧(E w m x.place.toNat).age <=x.age then({w with qJ:=Yl w.qJ (m:Int) (ZG w m ++ [x])},[])
 else({w with qG:=w.qG ++ Zhl (E w m x.place.toNat).ZX (Zd4 x (E w m x.place.toNat))::told (m:Int) x (E w m x.place.toNat) now},[])
section
variable {F:Nat} {w:Zb}
theorem Zkp (s:Wi w) {p:Nat} (hp:p < w.Zx.length):ZK w.qK (p:Int)=some (X6 w p):=YM [] (by rw [s.bx];exact hp)
theorem ZaS (s:Wi w) {m:Nat} (hm:m < w.qQ.length):ZK w.qJ (m:Int)=some (ZG w m):=YM [] (by rw [s.hd];exact hm)
theorem Zii (s:Wi w) (sm:UQ 900 w) {p:Nat} (hp:p < w.Zx.length):(X6 w p).length < 900:=sm.box _ (YL (by rw [s.bx];exact hp))
theorem Zje (s:Wi w) (sm:UQ 900 w) {m:Nat} (hm:m < w.qQ.length):(ZG w m).length < 900:=sm.hel _ (YL (by rw [s.hd];exact hm))
theorem ZxS (s:Wi w) (sm:UQ 900 w) {m:Nat} {x:Zr} {p:Nat} (hx:x.place= (p:Int)) (hp:p < w.Zx.length) {ev:List Zv} (he:ev.length <=800000):
 Zht ⟨w,ev⟩ (m:Int) x=some ⟨{w with qK:=Yl w.qK x.place (X6 w p ++ [x.msg])},ev ++ [⟨1,x.place,(m:Int),x.msg,x.hops⟩]⟩:=by
 have h1:=Zii s sm hp;unfold Zht;rw [hx,Zkp s hp];simp only [Bq0];rw [app1 (by omega) (by omega)];simp only [Bq0];rw [app1 (by omega) (by omega)]
 rfl
theorem ZiF (s:Wi w) (sm:UQ 900 w) {m:Nat} (hm:m < w.qQ.length) {x:Zr} (hp:x.place.toNat < w.Zx.length) (h0:0 <=x.place) (hh:0 <=x.hops) (hh2:x.hops <=1000) (now:Bool) {ev:List Zv} (he:ev.length <=800000):
 Zqg ⟨w,ev⟩ (m:Int) x now=some ⟨(QB w m x now).1,ev ++ (QB w m x now).2⟩:=by
 obtain⟨p,hx⟩:∃ p:Nat,x.place= (p:Int):= ⟨x.place.toNat,by omega⟩
 have h1:=Zje s sm hm;have h2:=sm.qG;rw [hx,Int.toNat_natCast] at hp;unfold Zqg QB;dsimp only;rw [s.row hm];simp only [Bq0];rw [hx,s.ent hm hp];simp only [Bq0];rw [Int.toNat_natCast];cases hE:(E w m p).here with
 | true=>
   rw [Cq1,ZxS s sm hx hp he,if_pos rfl,hx];rfl
 | false=>
   rw [Cq0,if_neg (by simp)];by_cases hc:now=false∧(E w m p).age <=x.age
   ·rw [if_pos hc,hc.1,decide_eq_false (show ¬ (E w m p).age > x.age by have:=hc.2;omega),Bool.or_self,Cq0,ZaS s hm];simp only [Bq0];rw [app1 (by omega) (by omega)];simp only [Bq0,List.append_nil]
   ·have e:(decide ((E w m p).age > x.age) || now)=true:=by
     rw [← Bool.not_eq_false];intro z;simp only [Bool.or_eq_false_iff,decide_eq_false_iff_not] at z;exact hc ⟨z.2,by omega⟩
    rw [if_neg hc,e,Cq1,app1 (by omega) (by omega)];simp only [Bq0];rw [WV (by omega) (by omega)];unfold told Zhl Zd4 ZtK;rw [hx];by_cases ht:now=false∧x.from_ ≠ (m:Int)∧x.from_ ≠ (E w m p).ZX
    ·rw [if_pos ht,ht.1,Qy,Qy,decide_eq_true ht.2.1,decide_eq_true ht.2.2];simp only [Bool.not_false,Bool.and_self,Cq1];rw [app1 (by rw [List.length_append,List.length_singleton];omega) (by omega)];simp only [Bq0,List.append_nil,List.append_assoc]
     rfl
    ·have e2:(((!now) && (x.from_ != (m:Int))) && (x.from_ != (E w m p).ZX))=false:=by
      rw [← Bool.not_eq_true];intro z;simp only [Ba0,Bool.not_eq_true',bne_iff_ne] at z;exact ht ⟨z.1.1,z.1.2,z.2⟩
     rw [e2,Cq0,if_neg ht,List.append_nil]
end
end Go.Proofs.YtbmbbcaaimehkaaGreat
end
section
namespace Go.Proofs.YtbmbbcaaimehkaaGreat
open Go.Lf
theorem Xn {α:Type} (l:List α) (k:Int) (x:α):(Yl l k x).length=l.length:=by simp [Yl]
theorem Jh {α:Type} {l:List α} {k j:Nat} {x d:α} (h:k < l.length):(Yl l (k:Int) x).getD j d=if j=k then x else l.getD j d:=by
 unfold Yl;rw [Int.toNat_natCast,List.getD_eq_getElem?_getD,List.getElem?_set,List.getD_eq_getElem?_getD];by_cases e:k=j
 ·subst e;simp [h]
 ·rw [if_neg e,if_neg (fun q=>e q.symm)]
theorem KO {α:Type} {l:List α} {k:Nat} {x:α} (h:k < l.length):ZK (Yl l (k:Int) x) (k:Int)=some x:=by
 rw [YM x (by rw [Xn];exact h),Jh h,if_pos rfl]
theorem ZfX {α:Type} (l:List α) (k:Int) (x y:α):Yl (Yl l k x) k y=Yl l k y:=by simp [Yl]
theorem ZlD {α:Type} {l:List α} {k:Nat} (d:α) (h:k < l.length):Yl l (k:Int) (l.getD k d)=l:=by
 unfold Yl;rw [Int.toNat_natCast];apply List.ext_getElem?;intro i;rw [List.getElem?_set];by_cases e:k=i
 ·subst e;rw [if_pos rfl,if_pos h,List.getD_eq_getElem?_getD,List.getElem?_eq_getElem h];rfl
 ·rw [if_neg e]
def setW (w:Zb) (m p:Nat) (e:ZA):Zb:= {w with qQ:=Yl w.qQ (m:Int) (Yl (row w m) (p:Int) e)}
theorem Wi.setW {w:Zb} (s:Wi w) {m p:Nat} (hm:m < w.qQ.length) (e:ZA):Wi (setW w m p e):=by
 refine⟨by show 1 <= (Yl _ _ _).length;rw [Xn];exact s.m1,by show(Yl _ _ _).length <=5;rw [Xn];exact s.m2,s.p1,s.p2,s.bx,by show w.qJ.length= (Yl _ _ _).length;rw [Xn];exact s.hd,fun l hl=>?_⟩;have hl':l ∈ Yl w.qQ (m:Int) (Yl (Proofs.YtbmbbcaaimehkaaGreat.row w m) (p:Int) e):=hl;unfold Yl at hl';rcases List.mem_or_eq_of_mem_set hl' with q | q
 ·exact s.rw_ _ q
 ·rw [q];simp only [List.length_set];exact s.len hm
theorem ZeQ (w:Zb) (m p:Nat) (e:ZA):(setW w m p e).qQ.length=w.qQ.length:=Xn _ _ _
theorem ZoD {w:Zb} (s:Wi w) {m p:Nat} (hm:m < w.qQ.length) (hp:p < w.Zx.length) (e:ZA) (m' p':Nat):E (setW w m p e) m' p'=if m'=m∧p'=p then e else E w m' p':=by
 have hr:row (setW w m p e) m'=if m'=m then Yl (row w m) (p:Int) e else row w m':=Jh hm
 unfold E;rw [hr];by_cases h:m'=m
 ·subst h;rw [if_pos rfl,Jh (by rw [s.len hm];exact hp)];by_cases h2:p'=p
  ·rw [if_pos h2,if_pos ⟨rfl,h2⟩]
  ·rw [if_neg h2,if_neg (fun q=>h2 q.2)]
 ·rw [if_neg h,if_neg (fun q=>h q.1)]
structure MvL (w:Zb) (x:Zg) (m:Nat):Prop where
 ZX:x.ZX= (m:Int)
 hm:m < w.qQ.length
 len:x.Yc.length=x.qV.length
 few:x.qV.length <=8
 rng:∀ i,i < x.qV.length ->J7 (x.qV.getD i 0) w.Zx.length
def Ui (x:Zg) (i:Nat):Nat:= (x.qV.getD i 0).toNat
theorem MvL.Ui {w:Zb} {x:Zg} {m:Nat} (v:MvL w x m) {i:Nat} (hi:i < x.qV.length):x.qV.getD i 0= (Proofs.YtbmbbcaaimehkaaGreat.Ui x i:Int)∧Proofs.YtbmbbcaaimehkaaGreat.Ui x i < w.Zx.length:=by
 have:=v.rng i hi;unfold J7 at this;unfold Proofs.YtbmbbcaaimehkaaGreat.Ui;omega
def Xl (w:Zb) (x:Zg):Nat ->Zb
 | 0=>w
 | k + 1=>setW (Xl w x k) x.ZX.toNat (Ui x k) ⟨true,x.ZX,x.Yc.getD k 0⟩
theorem XG (w:Zb) (x:Zg):∀ k,(Xl w x k).Zx=w.Zx∧(Xl w x k).qK=w.qK∧(Xl w x k).qJ=w.qJ∧(Xl w x k).qG=w.qG∧(Xl w x k).said=w.said∧(Xl w x k).qQ.length=w.qQ.length:=by
 intro k
 induction k with
 | zero=>exact⟨rfl,rfl,rfl,rfl,rfl,rfl⟩
 | succ k ih=>exact⟨ih.1,ih.2.1,ih.2.2.1,ih.2.2.2.1,ih.2.2.2.2.1,(ZeQ _ _ _ _).trans ih.2.2.2.2.2⟩
theorem Za0 {w:Zb} (s:Wi w) {x:Zg} {m:Nat} (v:MvL w x m):∀ k,Wi (Xl w x k):=by
 intro k
 induction k with
 | zero=>exact s
 | succ k ih=>exact ih.setW (by rw [(XG w x k).2.2.2.2.2,v.ZX,Int.toNat_natCast];exact v.hm) _
theorem ZsU {w:Zb} (s:Wi w) {x:Zg} {m:Nat} (v:MvL w x m):∀ k,k <=x.qV.length ->∀ i,i < k ->(E (Xl w x k) m (Ui x i)).here=true:=by
 intro k
 induction k with
 | zero=>intro _ i hi;omega
 | succ k ih=>
   intro hk i hi;have hp:= (v.Ui (i:=k) (by omega)).2;show(E (setW (Xl w x k) x.ZX.toNat (Ui x k) _) m (Ui x i)).here=true;rw [ZoD (Za0 s v k) (by rw [(XG w x k).2.2.2.2.2,v.ZX,Int.toNat_natCast];exact v.hm) (by rw [(XG w x k).1];exact hp)];by_cases e:m=x.ZX.toNat∧Ui x i=Ui x k
   ·rw [if_pos e]
   ·rw [if_neg e];refine ih (by omega) i ?_;rcases Nat.lt_or_ge i k with q | q
    ·exact q
    ·have:i=k:=by omega
     subst this;exact absurd ⟨by rw [v.ZX,Int.toNat_natCast],rfl⟩ e
def JQ (p:Nat) (y:Zr):Bool:=y.place== (p:Int)
def Zsg (m:Nat) (y:Zr):Zv:= ⟨1,y.place,(m:Int),y.msg,y.hops⟩
def Kt (w:Zb) (m p:Nat):Zb:=
 {w with qK:=Yl w.qK (p:Int) (X6 w p ++ ((ZG w m).filter (JQ p)).map (fun y=>y.msg)),qJ:=Yl w.qJ (m:Int) ((ZG w m).filter fun y=>!JQ p y)}
def Zjd (w:Zb) (m p:Nat):List Zv:= ⟨3,(p:Int),(m:Int),0,0⟩::((ZG w m).filter (JQ p)).map (Zsg m)
def Yp (w:Zb) (x:Zg):Nat ->Zb×List Zv
 | 0=>(Xl w x x.qV.length,[])
 | k + 1=>(Kt (Yp w x k).1 x.ZX.toNat (Ui x k),(Yp w x k).2 ++ Zjd (Yp w x k).1 x.ZX.toNat (Ui x k))
def Zav (w:Zb) (x:Zg):Zb×List Zv:=Yp w x x.qV.length
theorem UB (w:Zb) (x:Zg):∀ k,(Yp w x k).1.Zx=w.Zx∧(Yp w x k).1.qG=w.qG∧(Yp w x k).1.said=w.said∧(Yp w x k).1.qQ= (Xl w x x.qV.length).qQ∧(Yp w x k).1.qK.length=w.qK.length∧(Yp w x k).1.qJ.length=w.qJ.length:=by
 intro k
 induction k with
 | zero=>
   have:=XG w x x.qV.length;exact⟨this.1,this.2.2.2.1,this.2.2.2.2.1,rfl,by rw [show(Yp w x 0).1=Xl w x x.qV.length from rfl,this.2.1],by rw [show(Yp w x 0).1=Xl w x x.qV.length from rfl,this.2.2.1]⟩
 | succ k ih=>exact⟨ih.1,ih.2.1,ih.2.2.1,ih.2.2.2.1,(Xn _ _ _).trans ih.2.2.2.2.1,(Xn _ _ _).trans ih.2.2.2.2.2⟩
theorem U8 {w:Zb} (s:Wi w) {x:Zg} {m:Nat} (v:MvL w x m) (k:Nat):Wi (Yp w x k).1:=by
 have c:=Za0 s v x.qV.length;have h:=UB w x k;have h2:=XG w x x.qV.length;exact⟨by rw [h.2.2.2.1];exact c.m1,by rw [h.2.2.2.1];exact c.m2,by rw [h.1];exact s.p1,by rw [h.1];exact s.p2,by rw [h.2.2.2.2.1,h.1];exact s.bx,by rw [h.2.2.2.2.2,h.2.2.2.1,h2.2.2.2.2.2];exact s.hd,by rw [h.2.2.2.1,h.1,← h2.1];exact c.rw_⟩
theorem ZCY {u:Zb} {ev:List Zv} {x:Zr} {b:List Int} (hb:ZK u.qK x.place=some b) (h1:b.length <=800000) (he:ev.length <=800000) (m:Int):
 Zht ⟨u,ev⟩ m x=some ⟨{u with qK:=Yl u.qK x.place (b ++ [x.msg])},ev ++ [⟨1,x.place,m,x.msg,x.hops⟩]⟩:=by
 unfold Zht;rw [hb];simp only [Bq0];rw [app1 (by omega) (by omega)];simp only [Bq0];rw [app1 (by omega) (by omega)]
 rfl
theorem Zan {α:Type} {f:α ->Bool} {l:List α} {j:Nat} (h:j < l.length):(l.take (j + 1)).filter f= (l.take j).filter f ++ (if f l[j] then [l[j]] else []):=by
 rw [List.take_add_one,List.getElem?_eq_getElem h,List.filter_append];congr 1;show List.filter f [l[j]]=_;by_cases q:f l[j]=true
 ·rw [if_pos q,List.filter_cons,if_pos q];rfl
 ·rw [if_neg q,List.filter_cons,if_neg q];rfl
theorem Wp {α:Type} (f:α ->Bool) (l:List α) (j:Nat):((l.take j).filter f).length <=l.length:=Nat.le_trans (List.length_filter_le _ _) (by rw [List.length_take];omega)
section
variable {F:Nat}
theorem ZzC (hF:1000 <=F) {u:Zb} (s:Wi u) {m p:Nat} (hm:m < u.qQ.length) (hp:p < u.Zx.length) (hl:(ZG u m).length <=900) (hb:(X6 u p).length <=100000) {x:Zg} (hx:x.ZX= (m:Int)) {ev:List Zv} (he:ev.length <=700000) (i:Int)
 (next:Int×(List Int)×(List (List Int))×(List (List ZA))×(List (List Zr))×(List Zg)×Int×(List Zv) ->Option Yb):
 loop F (ZjI x i next (p:Int) (ZG u m)) (0,u.Zx,u.qK,u.qQ,Yl u.qJ (m:Int) [],u.qG,u.said,ev)=
  next (Y2 (i + 1),(Kt u m p).Zx,(Kt u m p).qK,(Kt u m p).qQ,(Kt u m p).qJ,(Kt u m p).qG,(Kt u m p).said,ev ++ ((ZG u m).filter (JQ p)).map (Zsg m)):=by
 have hbl:p < u.qK.length:=by rw [s.bx];exact hp
 have hhl:m < u.qJ.length:=by rw [s.hd];exact hm
 refine Yh (fun j=>((j:Int),u.Zx,Yl u.qK (p:Int) (X6 u p ++ (((ZG u m).take j).filter (JQ p)).map (fun y=>y.msg)),u.qQ,Yl u.qJ (m:Int) (((ZG u m).take j).filter fun y=>!JQ p y),u.qG,u.said,ev ++ (((ZG u m).take j).filter (JQ p)).map (Zsg m))) ?_ (n:= (ZG u m).length) (by omega) (fun j hj nx=>?_) (fun nx=>?_)
 ·simp only [List.take_zero,List.filter_nil,List.map_nil,List.append_nil];unfold X6;rw [ZlD [] hbl];rfl
 ·have l1:=Wp (JQ p) (ZG u m) j;have l2:=Wp (fun y=>!JQ p y) (ZG u m) j;unfold ZjI ZjH;dsimp only;rw [ZJ hj,Cq1,YW hj];simp only [Bq0];rw [Zan hj,Zan hj,YB (by omega)];by_cases h:(ZG u m)[j].place= (p:Int)
  ·have e:JQ p (ZG u m)[j]=true:=beq_iff_eq.2 h;rw [e,if_pos rfl,h,XZ,Cq0];simp only [Bool.not_true,Bool.false_eq_true,if_false,List.append_nil];rw [ZCY (b:=X6 u p ++ (((ZG u m).take j).filter (JQ p)).map (fun y=>y.msg)) (by rw [h];exact KO hbl) (by rw [List.length_append,List.length_map];omega) (by rw [List.length_append,List.length_map];omega)];simp only [Bq0];rw [h,ZfX,List.map_append,List.map_append,List.append_assoc,List.append_assoc];unfold Zsg;simp only [List.map_cons,List.map_nil,h,hx]
  ·have e:JQ p (ZG u m)[j]=false:=beq_eq_false_iff_ne.2 h;rw [e,Qy,decide_eq_true h,Cq1,hx];simp only [Bool.not_false,if_true,Bool.false_eq_true,if_false,List.append_nil];rw [KO hhl];simp only [Bq0];rw [app1 (by omega) (by omega)];simp only [Bq0];rw [ZfX]
 ·unfold ZjI;dsimp only;rw [ZR,Cq0,List.take_of_length_le (Nat.le_refl _)]
  rfl
end
end Go.Proofs.YtbmbbcaaimehkaaGreat
end
section
namespace Go.Proofs.YtbmbbcaaimehkaaGreat
open Go.Lf
theorem ZcL {u:Zb} (s:Wi u) {m p:Nat} (hm:m < u.qQ.length) (m':Nat):ZG (Kt u m p) m'=if m'=m then(ZG u m).filter (fun y=>!JQ p y) else ZG u m':=
 Jh (by rw [s.hd];exact hm)
theorem ZsZ {u:Zb} (s:Wi u) {m p:Nat} (hp:p < u.Zx.length) (p':Nat):X6 (Kt u m p) p'=if p'=p then X6 u p ++ ((ZG u m).filter (JQ p)).map (fun y=>y.msg) else X6 u p':=
 Jh (by rw [s.bx];exact hp)
structure ZRt (w:Zb) (x:Zg) (k:Nat):Prop where
 hl:∀ m,m < w.qQ.length ->(ZG (Yp w x k).1 m).length <=900
 bx:∀ p,p < w.Zx.length ->(X6 (Yp w x k).1 p).length <=900 * (k + 1)
 ev:(Yp w x k).2.length <=901 * k
theorem ZFH {w:Zb} (s:Wi w) (sm:UQ 900 w) {x:Zg} {m:Nat} (v:MvL w x m):∀ k,k <=x.qV.length ->ZRt w x k:=by
 intro k;have hin:=XG w x x.qV.length
 induction k with
 | zero=>
   intro _;refine⟨fun m' hm'=>?_,fun p hp=>?_,Nat.zero_le _⟩
   ·have:ZG (Yp w x 0).1 m'=ZG w m':=by unfold ZG;rw [show(Yp w x 0).1=Xl w x x.qV.length from rfl,hin.2.2.1]
    rw [this];exact Nat.le_of_lt (Zje s sm hm')
   ·have:X6 (Yp w x 0).1 p=X6 w p:=by unfold X6;rw [show(Yp w x 0).1=Xl w x x.qV.length from rfl,hin.2.1]
    rw [this];have:=Zii s sm hp;omega
 | succ k ih=>
   intro hk;have b:=ih (by omega);have hs:=U8 s v k;have hi:=UB w x k;have hM:(Yp w x k).1.qQ.length=w.qQ.length:=by rw [hi.2.2.2.1,hin.2.2.2.2.2]
   have hp:= (v.Ui (i:=k) (by omega)).2;have hm:x.ZX.toNat < (Yp w x k).1.qQ.length:=by rw [hM,v.ZX,Int.toNat_natCast];exact v.hm
   have hp':Ui x k < (Yp w x k).1.Zx.length:=by rw [hi.1];exact hp
   have hl0:=b.hl x.ZX.toNat (by rw [← hM];exact hm);refine⟨fun m' hm'=>?_,fun p hp1=>?_,?_⟩
   ·show(ZG (Kt (Yp w x k).1 x.ZX.toNat (Ui x k)) m').length <=900;rw [ZcL hs hm];by_cases e:m'=x.ZX.toNat
    ·rw [if_pos e];exact Nat.le_trans (List.length_filter_le _ _) hl0
    ·rw [if_neg e];exact b.hl m' hm'
   ·show(X6 (Kt (Yp w x k).1 x.ZX.toNat (Ui x k)) p).length <=900 * (k + 1 + 1);rw [ZsZ hs hp'];by_cases e:p=Ui x k
    ·rw [if_pos e,List.length_append,List.length_map];have h1:=b.bx (Ui x k) hp;have h2:=List.length_filter_le (JQ (Ui x k)) (ZG (Yp w x k).1 x.ZX.toNat);omega
    ·rw [if_neg e];have:=b.bx p hp1;omega
   ·show((Yp w x k).2 ++ Zjd (Yp w x k).1 x.ZX.toNat (Ui x k)).length <=901 * (k + 1);have h1:=b.ev;have h2:=List.length_filter_le (JQ (Ui x k)) (ZG (Yp w x k).1 x.ZX.toNat);rw [List.length_append];unfold Zjd;rw [List.length_cons,List.length_map];omega
theorem Zwp {F:Nat} (hF:1000 <=F) {w:Zb} (s:Wi w) {x:Zg} {m:Nat} (v:MvL w x m) {r:Option Yb} {l:List Zg} {ev:List Zv}
 (hr:loop F (Zgp F x) (0,w.Zx,w.qK,(Xl w x x.qV.length).qQ,w.qJ,l,w.said,ev)=r):loop F (ZjJ F ⟨w,ev⟩ x l) (0,w.qQ)=r:=by
 have h8:=v.few;refine Yh (fun k=>((k:Int),(Xl w x k).qQ)) rfl (n:=x.qV.length) (by omega) (fun k hk next=>?_) (fun next=>?_)
 ·obtain⟨e,hp⟩:=v.Ui hk;have hs:=Za0 s v k;have hi:=XG w x k;have hm:m < (Xl w x k).qQ.length:=by rw [hi.2.2.2.2.2];exact v.hm
  unfold ZjJ;dsimp only;rw [ZJ hk,Cq1,YM 0 hk];simp only [Bq0];rw [v.ZX,hs.row hm];simp only [Bq0];rw [YM 0 (by rw [v.len];exact hk)];simp only [Bq0];rw [e,hs.ent hm (by rw [hi.1];exact hp)];simp only [Bq0];rw [YB (by omega)]
  have:Xl w x (k + 1)=setW (Xl w x k) m (Ui x k) ⟨true,(m:Int),x.Yc.getD k 0⟩:=by
   show setW (Xl w x k) x.ZX.toNat (Ui x k) ⟨true,x.ZX,x.Yc.getD k 0⟩=_;rw [v.ZX,Int.toNat_natCast]
  rw [this];rfl
 ·unfold ZjJ;dsimp only;rw [ZR,Cq0];exact hr
theorem ZrT {F:Nat} (hF:1000 <=F) {w:Zb} (s:Wi w) (sm:UQ 900 w) {x:Zg} {m:Nat} (v:MvL w x m) {ev:List Zv} (he:ev.length <=600000):
 loop F (Zgp F x) (0,w.Zx,w.qK,(Xl w x x.qV.length).qQ,w.qJ,w.qG,w.said,ev)=some ⟨(Zav w x).1,ev ++ (Zav w x).2⟩:=by
 have h8:=v.few;have h0:=XG w x x.qV.length;refine Yh (fun k=>((k:Int),(Yp w x k).1.Zx,(Yp w x k).1.qK,(Yp w x k).1.qQ,(Yp w x k).1.qJ,(Yp w x k).1.qG,(Yp w x k).1.said,ev ++ (Yp w x k).2)) ?_ (n:=x.qV.length) (by omega) (fun k hk next=>?_) (fun next=>?_)
 ·show((0:Int),(Xl w x x.qV.length).Zx,(Xl w x x.qV.length).qK,_,(Xl w x x.qV.length).qJ,(Xl w x x.qV.length).qG,(Xl w x x.qV.length).said,ev ++ [])=_;rw [h0.1,h0.2.1,h0.2.2.1,h0.2.2.2.1,h0.2.2.2.2.1,List.append_nil];rfl
 ·obtain⟨e,hp⟩:=v.Ui hk;have hs:=U8 s v k;have hi:=UB w x k;have b:=ZFH s sm v k (by omega);have hM:(Yp w x k).1.qQ.length=w.qQ.length:=by rw [hi.2.2.2.1,h0.2.2.2.2.2]
  have hm:m < (Yp w x k).1.qQ.length:=by rw [hM];exact v.hm
  have hb:=b.bx _ hp;have hl:=b.hl m v.hm;have hev:=b.ev;unfold Zgp;dsimp only;rw [ZJ hk,Cq1,YM 0 hk];simp only [Bq0];rw [app1 (by rw [List.length_append];omega) (by omega)];simp only [Bq0];rw [v.ZX,ZaS hs hm];simp only [Bq0];rw [e,ZzC hF hs hm (by rw [hi.1];exact hp) hl (by omega) v.ZX (by rw [List.length_append,List.length_append,List.length_singleton];omega),YB (by omega)]
  have:Yp w x (k + 1)= (Kt (Yp w x k).1 m (Ui x k),(Yp w x k).2 ++ Zjd (Yp w x k).1 m (Ui x k)):=by
   show(Kt (Yp w x k).1 x.ZX.toNat (Ui x k),(Yp w x k).2 ++ Zjd (Yp w x k).1 x.ZX.toNat (Ui x k))=_;rw [v.ZX,Int.toNat_natCast]
  rw [this];unfold Zjd;simp only [List.append_assoc,List.singleton_append]
 ·unfold Zgp;dsimp only;rw [ZR,Cq0];rfl
theorem ZDS {F:Nat} (hF:1000 <=F) {u:Zb} (s:Wi u) {m p:Nat} (hm:m < u.qQ.length) (hp:p < u.Zx.length) (hh:(E u m p).here=true) (hl:(ZG u m).length <=900) (hb:(X6 u p).length <=100000) {x:Zg} (hx:x.ZX= (m:Int)) {ev:List Zv} (he:ev.length <=100000) (i:Int)
 (next:(List Zv)×Int×(List (List Int))×(List (List Zr)) ->Option (Zb×(List Zv))):
 loop F (ZjM x u.qQ i u.qJ next (p:Int) (ZG u m)) (ev,[],0,u.qK)=
  next (ev ++ ((ZG u m).filter (JQ p)).map (Zsg m),Y2 (i + 1),(Kt u m p).qK,(Kt u m p).qJ):=by
 have hbl:p < u.qK.length:=by rw [s.bx];exact hp
 have hhl:m < u.qJ.length:=by rw [s.hd];exact hm
 refine Yh (fun j=>(ev ++ (((ZG u m).take j).filter (JQ p)).map (Zsg m),((ZG u m).take j).filter (fun y=>!JQ p y),(j:Int),Yl u.qK (p:Int) (X6 u p ++ (((ZG u m).take j).filter (JQ p)).map (fun y=>y.msg)))) ?_ (n:= (ZG u m).length) (by omega) (fun j hj nx=>?_) (fun nx=>?_)
 ·simp only [List.take_zero,List.filter_nil,List.map_nil,List.append_nil];unfold X6;rw [ZlD [] hbl];rfl
 ·have l1:=Wp (JQ p) (ZG u m) j;have l2:=Wp (fun y=>!JQ p y) (ZG u m) j;unfold ZjM ZnE ZjK;dsimp only;rw [ZJ hj,Cq1,YW hj];simp only [Bq0];rw [Zan hj,Zan hj,YB (by omega)];by_cases h:(ZG u m)[j].place= (p:Int)
  ·have e:JQ p (ZG u m)[j]=true:=beq_iff_eq.2 h;rw [e,if_pos rfl,Z8,decide_eq_true h,Cq1,hx,s.row hm];simp only [Bq0];rw [h,s.ent hm hp];simp only [Bq0];rw [hh,Cq1,KO hbl];simp only [Bq0];rw [app1 (by rw [List.length_append,List.length_map];omega) (by omega)];simp only [Bq0];rw [app1 (by rw [List.length_append,List.length_map];omega) (by omega)];simp only [Bq0,Bool.not_true,Bool.false_eq_true,if_false,List.append_nil];rw [ZfX,List.map_append,List.map_append,List.append_assoc,List.append_assoc];unfold Zsg;simp only [List.map_cons,List.map_nil,h]
  ·have e:JQ p (ZG u m)[j]=false:=beq_eq_false_iff_ne.2 h;rw [e,Z8,decide_eq_false h,Cq0,app1 (by omega) (by omega)];simp only [Bq0,Bool.not_false,if_true,Bool.false_eq_true,if_false,List.append_nil]
 ·unfold ZjM;dsimp only;rw [ZR,Cq0,List.take_of_length_le (Nat.le_refl _),hx,ZaS s hm]
  rfl
theorem ZQw {F:Nat} (hF:1000 <=F) {w:Zb} (s:Wi w) {x:Zg} {m:Nat} (v:MvL w x m) {r:Option (Zb×List Zv)} {l:List Zg} {w0:Zb} (hb:w0.qK=w.qK) (hd:w0.qJ=w.qJ)
 (hr:loop F (Zgr F w0 x l (Xl w x x.qV.length).qQ) ([],0,w.qK,w.qJ)=r):loop F (ZjN F w0 x l) (0,w.qQ)=r:=by
 have h8:=v.few;refine Yh (fun k=>((k:Int),(Xl w x k).qQ)) rfl (n:=x.qV.length) (by omega) (fun k hk next=>?_) (fun next=>?_)
 ·obtain⟨e,hp⟩:=v.Ui hk;have hs:=Za0 s v k;have hi:=XG w x k;have hm:m < (Xl w x k).qQ.length:=by rw [hi.2.2.2.2.2];exact v.hm
  unfold ZjN;dsimp only;rw [ZJ hk,Cq1,YM 0 hk];simp only [Bq0];rw [v.ZX,hs.row hm];simp only [Bq0];rw [YM 0 (by rw [v.len];exact hk)];simp only [Bq0];rw [e,hs.ent hm (by rw [hi.1];exact hp)];simp only [Bq0];rw [YB (by omega)]
  have:Xl w x (k + 1)=setW (Xl w x k) m (Ui x k) ⟨true,(m:Int),x.Yc.getD k 0⟩:=by
   show setW (Xl w x k) x.ZX.toNat (Ui x k) ⟨true,x.ZX,x.Yc.getD k 0⟩=_;rw [v.ZX,Int.toNat_natCast]
  rw [this];rfl
 ·unfold ZjN;dsimp only;rw [ZR,Cq0,hb,hd];exact hr
theorem ZXz {u w:Zb} (h:u.qQ=w.qQ) (m p:Nat):E u m p=E w m p:=by unfold E row;rw [h]
theorem ZvR {F:Nat} (hF:1000 <=F) {w w0:Zb} (s:Wi w) (sm:UQ 900 w) {x:Zg} {m:Nat} (v:MvL w x m) (hi0:w0.Zx=w.Zx) (hs0:w0.said=w.said):
 loop F (Zgr F w0 x w.qG (Xl w x x.qV.length).qQ) ([],0,w.qK,w.qJ)=some ((Zav w x).1,(Zav w x).2):=by
 have h8:=v.few;have h0:=XG w x x.qV.length;refine Yh (fun k=>((Yp w x k).2,(k:Int),(Yp w x k).1.qK,(Yp w x k).1.qJ)) ?_ (n:=x.qV.length) (by omega) (fun k hk next=>?_) (fun next=>?_)
 ·show([],(0:Int),(Xl w x x.qV.length).qK,(Xl w x x.qV.length).qJ)=_;rw [h0.2.1,h0.2.2.1]
 ·obtain⟨e,hp⟩:=v.Ui hk;have hs:=U8 s v k;have hi:=UB w x k;have b:=ZFH s sm v k (by omega);have hM:(Yp w x k).1.qQ.length=w.qQ.length:=by rw [hi.2.2.2.1,h0.2.2.2.2.2]
  have hm:m < (Yp w x k).1.qQ.length:=by rw [hM];exact v.hm
  have hb:=b.bx _ hp;have hl:=b.hl m v.hm;have hev:=b.ev
  have hh:(E (Yp w x k).1 m (Ui x k)).here=true:=by
   rw [ZXz (w:=Xl w x x.qV.length) hi.2.2.2.1];exact ZsU s v _ (Nat.le_refl _) k hk
  unfold Zgr;dsimp only;rw [ZJ hk,Cq1,YM 0 hk];simp only [Bq0];rw [app1 (by omega) (by omega)];simp only [Bq0];rw [v.ZX,ZaS hs hm];simp only [Bq0];rw [e,← hi.2.2.2.1,ZDS hF hs hm (by rw [hi.1];exact hp) hh hl (by omega) v.ZX (by rw [List.length_append,List.length_singleton];omega),YB (by omega)]
  have:Yp w x (k + 1)= (Kt (Yp w x k).1 m (Ui x k),(Yp w x k).2 ++ Zjd (Yp w x k).1 m (Ui x k)):=by
   show(Kt (Yp w x k).1 x.ZX.toNat (Ui x k),(Yp w x k).2 ++ Zjd (Yp w x k).1 x.ZX.toNat (Ui x k))=_;rw [v.ZX,Int.toNat_natCast]
  rw [this];unfold Zjd;simp only [List.append_assoc,List.singleton_append]
 ·have hi:=UB w x x.qV.length;unfold Zgr ZcU;dsimp only;rw [ZR,Cq0,hi0,hs0];unfold Zav;congr 1;rw [← hi.1,← hi.2.1,← hi.2.2.1,← hi.2.2.2.1]
theorem ZdX (x:Zg) (p:Nat):∀ k,k <=x.qV.length ->(Wy x p k).length= (x.qV.take k).count (p:Int):=by
 intro k
 induction k with
 | zero=>intro _;simp [Wy]
 | succ k ih=>
   intro hk;have hk':k < x.qV.length:=by omega
   rw [ZfQ,List.length_append,ih (by omega),List.take_add_one,List.getElem?_eq_getElem hk',List.count_append,List.getD_eq_getElem?_getD,List.getElem?_eq_getElem hk'];congr 1;show _=List.count (p:Int) [x.qV[k]];rw [List.count_singleton];by_cases e:x.qV[k]= (p:Int)
   ·simp [e]
   ·simp [e]
theorem Ztr {l:List Zg} {x:Zg} (hx:x ∈ l) (p:Nat):(WU x p).length <= (Qh l p).length:=by
 unfold Qh
 induction l with
 | nil=>cases hx
 | cons y l ih=>
   rw [List.flatMap_cons,List.length_append];rcases List.mem_cons.1 hx with q | q
   ·rw [q];omega
   ·have:=ih q;omega
theorem Wd.nodup {w:Zb} (h:Wd w) {x:Zg} (hx:x ∈ w.qG) (hk:x.kind=2):x.qV.Nodup:=by
 rw [List.nodup_iff_count];intro a;by_cases ha:a ∈ x.qV
 ·obtain⟨i,hi,rfl⟩:=List.getElem_of_mem ha;have e0:x.qV.getD i 0=x.qV[i]:=by rw [List.getD_eq_getElem?_getD,List.getElem?_eq_getElem hi];rfl
  have hp:= (h.shr.Xm x hx).Ui i hi
  have hr:0 <=x.qV[i]∧x.qV[i] < (w.Zx.length:Int):=by
   rw [← e0]
   first
    | exact⟨hp.1,hp.2.1⟩
    | exact⟨hp.2.1,hp.2.2.1⟩
  obtain⟨p,e⟩:∃ p:Nat,x.qV[i]= (p:Int):= ⟨x.qV[i].toNat,by omega⟩
  have hl:=h.loc p (by omega);unfold Y7 at hl;rw [List.length_append] at hl;have h1:=Ztr hx p;have h2:WU x p=Wy x p x.qV.length:=by unfold WU;rw [if_pos hk]
  rw [h2,ZdX x p _ (Nat.le_refl _),List.take_of_length_le (Nat.le_refl _)] at h1;rw [e];omega
 ·rw [List.count_eq_zero_of_not_mem ha];omega
theorem Wd.mvl {w:Zb} (h:Wd w) {x:Zg} (hx:x ∈ w.qG) (hk:x.kind=2):MvL w x x.ZX.toNat:=by
 have hl:=h.shr.Xm x hx;have h8:=h.shr.Ko.p2
 have Zze:∀ i,i < x.qV.length ->J7 (x.qV.getD i 0) w.Zx.length:=fun i hi=>by
  have hp:=hl.Ui i hi
  first
   | exact⟨hp.1,hp.2.1⟩
   | exact⟨hp.2.1,hp.2.2.1⟩
 have hsub:x.qV ⊆ XC w.Zx.length:=fun a ha=>by
  have:= (KX (d:= (0:Int)) (P:=fun a=>J7 a w.Zx.length)).1 Zze a ha;unfold J7 at this;unfold XC;exact List.mem_map.2 ⟨a.toNat,List.mem_range.2 (by omega),by show((a.toNat:Nat):Int)=a;omega⟩
 have hlen:= (h.nodup hx hk).length_le_of_subset hsub;rw [Jb] at hlen;exact⟨by have:=hl.to1;omega,by have:=hl.to1;have:=hl.to2;omega,hl.Xi.len,by omega,Zze⟩
def YN (w:Zb) (k:Nat):Zb:= {w with qG:=w.qG.take k ++ w.qG.drop (k + 1)}
def KT (w:Zb) (x:Zg):Zb:=if(E w x.ZX.toNat x.place.toNat).here=false∧(E w x.ZX.toNat x.place.toNat).age < x.age then setW w x.ZX.toNat x.place.toNat ⟨false,x.at_,x.age⟩ else w
def Us (w:Zb) (k:Nat):Zb×List Zv:=
 if(ZO w k).kind=1 then QB (YN w k) (ZO w k).ZX.toNat (ZO w k).ZV false
 else if(ZO w k).kind=2 then Zav (YN w k) (ZO w k) else(KT (YN w k) (ZO w k),[])
theorem Wi.YN {w:Zb} (s:Wi w) (k:Nat):Wi (YN w k):= ⟨s.m1,s.m2,s.p1,s.p2,s.bx,s.hd,s.rw_⟩
theorem ZgO (w:Zb) {k:Nat} (hk:k < w.qG.length):(YN w k).qG.length + 1=w.qG.length:=by
 show(w.qG.take k ++ w.qG.drop (k + 1)).length + 1=_;rw [List.length_append,List.length_take,List.length_drop];omega
theorem ZgN {w:Zb} {k:Nat} {x:Zg} (h:x ∈ (YN w k).qG):x ∈ w.qG:=by
 rcases List.mem_append.1 h with q | q
 ·exact List.mem_of_mem_take q
 ·exact List.mem_of_mem_drop q
theorem UQ.YN {n:Nat} {w:Zb} (sm:UQ n w) {k:Nat} (hk:k < w.qG.length):UQ n (YN w k):=
 ⟨sm.Zx,sm.qK,sm.qQ,sm.qJ,by have:=ZgO w hk;have:=sm.qG;omega,sm.box,sm.row,sm.hel,fun x hx=>sm.Xm x (ZgN hx)⟩
theorem ZiA {α:Type} {l:List α} {a b:Nat} (h1:a <=b) (h2:b <=l.length):slL l (a:Int) (b:Int)=some ((l.take b).drop a):=by
 unfold slL;rw [decide_eq_true (show(0:Int) <= (a:Int) by omega),decide_eq_true (show(a:Int) <= (b:Int) by omega),decide_eq_true (show(b:Int) <= (l.length:Int) by omega)];rfl
section
variable {F:Nat} {w:Zb}
theorem ZBs (hF:1000 <=F) (sm:UQ 900 w) {k:Nat} (hk:k < w.qG.length):ZAZ w.qG (k:Int) (Y2 ((k:Int) + 1))=some (YN w k).qG:=by
 have hw:=sm.qG;unfold ZAZ;rw [YB (by omega),ZiA (by omega) (by omega)];simp only [Bq0];rw [Z8,decide_eq_false (by omega),Cq0,show slL w.qG 0 (k:Int)=some (w.qG.take k) from ZiA (a:=0) (by omega) (by omega)];simp only [Bq0];rw [ZiA (by omega) (by omega)];simp only [Bq0];rw [List.take_of_length_le (Nat.le_refl w.qG.length),Zkw (by rw [List.length_take,List.length_drop];omega) (by omega)];rfl
theorem ZlP {k:Nat} (hk:k < w.qG.length):ZK w.qG (k:Int)=some (ZO w k):=YM default hk
theorem Zt2 (h:Wd w) {x:Zg} (hx:x ∈ w.qG):x.kind=1∨x.kind=2∨x.kind=3:=by
 rcases(h.shr.Xm x hx).Xi with⟨q,_⟩ | ⟨q,_⟩ | ⟨q,_⟩
 ·exact .inl q
 ·exact .inr (.inl q)
 ·exact .inr (.inr q)
theorem Zhk (h:Wd w) {m:Int} {y:Zr} (hy:Jg w m y):y.place.toNat < w.Zx.length∧0 <=y.place∧0 <=y.age∧y.age <=30∧1 <=y.hops∧y.hops <=y.age + 1:=by
 obtain⟨a1,a2,a3,a4,a5,a6,a7⟩:=hy;have hp:y.place.toNat < w.Zx.length:=by omega
 have h1:=a5.1;have h2:=a5.2.1;have h3:=ZfV h.shr hp (h.loc _ hp);rw [Int.add_comm,Zbb (by omega) (by omega)] at a7;exact⟨hp,a1,by omega,by omega,a6,a7⟩
theorem ZvP (hF:1000 <=F) (h:Wd w) (sm:UQ 900 w) {k:Nat} (hk:k < w.qG.length) {ev:List Zv} (he:ev.length <=600000):ZA9 F ⟨w,ev⟩ (k:Int)=some ⟨(Us w k).1,ev ++ (Us w k).2⟩:=by
 have hx:ZO w k ∈ w.qG:=YL hk;have hl:=h.shr.Xm _ hx;have hto:(ZO w k).ZX= ((ZO w k).ZX.toNat:Int):=by have:=hl.to1;omega
 have htl:(ZO w k).ZX.toNat < w.qQ.length:=by have:=hl.to1;have:=hl.to2;omega
 have su:=h.shr.Ko.YN k;have smu:=sm.YN hk;unfold ZA9 Us;dsimp only;rw [ZlP hk];simp only [Bq0];rw [ZBs hF sm hk];simp only [Bq0];rcases Zt2 h hx with q | q | q
 ·have hb:=Zhk h (h.mai _ hx q);rw [if_pos q,Z8,decide_eq_true q,Cq1];have e:=ZiF su smu (m:= (ZO w k).ZX.toNat) htl (x:= (ZO w k).ZV) hb.1 hb.2.1 (by omega) (by omega) false (ev:=ev) (by omega);rw [← hto] at e
  change ((Zqg ⟨YN w k,ev⟩ (ZO w k).ZX (ZO w k).ZV false).bind fun KE=>some KE)=_
  rw [e];rfl
 ·have v:MvL (YN w k) (ZO w k) (ZO w k).ZX.toNat:=by
   have:=h.mvl hx q;exact⟨this.ZX,this.hm,this.len,this.few,this.rng⟩
  rw [if_neg (by omega),if_pos q,Z8,decide_eq_false (by omega),Cq0,Z8,decide_eq_true q,Cq1];have e:=Zwp hF (w:=YN w k) su v (l:= (YN w k).qG) (ev:=ev) (ZrT hF su smu v he);exact e
 ·have hn:=hl.ntd q;obtain⟨p,hp⟩:∃ p:Nat,(ZO w k).place= (p:Int):= ⟨(ZO w k).place.toNat,by omega⟩
  have hpl:p < w.Zx.length:=by omega
  rw [if_neg (by omega),if_neg (by omega),Z8,decide_eq_false (by omega),Cq0,Z8,decide_eq_false (by omega),Cq0,Z8,decide_eq_true q,Cq1];unfold KT ZjG;rw [hto,Int.toNat_natCast,h.shr.Ko.row htl];simp only [Bq0];rw [hp,Int.toNat_natCast,h.shr.Ko.ent htl hpl];simp only [Bq0];have eE:E (YN w k) (ZO w k).ZX.toNat p=E w (ZO w k).ZX.toNat p:=rfl;rw [eE,List.append_nil];by_cases c:(E w (ZO w k).ZX.toNat p).here=false∧(E w (ZO w k).ZX.toNat p).age < (ZO w k).age
  ·rw [if_pos c,c.1,decide_eq_true c.2];rfl
  ·rw [if_neg c]
   have:((!(E w (ZO w k).ZX.toNat p).here) && decide ((E w (ZO w k).ZX.toNat p).age < (ZO w k).age))=false:=by
    rw [← Bool.not_eq_true];intro z;simp only [Ba0,Bool.not_eq_true',decide_eq_true_eq] at z;exact c z
   rw [this];rfl
end
end Go.Proofs.YtbmbbcaaimehkaaGreat
end
section
namespace Go.Proofs.YtbmbbcaaimehkaaGreat
open Go.Lf
theorem ZyG {F:Nat} {w:Zb} (hF:1000 <=F) (h:Wd w) (sm:UQ 900 w) {k:Nat} (hk:k < w.qG.length):ZBa F w (k:Int)=some (Us w k):=by
 have hw:=sm.qG;have hx:ZO w k ∈ w.qG:=YL hk;have hl:=h.shr.Xm _ hx;have hto:(ZO w k).ZX= ((ZO w k).ZX.toNat:Int):=by have:=hl.to1;omega
 have htl:(ZO w k).ZX.toNat < w.qQ.length:=by have:=hl.to1;have:=hl.to2;omega
 have s:=h.shr.Ko;have su:=s.YN k;have smu:=sm.YN hk;have hdl:=ZgO w hk;unfold ZBa Us;rw [ZlP hk];simp only [Bq0];rw [show slL w.qG 0 (k:Int)=some (w.qG.take k) from ZiA (a:=0) (by omega) (by omega)];simp only [Bq0];rw [app0 (by rw [List.length_take];omega) (by omega)];simp only [Bq0];rw [YB (by omega),ZiA (by omega) (by omega)];simp only [Bq0];rw [List.take_of_length_le (Nat.le_refl w.qG.length),Zkw (by rw [List.length_take,List.length_drop];omega) (by omega)];simp only [Bq0];rw [show w.qG.take k ++ w.qG.drop (k + 1)= (YN w k).qG from rfl];rcases Zt2 h hx with q | q | q
 ·have hb:=Zhk h (h.mai _ hx q);obtain⟨p,hp⟩:∃ p:Nat,(ZO w k).ZV.place= (p:Int):= ⟨(ZO w k).ZV.place.toNat,by omega⟩
  have hpl:p < w.Zx.length:=by omega
  rw [if_pos q,Z8,decide_eq_true q,Cq1,hto,s.row htl,Int.toNat_natCast];simp only [Bq0];unfold QB;rw [hp,Int.toNat_natCast,s.ent htl hpl];simp only [Bq0];have eE:E (YN w k) (ZO w k).ZX.toNat p=E w (ZO w k).ZX.toNat p:=rfl;rw [eE];generalize E w (ZO w k).ZX.toNat p=e;have b1:=Zii s sm hpl;have b2:=Zje s sm htl;cases hh:e.here with
  | true=>
    rw [Cq1,if_pos rfl,Zkp s hpl];simp only [Bq0];rw [app1 (by omega) (by omega)]
    rfl
  | false=>
    rw [Cq0,if_neg (by simp)];unfold ZjL Zgq;by_cases hc:e.age <= (ZO w k).ZV.age
    ·rw [if_pos (show True∧e.age <= (ZO w k).ZV.age from⟨trivial,hc⟩),decide_eq_true hc,ZaS s htl];simp only [Bool.not_false,Bool.and_self,Cq1,Bq0];rw [app1 (by omega) (by omega)]
     rfl
    ·rw [if_neg (fun z=>hc z.2),decide_eq_false hc];simp only [Bool.not_false,Bool.and_false,Cq0];rw [app1 (by omega) (by omega)];simp only [Bq0];rw [WV (by omega) (by omega)];unfold told Zhl Zd4 ZtK;by_cases ht:(ZO w k).ZV.from_ ≠ ((ZO w k).ZX.toNat:Int)∧(ZO w k).ZV.from_ ≠ e.ZX
     ·rw [if_pos (show false=false∧(ZO w k).ZV.from_ ≠ ((ZO w k).ZX.toNat:Int)∧(ZO w k).ZV.from_ ≠ e.ZX from⟨rfl,ht⟩),Qy,Qy,decide_eq_true ht.1,decide_eq_true ht.2];simp only [Bool.not_false,Bool.and_self,Cq1];rw [app1 (by rw [List.length_append,List.length_singleton];omega) (by omega)];simp only [Bq0,List.append_assoc,hp]
      rfl
     ·have e2:((true && ((ZO w k).ZV.from_ != ((ZO w k).ZX.toNat:Int))) && ((ZO w k).ZV.from_ !=e.ZX))=false:=by
       rw [← Bool.not_eq_true];intro z;simp only [Ba0,bne_iff_ne] at z;exact ht ⟨z.1.2,z.2⟩
      rw [e2,Cq0,if_neg (fun z=>ht z.2),hp]
      rfl
 ·have v:MvL (YN w k) (ZO w k) (ZO w k).ZX.toNat:=by
   have:=h.mvl hx q;exact⟨this.ZX,this.hm,this.len,this.few,this.rng⟩
  rw [if_neg (by omega),if_pos q,Z8,decide_eq_false (by omega),Cq0,Z8,decide_eq_true q,Cq1];exact ZQw hF su v rfl rfl (ZvR hF su smu v (w0:=w) rfl rfl)
 ·have hn:=hl.ntd q;obtain⟨p,hp⟩:∃ p:Nat,(ZO w k).place= (p:Int):= ⟨(ZO w k).place.toNat,by omega⟩
  have hpl:p < w.Zx.length:=by omega
  rw [if_neg (by omega),if_neg (by omega),Z8,decide_eq_false (by omega),Cq0,Z8,decide_eq_false (by omega),Cq0,Z8,decide_eq_true q,Cq1];unfold KT ZcU;rw [hto,Int.toNat_natCast,s.row htl];simp only [Bq0];rw [hp,Int.toNat_natCast,s.ent htl hpl];simp only [Bq0];have eE:E (YN w k) (ZO w k).ZX.toNat p=E w (ZO w k).ZX.toNat p:=rfl;rw [eE];by_cases c:(E w (ZO w k).ZX.toNat p).here=false∧(E w (ZO w k).ZX.toNat p).age < (ZO w k).age
  ·rw [if_pos c,c.1,decide_eq_true c.2];rfl
  ·rw [if_neg c]
   have:((!(E w (ZO w k).ZX.toNat p).here) && decide ((E w (ZO w k).ZX.toNat p).age < (ZO w k).age))=false:=by
    rw [← Bool.not_eq_true];intro z;simp only [Ba0,Bool.not_eq_true',decide_eq_true_eq] at z;exact c z
   rw [this];rfl
def Zf5 (w:Zb) (p:Nat):Zb:= {w with Zx:=Yl w.Zx (p:Int) (-1)}
theorem Ze9 {w:Zb} {p:Nat} (hp:p < w.Zx.length) (q:Nat):inn (Zf5 w p) (q:Int)=if q=p then -1 else inn w (q:Int):=by
 unfold inn Zf5;rw [Int.toNat_natCast];exact Jh hp
theorem KS (w:Zb) (p:Nat):(Zf5 w p).Zx.length=w.Zx.length:=Xn _ _ _
theorem Zh0 {w:Zb} (hi:Inn w) {p:Nat} (hp:p < w.Zx.length) {x:Nat} (hx:x < w.Zx.length):∀ j,(∀ i,i < j ->up w i (x:Int) ≠ (p:Int)) ->up (Zf5 w p) j (x:Int)=up w j (x:Int):=by
 intro j
 induction j with
 | zero=>intro _;rfl
 | succ j ih=>
   intro h;have e:=ih fun i hi=>h i (by omega)
   rw [Qn,Qn,e];by_cases hn:up w j (x:Int) < 0
   ·rw [if_pos hn,if_pos hn]
   ·rw [if_neg hn,if_neg hn];obtain⟨q,eq,hq⟩:=JP (hi.up (q:= (x:Int)) ⟨by omega,by omega⟩ j) hn;rw [eq,Ze9 hp,if_neg (fun z=>h j (by omega) (by rw [eq,z]))]
theorem ZfG {w:Zb} (hi:Inn w) {p:Nat} (hp:p < w.Zx.length):Inn (Zf5 w p):=by
 refine⟨fun x hx=>?_,fun x hx=>?_⟩
 ·rw [KS] at hx;rw [Ze9 hp];unfold okN;rw [KS];by_cases e:x=p
  ·rw [if_pos e];omega
  ·rw [if_neg e];exact hi.rng x hx
 ·rw [KS] at hx ⊢;by_cases hz:∃ i,i < w.Zx.length∧up w i (x:Int)= (p:Int)
  ·obtain⟨i,hil,e⟩:=hz;obtain⟨m,hm,hc,hlt⟩:=Qb (c:=fun i=>up w i (x:Int)= (p:Int)) e;have e1:=Zh0 hi hp hx m hlt
   have e2:up (Zf5 w p) (m + 1) (x:Int)=-1:=by
    rw [Qn,e1,hc,if_neg (by omega),Ze9 hp,if_pos rfl]
   exact J3 (by rw [e2];omega) (show m + 1 <=w.Zx.length by omega)
  ·rw [Zh0 hi hp hx _ fun i h q=>hz ⟨i,h,q⟩];exact hi.acy x hx
theorem Zw5 {w:Zb} (hi:Inn w) {p:Nat} (hp:p < w.Zx.length) {x:Nat} (hx:x < w.Zx.length):Wth (Zf5 w p) p x↔Wth w p x:=by
 constructor
 ·rintro⟨j,e⟩;by_cases hz:∃ i,i < j∧up w i (x:Int)= (p:Int)
  ·obtain⟨i,_,q⟩:=hz;exact⟨i,q⟩
  ·exact⟨j,by rw [← Zh0 hi hp hx j fun i h q=>hz ⟨i,h,q⟩];exact e⟩
 ·rintro⟨j,e⟩;obtain⟨m,hm,hc,hlt⟩:=Qb (c:=fun i=>up w i (x:Int)= (p:Int)) e;exact⟨m,by rw [Zh0 hi hp hx m hlt];exact hc⟩
theorem Zrm {w:Zb} (hi:Inn w) {p:Nat} (hp:p < w.Zx.length):Yf (Zf5 w p) p=Yf w p:=by
 unfold Yf ZaE;rw [KS];congr 1;apply List.filter_congr;intro x hx;have hx':=List.mem_range.1 hx;rw [Bool.eq_iff_iff,ZaC (ZfG hi hp) (by rw [KS];exact hx'),ZaC hi hx',Zw5 hi hp hx']
def goA (w:Zb) (m:Nat) (q:Int):Int:= (E w m q.toNat).age + 1
def goW (w:Zb) (m:Nat) (to:Int) (L:List Int):Nat ->Zb
 | 0=>w
 | k + 1=>setW (goW w m to L k) m (L.getD k 0).toNat ⟨false,to,goA w m (L.getD k 0)⟩
def ZpC (m:Nat) (to:Int) (q:Int):Zv:= ⟨2,q,(m:Int),to,0⟩
def mOf (w:Zb) (p:Nat):Nat:= (sp w p).machine.toNat
def UU (w:Zb) (p:Nat) (to:Int):Zb×List Zv:=
 ({w with Zx:=Yl w.Zx (p:Int) (-1),qQ:= (goW w (mOf w p) to (Yf w p) (Yf w p).length).qQ,qG:=w.qG ++ [ZtU to (Yf w p) ((Yf w p).map (goA w (mOf w p)))]},(Yf w p).map (ZpC (mOf w p) to))
theorem Zea (w:Zb) (m:Nat) (to:Int) (L:List Int):∀ k,(goW w m to L k).Zx=w.Zx∧(goW w m to L k).qK=w.qK∧(goW w m to L k).qJ=w.qJ∧(goW w m to L k).qG=w.qG∧(goW w m to L k).said=w.said∧(goW w m to L k).qQ.length=w.qQ.length:=by
 intro k
 induction k with
 | zero=>exact⟨rfl,rfl,rfl,rfl,rfl,rfl⟩
 | succ k ih=>exact⟨ih.1,ih.2.1,ih.2.2.1,ih.2.2.2.1,ih.2.2.2.2.1,(ZeQ _ _ _ _).trans ih.2.2.2.2.2⟩
structure GoB (w:Zb) (m:Nat) (L:List Int):Prop where
 s:Wi w
 hm:m < w.qQ.length
 rng:∀ q ∈ L,J7 q w.Zx.length
 nd:L.Nodup
 age:∀ q ∈ L,0 <= (E w m q.toNat).age∧(E w m q.toNat).age <=30
section
variable {w:Zb} {m:Nat} {L:List Int} {to:Int}
theorem Zid (g:GoB w m L):∀ k,Wi (goW w m to L k):=by
 intro k
 induction k with
 | zero=>exact g.s
 | succ k ih=>exact ih.setW (by rw [(Zea w m to L k).2.2.2.2.2];exact g.hm) _
theorem Zo3 {α:Type} [DecidableEq α] {l:List α} (nd:l.Nodup) {k:Nat} (h:k < l.length):l[k] ∉ l.take k:= (Zd5.1 nd) k h
theorem QD {α:Type} {l:List α} {k:Nat} (h:k < l.length) {x:α}:x ∈ l.take (k + 1)↔x ∈ l.take k∨x=l[k]:=by
 rw [List.take_succ_eq_append_getElem h,List.mem_append,List.mem_singleton]
theorem YX {α:Type} {l:List α} {k:Nat} {d:α} (h:k < l.length):l.getD k d=l[k]:=by
 rw [List.getD_eq_getElem?_getD,List.getElem?_eq_getElem h];rfl
theorem ZGD (g:GoB w m L):∀ k,k <=L.length ->∀ m' q':Nat,E (goW w m to L k) m' q'=if m'=m∧(q':Int) ∈ L.take k then⟨false,to,goA w m (q':Int)⟩ else E w m' q':=by
 intro k
 induction k with
 | zero=>intro _ m' q';rw [if_neg (by simp)];rfl
 | succ k ih=>
   intro hk m' q';have hq:=g.rng _ (List.getElem_mem (l:=L) (n:=k) (by omega));obtain⟨q,eq,hql⟩:=hq.nat;show E (setW (goW w m to L k) m (L.getD k 0).toNat _) m' q'=_;rw [YX (by omega),eq,Int.toNat_natCast,ZoD (Zid g k) (by rw [(Zea w m to L k).2.2.2.2.2];exact g.hm) (by rw [(Zea w m to L k).1];exact hql),ih (by omega)];by_cases e:m'=m∧q'=q
   ·rw [if_pos e,if_pos ⟨e.1,(QD (by omega)).2 (.inr (by rw [eq,e.2]))⟩,e.2]
   ·rw [if_neg e];by_cases c:m'=m∧(q':Int) ∈ L.take k
    ·rw [if_pos c,if_pos ⟨c.1,(QD (by omega)).2 (.inl c.2)⟩]
    ·rw [if_neg c,if_neg];rintro⟨c1,c2⟩;rcases(QD (by omega)).1 c2 with z | z
     ·exact c ⟨c1,z⟩
     ·rw [eq] at z;exact e ⟨c1,by omega⟩
theorem ZAE (g:GoB w m L) {k:Nat} (hk:k < L.length):E (goW w m to L k) m (L.getD k 0).toNat=E w m (L.getD k 0).toNat:=by
 obtain⟨q,eq,hql⟩:= (g.rng _ (List.getElem_mem (l:=L) (n:=k) hk)).nat;rw [ZGD g k (by omega),if_neg];rintro⟨_,z⟩;rw [YX hk,eq,Int.toNat_natCast,← eq] at z;exact Zo3 g.nd hk z
theorem Wl {α β:Type} {l:List α} {f:α ->β} {k:Nat} (h:k < l.length) (d:α):(l.take (k + 1)).map f= (l.take k).map f ++ [f (l.getD k d)]:=by
 rw [List.take_succ_eq_append_getElem h,List.map_append,YX h];rfl
theorem Zp6 (k:Nat):(goW w m to L (k + 1)).qQ=Yl (goW w m to L k).qQ (m:Int) (Yl (row (goW w m to L k) m) ((L.getD k 0).toNat:Int) ⟨false,to,goA w m (L.getD k 0)⟩):=rfl
theorem ZD4 {F:Nat} (hF:1000 <=F) (g:GoB w m L) (hL:L.length <=8) (hw:w.qG.length < 900) {ev:List Zv} (he:ev.length <=700000) {w0:Zb} (hw0:w0.qG=w.qG) {p1:Int} {x1:Yy×Int} (hx:x1.1.machine= (m:Int)):
 loop F (Zjw ⟨w0,ev⟩ p1 to x1 L) (0,ev,[],w.qQ)=some ⟨⟨Yl w0.Zx p1 (-1),w0.qK,(goW w m to L L.length).qQ,w0.qJ,w.qG ++ [ZtU to L (L.map (goA w m))],w0.said⟩,ev ++ L.map (ZpC m to)⟩:=by
 refine Yh (fun k=>((k:Int),ev ++ (L.take k).map (ZpC m to),(L.take k).map (goA w m),(goW w m to L k).qQ)) (by simp [goW]) (n:=L.length) (by omega) (fun k hk next=>?_) (fun next=>?_)
 ·obtain⟨q,eq,hql⟩:= (g.rng _ (List.getElem_mem (l:=L) (n:=k) hk)).nat;have ha:=g.age _ (List.getElem_mem (l:=L) (n:=k) hk);have hi:=Zea w m to L k;have hs:=Zid (to:=to) g k;have hm:m < (goW w m to L k).qQ.length:=by rw [hi.2.2.2.2.2];exact g.hm
  have eA:Y2 ((E w m q).age + 1)=goA w m (q:Int):=by
   rw [eq,Int.toNat_natCast] at ha;unfold goA;rw [Int.toNat_natCast,WV (by omega) (by omega)]
  have eE:=ZAE (to:=to) g hk;rw [YX hk,eq,Int.toNat_natCast] at eE;unfold Zjw;dsimp only;rw [ZJ hk,Cq1,YM 0 hk,YX hk,eq,hx];simp only [Bq0];rw [hs.row hm];simp only [Bq0];rw [hs.ent hm (by rw [hi.1];exact hql),eE];simp only [Bq0];rw [app1 (by rw [List.length_map,List.length_take];omega) (by omega)];simp only [Bq0];rw [app1 (by rw [List.length_append,List.length_map,List.length_take];omega) (by omega)];simp only [Bq0];rw [YB (by omega),eA,Wl hk 0,Wl hk 0,YX hk,eq,Zp6,YX hk,eq,Int.toNat_natCast,List.append_assoc]
  rfl
 ·unfold Zjw;dsimp only;rw [ZR,Cq0,hw0,app1 (by omega) (by omega),List.take_of_length_le (Nat.le_refl _)]
  rfl
theorem ZJP {F:Nat} (hF:1000 <=F) (g:GoB w m L) (hL:L.length <=8) (hw:w.qG.length < 900) {w0:Zb} (hw0:w0.qG=w.qG) {st:ZH} (hst:st.b=to) {p:Nat} (hp:st.a= (p:Int)) (hpl:p < w0.Zx.length) {x1:XO×Bool} (hx:x1.1.at_= (m:Int)):
 loop F (ZgA st w0 x1 L) ([],0,[],[],w.qQ)=some (⟨Yl w0.Zx st.a (-1),w0.qK,(goW w m to L L.length).qQ,w0.qJ,w.qG ++ [ZtU to L (L.map (goA w m))],w0.said⟩,L.map (ZpC m to),0):=by
 refine Yh (fun k=>((L.take k).map (ZpC m to),(k:Int),L.take k,(L.take k).map (goA w m),(goW w m to L k).qQ)) (by simp [goW]) (n:=L.length) (by omega) (fun k hk next=>?_) (fun next=>?_)
 ·obtain⟨q,eq,hql⟩:= (g.rng _ (List.getElem_mem (l:=L) (n:=k) hk)).nat;have ha:=g.age _ (List.getElem_mem (l:=L) (n:=k) hk);have hi:=Zea w m to L k;have hs:=Zid (to:=to) g k;have hm:m < (goW w m to L k).qQ.length:=by rw [hi.2.2.2.2.2];exact g.hm
  have eA:Y2 ((E w m q).age + 1)=goA w m (q:Int):=by
   rw [eq,Int.toNat_natCast] at ha;unfold goA;rw [Int.toNat_natCast,WV (by omega) (by omega)]
  have eE:=ZAE (to:=to) g hk;rw [YX hk,eq,Int.toNat_natCast] at eE;unfold ZgA;dsimp only;rw [ZJ hk,Cq1,YM 0 hk,YX hk,eq,hx,hst];simp only [Bq0];rw [hs.row hm];simp only [Bq0];rw [hs.ent hm (by rw [hi.1];exact hql),eE];simp only [Bq0];rw [← eq,app1 (by rw [List.length_take];omega) (by omega),← List.take_succ_eq_append_getElem hk];simp only [Bq0];rw [app1 (by rw [List.length_map,List.length_take];omega) (by omega)];simp only [Bq0];rw [app1 (by rw [List.length_map,List.length_take];omega) (by omega)];simp only [Bq0];rw [YB (by omega),eA,Wl hk 0,Wl hk 0,YX hk,eq,Zp6,YX hk,eq,Int.toNat_natCast]
  rfl
 ·unfold ZgA K3;dsimp only;rw [ZR,Cq0,hw0,hp,Xe hpl];simp only [Bq0];rw [app1 (by omega) (by omega),List.take_of_length_le (Nat.le_refl _),hst]
  rfl
end
end Go.Proofs.YtbmbbcaaimehkaaGreat
end
section
namespace Go.Proofs.YtbmbbcaaimehkaaGreat
open Go.Lf
def Zaf (w:Zb) (p:Int) (q:Int):Zb:= {w with Zx:=Yl w.Zx p q}
def ZrE (w:Zb) (s:ZH):Zr:= ⟨w.said,s.b,s.a,0,0⟩
def ZeR (w:Zb):Zb:= {w with said:=w.said + 1}
def doW (w:Zb) (s:ZH):Zb×List Zv:=
 if s.act=1 then QB (ZeR w) s.a.toNat (ZrE w s) true
 else if s.act=2 then UU w s.a.toNat s.b
 else if s.act=3 then(Zaf w s.a s.b,[])
 else if s.act=4 then(Zaf w s.a (-1),[])
 else Us w s.a.toNat
section
variable {F:Nat} {w:Zb}
theorem Wn (h:Wd w) {p:Nat} (hp:p < w.Zx.length) (hh:(sp w p).here=true):(sp w p).machine= (mOf w p:Int)∧mOf w p < w.qQ.length∧(E w (mOf w p) p).here=true∧(E w (mOf w p) p).age= (sp w p).age:=by
 rcases Zb9 (h.loc p hp) with⟨m,hm,he,e⟩ | ⟨x,hx,hk,i,hi,hpi,e⟩
 ·unfold mOf;rw [e];exact⟨by simp,by simpa using hm,by simpa using he,by simp⟩
 ·rw [e] at hh;cases hh
theorem Zb5 (w:Zb) (p:Nat):∀ q ∈ Yf w p,J7 q w.Zx.length:=by
 intro q hq;unfold Yf ZaE at hq;obtain⟨k,hk,rfl⟩:=List.mem_map.1 hq;have:=List.mem_range.1 (List.mem_filter.1 hk).1;exact⟨Int.natCast_nonneg k,by show(k:Int) < _;omega⟩
theorem Zp7 (h:Wd w) {p:Nat} (hp:p < w.Zx.length) (hh:(sp w p).here=true):GoB w (mOf w p) (Yf w p):=by
 have a:=Wn h hp hh;refine⟨h.shr.Ko,a.2.1,Zb5 w p,Wx w p,fun q hq=>?_⟩;obtain⟨k,rfl,hk⟩:= (Zb5 w p q hq).nat;have:=h.shr.ent _ a.2.1 k hk;rw [Int.toNat_natCast];exact⟨this.1,this.2.1⟩
theorem Zvp (hF:1000 <=F) (hM:F <=1000000) (h:Wd w) (sm:UQ 900 w) {p:Nat} (hp:p < w.Zx.length) (hh:(sp w p).here=true) (to:Int) {ev:List Zv} (he:ev.length <=700000):
 ZA0 F ⟨w,ev⟩ (p:Int) to=some ⟨(UU w p to).1,ev ++ (UU w p to).2⟩:=by
 have a:=Wn h hp hh;have g:=Zp7 h hp hh;have h8:=h.shr.Ko.p2;have hi:=ZfG h.shr.inn hp;have hp':p < (Zf5 w p).Zx.length:=by rw [KS];exact hp
 have hd:=Zki hi hp';have hl:=KS w p
 have e1:loop F (Zjv F ⟨w,ev⟩ (p:Int)) ((p:Int),[])=some (true,desc (Zf5 w p) (Zf5 w p).Zx.length p):=by
  exact gather hF (w:=Zf5 w p) (by rw [hl];exact h8) (B:=fun v next=>ZsA ⟨w,ev⟩ (p:Int) v next) (R:=Zjv F ⟨w,ev⟩ (p:Int)) (fun v l next=>rfl) (fun v next k l nx=>rfl) (Zf5 w p).Zx.length p [] F (by omega) hp' (ZfE.all hi) (by simp;omega)
 unfold ZA0;dsimp only;rw [ZaF hF hM h sm hp];simp only [Bq0];rw [Xe hp];simp only [Bq0];rw [e1];simp only [Bq0];unfold Znv;rw [Zo5 (by omega),Zwm hi hp',Zrm h.shr.inn hp];simp only [Bq0];have hw:=sm.qG;have hlen:(Yf w p).length <=8:=Nat.le_trans (U3 _ _ _) h8;exact ZD4 hF g hlen (by omega) he rfl (x1:= (sp w p,1)) a.1
theorem Zxi (hF:1000 <=F) (h:Wd w) (sm:UQ 900 w) {s:ZH} {p:Nat} (ep:s.a= (p:Int)) (hp:p < w.Zx.length) (hh:(sp w p).here=true):
 ((Zgu F w s.a).bind fun x160=>(Zqi F w.Zx s.a).bind fun Zis=>loop F (ZgA s w x160 Zis) ([],0,[],[],w.qQ))=some ((UU w p s.b).1,(UU w p s.b).2,0):=by
 have a:=Wn h hp hh;have g:=Zp7 h hp hh;have h8:=h.shr.Ko.p2;have hw:=sm.qG;have hlen:(Yf w p).length <=8:=Nat.le_trans (U3 _ _ _) h8;rw [ep,Zds hF h sm hp];simp only [Bq0];rw [ZdW hF h.shr.inn h8 hp];simp only [Bq0];have:=ZJP hF g hlen (by omega) (w0:=w) rfl (st:=s) (to:=s.b) rfl ep hp (x1:= (U4 w p,true)) (by show(U4 w p).at_=_;rw [ZEW h];exact a.1);rw [this,ep]
 rfl
theorem Ze4 {s:ZH} (h1:s.act=1) (hl:lim w s=false):w.said < 40:=by
 unfold lim at hl;rw [if_pos h1] at hl;have:=of_decide_eq_false hl;omega
theorem ZKG {s:ZH}:ZdF w s=0↔lim w s=false∧Alw w s:=by
 unfold ZdF;cases lim w s with
 | true=>simp
 | false=>by_cases a:Alw w s <;> simp [a]
theorem ZvA (s:Wi w):Wi (ZeR w):= ⟨s.m1,s.m2,s.p1,s.p2,s.bx,s.hd,s.rw_⟩
theorem ZxE {n:Nat} (sm:UQ n w):UQ n (ZeR w):= ⟨sm.Zx,sm.qK,sm.qQ,sm.qJ,sm.qG,sm.box,sm.row,sm.hel,sm.Xm⟩
theorem Zwl (hF:1000 <=F) (hM:F <=1000000) (h:Wd w) (sm:UQ 900 w) {s:ZH} (ha:Ask w s) (hl:lim w s=false) (hA:Alw w s) {ev:List Zv} (he:ev.length <=600000):
 ZBh F ⟨w,ev⟩ s=some ⟨(doW w s).1,ev ++ (doW w s).2⟩:=by
 have e:∀ k:Int,(s.act==k)=decide (s.act=k):=fun k=>Z8 _ _
 have hs1:=h.shr.sd1;unfold ZBh doW;rcases ha with⟨c,a,b⟩ | ⟨c,a,b⟩ | ⟨c,a,b⟩ | ⟨c,a⟩ | ⟨c,a⟩
 ·have hs:=Ze4 c hl;obtain⟨m,em,hm⟩:=a.nat;rw [e,decide_eq_true c,Cq1,if_pos c,em,Int.toNat_natCast];dsimp only;rw [WV (by omega) (by omega)];have:=ZiF (ZvA h.shr.Ko) (ZxE sm) (m:=m) hm (x:=ZrE w s) (by have:=b.1;have:=b.2;show s.b.toNat < w.Zx.length;omega) b.1 (by show(0:Int) <=0;omega) (by show(0:Int) <=1000;omega) true (ev:=ev) (by omega);unfold ZrE at this ⊢;rw [em] at this ⊢
  change (Zqg ⟨ZeR w,ev⟩ (m:Int) _ true).bind _=_
  rw [this];rfl
 ·obtain⟨p,ep,hp⟩:=a.nat;rw [e,decide_eq_false (by omega),Cq0,e,decide_eq_true c,Cq1,if_neg (by omega),if_pos c,ep,Int.toNat_natCast];have hh:= (hA.1 c).1;rw [ep,Int.toNat_natCast] at hh;rw [Zvp hF hM h sm hp hh s.b (by omega)];rfl
 ·obtain⟨p,ep,hp⟩:=a.nat;rw [e,decide_eq_false (by omega),Cq0,e,decide_eq_false (by omega),Cq0,e,decide_eq_true c,Cq1,if_neg (by omega),if_neg (by omega),if_pos c,ep];dsimp only;rw [Xe hp];simp only [Bq0,List.append_nil]
  rfl
 ·obtain⟨p,ep,hp⟩:=a.nat;rw [e,decide_eq_false (by omega),Cq0,e,decide_eq_false (by omega),Cq0,e,decide_eq_false (by omega),Cq0,e,decide_eq_true c,Cq1,if_neg (by omega),if_neg (by omega),if_neg (by omega),if_pos c,ep];dsimp only;rw [Xe hp];simp only [Bq0,List.append_nil]
  rfl
 ·obtain⟨k,ek,hk⟩:=a.nat;rw [e,decide_eq_false (by omega),Cq0,e,decide_eq_false (by omega),Cq0,e,decide_eq_false (by omega),Cq0,e,decide_eq_false (by omega),Cq0,e,decide_eq_true c,Cq1,if_neg (by omega),if_neg (by omega),if_neg (by omega),if_neg (by omega),ek,Int.toNat_natCast];rw [ZvP hF h sm hk he];rfl
theorem ZKP (hF:1000 <=F) (h:Wd w) (sm:UQ 900 w) {s:ZH} (ha:Ask w s):
 ZBk F w s=some (if ZdF w s=0 then((doW w s).1,(doW w s).2,0) else(ZgL,[],ZdF w s)):=by
 have e:∀ k:Int,(s.act==k)=decide (s.act=k):=fun k=>Z8 _ _
 have hs1:=h.shr.sd1;unfold ZBk;rw [ZvH hF h sm ha];simp only [Bq0];cases hl:lim w s with
 | true=>
   have:ZdF w s=3:=by unfold ZdF;rw [if_pos hl]
   rw [Cq1,this,if_neg (by omega)]
 | false=>
 rw [Cq0,ZqT hF h sm ha];simp only [Bq0];rcases Classical.em (¬ Alw w s) with hA | hA'
 ·have:ZdF w s=7:=by unfold ZdF;rw [hl,if_neg (by simp),if_neg hA]
  rw [decide_eq_false hA,Bool.not_false,Cq1,this,if_neg (by omega)]
 have hA:=Classical.not_not.1 hA';have h0:ZdF w s=0:=ZKG.2 ⟨hl,hA⟩;rw [decide_eq_true hA,Bool.not_true,Cq0,ZBt hF sm,if_pos h0];simp only [Bq0];have sp_:=h.shr.Ko;unfold doW;rcases ha with⟨c,a,b⟩ | ⟨c,a,b⟩ | ⟨c,a,b⟩ | ⟨c,a⟩ | ⟨c,a⟩
 ·have hs:=Ze4 c hl;obtain⟨m,em,hm⟩:=a.nat;obtain⟨p,ep,hp⟩:=b.nat;have hb:=Zii sp_ sm hp;have hw:=sm.qG;rw [e,decide_eq_true c,Cq1,if_pos c,em,ep,Int.toNat_natCast,sp_.row hm];simp only [Bq0];rw [sp_.ent hm hp];simp only [Bq0];unfold QB ZrE;rw [ep,em];dsimp only;rw [Int.toNat_natCast];have eE:E (ZeR w) m p=E w m p:=rfl;rw [eE];cases hh:(E w m p).here with
  | true=>
    rw [Cq1,if_pos rfl,Zkp sp_ hp];simp only [Bq0];rw [app1 (by omega) (by omega)];simp only [Bq0];unfold Zek K3;dsimp only;rw [WV (by omega) (by omega)]
    rfl
  | false=>
    rw [Cq0,if_neg (by simp),if_neg (by simp)];simp only [Bool.not_true,Bool.false_and,Cq0];rw [app1 (by omega) (by omega)];simp only [Bq0];unfold Zj4 Zek K3 told;dsimp only;rw [if_neg (by simp),WV (by omega) (by omega),WV (by omega) (by omega)]
    rfl
 ·obtain⟨p,ep,hp⟩:=a.nat;have hh:= (hA.1 c).1;rw [ep,Int.toNat_natCast] at hh;rw [e,decide_eq_false (by omega),Cq0,e,decide_eq_true c,Cq1,if_neg (by omega),if_pos c,Zxi hF h sm ep hp hh,ep,Int.toNat_natCast]
 ·obtain⟨p,ep,hp⟩:=a.nat;rw [e,decide_eq_false (by omega),Cq0,e,decide_eq_false (by omega),Cq0,e,decide_eq_true c,Cq1,if_neg (by omega),if_neg (by omega),if_pos c,ep,Xe hp]
  rfl
 ·obtain⟨p,ep,hp⟩:=a.nat;rw [e,decide_eq_false (by omega),Cq0,e,decide_eq_false (by omega),Cq0,e,decide_eq_false (by omega),Cq0,e,decide_eq_true c,Cq1,if_neg (by omega),if_neg (by omega),if_neg (by omega),if_pos c,ep,Xe hp]
  rfl
 ·obtain⟨k,ek,hk⟩:=a.nat;rw [e,decide_eq_false (by omega),Cq0,e,decide_eq_false (by omega),Cq0,e,decide_eq_false (by omega),Cq0,e,decide_eq_false (by omega),Cq0,e,decide_eq_true c,Cq1,if_neg (by omega),if_neg (by omega),if_neg (by omega),if_neg (by omega),ek,ZyG hF h sm hk,Int.toNat_natCast]
  rfl
end
end Go.Proofs.YtbmbbcaaimehkaaGreat
end
section
namespace Go.Proofs.YtbmbbcaaimehkaaGreat
open Go.Lf
theorem ZcK {w w':Zb} {p:Nat}:∀ {k:Nat},(∀ m,m < k ->E w' m p=E w m p) ->Xr w' p k=Xr w p k:=by
 intro k
 induction k with
 | zero=>intro _;rfl
 | succ k ih=>intro h;rw [JJ,JJ,ih fun m hm=>h m (by omega),h k (by omega)]
theorem ZlT {w:Zb} {p:Nat}:∀ {k:Nat},(∀ m,m < k ->(E w m p).here=false) ->Xr w p k= []:=by
 intro k
 induction k with
 | zero=>intro _;rfl
 | succ k ih=>intro h;rw [JJ,ih fun m hm=>h m (by omega),h k (by omega)];simp
theorem ZvW {w:Zb} {p m:Nat} (hh:(E w m p).here=true):∀ {k:Nat},m < k ->(∀ m',m' < k ->m' ≠ m ->(E w m' p).here=false) ->Xr w p k= [⟨(m:Int),true,(E w m p).age⟩]:=by
 intro k
 induction k with
 | zero=>intro h;omega
 | succ k ih=>
   intro hm ho;rw [JJ];by_cases e:m=k
   ·subst e;rw [ZlT fun m' hm'=>ho m' (by omega) (by omega),if_pos hh];rfl
   ·rw [ih (by omega) fun m' hm'=>ho m' (by omega),ho k (by omega) (fun z=>e z.symm)];simp
theorem ZpW {w:Zb} {p k:Nat} (h:Xr w p k= []):∀ m,m < k ->(E w m p).here=false:=by
 intro m hm;cases e:(E w m p).here with
 | false=>rfl
 | true=>
   have:Yy.mk (m:Int) true (E w m p).age ∈ Xr w p k:=Zdp.2 ⟨m,hm,e,rfl⟩;rw [h] at this;cases this
theorem Zb6 (a b:List Zg) (p:Nat):Qh (a ++ b) p=Qh a p ++ Qh b p:=by unfold Qh;exact List.flatMap_append
theorem ZoS (x:Zg) (p:Nat):Qh [x] p=WU x p:=by unfold Qh;simp
theorem Zmk {x:Zg} (h:x.kind ≠ 2) (p:Nat):WU x p= []:=by unfold WU;rw [if_neg h]
theorem ZCC {l:List Zg} (h:∀ x ∈ l,x.kind ≠ 2) (p:Nat):Qh l p= []:=by
 unfold Qh;exact List.flatMap_eq_nil_iff.2 fun x hx=>Zmk (h x hx) p
theorem Zba {w:Zb} {k:Nat} (hk:k < w.qG.length):w.qG=w.qG.take k ++ ZO w k::w.qG.drop (k + 1):=by
 have e:ZO w k=w.qG[k]:=YX hk;rw [e,List.getElem_cons_drop,List.take_append_drop]
theorem KH {w:Zb} {k:Nat} (hk:k < w.qG.length) (p:Nat):Qh w.qG p=Qh (w.qG.take k) p ++ WU (ZO w k) p ++ Qh (w.qG.drop (k + 1)) p:=by
 have:=congrArg (fun l=>Qh l p) (Zba hk);rw [this,Zb6,show ZO w k::w.qG.drop (k + 1)= [ZO w k] ++ w.qG.drop (k + 1) from rfl,Zb6,ZoS,List.append_assoc]
theorem ZfR {w:Zb} {k:Nat} (p:Nat):Qh (YN w k).qG p=Qh (w.qG.take k) p ++ Qh (w.qG.drop (k + 1)) p:=Zb6 _ _ _
theorem Ztu {w:Zb} {p:Nat} {s:Yy} (h:Y7 w p= [s]):sp w p=s:=by unfold sp Kg;rw [h];rfl
theorem Zi5 {w w':Zb} {p:Nat} (e1:Xr w' p w'.qQ.length=Xr w p w.qQ.length) (e2:Qh w'.qG p=Qh w.qG p):Y7 w' p=Y7 w p:=by unfold Y7;rw [e1,e2]
theorem Zb8 {w w':Zb} {p:Nat} (h:Y7 w' p=Y7 w p):sp w' p=sp w p:=by unfold sp;rw [h]
structure Wm (w:Zb):Prop where
 shr:ShR w
 loc:∀ p,p < w.Zx.length ->(Y7 w p).length=1
 tog:∀ p,p < w.Zx.length ->0 <=inn w p ->(sp w (inn w p).toNat).machine= (sp w p).machine∧(sp w (inn w p).toNat).here= (sp w p).here∧((sp w p).here=false ->ZkI w p (inn w p))
 ent:∀ m,m < w.qQ.length ->∀ p,p < w.Zx.length ->(E w m p).here=false ->RtX w p (E w m p).ZX (E w m p).age
 hel:∀ m,m < w.qQ.length ->∀ x ∈ ZG w m,Jg w m x∧sp w x.place.toNat= ⟨(m:Int),false,x.age⟩
 mai:∀ x ∈ w.qG,x.kind=1 ->Jg w x.ZX x.ZV
 ntd:∀ x ∈ w.qG,x.kind=3 ->RtX w x.place.toNat x.at_ x.age
theorem Wd.wm {w:Zb} (h:Wd w):Wm w:= ⟨h.shr,h.loc,h.tog,h.ent,h.hel,h.mai,h.ntd⟩
theorem Wm.wd {w:Zb} (h:Wm w) (hm:(msgs w).Perm (XC w.said.toNat)):Wd w:= ⟨h.shr,h.loc,h.tog,h.ent,h.hel,h.mai,h.ntd,hm⟩
structure Mv (w w':Zb):Prop where
 inl:w'.Zx.length=w.Zx.length
 enl:w'.qQ.length=w.qQ.length
 rt:∀ p,p < w.Zx.length ->∀ m a,RtX w p m a ->RtX w' p m a
theorem Mv.of {w w':Zb} (inl:w'.Zx.length=w.Zx.length) (enl:w'.qQ.length=w.qQ.length) (hE:∀ m p,p < w.Zx.length ->(E w m p).age <= (E w' m p).age)
 (hs:∀ p,p < w.Zx.length ->((sp w' p).machine= (sp w p).machine∧(sp w' p).age= (sp w p).age)∨∃ m:Nat,(sp w p).machine= (m:Int)∧(sp w p).age < (sp w' p).age∧(sp w p).age < (E w' m p).age):Mv w w':=by
 refine⟨inl,enl,fun p hp m a h=>?_⟩;obtain⟨h1,h2,h3,h4,h5,h6⟩:=h;have hE':=hE m.toNat p hp;rcases hs p hp with⟨e1,e2⟩ | ⟨k,e1,e2,e3⟩
 ·refine⟨h1,by omega,h3,by omega,fun q=>?_,fun q=>?_⟩
  ·rw [e1];exact h5 (by omega)
  ·have:=h6 (by omega);omega
 ·refine⟨h1,by omega,h3,by omega,fun q=>by omega,fun q=>?_⟩;by_cases c:a= (sp w p).age
  ·have:=h5 c;have:m.toNat=k:=by omega
   rw [this];omega
  ·have:=h6 c;omega
theorem Mv.ZV {w w':Zb} (v:Mv w w') {m:Int} {y:Zr} (h:Jg w m y):Jg w' m y:=by
 obtain⟨h1,h2,h3,h4,h5,h6⟩:=h;exact⟨h1,by rw [v.inl];exact h2,h3,by rw [v.enl];exact h4,v.rt _ (by omega) _ _ h5,h6⟩
theorem Mv.Xm {w w':Zb} (v:Mv w w') {x:Zg} (h:ZkJ w x):ZkJ w' x:=
 ⟨h.to1,by rw [v.enl];exact h.to2,h.Xi,fun i hi=>by have:=h.Ui i hi;unfold Zab at this ⊢;rw [v.inl];exact this,fun q=>by have:=h.ntd q;rw [v.inl];exact this⟩
theorem Mv.same {w w':Zb} (inl:w'.Zx.length=w.Zx.length) (enl:w'.qQ=w.qQ) (hs:∀ p,p < w.Zx.length ->Y7 w' p=Y7 w p):Mv w w':=
 Mv.of inl (by rw [enl]) (fun m p _=>by unfold E row;rw [enl];exact Int.le_refl _) fun p hp=>.inl (by rw [Zb8 (hs p hp)];exact⟨rfl,rfl⟩)
def owB (w:Zb):List (Int×Int):= (List.range w.qK.length).flatMap fun p=>(X6 w p).map fun n=>(n,(p:Int))
def owH (w:Zb):List (Int×Int):= (List.range w.qJ.length).flatMap fun m=>(ZG w m).map fun y=>(y.msg,y.place)
def owL (l:List Zg):List (Int×Int):= (l.filter fun x=>x.kind==1).map fun x=>(x.ZV.msg,x.ZV.place)
def owes (w:Zb):List (Int×Int):=owB w ++ owH w ++ owL w.qG
theorem Zpr (w:Zb):(owes w).map Prod.fst=msgs w:=by
 unfold owes msgs;rw [List.map_append,List.map_append];congr 1
 ·congr 1
  ·unfold owB;rw [List.map_flatMap];have:=Zd3 w.qK [] (fun l=>l);rw [List.flatMap_id'] at this;rw [← this];congr 1;funext p;rw [List.map_map];show(X6 w p).map (fun n=>n)=_;rw [List.map_id'];rfl
  ·unfold owH QW;rw [List.map_flatMap,← Zd3 w.qJ [] (fun x=>x.map fun y=>y.msg)];congr 1;funext p;rw [List.map_map];rfl
 ·unfold owL Jk;rw [List.map_map];rfl
theorem Zqc {α:Type} [BEq α] {f g:Nat ->List α} {p:Nat} (h:∀ k,k ≠ p ->f k=g k) (a:α):∀ {n:Nat},p < n ->((List.range n).flatMap f).count a + (g p).count a= ((List.range n).flatMap g).count a + (f p).count a:=by
 intro n
 induction n with
 | zero=>intro h;omega
 | succ n ih=>
   intro hp;rw [List.range_succ,List.flatMap_append,List.flatMap_append,List.count_append,List.count_append];simp only [List.flatMap_cons,List.flatMap_nil,List.append_nil];by_cases e:p=n
   ·subst e
    have:(List.range p).flatMap f= (List.range p).flatMap g:=by
     unfold List.flatMap;congr 1;exact List.map_congr_left fun k hk=>h k (by have:=List.mem_range.1 hk;omega)
    rw [this];omega
   ·have:=ih (by omega);rw [h n (fun z=>e z.symm)];omega
theorem Zdh (a b:List Zg):owL (a ++ b)=owL a ++ owL b:=by unfold owL;rw [List.filter_append,List.map_append]
theorem ZvD {w:Zb} {k:Nat} (hk:k < w.qG.length):owL w.qG=owL (w.qG.take k) ++ owL [ZO w k] ++ owL (w.qG.drop (k + 1)):=by
 have:=congrArg owL (Zba hk);rw [this,Zdh,show ZO w k::w.qG.drop (k + 1)= [ZO w k] ++ w.qG.drop (k + 1) from rfl,Zdh,List.append_assoc]
theorem Zps {x:Zg} (h:x.kind=1):owL [x]= [(x.ZV.msg,x.ZV.place)]:=by unfold owL;simp [h]
theorem ZeY {x:Zg} (h:x.kind ≠ 1):owL [x]= []:=by unfold owL;simp [h]
theorem ZtI (w w':Zb) {p:Nat} (hp:p < w.qK.length) {l:List Int} (h:w'.qK=Yl w.qK (p:Int) (X6 w p ++ l)) (a:Int×Int):(owB w').count a= (owB w).count a + (l.map fun n=>(n,(p:Int))).count a:=by
 have hb:∀ k,X6 w' k=if k=p then X6 w p ++ l else X6 w k:=fun k=>by unfold X6;rw [h];exact Jh hp
 have:=Zqc (f:=fun k=>(X6 w' k).map fun n=>(n,(k:Int))) (g:=fun k=>(X6 w k).map fun n=>(n,(k:Int))) (p:=p) (fun k hk=>by rw [hb,if_neg hk]) a (n:=w.qK.length) hp;rw [hb,if_pos rfl,List.map_append,List.count_append] at this;have e:w'.qK.length=w.qK.length:=by rw [h,Xn]
 unfold owB;rw [e];omega
theorem ZtH (w w':Zb) {m:Nat} (hm:m < w.qJ.length) {l:List Zr} (h:w'.qJ=Yl w.qJ (m:Int) l) (a:Int×Int):(owH w').count a + ((ZG w m).map fun y=>(y.msg,y.place)).count a= (owH w).count a + (l.map fun y=>(y.msg,y.place)).count a:=by
 have hb:∀ k,ZG w' k=if k=m then l else ZG w k:=fun k=>by unfold ZG;rw [h];exact Jh hm
 have:=Zqc (f:=fun k=>(ZG w' k).map fun y=>(y.msg,y.place)) (g:=fun k=>(ZG w k).map fun y=>(y.msg,y.place)) (p:=m) (fun k hk=>by rw [hb,if_neg hk]) a (n:=w.qJ.length) hm;rw [hb,if_pos rfl] at this;have e:w'.qJ.length=w.qJ.length:=by rw [h,Xn]
 unfold owH;rw [e];omega
theorem ZmQ {w w':Zb} (e:w'.Zx=w.Zx) (q:Int):inn w' q=inn w q:=by unfold inn;rw [e]
theorem ZLX {w w':Zb} (e:w'.Zx=w.Zx) (q:Int):∀ k,up w' k q=up w k q:=by
 intro k
 induction k with
 | zero=>rfl
 | succ k ih=>rw [Qn,Qn,ih,ZmQ e]
theorem Inn.eq {w w':Zb} (h:Inn w) (e:w'.Zx=w.Zx):Inn w':=
 ⟨fun p hp=>by have:=h.rng p (by rw [← e];exact hp);unfold okN at this ⊢;rw [ZmQ e,e];exact this,fun p hp=>by rw [ZLX e,e];exact h.acy p (by rw [← e];exact hp)⟩
theorem Zu4 {w w':Zb} (e:w'.qQ=w.qQ) (m p:Nat):E w' m p=E w m p:=by unfold E row;rw [e]
theorem Zew.eq {w w':Zb} (e:w'.qQ=w.qQ) {m p:Nat} (h:Zew w m p):Zew w' m p:=by
 unfold Zew at h ⊢;rw [Zu4 e,e];exact h
theorem Wm.upd {w w':Zb} (h:Wm w) (ZhP:w'.Zx=w.Zx) (ZhQ:w'.qQ=w.qQ) (hbx:w'.qK.length=w.qK.length) (hhd:w'.qJ.length=w.qJ.length) (hs1:0 <=w'.said) (hs2:w'.said <=40)
 (ZTt:∀ p,Qh w'.qG p=Qh w.qG p) (hk2:∀ x ∈ w.qG,x.kind=2 ->x ∈ w'.qG)
 (hlet:∀ x ∈ w'.qG,x ∈ w.qG∨(ZkJ w x∧(x.kind=1 ->Jg w x.ZX x.ZV)∧(x.kind=3 ->RtX w x.place.toNat x.at_ x.age)))
 (ZTM:∀ m,m < w.qQ.length ->∀ y ∈ ZG w' m,y ∈ ZG w m∨(Jg w m y∧sp w y.place.toNat= ⟨(m:Int),false,y.age⟩)):Wm w':=by
 have hloc:∀ p,Y7 w' p=Y7 w p:=fun p=>Zi5 (by rw [ZhQ];exact ZcK fun m _=>Zu4 ZhQ m p) (ZTt p)
 have v:Mv w w':=Mv.same (by rw [ZhP]) ZhQ fun p _=>hloc p
 have hsp:∀ p,sp w' p=sp w p:=fun p=>Zb8 (hloc p)
 have S:=h.shr.Ko;refine⟨⟨⟨by rw [ZhQ];exact S.m1,by rw [ZhQ];exact S.m2,by rw [ZhP];exact S.p1,by rw [ZhP];exact S.p2,by rw [hbx,ZhP];exact S.bx,by rw [hhd,ZhQ];exact S.hd,by rw [ZhQ,ZhP];exact S.rw_⟩,h.shr.inn.eq ZhP,hs1,hs2,fun m hm p hp=>(h.shr.ent m (by rw [← ZhQ];exact hm) p (by rw [← ZhP];exact hp)).eq ZhQ,fun x hx=>?_⟩,fun p hp=>?_,fun p hp hq=>?_,fun m hm p hp hh=>?_,fun m hm y hy=>?_,fun x hx hk=>?_,fun x hx hk=>?_⟩
 ·rcases hlet x hx with q | q
  ·exact v.Xm (h.shr.Xm x q)
  ·exact v.Xm q.1
 ·rw [hloc];exact h.loc p (by rw [← ZhP];exact hp)
 ·rw [ZmQ ZhP] at hq ⊢;rw [hsp,hsp];have:=h.tog p (by rw [← ZhP];exact hp) hq;refine⟨this.1,this.2.1,fun z=>?_⟩;obtain⟨x,hx,k,a,b⟩:=this.2.2 z;exact⟨x,hk2 x hx k,k,a,b⟩
 ·rw [Zu4 ZhQ] at hh ⊢;exact v.rt p (by rw [← ZhP];exact hp) _ _ (h.ent m (by rw [← ZhQ];exact hm) p (by rw [← ZhP];exact hp) hh)
 ·rw [ZhQ] at hm;rw [hsp];rcases ZTM m hm y hy with q | q
  ·have:=h.hel m hm y q;exact⟨v.ZV this.1,this.2⟩
  ·exact⟨v.ZV q.1,q.2⟩
 ·rcases hlet x hx with q | q
  ·exact v.ZV (h.mai x q hk)
  ·exact v.ZV (q.2.1 hk)
 ·rcases hlet x hx with q | q
  ·have hn:= (h.shr.Xm x q).ntd hk;exact v.rt _ (by omega) _ _ (h.ntd x q hk)
  ·have hn:=q.1.ntd hk;exact v.rt _ (by omega) _ _ (q.2.2 hk)
section
variable {w:Zb}
theorem Zod (h:Wm w) {k:Nat} (hk:k < w.qG.length) (h2:(ZO w k).kind ≠ 2):Wm (YN w k):=by
 refine h.upd rfl rfl rfl rfl h.shr.sd1 h.shr.sd2 (fun p=>?_) (fun x hx hk2=>?_) (fun x hx=>.inl (ZgN hx)) (fun m _ y hy=>.inl hy)
 ·rw [KH hk,Zmk h2,ZfR,List.append_nil]
 ·rw [Zba hk] at hx;rcases List.mem_append.1 hx with q | q
  ·exact List.mem_append.2 (.inl q)
  ·rcases List.mem_cons.1 q with r | r
   ·rw [r] at hk2;exact absurd hk2 h2
   ·exact List.mem_append.2 (.inr r)
theorem ZtA (h:Wm w) (hs:w.said < 40):Wm (ZeR w):=
 h.upd rfl rfl rfl rfl (by have:=h.shr.sd1;show 0 <=w.said + 1;omega) (by show w.said + 1 <=40;omega) (fun _=>rfl) (fun x hx _=>hx) (fun x hx=>.inl hx) (fun m _ y hy=>.inl hy)
structure Rtd (w:Zb) (m:Nat) (x:Zr) (now:Bool):Prop where
 hm:m < w.qQ.length
 pl:J7 x.place w.Zx.length
 fr:J7 x.from_ w.qQ.length
 old:now=false ->Jg w m x
 new:now=true ->x.age=0∧x.hops=0
theorem Wm.ZfV (h:Wm w) {p:Nat} (hp:p < w.Zx.length):(sp w p).age <=30:=Proofs.YtbmbbcaaimehkaaGreat.ZfV h.shr hp (h.loc p hp)
theorem ZvF {to:Int} {y:Zr} (h1:0 <=to) (h2:to < (w.qQ.length:Int)):ZkJ w (Zhl to y):=
 ⟨h1,h2,.inl ⟨rfl,rfl,rfl,rfl,rfl,rfl⟩,fun i hi=>absurd hi (Nat.not_lt_zero i),fun q=>absurd (show(1:Int)=3 from q) (by omega)⟩
theorem ZvE {to p at_ age:Int} (h1:J7 to w.qQ.length) (h2:J7 p w.Zx.length) (h3:at_ ≠ to):ZkJ w (ZtK to p at_ age):=
 ⟨h1.1,h1.2,.inr (.inr ⟨rfl,rfl,rfl,rfl⟩),fun i hi=>absurd hi (Nat.not_lt_zero i),fun _=>⟨h2.1,h2.2,h3⟩⟩
theorem Zpc (h:Wm w) {m:Nat} {x:Zr} {now:Bool} (r:Rtd w m x now):Wm (QB w m x now).1:=by
 obtain⟨p,ep,hp⟩:=r.pl.nat;have hm:=r.hm;have S:=h.shr.Ko;unfold QB;rw [ep,Int.toNat_natCast];by_cases hh:(E w m p).here=true
 ·rw [if_pos hh];exact h.upd rfl rfl (Xn _ _ _) rfl h.shr.sd1 h.shr.sd2 (fun _=>rfl) (fun x hx _=>hx) (fun x hx=>.inl hx) (fun m _ y hy=>.inl hy)
 have hh':(E w m p).here=false:=by simpa using hh
 rw [if_neg hh];have re:=h.ent m hm p hp hh';by_cases hc:now=false∧(E w m p).age <=x.age
 ·rw [if_pos hc];have ho:=r.old hc.1;obtain⟨o1,o2,o3,o4,o5,o6,o7⟩:=id ho;refine h.upd rfl rfl rfl (Xn _ _ _) h.shr.sd1 h.shr.sd2 (fun _=>rfl) (fun x hx _=>hx) (fun x hx=>.inl hx) (fun m' hm' y hy=>?_);have hb:ZG {w with qJ:=Yl w.qJ (m:Int) (ZG w m ++ [x])} m'=if m'=m then ZG w m ++ [x] else ZG w m':=Jh (by rw [S.hd];exact hm)
  rw [hb] at hy;by_cases e:m'=m
  ·rw [if_pos e] at hy;rcases List.mem_append.1 hy with q | q
   ·rw [e];exact .inl q
   ·rw [List.mem_singleton.1 q,e];refine .inr ⟨ho,?_⟩;rw [ep,Int.toNat_natCast] at o5 ⊢;obtain⟨a1,a2,a3,a4,a5,a6⟩:=o5;rw [Int.toNat_natCast] at a6;have e1:x.age= (sp w p).age:=Classical.byContradiction fun z=>by have:=a6 z;omega
    have e2:=a5 e1
    have e3:(sp w p).here=false:=by
     rcases Zb9 (h.loc p hp) with⟨k,hk,he,es⟩ | ⟨y,hy,hk,i,hi,hpi,es⟩
     ·rw [es] at e2;have:m=k:=by have:(m:Int)= (k:Int):=e2;omega
      rw [← this,hh'] at he;cases he
     ·rw [es]
    rw [e1,e2,← e3]
  ·rw [if_neg e] at hy;exact .inl hy
 ·rw [if_neg hc];have ha:=h.ZfV hp;obtain⟨a1,a2,a3,a4,a5,a6⟩:=id re;have hE:=h.shr.ent m hm p hp;refine h.upd rfl rfl rfl rfl h.shr.sd1 h.shr.sd2 (fun q=>?_) (fun x hx _=>List.mem_append.2 (.inl hx)) (fun y hy=>?_) (fun m _ y hy=>.inl hy)
  ·show Qh (w.qG ++ _::told (m:Int) x (E w m p) now) q=_
   have e0:Qh (Zhl (E w m p).ZX (Zd4 x (E w m p))::told (m:Int) x (E w m p) now) q= []:=by
    apply ZCC;intro y hy;rcases List.mem_cons.1 hy with z | z
    ·rw [z];show(1:Int) ≠ 2;omega
    ·unfold told at z;split at z
     ·rw [List.mem_singleton.1 z];show(3:Int) ≠ 2;omega
     ·cases z
   rw [Zb6,e0,List.append_nil]
  ·rcases List.mem_append.1 hy with q | q
   ·exact .inl q
   refine .inr ?_;rcases List.mem_cons.1 q with z | z
   ·subst z;refine⟨ZvF a3 a4,fun _=>?_,fun q=>absurd (show(1:Int)=3 from q) (by omega)⟩;show Jg w (E w m p).ZX (Zd4 x (E w m p));refine⟨r.pl.1,r.pl.2,r.fr.1,r.fr.2,?_,?_,?_⟩
    ·show RtX w x.place.toNat (E w m p).ZX (E w m p).age;rw [ep,Int.toNat_natCast];exact re
    ·show 1 <=x.hops + 1;cases hn:now with
     | true=>have:=r.new hn;omega
     | false=>have:= (r.old hn).2.2.2.2.2.1;omega
    ·show x.hops + 1 <=Y2 (1 + (E w m p).age);rw [Int.add_comm 1,Zbb a1 (by omega)];cases hn:now with
     | true=>have:=r.new hn;omega
     | false=>
       have o:=r.old hn;have o1:=o.2.2.2.2.1.1;have o2:=o.2.2.2.2.1.2.1;have o3:=o.2.2.2.2.2.2;rw [ep,Int.toNat_natCast] at o2;rw [Int.add_comm,Zbb o1 (by omega)] at o3;have:¬ (E w m p).age <=x.age:=fun z=>hc ⟨hn,z⟩
       omega
   ·unfold told at z;split at z
    ·rename_i ht;rw [List.mem_singleton.1 z];refine⟨ZvE r.fr r.pl (fun q=>ht.2.2 q.symm),fun q=>absurd (show(3:Int)=1 from q) (by omega),fun _=>?_⟩;show RtX w x.place.toNat (E w m p).ZX (E w m p).age;rw [ep,Int.toNat_natCast];exact re
    ·cases z
theorem ZCN (m:Int) (x:Zr) (e:ZA) (now:Bool):owL (told m x e now)= []:=by
 unfold told;split
 ·exact ZeY (by show(3:Int) ≠ 1;omega)
 ·rfl
theorem Zpd (h:Wm w) {m:Nat} {x:Zr} {now:Bool} (r:Rtd w m x now) (a:Int×Int):(owes (QB w m x now).1).count a= (owes w).count a + [(x.msg,x.place)].count a:=by
 obtain⟨p,ep,hp⟩:=r.pl.nat;have S:=h.shr.Ko;unfold QB owes;rw [ep,Int.toNat_natCast];simp only [List.count_append];by_cases hh:(E w m p).here=true
 ·rw [if_pos hh];have:=ZtI w {w with qK:=Yl w.qK (p:Int) (X6 w p ++ [x.msg])} (p:=p) (by rw [S.bx];exact hp) rfl a;simp only [List.map_cons,List.map_nil] at this;rw [this];show _ + (owH w).count a + (owL w.qG).count a=_;omega
 rw [if_neg hh];by_cases hc:now=false∧(E w m p).age <=x.age
 ·rw [if_pos hc];have:=ZtH w {w with qJ:=Yl w.qJ (m:Int) (ZG w m ++ [x])} (m:=m) (by rw [S.hd];exact r.hm) rfl a;simp only [List.map_append,List.count_append,List.map_cons,List.map_nil,ep] at this;show(owB w).count a + (owH {w with qJ:=Yl w.qJ (m:Int) (ZG w m ++ [x])}).count a + (owL w.qG).count a=_;omega
 ·rw [if_neg hc];show(owB w).count a + (owH w).count a + (owL (w.qG ++ (Zhl _ _::told _ _ _ _))).count a=_;rw [Zdh,show(Zhl (E w m p).ZX (Zd4 x (E w m p))::told (m:Int) x (E w m p) now)= [Zhl (E w m p).ZX (Zd4 x (E w m p))] ++ told (m:Int) x (E w m p) now from rfl,Zdh,ZCN,Zps rfl,List.append_nil,List.count_append];show _ + (_ + List.count a [(x.msg,x.place)])=_;rw [ep];omega
end
end Go.Proofs.YtbmbbcaaimehkaaGreat
end
section
namespace Go.Proofs.YtbmbbcaaimehkaaGreat
open Go.Lf
theorem Zr9 {w w':Zb} {p:Nat}:∀ {k:Nat},(∀ m,m < k ->(E w' m p=E w m p)∨((E w' m p).here=false∧(E w m p).here=false)) ->Xr w' p k=Xr w p k:=by
 intro k
 induction k with
 | zero=>intro _;rfl
 | succ k ih=>
   intro h;rw [JJ,JJ,ih fun m hm=>h m (by omega)];rcases h k (by omega) with e | ⟨e1,e2⟩
   ·rw [e]
   ·rw [e1,e2];simp
section
variable {w:Zb}
theorem ZC5 (h:Wm w) {m p:Nat} (hm:m < w.qQ.length) (hp:p < w.Zx.length) {at_ age:Int} (hh:(E w m p).here=false) (ha:(E w m p).age < age) (hr:RtX w p at_ age) (hn:at_ ≠ (m:Int)):Wm (setW w m p ⟨false,at_,age⟩):=by
 have S:=h.shr.Ko;have eE:=ZoD S hm hp ⟨false,at_,age⟩;have hag:=h.ZfV hp;have el:(setW w m p ⟨false,at_,age⟩).qQ.length=w.qQ.length:=ZeQ _ _ _ _
 have hloc:∀ q,Y7 (setW w m p ⟨false,at_,age⟩) q=Y7 w q:=fun q=>by
  refine Zi5 ?_ rfl;rw [el];refine Zr9 fun m' _=>?_
  rw [eE];by_cases c:m'=m∧q=p
  ·rw [if_pos c,c.1,c.2];exact .inr ⟨rfl,hh⟩
  ·rw [if_neg c];exact .inl rfl
 have hsp:∀ q,sp (setW w m p ⟨false,at_,age⟩) q=sp w q:=fun q=>Zb8 (hloc q)
 have v:Mv w (setW w m p ⟨false,at_,age⟩):=Mv.of rfl el (fun m' q _=>by
  rw [eE];by_cases c:m'=m∧q=p
  ·rw [if_pos c,c.1,c.2];exact Int.le_of_lt ha
  ·rw [if_neg c];exact Int.le_refl _) fun q _=>.inl (by rw [hsp];exact⟨rfl,rfl⟩)
 refine⟨⟨S.setW hm _,h.shr.inn.eq rfl,h.shr.sd1,h.shr.sd2,fun m' hm' q hq=>?_,fun x hx=>v.Xm (h.shr.Xm x hx)⟩,fun q hq=>by rw [hloc];exact h.loc q hq,fun q hq hi=>?_,fun m' hm' q hq hh'=>?_,fun m' hm' y hy=>?_,fun x hx hk=>v.ZV (h.mai x hx hk),fun x hx hk=>?_⟩
 ·rw [el] at hm';unfold Zew;rw [eE,el];by_cases c:m'=m∧q=p
  ·rw [if_pos c,c.1];exact⟨hr.1,by have:=hr.2.1;show age <=30;omega,hr.2.2.1,hr.2.2.2.1,⟨fun z=>absurd z (by simp),fun z=>absurd z hn⟩⟩
  ·rw [if_neg c];exact h.shr.ent m' hm' q hq
 ·rw [hsp,hsp];exact h.tog q hq hi
 ·rw [el] at hm';rw [eE] at hh' ⊢;by_cases c:m'=m∧q=p
  ·rw [if_pos c,c.2];exact v.rt p hp _ _ hr
  ·rw [if_neg c] at hh' ⊢;exact v.rt q hq _ _ (h.ent m' hm' q hq hh')
 ·rw [el] at hm';have:=h.hel m' hm' y hy;rw [hsp];exact⟨v.ZV this.1,this.2⟩
 ·have hn:= (h.shr.Xm x hx).ntd hk;exact v.rt _ (by omega) _ _ (h.ntd x hx hk)
theorem Ze8 {p:Nat} {v:Int} (hp:p < w.Zx.length) (q:Nat):inn (Zaf w (p:Int) v) (q:Int)=if q=p then v else inn w (q:Int):=by
 unfold inn Zaf;rw [Int.toNat_natCast];exact Jh hp
theorem ZeT (p v:Int):(Zaf w p v).Zx.length=w.Zx.length:=Xn _ _ _
theorem Zmo (hi:Inn w) {p:Nat} {v:Int} (hp:p < w.Zx.length) {x:Nat} (hx:x < w.Zx.length):∀ j,(∀ i,i < j ->up w i (x:Int) ≠ (p:Int)) ->up (Zaf w (p:Int) v) j (x:Int)=up w j (x:Int):=by
 intro j
 induction j with
 | zero=>intro _;rfl
 | succ j ih=>
   intro h;have e:=ih fun i hi=>h i (by omega)
   rw [Qn,Qn,e];by_cases hn:up w j (x:Int) < 0
   ·rw [if_pos hn,if_pos hn]
   ·rw [if_neg hn,if_neg hn];obtain⟨q,eq,hq⟩:=JP (hi.up (q:= (x:Int)) ⟨by omega,by omega⟩ j) hn;rw [eq,Ze8 hp,if_neg (fun z=>h j (by omega) (by rw [eq,z]))]
theorem ZCe (hi:Inn w) {p q:Nat} (hp:p < w.Zx.length) (hq:q < w.Zx.length) (hn:¬ Wth w p q):Inn (Zaf w (p:Int) (q:Int)):=by
 have el:=ZeT (w:=w) (p:Int) (q:Int)
 have hr:∀ x:Nat,x < (Zaf w (p:Int) (q:Int)).Zx.length ->okN (Zaf w (p:Int) (q:Int)) (inn (Zaf w (p:Int) (q:Int)) (x:Int)):=fun x hx=>by
  rw [el] at hx;rw [Ze8 hp];unfold okN;rw [el];by_cases e:x=p
  ·rw [if_pos e];omega
  ·rw [if_neg e];exact hi.rng x hx
 refine⟨hr,(Zim hr).2 fun x hx j hj hc=>?_⟩;rw [el] at hx hj;have old:∀ i,up (Zaf w (p:Int) (q:Int)) i (q:Int)=up w i (q:Int):=fun i=>Zmo hi hp hq i fun k _ z=>hn ⟨k,z⟩
 by_cases hz:∃ i,i < j + 1∧up w i (x:Int)= (p:Int)
 ·obtain⟨i,hil,e⟩:=hz;obtain⟨n,hnn,hcn,hlt⟩:=Qb (c:=fun i=>up w i (x:Int)= (p:Int)) e;have e1:up (Zaf w (p:Int) (q:Int)) n (x:Int)= (p:Int):=by rw [Zmo hi hp hx n hlt];exact hcn
  have e2:up (Zaf w (p:Int) (q:Int)) (j + 1) (p:Int)= (p:Int):=by
   have t:=up_add (Zaf w (p:Int) (q:Int)) n (j + 1) (x:Int);rw [e1,Nat.add_comm,up_add,hc,e1] at t;exact t.symm
  have e3:up (Zaf w (p:Int) (q:Int)) (j + 1) (p:Int)=up (Zaf w (p:Int) (q:Int)) j (q:Int):=by
   show(if(p:Int) < 0 then _ else up _ j (inn _ (p:Int)))=_;rw [if_neg (by omega),Ze8 hp,if_pos rfl]
  rw [e3,old] at e2;exact hn ⟨j,e2⟩
 ·rw [Zmo hi hp hx _ fun i h q=>hz ⟨i,h,q⟩] at hc;exact(Zim hi.rng).1 hi.acy x hx j hj hc
theorem ZxR (h:Wm w) {p:Nat} {v:Int} (hp:p < w.Zx.length) (hi:Inn (Zaf w (p:Int) v)) (ht:0 <=v ->(sp w v.toNat).machine= (sp w p).machine∧(sp w v.toNat).here=true∧(sp w p).here=true):Wm (Zaf w (p:Int) v):=by
 have el:=ZeT (w:=w) (p:Int) v;have S:=h.shr.Ko;have v':Mv w (Zaf w (p:Int) v):=Mv.same el rfl fun _ _=>rfl
 refine⟨⟨⟨S.m1,S.m2,by rw [el];exact S.p1,by rw [el];exact S.p2,by rw [el];exact S.bx,S.hd,by rw [el];exact S.rw_⟩,hi,h.shr.sd1,h.shr.sd2,fun m hm q hq=>h.shr.ent m hm q (by rw [← el];exact hq),fun x hx=>v'.Xm (h.shr.Xm x hx)⟩,fun q hq=>h.loc q (by rw [← el];exact hq),fun q hq hz=>?_,fun m hm q hq hh=>v'.rt q (by rw [← el];exact hq) _ _ (h.ent m hm q (by rw [← el];exact hq) hh),fun m hm y hy=>⟨v'.ZV (h.hel m hm y hy).1,(h.hel m hm y hy).2⟩,fun x hx hk=>v'.ZV (h.mai x hx hk),fun x hx hk=>?_⟩
 ·rw [el] at hq;rw [Ze8 hp] at hz ⊢;by_cases e:q=p
  ·rw [if_pos e] at hz ⊢;have:=ht hz;rw [e];exact⟨this.1,this.2.1.trans this.2.2.symm,fun z=>by rw [show sp (Zaf w (p:Int) v) p=sp w p from rfl,this.2.2] at z;cases z⟩
  ·rw [if_neg e] at hz ⊢;exact h.tog q hq hz
 ·have hn:= (h.shr.Xm x hx).ntd hk;exact v'.rt _ (by omega) _ _ (h.ntd x hx hk)
theorem ZHd (h:Wm w) {p:Nat} (hp:p < w.Zx.length):∀ (j q:Nat),q < w.Zx.length ->up w j (q:Int)= (p:Int) ->(sp w q).machine= (sp w p).machine∧(sp w q).here= (sp w p).here:=by
 intro j
 induction j with
 | zero=>intro q hq e;have:q=p:=by have:(q:Int)= (p:Int):=e;omega
         rw [this];exact⟨rfl,rfl⟩
 | succ j ih=>
   intro q hq e
   have e':up w j (inn w (q:Int))= (p:Int):=by
    have:(if(q:Int) < 0 then(q:Int) else up w j (inn w (q:Int)))= (p:Int):=e;rw [if_neg (by omega)] at this;exact this
   have h0:¬ inn w (q:Int) < 0:=fun z=>by rw [Zmp z] at e';omega
   obtain⟨r,er,hr⟩:=JP (h.shr.inn.rng q hq) h0;have t:=h.tog q hq (by omega);rw [er] at e';have i:=ih r hr e';rw [er,Int.toNat_natCast] at t;exact⟨t.1 ▸ i.1,t.2.1 ▸ i.2⟩
theorem ZoT {x:Zg} (hk:x.kind=2) (nd:x.qV.Nodup) {i p:Nat} (hi:i < x.qV.length) (hp:x.qV.getD i 0= (p:Int)):WU x p= [⟨x.ZX,false,x.Yc.getD i 0⟩]:=by
 unfold WU;rw [if_pos hk];have hl:=ZdX x p x.qV.length (Nat.le_refl _);rw [List.take_of_length_le (Nat.le_refl _)] at hl;have hm:(p:Int) ∈ x.qV:=by rw [← hp,YX hi];exact List.getElem_mem hi
 have hc:=List.nodup_iff_count.1 nd (p:Int);have hc2:=List.count_pos_iff.2 hm;obtain⟨s,e⟩:=List.length_eq_one_iff.1 (show(Wy x p x.qV.length).length=1 by omega);have:Yy.mk x.ZX false (x.Yc.getD i 0) ∈ Wy x p x.qV.length:=ZaG.2 ⟨i,hi,hp,rfl⟩;rw [e] at this ⊢;rw [List.mem_singleton.1 this]
theorem Zly {x:Zg} {p:Nat} (hm:(p:Int) ∉ x.qV):WU x p= []:=by
 unfold WU;split
 ·apply List.eq_nil_iff_forall_not_mem.2;intro s hs;obtain⟨i,hi,hp,_⟩:=ZaG.1 hs;exact hm (by rw [← hp,YX hi];exact List.getElem_mem hi)
 ·rfl
theorem ZaD (hi:Inn w) {p q:Nat}:(q:Int) ∈ Yf w p↔q < w.Zx.length∧Wth w p q:=by
 rw [ZfP hi]
 exact⟨fun⟨x,e,hx,hw⟩=>by have:q=x:=by omega
                          subst this;exact⟨hx,hw⟩,fun⟨a,b⟩=>⟨q,rfl,a,b⟩⟩
end
end Go.Proofs.YtbmbbcaaimehkaaGreat
end
section
namespace Go.Proofs.YtbmbbcaaimehkaaGreat
open Go.Lf
section
variable {w:Zb}
theorem Wm.Wn (h:Wm w) {p:Nat} (hp:p < w.Zx.length) (hh:(sp w p).here=true):sp w p= ⟨(mOf w p:Int),true,(E w (mOf w p) p).age⟩∧mOf w p < w.qQ.length∧(E w (mOf w p) p).here=true:=by
 rcases Zb9 (h.loc p hp) with⟨m,hm,he,e⟩ | ⟨x,hx,hk,i,hi,hpi,e⟩
 ·unfold mOf;rw [e];exact⟨by simp,by simpa using hm,by simpa using he⟩
 ·rw [e] at hh;cases hh
theorem Wm.only (h:Wm w) {p m:Nat} (hp:p < w.Zx.length) (hm:m < w.qQ.length) (hh:(E w m p).here=true):sp w p= ⟨(m:Int),true,(E w m p).age⟩∧Xr w p w.qQ.length= [⟨(m:Int),true,(E w m p).age⟩]∧Qh w.qG p= []∧∀ m',m' < w.qQ.length ->m' ≠ m ->(E w m' p).here=false:=by
 have hl:=h.loc p hp;have h1:Yy.mk (m:Int) true (E w m p).age ∈ Xr w p w.qQ.length:=Zdp.2 ⟨m,hm,hh,rfl⟩
 have h2:(Xr w p w.qQ.length).length=1∧(Qh w.qG p).length=0:=by
  unfold Y7 at hl;rw [List.length_append] at hl;have:=List.length_pos_of_mem h1;omega
 obtain⟨s,e⟩:=List.length_eq_one_iff.1 h2.1;have e3:=List.length_eq_zero_iff.1 h2.2;rw [e] at h1;have e4:=List.mem_singleton.1 h1;have e5:sp w p=s:=Ztu (by unfold Y7;rw [e,e3];rfl);refine⟨by rw [e5,e4],by rw [e,e4],e3,fun m' hm' hne=>?_⟩;cases q:(E w m' p).here with
 | false=>rfl
 | true=>
   have:Yy.mk (m':Int) true (E w m' p).age ∈ Xr w p w.qQ.length:=Zdp.2 ⟨m',hm',q,rfl⟩;rw [e,← e4] at this;have:=List.mem_singleton.1 this;injection this with a b c
   exact absurd (by omega) hne
structure Trv (w:Zb) (p:Nat) (to:Int):Prop where
 hp:p < w.Zx.length
 here:(sp w p).here=true
 off:(sp w p).machine ≠ to
 ZX:J7 to w.qQ.length
 old:∀ q:Nat,(q:Int) ∈ Yf w p ->(sp w q).age < 30
variable {p:Nat} {to:Int}
theorem Zdd (h:Wm w) (t:Trv w p to) {q:Nat} (hq:(q:Int) ∈ Yf w p):q < w.Zx.length∧sp w q= ⟨(mOf w p:Int),true,(E w (mOf w p) q).age⟩∧(E w (mOf w p) q).here=true:=by
 obtain⟨hql,j,e⟩:= (ZaD h.shr.inn).1 hq;have s:=ZHd h t.hp j q hql e;have a:=h.Wn t.hp t.here;have b:=h.Wn hql (s.2.trans t.here);have em:mOf w q=mOf w p:=by unfold mOf;rw [s.1]
 rw [em] at b;exact⟨hql,b.1,b.2.2⟩
theorem Zvo (h:Wm w) (t:Trv w p to):(p:Int) ∈ Yf w p:= (ZaD h.shr.inn).2 ⟨t.hp,0,rfl⟩
theorem ZAF (h:Wm w) (t:Trv w p to):GoB w (mOf w p) (Yf w p):=by
 have a:=h.Wn t.hp t.here;refine⟨h.shr.Ko,a.2.1,Zb5 w p,Wx w p,fun q hq=>?_⟩;obtain⟨k,rfl,hk⟩:= (Zb5 w p q hq).nat;have:=h.shr.ent _ a.2.1 k hk;rw [Int.toNat_natCast];exact⟨this.1,this.2.1⟩
theorem ZfU (h:Wm w) (t:Trv w p to) (m' q:Nat):E (UU w p to).1 m' q=if m'=mOf w p∧(q:Int) ∈ Yf w p then⟨false,to,(E w (mOf w p) q).age + 1⟩ else E w m' q:=by
 have:=ZGD (to:=to) (ZAF h t) (Yf w p).length (Nat.le_refl _) m' q;rw [List.take_of_length_le (Nat.le_refl _)] at this;exact this
theorem ZeO (w:Zb) (p:Nat) (to:Int):(UU w p to).1.qQ.length=w.qQ.length:= (Zea w _ to _ _).2.2.2.2.2
theorem Ziy (w:Zb) (p:Nat) (to:Int):(UU w p to).1.Zx.length=w.Zx.length:=Xn _ _ _
def Zg5 (w:Zb) (p:Nat) (to:Int):Zg:=ZtU to (Yf w p) ((Yf w p).map (goA w (mOf w p)))
theorem Zdc (w:Zb) (p:Nat) (to:Int):(UU w p to).1.qG=w.qG ++ [Zg5 w p to]:=rfl
theorem Zvq (q:Nat):WU (Zg5 w p to) q=if(q:Int) ∈ Yf w p then [⟨to,false,(E w (mOf w p) q).age + 1⟩] else []:=by
 by_cases hq:(q:Int) ∈ Yf w p
 ·rw [if_pos hq];obtain⟨i,hi,e⟩:=List.getElem_of_mem hq;have:=ZoT (x:=Zg5 w p to) rfl (Wx w p) (i:=i) (p:=q) hi (by rw [← e];exact YX hi);rw [this];show [Yy.mk to false (((Yf w p).map (goA w (mOf w p))).getD i 0)]=_;rw [YX (by rw [List.length_map];exact hi),List.getElem_map,e];unfold goA;rw [Int.toNat_natCast]
 ·rw [if_neg hq];exact Zly hq
theorem ZlA (h:Wm w) (t:Trv w p to) {q:Nat} (hq:q < w.Zx.length):Y7 (UU w p to).1 q=if(q:Int) ∈ Yf w p then [⟨to,false,(E w (mOf w p) q).age + 1⟩] else Y7 w q:=by
 have a:=h.Wn t.hp t.here;unfold Y7;rw [Zdc,Zb6,ZoS,Zvq,ZeO];by_cases c:(q:Int) ∈ Yf w p
 ·have b:=Zdd h t c;have o:=h.only hq a.2.1 b.2.2
  have e0:Xr (UU w p to).1 q w.qQ.length= []:=ZlT fun m' hm'=>by
   rw [ZfU h t];by_cases e:m'=mOf w p∧(q:Int) ∈ Yf w p
   ·rw [if_pos e]
   ·rw [if_neg e];exact o.2.2.2 m' hm' fun z=>e ⟨z,c⟩
  rw [if_pos c,if_pos c,o.2.2.1,e0]
  rfl
 ·rw [if_neg c,if_neg c,List.append_nil,ZcK (w:=w) fun m' _=>by rw [ZfU h t,if_neg fun z=>c z.2]]
theorem ZeN (h:Wm w) (t:Trv w p to) {q:Nat} (hq:q < w.Zx.length):sp (UU w p to).1 q=if(q:Int) ∈ Yf w p then⟨to,false,(E w (mOf w p) q).age + 1⟩ else sp w q:=by
 have:=ZlA h t hq;by_cases c:(q:Int) ∈ Yf w p
 ·rw [if_pos c] at this ⊢;exact Ztu this
 ·rw [if_neg c] at this ⊢;exact Zb8 this
theorem ZCM (h:Wm w) (t:Trv w p to):Mv w (UU w p to).1:=by
 refine Mv.of (Ziy _ _ _) (ZeO _ _ _) (fun m q hq=>?_) fun q hq=>?_
 ·rw [ZfU h t];by_cases e:m=mOf w p∧(q:Int) ∈ Yf w p
  ·rw [if_pos e,e.1];show _ <=_ + 1;omega
  ·rw [if_neg e];exact Int.le_refl _
 ·rw [ZeN h t hq];by_cases c:(q:Int) ∈ Yf w p
  ·rw [if_pos c];have b:=Zdd h t c;refine .inr ⟨mOf w p,by rw [b.2.1],by rw [b.2.1];dsimp only;omega,?_⟩;rw [ZfU h t,if_pos ⟨rfl,c⟩,b.2.1];dsimp only;omega
  ·rw [if_neg c];exact .inl ⟨rfl,rfl⟩
theorem Zw7 (w:Zb) (p:Nat) {i:Nat} (hi:i < (Yf w p).length) (h0:0 < i):(Yf w p).getD (i - 1) 0 < (Yf w p).getD i 0:=by
 rw [YX hi,YX (by omega)];have h1:=List.pairwise_iff_getElem.1 (ZeF w p) (i - 1) i (by omega) hi (by omega);have h2:=List.pairwise_iff_getElem.1 (Wx w p) (i - 1) i (by omega) hi (by omega);omega
theorem Zxj (w:Zb) {p:Nat} (hp:p < w.Zx.length) (to:Int) (q:Nat):inn (UU w p to).1 (q:Int)=if q=p then -1 else inn w (q:Int):=Ze9 hp q
theorem Zvg (h:Wm w) (t:Trv w p to) {q r:Nat} (hq:q < w.Zx.length) (hne:q ≠ p) (e:inn w (q:Int)= (r:Int)):(q:Int) ∈ Yf w p↔(r:Int) ∈ Yf w p:=by
 have hr:r < w.Zx.length:=by have:= (h.shr.inn.rng q hq).2;omega
 rw [ZaD h.shr.inn,ZaD h.shr.inn]
 constructor
 ·rintro⟨_,j,ej⟩;cases j with
  | zero=>exact absurd (by have:(q:Int)= (p:Int):=ej;omega) hne
  | succ j=>
    have:(if(q:Int) < 0 then(q:Int) else up w j (inn w (q:Int)))= (p:Int):=ej;rw [if_neg (by omega),e] at this;exact⟨hr,j,this⟩
 ·rintro⟨_,j,ej⟩;refine⟨hq,j + 1,?_⟩;show(if(q:Int) < 0 then(q:Int) else up w j (inn w (q:Int)))=_;rw [if_neg (by omega),e];exact ej
theorem Zvr (h:Wm w) (t:Trv w p to):ZkJ w (Zg5 w p to):=by
 refine⟨t.ZX.1,t.ZX.2,.inr (.inl ⟨rfl,rfl,rfl,rfl,rfl,?_,?_⟩),fun i hi=>?_,fun q=>absurd (show(2:Int)=3 from q) (by omega)⟩
 ·intro z;have:=Zvo h t;rw [show Yf w p= [] from z] at this;cases this
 ·show(Yf w p).length= ((Yf w p).map _).length;rw [List.length_map]
 ·have hi':i < (Yf w p).length:=hi;have hm:=List.getElem_mem hi';obtain⟨q,eq,hq⟩:= (Zb5 w p _ hm).nat;rw [eq] at hm;have b:=Zdd h t hm;have a:=h.Wn t.hp t.here;have hx:=h.shr.ent _ a.2.1 q hq;have ho:=t.old q hm;rw [b.2.1] at ho;have ho':(E w (mOf w p) q).age < 30:=ho
  have eA:(Zg5 w p to).Yc.getD i 0= (E w (mOf w p) q).age + 1:=by
   show((Yf w p).map (goA w (mOf w p))).getD i 0=_;rw [YX (by rw [List.length_map];exact hi'),List.getElem_map,eq];unfold goA;rw [Int.toNat_natCast]
  have e0:(Zg5 w p to).qV.getD i 0= (q:Int):= (YX hi').trans eq;unfold Zab;rw [eA,e0];have h1:=hx.1;refine⟨by omega,by omega,fun z=>?_,by omega,by omega⟩;rw [← e0];exact Zw7 w p hi' z
theorem ZCK (h:Wm w) (t:Trv w p to):Wm (UU w p to).1:=by
 have a:=h.Wn t.hp t.here;have v:=ZCM h t;have S:=h.shr.Ko;have el:=ZeO w p to;have ei:=Ziy w p to;have g:=ZAF h t;have hi:Inn (UU w p to).1:= (ZfG h.shr.inn t.hp).eq rfl;refine⟨⟨⟨by rw [el];exact S.m1,by rw [el];exact S.m2,by rw [ei];exact S.p1,by rw [ei];exact S.p2,by rw [ei];exact S.bx,by rw [el];exact S.hd,?_⟩,hi,h.shr.sd1,h.shr.sd2,fun m hm q hq=>?_,fun x hx=>?_⟩,fun q hq=>?_,fun q hq hz=>?_,fun m hm q hq hh=>?_,fun m hm y hy=>?_,fun x hx hk=>?_,fun x hx hk=>?_⟩
 ·rw [ei,← (Zea w (mOf w p) to (Yf w p) (Yf w p).length).1];exact(Zid g _).rw_
 ·rw [el] at hm;rw [ei] at hq;unfold Zew;rw [ZfU h t,el];by_cases c:m=mOf w p∧(q:Int) ∈ Yf w p
  ·rw [if_pos c];have b:=Zdd h t c.2;have hx:=h.shr.ent _ a.2.1 q hq;have ho:=t.old q c.2;rw [b.2.1] at ho;have ho':(E w (mOf w p) q).age < 30:=ho;have h1:=hx.1;refine⟨by show 0 <=_ + 1;omega,by show _ + 1 <=_;omega,t.ZX.1,t.ZX.2,⟨fun z=>by simp at z,fun z=>absurd ?_ t.off⟩⟩;rw [a.1,← c.1];exact z.symm
  ·rw [if_neg c];exact h.shr.ent m hm q hq
 ·rw [Zdc] at hx;rcases List.mem_append.1 hx with z | z
  ·exact v.Xm (h.shr.Xm x z)
  ·rw [List.mem_singleton.1 z];exact v.Xm (Zvr h t)
 ·rw [ei] at hq;rw [ZlA h t hq];by_cases c:(q:Int) ∈ Yf w p
  ·rw [if_pos c];rfl
  ·rw [if_neg c];exact h.loc q hq
 ·rw [ei] at hq;rw [Zxj w t.hp] at hz ⊢;by_cases e:q=p
  ·rw [if_pos e] at hz;exact absurd hz (by omega)
  rw [if_neg e] at hz ⊢;obtain⟨r,er,hr⟩:=JP (h.shr.inn.rng q hq) (by omega);have tg:=h.tog q hq hz;rw [er,Int.toNat_natCast] at tg;rw [er,Int.toNat_natCast,ZeN h t hq,ZeN h t hr];have iff:=Zvg h t hq e er;by_cases c:(q:Int) ∈ Yf w p
  ·rw [if_pos c,if_pos (iff.1 c)];exact⟨rfl,rfl,fun _=>⟨Zg5 w p to,List.mem_append.2 (.inr (List.mem_singleton.2 rfl)),rfl,c,iff.1 c⟩⟩
  ·rw [if_neg c,if_neg fun z=>c (iff.2 z)];refine⟨tg.1,tg.2.1,fun z=>?_⟩;obtain⟨x,hx,k,a1,b1⟩:=tg.2.2 z;exact⟨x,List.mem_append.2 (.inl hx),k,a1,b1⟩
 ·rw [el] at hm;rw [ei] at hq;rw [ZfU h t] at hh ⊢;by_cases c:m=mOf w p∧(q:Int) ∈ Yf w p
  ·rw [if_pos c];have b:=Zdd h t c.2;have hx:=h.shr.ent _ a.2.1 q hq;have h1:=hx.1;unfold RtX;rw [ZeN h t hq,if_pos c.2,el];exact⟨by show 0 <=_ + 1;omega,Int.le_refl _,t.ZX.1,t.ZX.2,fun _=>rfl,fun z=>absurd rfl z⟩
  ·rw [if_neg c] at hh ⊢;exact v.rt q hq _ _ (h.ent m hm q hq hh)
 ·rw [el] at hm;have b:=h.hel m hm y hy;have hp1:=b.1.1;have hp2:=b.1.2.1;obtain⟨q,eq⟩:∃ q:Nat,y.place= (q:Int):= ⟨y.place.toNat,by omega⟩
  have b2:=b.2;rw [eq,Int.toNat_natCast] at b2 ⊢
  have c:(q:Int) ∉ Yf w p:=fun z=>by
   have:= (Zdd h t z).2.1;rw [b2] at this;injection this with _ e _
   cases e
  rw [ZeN h t (by omega),if_neg c];exact⟨v.ZV b.1,b2⟩
 ·rcases List.mem_append.1 hx with z | z
  ·exact v.ZV (h.mai x z hk)
  ·rw [List.mem_singleton.1 z] at hk;exact absurd (show(2:Int)=1 from hk) (by omega)
 ·rcases List.mem_append.1 hx with z | z
  ·have hn:= (h.shr.Xm x z).ntd hk;exact v.rt _ (by omega) _ _ (h.ntd x z hk)
  ·rw [List.mem_singleton.1 z] at hk;exact absurd (show(2:Int)=3 from hk) (by omega)
theorem ZCL (w:Zb) (p:Nat) (to:Int):owes (UU w p to).1=owes w:=by
 unfold owes;rw [Zdc,Zdh,ZeY (show(Zg5 w p to).kind ≠ 1 by show(2:Int) ≠ 1;omega),List.append_nil]
 rfl
end
end Go.Proofs.YtbmbbcaaimehkaaGreat
end
section
namespace Go.Proofs.YtbmbbcaaimehkaaGreat
open Go.Lf
section
variable {w:Zb}
theorem Wm.nodup (h:Wm w) {x:Zg} (hx:x ∈ w.qG) (hk:x.kind=2):x.qV.Nodup:=by
 rw [List.nodup_iff_count];intro a;by_cases ha:a ∈ x.qV
 ·obtain⟨i,hi,rfl⟩:=List.getElem_of_mem ha;have e0:x.qV.getD i 0=x.qV[i]:=YX hi;have hp:= (h.shr.Xm x hx).Ui i hi;unfold Zab at hp;rw [e0] at hp;obtain⟨p,e⟩:∃ p:Nat,x.qV[i]= (p:Int):= ⟨x.qV[i].toNat,by omega⟩
  have hl:=h.loc p (by omega);unfold Y7 at hl;rw [List.length_append] at hl;have h1:=Ztr hx p;have h2:WU x p=Wy x p x.qV.length:=by unfold WU;rw [if_pos hk]
  rw [h2,ZdX x p _ (Nat.le_refl _),List.take_of_length_le (Nat.le_refl _)] at h1;rw [e];omega
 ·rw [List.count_eq_zero_of_not_mem ha];omega
theorem Wm.mvl (h:Wm w) {x:Zg} (hx:x ∈ w.qG) (hk:x.kind=2):MvL w x x.ZX.toNat:=by
 have hl:=h.shr.Xm x hx;have h8:=h.shr.Ko.p2;have Zze:∀ i,i < x.qV.length ->J7 (x.qV.getD i 0) w.Zx.length:=fun i hi=>⟨(hl.Ui i hi).1,(hl.Ui i hi).2.1⟩
 have hsub:x.qV ⊆ XC w.Zx.length:=fun a ha=>by
  have:= (KX (d:= (0:Int)) (P:=fun a=>J7 a w.Zx.length)).1 Zze a ha;unfold J7 at this;unfold XC;exact List.mem_map.2 ⟨a.toNat,List.mem_range.2 (by omega),by show((a.toNat:Nat):Int)=a;omega⟩
 have hlen:= (h.nodup hx hk).length_le_of_subset hsub;rw [Jb] at hlen;exact⟨by have:=hl.to1;omega,by have:=hl.to1;have:=hl.to2;omega,hl.Xi.len,by omega,Zze⟩
structure Car (w:Zb) (k:Nat):Prop where
 hk:k < w.qG.length
 two:(ZO w k).kind=2
theorem Car.mem {k:Nat} (c:Car w k):ZO w k ∈ w.qG:=YL c.hk
theorem Zro (h:Wm w) {k:Nat} (c:Car w k) {i q:Nat} (hi:i < (ZO w k).qV.length) (hq:(ZO w k).qV.getD i 0= (q:Int)):
 q < w.Zx.length∧sp w q= ⟨(ZO w k).ZX,false,(ZO w k).Yc.getD i 0⟩∧Xr w q w.qQ.length= []∧Qh (w.qG.take k) q= []∧Qh (w.qG.drop (k + 1)) q= []:=by
 have hp:= (h.shr.Xm _ c.mem).Ui i hi;unfold Zab at hp;rw [hq] at hp;have hql:q < w.Zx.length:=by omega
 have hl:=h.loc q hql;have e:=ZoT c.two (h.nodup c.mem c.two) hi hq;unfold Y7 at hl;rw [KH c.hk,e] at hl;simp only [List.length_append,List.length_singleton] at hl;have e1:=List.length_eq_zero_iff.1 (show(Xr w q w.qQ.length).length=0 by omega);have e2:=List.length_eq_zero_iff.1 (show(Qh (w.qG.take k) q).length=0 by omega);have e3:=List.length_eq_zero_iff.1 (show(Qh (w.qG.drop (k + 1)) q).length=0 by omega);refine⟨hql,Ztu ?_,e1,e2,e3⟩;unfold Y7;rw [KH c.hk,e,e1,e2,e3];rfl
theorem ZtV {l:List Int} {q:Int} (h:q ∈ l):∃ i,i < l.length∧l.getD i 0=q:=by
 obtain⟨i,hi,e⟩:=List.getElem_of_mem h;exact⟨i,hi,(YX hi).trans e⟩
theorem Zdb (h:Wm w) {k:Nat} (c:Car w k) {q:Nat} (hq:(q:Int) ∈ (ZO w k).qV):
 q < w.Zx.length∧sp w q= ⟨(ZO w k).ZX,false,(sp w q).age⟩∧Xr w q w.qQ.length= []∧Qh (w.qG.take k) q= []∧Qh (w.qG.drop (k + 1)) q= []:=by
 obtain⟨i,hi,e⟩:=ZtV hq;have:=Zro h c hi e;exact⟨this.1,by rw [this.2.1],this.2.2⟩
theorem ZiQ (h:Wm w) {k j:Nat} (hk:k < w.qG.length) (hj:j < w.qG.length) {q:Nat} (hq:q < w.Zx.length) (h1:(q:Int) ∈ (ZO w k).qV) (h2:(q:Int) ∈ (ZO w j).qV):k=j:=by
 have hl:(QV w q).length=1:=by rw [← len_eq h.shr.two];exact h.loc q hq
 have a:=ZeP hl hk h1;have b:=ZeP hl hj h2;rw [a] at b;omega
theorem ZKR (h:Wm w) {k:Nat} (c:Car w k):∀ j,j <= (ZO w k).qV.length ->∀ m' q:Nat,E (Xl (YN w k) (ZO w k) j) m' q=if m'= (ZO w k).ZX.toNat∧(q:Int) ∈ (ZO w k).qV.take j then⟨true,(ZO w k).ZX,(sp w q).age⟩ else E w m' q:=by
 have v:=h.mvl c.mem c.two;have v':MvL (YN w k) (ZO w k) (ZO w k).ZX.toNat:= ⟨v.ZX,v.hm,v.len,v.few,v.rng⟩
 intro j
 induction j with
 | zero=>intro _ m' q;rw [if_neg (by simp)];rfl
 | succ j ih=>
   intro hj m' q;have hp:=v'.Ui (i:=j) (by omega);have hi:=XG (YN w k) (ZO w k) j;have wi:=Zro h c (i:=j) (q:=Ui (ZO w k) j) (by omega) hp.1;show E (setW (Xl (YN w k) (ZO w k) j) (ZO w k).ZX.toNat (Ui (ZO w k) j) ⟨true,(ZO w k).ZX,(ZO w k).Yc.getD j 0⟩) m' q=_;rw [ZoD (Za0 (h.shr.Ko.YN k) v' j) (by rw [hi.2.2.2.2.2];exact v'.hm) (by rw [hi.1];exact hp.2),ih (by omega)];by_cases e:m'= (ZO w k).ZX.toNat∧q=Ui (ZO w k) j
   ·rw [if_pos e,if_pos ⟨e.1,(QD (by omega)).2 (.inr (by rw [e.2,← hp.1,YX (by omega)]))⟩,e.2,wi.2.1]
   ·rw [if_neg e];by_cases d:m'= (ZO w k).ZX.toNat∧(q:Int) ∈ (ZO w k).qV.take j
    ·rw [if_pos d,if_pos ⟨d.1,(QD (by omega)).2 (.inl d.2)⟩]
    ·rw [if_neg d,if_neg];rintro⟨d1,d2⟩;rcases(QD (by omega)).1 d2 with z | z
     ·exact d ⟨d1,z⟩
     ·rw [← YX (d:= (0:Int)) (by omega),hp.1] at z;exact e ⟨d1,by omega⟩
def Zaw (w:Zb) (k:Nat):Zb:= (Zav (YN w k) (ZO w k)).1
theorem Zi0 (w:Zb) (k:Nat):(Zaw w k).Zx=w.Zx∧(Zaw w k).qG= (YN w k).qG∧(Zaw w k).said=w.said∧(Zaw w k).qQ= (Xl (YN w k) (ZO w k) (ZO w k).qV.length).qQ∧(Zaw w k).qK.length=w.qK.length∧(Zaw w k).qJ.length=w.qJ.length∧(Zaw w k).qQ.length=w.qQ.length:=by
 have a:=UB (YN w k) (ZO w k) (ZO w k).qV.length;have b:=XG (YN w k) (ZO w k) (ZO w k).qV.length;exact⟨a.1,a.2.1,a.2.2.1,a.2.2.2.1,a.2.2.2.2.1,a.2.2.2.2.2,by rw [show(Zaw w k).qQ=_ from a.2.2.2.1];exact b.2.2.2.2.2⟩
theorem ZlM (h:Wm w) {k:Nat} (c:Car w k) (m' q:Nat):E (Zaw w k) m' q=if m'= (ZO w k).ZX.toNat∧(q:Int) ∈ (ZO w k).qV then⟨true,(ZO w k).ZX,(sp w q).age⟩ else E w m' q:=by
 rw [Zu4 (Zi0 w k).2.2.2.1,ZKR h c _ (Nat.le_refl _),List.take_of_length_le (Nat.le_refl _)]
theorem Zpu (h:Wm w) {k:Nat} (c:Car w k) {q:Nat} (hq:q < w.Zx.length):Y7 (Zaw w k) q=if(q:Int) ∈ (ZO w k).qV then [⟨(ZO w k).ZX,true,(sp w q).age⟩] else Y7 w q:=by
 have v:=h.mvl c.mem c.two;have i:=Zi0 w k;unfold Y7;rw [i.2.1,i.2.2.2.2.2.2,ZfR];by_cases d:(q:Int) ∈ (ZO w k).qV
 ·have b:=Zdb h c d;rw [if_pos d,b.2.2.2.1,b.2.2.2.2];have e1:E (Zaw w k) (ZO w k).ZX.toNat q= ⟨true,(ZO w k).ZX,(sp w q).age⟩:=by rw [ZlM h c,if_pos ⟨rfl,d⟩]
  have:=ZvW (w:=Zaw w k) (p:=q) (m:= (ZO w k).ZX.toNat) (by rw [e1]) (k:=w.qQ.length) v.hm fun m' hm' hne=>by
   rw [ZlM h c,if_neg fun z=>hne z.1];exact ZpW b.2.2.1 m' hm'
  rw [this,e1,← v.ZX];rfl
 ·rw [if_neg d,ZcK (w:=w) fun m' _=>by rw [ZlM h c,if_neg fun z=>d z.2]];congr 1;rw [KH c.hk,Zly d,List.append_nil]
theorem ZmM (h:Wm w) {k:Nat} (c:Car w k) {q:Nat} (hq:q < w.Zx.length):sp (Zaw w k) q=if(q:Int) ∈ (ZO w k).qV then⟨(ZO w k).ZX,true,(sp w q).age⟩ else sp w q:=by
 have:=Zpu h c hq;by_cases d:(q:Int) ∈ (ZO w k).qV
 ·rw [if_pos d] at this ⊢;exact Ztu this
 ·rw [if_neg d] at this ⊢;exact Zb8 this
theorem ZC6 (h:Wm w) {k:Nat} (c:Car w k) {q:Nat} (hq:q < w.Zx.length):(sp (Zaw w k) q).machine= (sp w q).machine∧(sp (Zaw w k) q).age= (sp w q).age:=by
 rw [ZmM h c hq];by_cases d:(q:Int) ∈ (ZO w k).qV
 ·rw [if_pos d,(Zdb h c d).2.1];exact⟨rfl,rfl⟩
 ·rw [if_neg d];exact⟨rfl,rfl⟩
theorem ZHO (h:Wm w) {k:Nat} (c:Car w k):Mv w (Zaw w k):=by
 have i:=Zi0 w k;have v:=h.mvl c.mem c.two;refine Mv.of (by rw [i.1]) i.2.2.2.2.2.2 (fun m q hq=>?_) fun q hq=>.inl (ZC6 h c hq)
 rw [ZlM h c];by_cases e:m= (ZO w k).ZX.toNat∧(q:Int) ∈ (ZO w k).qV
 ·rw [if_pos e,e.1];have b:=Zdb h c e.2;exact(h.ent _ v.hm q hq (ZpW b.2.2.1 _ v.hm)).2.1
 ·rw [if_neg e];exact Int.le_refl _
theorem Zsa (u:Zb) (x:Zg) (s:Wi u) (v:MvL u x x.ZX.toNat):∀ j,j <=x.qV.length ->∀ m',∀ y ∈ ZG (Yp u x j).1 m',y ∈ ZG u m'∧(m'=x.ZX.toNat ->y.place ∉ x.qV.take j):=by
 intro j
 induction j with
 | zero=>
   intro _ m' y hy;refine⟨?_,fun _=>by simp⟩;have:ZG (Yp u x 0).1 m'=ZG u m':=by unfold ZG;rw [show(Yp u x 0).1.qJ=u.qJ from(XG u x _).2.2.1]
   rw [← this];exact hy
 | succ j ih=>
   intro hj m' y hy;have hs:=U8 s v j;have li:=UB u x j;have ci:=XG u x x.qV.length;have hp:=v.Ui (i:=j) (by omega);have hy':y ∈ ZG (Kt (Yp u x j).1 x.ZX.toNat (Ui x j)) m':=hy;rw [ZcL hs (by rw [li.2.2.2.1,ci.2.2.2.2.2];exact v.hm)] at hy';by_cases e:m'=x.ZX.toNat
   ·rw [if_pos e] at hy';have⟨h1,h2⟩:=List.mem_filter.1 hy';have:=ih (by omega) _ y h1;rw [e];refine⟨this.1,fun _ z=>?_⟩;rcases(QD (by omega)).1 z with a | a
    ·exact this.2 rfl a
    ·rw [← YX (d:= (0:Int)) (by omega),hp.1] at a;unfold JQ at h2;rw [a] at h2;simp at h2
   ·rw [if_neg e] at hy';have:=ih (by omega) _ y hy';exact⟨this.1,fun z=>absurd z e⟩
theorem Zyz (h:Wm w) {k:Nat} (c:Car w k) {m':Nat} {y:Zr} (hy:y ∈ ZG (Zaw w k) m'):y ∈ ZG w m'∧(m'= (ZO w k).ZX.toNat ->y.place ∉ (ZO w k).qV):=by
 have v:=h.mvl c.mem c.two;have:=Zsa (YN w k) (ZO w k) (h.shr.Ko.YN k) ⟨v.ZX,v.hm,v.len,v.few,v.rng⟩ (ZO w k).qV.length (Nat.le_refl _) m' y hy;rw [List.take_of_length_le (Nat.le_refl _)] at this;exact this
theorem ZHM (h:Wm w) {k:Nat} (c:Car w k):Wm (Zaw w k):=by
 have v:=ZHO h c;have vl:=h.mvl c.mem c.two;have i:=Zi0 w k;have S:=h.shr.Ko;have el:=i.2.2.2.2.2.2;have hx2:= (h.shr.Xm _ c.mem)
 have hs:=U8 (S.YN k) (x:=ZO w k) (m:= (ZO w k).ZX.toNat) ⟨vl.ZX,vl.hm,vl.len,vl.few,vl.rng⟩ (ZO w k).qV.length;have hw:∀ x,x ∈ (Zaw w k).qG ->x ∈ w.qG:=fun x hx=>by rw [i.2.1] at hx;exact ZgN hx
 refine⟨⟨hs,h.shr.inn.eq i.1,by rw [i.2.2.1];exact h.shr.sd1,by rw [i.2.2.1];exact h.shr.sd2,fun m hm q hq=>?_,fun x hx=>v.Xm (h.shr.Xm x (hw x hx))⟩,fun q hq=>?_,fun q hq hz=>?_,fun m hm q hq hh=>?_,fun m hm y hy=>?_,fun x hx hk=>v.ZV (h.mai x (hw x hx) hk),fun x hx hk=>?_⟩
 ·rw [el] at hm;rw [i.1] at hq;unfold Zew;rw [ZlM h c,el];by_cases e:m= (ZO w k).ZX.toNat∧(q:Int) ∈ (ZO w k).qV
  ·rw [if_pos e];obtain⟨j,hj,ej⟩:=ZtV e.2;have b:=Zro h c hj ej;have p:=hx2.Ui j hj;unfold Zab at p;rw [b.2.1];exact⟨by dsimp only;omega,by dsimp only;omega,hx2.to1,hx2.to2,⟨fun _=>by rw [e.1];exact vl.ZX,fun _=>rfl⟩⟩
  ·rw [if_neg e];exact h.shr.ent m hm q hq
 ·rw [i.1] at hq;rw [Zpu h c hq];by_cases d:(q:Int) ∈ (ZO w k).qV
  ·rw [if_pos d];rfl
  ·rw [if_neg d];exact h.loc q hq
 ·rw [i.1] at hq;rw [ZmQ i.1] at hz ⊢;obtain⟨r,er,hr⟩:=JP (h.shr.inn.rng q hq) (by omega);have tg:=h.tog q hq hz;rw [er,Int.toNat_natCast] at tg ⊢;rw [ZmM h c hq,ZmM h c hr]
  have iff:(q:Int) ∈ (ZO w k).qV↔(r:Int) ∈ (ZO w k).qV:=by
   have key:(sp w q).here=false ->∃ j,j < w.qG.length∧(q:Int) ∈ (ZO w j).qV∧(r:Int) ∈ (ZO w j).qV:=fun z=>by
    obtain⟨y,hy,_,a,b⟩:=tg.2.2 z;obtain⟨j,hj,e⟩:=List.getElem_of_mem hy;have e':ZO w j=y:= (YX hj).trans e;exact⟨j,hj,by rw [e'];exact a,by rw [e'];exact b⟩
   constructor
   ·intro z;obtain⟨j,hj,a,b⟩:=key (by rw [(Zdb h c z).2.1]);rw [ZiQ h c.hk hj hq z a];exact b
   ·intro z;obtain⟨j,hj,a,b⟩:=key (by rw [← tg.2.1,(Zdb h c z).2.1]);rw [ZiQ h c.hk hj hr z b];exact a
  by_cases d:(q:Int) ∈ (ZO w k).qV
  ·rw [if_pos d,if_pos (iff.1 d)];exact⟨rfl,rfl,fun z=>by cases z⟩
  ·rw [if_neg d,if_neg fun z=>d (iff.2 z)];refine⟨tg.1,tg.2.1,fun z=>?_⟩;obtain⟨x,hx,kk,a,b⟩:=tg.2.2 z;refine⟨x,?_,kk,a,b⟩;rw [i.2.1];rw [Zba c.hk] at hx;rcases List.mem_append.1 hx with y | y
   ·exact List.mem_append.2 (.inl y)
   ·rcases List.mem_cons.1 y with y | y
    ·rw [y] at a;exact absurd a d
    ·exact List.mem_append.2 (.inr y)
 ·rw [el] at hm;rw [i.1] at hq;rw [ZlM h c] at hh ⊢;by_cases e:m= (ZO w k).ZX.toNat∧(q:Int) ∈ (ZO w k).qV
  ·rw [if_pos e] at hh;cases hh
  ·rw [if_neg e] at hh ⊢;exact v.rt q hq _ _ (h.ent m hm q hq hh)
 ·rw [el] at hm;have a:=Zyz h c hy;have b:=h.hel m hm y a.1;have hp1:=b.1.1;have hp2:=b.1.2.1;obtain⟨q,eq⟩:∃ q:Nat,y.place= (q:Int):= ⟨y.place.toNat,by omega⟩
  have b2:=b.2;rw [eq,Int.toNat_natCast] at b2 ⊢
  have d:(q:Int) ∉ (ZO w k).qV:=fun z=>by
   have e:= (Zdb h c z).2.1;rw [b2] at e;injection e with e1 _ _
   exact a.2 (by omega) (by rw [eq];exact z)
  rw [ZmM h c (by omega),if_neg d];exact⟨v.ZV b.1,b2⟩
 ·have hn:= (h.shr.Xm x (hw x hx)).ntd hk;exact v.rt _ (by omega) _ _ (h.ntd x (hw x hx) hk)
theorem ZIr {u:Zb} (s:Wi u) {m p:Nat} (hm:m < u.qQ.length) (hp:p < u.Zx.length) (a:Int×Int):(owes (Kt u m p)).count a= (owes u).count a:=by
 have h1:=ZtI u (Kt u m p) (p:=p) (by rw [s.bx];exact hp) (l:= ((ZG u m).filter (JQ p)).map fun y=>y.msg) rfl a;have h2:=ZtH u (Kt u m p) (m:=m) (by rw [s.hd];exact hm) (l:= (ZG u m).filter fun y=>!JQ p y) rfl a
 have h3:((ZG u m).map fun y=>(y.msg,y.place)).count a= (((ZG u m).filter (JQ p)).map fun y=>(y.msg,(p:Int))).count a + (((ZG u m).filter fun y=>!JQ p y).map fun y=>(y.msg,y.place)).count a:=by
  generalize ZG u m=l
  induction l with
  | nil=>rfl
  | cons y l ih=>
    cases e:JQ p y with
    | true=>
      have e':y.place= (p:Int):=by unfold JQ at e;simpa using e
      rw [List.filter_cons_of_pos (by simp [e]),List.filter_cons_of_neg (by simp [e]),List.map_cons,List.map_cons,List.count_cons,List.count_cons,ih,e'];omega
    | false=>rw [List.filter_cons_of_neg (by simp [e]),List.filter_cons_of_pos (by simp [e]),List.map_cons,List.map_cons,List.count_cons,List.count_cons,ih];omega
 rw [List.map_map] at h1;have h1':(owB (Kt u m p)).count a= (owB u).count a + (((ZG u m).filter (JQ p)).map fun y=>(y.msg,(p:Int))).count a:=h1;unfold owes;rw [List.count_append,List.count_append,List.count_append,List.count_append];show _ + _ + (owL u.qG).count a=_;omega
theorem ZyI {u:Zb} (s:Wi u) {x:Zg} (v:MvL u x x.ZX.toNat) (a:Int×Int):∀ j,j <=x.qV.length ->(owes (Yp u x j).1).count a= (owes u).count a:=by
 intro j
 induction j with
 | zero=>
   intro _;have ci:=XG u x x.qV.length
   have e:owes (Yp u x 0).1=owes u:=by
    show owes (Xl u x x.qV.length)=_;unfold owes owB owH X6 ZG;rw [ci.2.1,ci.2.2.1,ci.2.2.2.1]
   rw [e]
 | succ j ih=>
   intro hj;have hs:=U8 s v j;have li:=UB u x j;have ci:=XG u x x.qV.length;have hp:=v.Ui (i:=j) (by omega);show(owes (Kt (Yp u x j).1 x.ZX.toNat (Ui x j))).count a=_;rw [ZIr hs (by rw [li.2.2.2.1,ci.2.2.2.2.2];exact v.hm) (by rw [li.1];exact hp.2),ih (by omega)]
theorem ZlJ {k:Nat} (hk:k < w.qG.length) (a:Int×Int):(owes (YN w k)).count a + (owL [ZO w k]).count a= (owes w).count a:=by
 unfold owes;rw [ZvD hk];show List.count a (owB w ++ owH w ++ owL (w.qG.take k ++ w.qG.drop (k + 1))) + _=_;rw [Zdh];simp only [List.count_append];omega
theorem ZHN (h:Wm w) {k:Nat} (c:Car w k) (a:Int×Int):(owes (Zaw w k)).count a= (owes w).count a:=by
 have v:=h.mvl c.mem c.two;have e:=ZyI (h.shr.Ko.YN k) (x:=ZO w k) ⟨v.ZX,v.hm,v.len,v.few,v.rng⟩ a (ZO w k).qV.length (Nat.le_refl _);have d:=ZlJ c.hk a;rw [ZeY (by rw [c.two];omega)] at d;show List.count a (owes (Yp (YN w k) (ZO w k) (ZO w k).qV.length).1)=_;rw [e]
 simpa using d
theorem Zt1 {k:Nat} (e:(ZO w k).kind=1):Us w k=QB (YN w k) (ZO w k).ZX.toNat (ZO w k).ZV false:=by unfold Us;rw [if_pos e]
theorem Zt0 {k:Nat} (e:(ZO w k).kind=2):Us w k=Zav (YN w k) (ZO w k):=by unfold Us;rw [if_neg (by omega),if_pos e]
theorem ZtZ {k:Nat} (e:(ZO w k).kind=3):Us w k= (KT (YN w k) (ZO w k),[]):=by unfold Us;rw [if_neg (by omega),if_neg (by omega)]
theorem Ze5 (h:Wm w) {x:Zg} (hx:x ∈ w.qG):x.kind=1∨x.kind=2∨x.kind=3:=by
 rcases(h.shr.Xm x hx).Xi with⟨q,_⟩ | ⟨q,_⟩ | ⟨q,_⟩
 ·exact .inl q
 ·exact .inr (.inl q)
 ·exact .inr (.inr q)
theorem ZuU {k:Nat} (hk:k < w.qG.length) (h2:(ZO w k).kind ≠ 2) (p:Nat):Y7 (YN w k) p=Y7 w p:=
 Zi5 rfl (by rw [KH hk,Zmk h2,ZfR,List.append_nil])
theorem ZpE (h:Wm w) {k:Nat} (hk:k < w.qG.length) (e:(ZO w k).kind=1):Rtd (YN w k) (ZO w k).ZX.toNat (ZO w k).ZV false:=by
 have hx:ZO w k ∈ w.qG:=YL hk;have hl:=h.shr.Xm _ hx;have hm:=h.mai _ hx e;have v:Mv w (YN w k):=Mv.same rfl rfl fun p _=>ZuU hk (by omega) p
 have t1:=hl.to1;have t2:=hl.to2;refine⟨by show(ZO w k).ZX.toNat < w.qQ.length;omega,⟨hm.1,hm.2.1⟩,⟨hm.2.2.1,hm.2.2.2.1⟩,fun _=>?_,fun z=>by cases z⟩;rw [Int.toNat_of_nonneg t1];exact v.ZV hm
theorem Zyb (h:Wm w) {k:Nat} (hk:k < w.qG.length) (e:(ZO w k).kind=3):Wm (KT (YN w k) (ZO w k)):=by
 have hx:ZO w k ∈ w.qG:=YL hk;have hl:=h.shr.Xm _ hx;have hd:=Zod h hk (by omega);have v:Mv w (YN w k):=Mv.same rfl rfl fun p _=>ZuU hk (by omega) p
 have t1:=hl.to1;have t2:=hl.to2;have hn:=hl.ntd e;unfold KT;split
 ·rename_i c;refine ZC5 hd (by show _ < w.qQ.length;omega) (by show _ < w.Zx.length;omega) c.1 c.2 (v.rt _ (by omega) _ _ (h.ntd _ hx e)) ?_;rw [Int.toNat_of_nonneg t1];exact hn.2.2
 ·exact hd
theorem ZDc (h:Wm w) {k:Nat} (hk:k < w.qG.length):Wm (Us w k).1:=by
 rcases Ze5 h (x:=ZO w k) (YL hk) with e | e | e
 ·rw [Zt1 e];exact Zpc (Zod h hk (by omega)) (ZpE h hk e)
 ·rw [Zt0 e];exact ZHM h ⟨hk,e⟩
 ·rw [ZtZ e];exact Zyb h hk e
theorem ZiR (u:Zb) (x:Zg):(KT u x).Zx=u.Zx∧(KT u x).qK=u.qK∧(KT u x).qJ=u.qJ∧(KT u x).qG=u.qG∧(KT u x).said=u.said∧(KT u x).qQ.length=u.qQ.length:=by
 unfold KT;split
 ·exact⟨rfl,rfl,rfl,rfl,rfl,ZeQ _ _ _ _⟩
 ·exact⟨rfl,rfl,rfl,rfl,rfl,rfl⟩
theorem ZrJ {u u':Zb} (h1:u'.qK=u.qK) (h2:u'.qJ=u.qJ) (h3:u'.qG=u.qG):owes u'=owes u:=by
 unfold owes owB owH X6 ZG;rw [h1,h2,h3]
theorem ZDd (h:Wm w) {k:Nat} (hk:k < w.qG.length) (a:Int×Int):(owes (Us w k).1).count a= (owes w).count a:=by
 have d:=ZlJ hk a;rcases Ze5 h (x:=ZO w k) (YL hk) with e | e | e
 ·rw [Zt1 e,Zpd (Zod h hk (by omega)) (ZpE h hk e)];rw [Zps e] at d;exact d
 ·rw [Zt0 e];exact ZHN h ⟨hk,e⟩ a
 ·rw [ZtZ e];have n:=ZiR (YN w k) (ZO w k);rw [ZeY (by omega)] at d;show(owes (KT (YN w k) (ZO w k))).count a=_;rw [ZrJ n.2.1 n.2.2.1 n.2.2.2.1];simpa using d
theorem Zhb (u:Zb) (m:Nat) (x:Zr) (now:Bool):(QB u m x now).1.Zx=u.Zx∧(QB u m x now).1.qQ=u.qQ∧(QB u m x now).1.said=u.said∧(QB u m x now).1.qG.length <=u.qG.length + 2∧(now=true ->(QB u m x now).1.qG.length <=u.qG.length + 1):=by
 unfold QB;split
 ·exact⟨rfl,rfl,rfl,by dsimp only;omega,fun _=>by dsimp only;omega⟩
 ·split
  ·exact⟨rfl,rfl,rfl,by dsimp only;omega,fun _=>by dsimp only;omega⟩
  ·refine⟨rfl,rfl,rfl,?_,fun e=>?_⟩
   ·show(u.qG ++ _::told _ _ _ _).length <=_;rw [List.length_append,List.length_cons];unfold told;split <;> simp
   ·show(u.qG ++ _::told _ _ _ _).length <=_;rw [List.length_append,List.length_cons];unfold told;rw [e,if_neg (by simp)];simp
theorem ZvO (h:Wm w) {k:Nat} (hk:k < w.qG.length):(Us w k).1.Zx=w.Zx∧(Us w k).1.qQ.length=w.qQ.length∧(Us w k).1.said=w.said∧(Us w k).1.qG.length <=w.qG.length + 1:=by
 have dl:=ZgO w hk;rcases Ze5 h (x:=ZO w k) (YL hk) with e | e | e
 ·rw [Zt1 e];have r:=Zhb (YN w k) (ZO w k).ZX.toNat (ZO w k).ZV false;exact⟨r.1,by rw [r.2.1];rfl,r.2.2.1,by omega⟩
 ·rw [Zt0 e];have r:=Zi0 w k;exact⟨r.1,r.2.2.2.2.2.2,r.2.2.1,by show(Zaw w k).qG.length <=_;rw [r.2.1];omega⟩
 ·rw [ZtZ e];have r:=ZiR (YN w k) (ZO w k);exact⟨r.1,r.2.2.2.2.2,r.2.2.2.2.1,by show(KT _ _).qG.length <=_;rw [r.2.2.2.1];omega⟩
structure May (w:Zb) (s:ZH):Prop where
 ask:Ask w s
 lim:lim w s=false
 alw:Alw w s
theorem ZC8 {s:ZH}:May w s↔Ask w s∧ZdF w s=0:=by
 rw [ZKG];exact⟨fun a=>⟨a.ask,a.lim,a.alw⟩,fun a=>⟨a.1,a.2.1,a.2.2⟩⟩
theorem Zty (h:Wm w) {s:ZH} (ha:J7 s.a w.qQ.length) (hb:J7 s.b w.Zx.length):Rtd (ZeR w) s.a.toNat (ZrE w s) true:=
 ⟨by obtain⟨x,y⟩:=ha;show s.a.toNat < w.qQ.length;omega,hb,ha,fun z=>(by cases z),fun _=>⟨rfl,rfl⟩⟩
theorem May.trv {s:ZH} (m:May w s) (c:s.act=2):Trv w s.a.toNat s.b:=by
 have hin:J7 s.a w.Zx.length∧J7 s.b w.qQ.length:=by
  rcases m.ask with q | q | q | q | q
  ·omega
  ·exact q.2
  ·omega
  ·omega
  ·omega
 have hA:=m.alw.1 c;obtain⟨⟨a1,a2⟩,hb⟩:=hin;refine⟨by omega,hA.1,hA.2,hb,fun q hq=>?_⟩;have hl:=m.lim;unfold Proofs.YtbmbbcaaimehkaaGreat.lim at hl;rw [if_neg (by omega),if_pos c] at hl;have:=List.any_eq_false.1 hl (q:Int) hq;unfold old at this;rw [Int.toNat_natCast,decide_eq_true_eq] at this;omega
theorem May.ent {s:ZH} (m:May w s) (c:s.act=3):∃ p q:Nat,s.a= (p:Int)∧s.b= (q:Int)∧p < w.Zx.length∧q < w.Zx.length∧(q:Int) ∉ Yf w p∧inn w (p:Int)=-1∧(sp w p).here=true∧(sp w q).here=true∧(sp w p).machine= (sp w q).machine:=by
 have hin:J7 s.a w.Zx.length∧J7 s.b w.Zx.length:=by
  rcases m.ask with q | q | q | q | q
  ·omega
  ·omega
  ·exact q.2
  ·omega
  ·omega
 obtain⟨p,ep,hp⟩:=hin.1.nat;obtain⟨q,eq,hq⟩:=hin.2.nat;have hA:=m.alw.2.1 c;rw [ep,eq,Int.toNat_natCast,Int.toNat_natCast] at hA;exact⟨p,q,ep,eq,hp,hq,hA.1,hA.2.1,hA.2.2.1,hA.2.2.2.1,hA.2.2.2.2⟩
theorem May.lev {s:ZH} (m:May w s) (c:s.act=4):∃ p:Nat,s.a= (p:Int)∧p < w.Zx.length∧(sp w p).here=true∧inn w (p:Int) ≠ -1:=by
 have hin:J7 s.a w.Zx.length:=by
  rcases m.ask with q | q | q | q | q
  ·omega
  ·omega
  ·omega
  ·exact q.2
  ·omega
 obtain⟨p,ep,hp⟩:=hin.nat;have hA:=m.alw.2.2 c;rw [ep,Int.toNat_natCast] at hA;exact⟨p,ep,hp,hA⟩
theorem May.lnd {s:ZH} (m:May w s) (c:s.act=5):s.a.toNat < w.qG.length:=by
 rcases m.ask with q | q | q | q | q
 ·omega
 ·omega
 ·omega
 ·omega
 ·obtain⟨_,a,b⟩:=q;omega
theorem May.say {s:ZH} (m:May w s) (c:s.act=1):J7 s.a w.qQ.length∧J7 s.b w.Zx.length:=by
 rcases m.ask with q | q | q | q | q
 ·exact q.2
 ·omega
 ·omega
 ·omega
 ·omega
theorem May.act {s:ZH} (m:May w s):s.act=1∨s.act=2∨s.act=3∨s.act=4∨s.act=5:=by
 rcases m.ask with q | q | q | q | q
 ·exact .inl q.1
 ·exact .inr (.inl q.1)
 ·exact .inr (.inr (.inl q.1))
 ·exact .inr (.inr (.inr (.inl q.1)))
 ·exact .inr (.inr (.inr (.inr q.1)))
theorem do1 {s:ZH} (c:s.act=1):doW w s=QB (ZeR w) s.a.toNat (ZrE w s) true:=by unfold doW;rw [if_pos c]
theorem do2 {s:ZH} (c:s.act=2):doW w s=UU w s.a.toNat s.b:=by unfold doW;rw [if_neg (by omega),if_pos c]
theorem do3 {s:ZH} (c:s.act=3):doW w s= (Zaf w s.a s.b,[]):=by unfold doW;rw [if_neg (by omega),if_neg (by omega),if_pos c]
theorem do4 {s:ZH} (c:s.act=4):doW w s= (Zaf w s.a (-1),[]):=by unfold doW;rw [if_neg (by omega),if_neg (by omega),if_neg (by omega),if_pos c]
theorem do5 {s:ZH} (c:s.act=5):doW w s=Us w s.a.toNat:=by unfold doW;rw [if_neg (by omega),if_neg (by omega),if_neg (by omega),if_neg (by omega)]
theorem ZQp (h:Wm w) {s:ZH} (m:May w s):Wm (doW w s).1:=by
 rcases m.act with c | c | c | c | c
 ·rw [do1 c];have:=m.say c;exact Zpc (ZtA h (Ze4 c m.lim)) (Zty h this.1 this.2)
 ·rw [do2 c];exact ZCK h (m.trv c)
 ·rw [do3 c];obtain⟨p,q,ep,eq,hp,hq,hn,hi,h1,h2,h3⟩:=m.ent c;rw [ep,eq];refine ZxR h hp (ZCe h.shr.inn hp hq fun z=>hn ((ZaD h.shr.inn).2 ⟨hq,z⟩)) fun _=>?_
  rw [Int.toNat_natCast];exact⟨h3.symm,h2,h1⟩
 ·rw [do4 c];obtain⟨p,ep,hp,h1,h2⟩:=m.lev c;rw [ep];exact ZxR h hp (ZfG h.shr.inn hp) fun z=>absurd z (by omega)
 ·rw [do5 c];exact ZDc h (m.lnd c)
def Zyw (w:Zb) (s:ZH):List (Int×Int):=if s.act=1 then [(w.said,s.b)] else []
theorem ZQr (h:Wm w) {s:ZH} (m:May w s):(owes (doW w s).1).Perm (owes w ++ Zyw w s):=by
 refine List.perm_iff_count.2 fun a=>?_
 rw [List.count_append];unfold Zyw;rcases m.act with c | c | c | c | c
 ·have:=m.say c;rw [do1 c,if_pos c,Zpd (ZtA h (Ze4 c m.lim)) (Zty h this.1 this.2)];rfl
 ·rw [do2 c,if_neg (by omega),ZCL];rfl
 ·rw [do3 c,if_neg (by omega)];rfl
 ·rw [do4 c,if_neg (by omega)];rfl
 ·rw [do5 c,if_neg (by omega),ZDd h (m.lnd c)];rfl
theorem ZuV (h:Wm w) {s:ZH} (m:May w s):(doW w s).1.Zx.length=w.Zx.length∧(doW w s).1.qQ.length=w.qQ.length∧(doW w s).1.said=w.said + (if s.act=1 then 1 else 0)∧(doW w s).1.qG.length <=w.qG.length + 1:=by
 rcases m.act with c | c | c | c | c
 ·rw [do1 c,if_pos c];have r:=Zhb (ZeR w) s.a.toNat (ZrE w s) true;exact⟨by rw [r.1];rfl,by rw [r.2.1];rfl,by rw [r.2.2.1];rfl,r.2.2.2.2 rfl⟩
 ·rw [do2 c,if_neg (by omega)];exact⟨Ziy _ _ _,ZeO _ _ _,by rw [Int.add_zero];rfl,by rw [Zdc,List.length_append];exact Nat.le_refl _⟩
 ·rw [do3 c,if_neg (by omega)];exact⟨ZeT _ _,rfl,by rw [Int.add_zero];rfl,Nat.le_succ _⟩
 ·rw [do4 c,if_neg (by omega)];exact⟨ZeT _ _,rfl,by rw [Int.add_zero];rfl,Nat.le_succ _⟩
 ·rw [do5 c,if_neg (by omega)];have r:=ZvO h (m.lnd c);exact⟨by rw [r.1],r.2.1,by rw [r.2.2.1,Int.add_zero],r.2.2.2⟩
theorem Zpk (n:Nat):XC (n + 1)=XC n ++ [(n:Int)]:=by
 unfold XC;rw [List.range_succ,List.map_append];rfl
theorem ZQq (h:Wd w) {s:ZH} (m:May w s):Wd (doW w s).1:=by
 refine(ZQp h.wm m).wd ?_;have e:= (ZQr h.wm m).map Prod.fst;rw [Zpr,List.map_append,Zpr] at e;refine e.trans ?_;rw [(ZuV h.wm m).2.2.1];unfold Zyw;have h0:=h.shr.sd1;by_cases c:s.act=1
 ·rw [if_pos c,if_pos c,show(w.said + 1).toNat=w.said.toNat + 1 by omega,Zpk,Int.toNat_of_nonneg h0];exact h.msg.append_right _
 ·rw [if_neg c,if_neg c,Int.add_zero]
  simpa using h.msg
theorem Zi7 {α:Type} {L:List (List α)} {l:List α} (h:l ∈ L):l.length <=L.flatten.length:=by
 induction L with
 | nil=>cases h
 | cons x L ih=>
   rw [List.flatten_cons,List.length_append];rcases List.mem_cons.1 h with e | e
   ·rw [e];omega
   ·have:=ih e;omega
theorem Zw8 (h:Wd w) {n:Nat} (hn:41 <=n) (hw:w.qG.length < n):UQ n w:=by
 have S:=h.shr.Ko;have hm:=h.msg.length_eq;rw [Jb] at hm;have hs:=h.shr.sd2;unfold msgs at hm;rw [List.length_append,List.length_append] at hm;have h8:=S.p2;have h5:=S.m2;have hb:=S.bx;have hd:=S.hd;refine⟨by omega,by omega,by omega,by omega,hw,fun l hl=>?_,fun l hl=>?_,fun l hl=>?_,fun x hx=>?_⟩
 ·have:=Zi7 hl;omega
 ·have:=S.rw_ l hl;omega
 ·have:l.length <= (QW w.qJ).length:=by
   have:=Zi7 (L:=w.qJ.map fun x=>x.map fun y=>y.msg) (List.mem_map.2 ⟨l,hl,rfl⟩);rw [List.length_map] at this;exact this
  omega
 ·rcases Ze5 h.wm hx with e | e | e
  ·have:= (h.shr.Xm x hx).Xi;rcases this with⟨q,_,_,_,a,b⟩ | ⟨q,_⟩ | ⟨q,_⟩
   ·rw [a,b];simp;omega
   ·omega
   ·omega
  ·have:=h.mvl hx e;have a:=this.len;have b:=this.few;omega
  ·have:= (h.shr.Xm x hx).Xi;rcases this with⟨q,_⟩ | ⟨q,_⟩ | ⟨q,_,a,b⟩
   ·omega
   ·omega
   ·rw [a,b];simp;omega
end
end Go.Proofs.YtbmbbcaaimehkaaGreat
end
section
namespace Go.Proofs.YtbmbbcaaimehkaaGreat
open Go.Lf
theorem Zsu {α:Type} (f:α ->Bool) (l:List α):(l.filter f).length + (l.filter fun x=>!f x).length=l.length:=by
 induction l with
 | nil=>rfl
 | cons x l ih=>
   cases e:f x with
   | true=>rw [List.filter_cons_of_pos (by simp [e]),List.filter_cons_of_neg (by simp [e]),List.length_cons,List.length_cons];omega
   | false=>rw [List.filter_cons_of_neg (by simp [e]),List.filter_cons_of_pos (by simp [e]),List.length_cons,List.length_cons];omega
theorem ZvQ {u:Zb} (s:Wi u) {x:Zg} (v:MvL u x x.ZX.toNat):∀ j,j <=x.qV.length ->(Yp u x j).2.length + (ZG (Yp u x j).1 x.ZX.toNat).length=j + (ZG u x.ZX.toNat).length:=by
 intro j
 induction j with
 | zero=>
   intro _;have:ZG (Yp u x 0).1 x.ZX.toNat=ZG u x.ZX.toNat:=by unfold ZG;rw [show(Yp u x 0).1.qJ=u.qJ from(XG u x _).2.2.1]
   rw [this];rfl
 | succ j ih=>
   intro hj;have hs:=U8 s v j;have li:=UB u x j;have ci:=XG u x x.qV.length;have ih:=ih (by omega)
   have e:ZG (Yp u x (j + 1)).1 x.ZX.toNat= (ZG (Yp u x j).1 x.ZX.toNat).filter fun y=>!JQ (Ui x j) y:=by
    show ZG (Kt (Yp u x j).1 x.ZX.toNat (Ui x j)) x.ZX.toNat=_;rw [ZcL hs (by rw [li.2.2.2.1,ci.2.2.2.2.2];exact v.hm),if_pos rfl]
   have t:=Zsu (JQ (Ui x j)) (ZG (Yp u x j).1 x.ZX.toNat);rw [e];show((Yp u x j).2 ++ Zjd (Yp u x j).1 x.ZX.toNat (Ui x j)).length + _=_;unfold Zjd;rw [List.length_append,List.length_cons,List.length_map];omega
section
variable {F:Nat} {w:Zb}
theorem ZDT (h:Wd w) (m:Nat):(ZG w m).length <=40:=by
 by_cases hm:m < w.qJ.length
 ·have:=h.msg.length_eq;rw [Jb] at this;have hs:=h.shr.sd2;unfold msgs at this;rw [List.length_append,List.length_append] at this;have t:=Zi7 (L:=w.qJ.map fun x=>x.map fun y=>y.msg) (List.mem_map.2 ⟨ZG w m,YL hm,rfl⟩);rw [List.length_map] at t;have t':(ZG w m).length <= (QW w.qJ).length:=t;omega
 ·unfold ZG;rw [List.getD_eq_getElem?_getD,List.getElem?_eq_none (by omega)];simp
theorem ZyH (h:Wd w) {k:Nat} (hk:k < w.qG.length):(Us w k).2.length <=48:=by
 rcases Ze5 h.wm (x:=ZO w k) (YL hk) with e | e | e
 ·rw [Zt1 e];unfold QB;split
  ·exact(by decide:1 <=48)
  ·split <;> exact(by decide:0 <=48)
 ·rw [Zt0 e];have v:=h.mvl (YL hk) e;have t:=ZvQ (h.shr.Ko.YN k) (x:=ZO w k) ⟨v.ZX,v.hm,v.len,v.few,v.rng⟩ (ZO w k).qV.length (Nat.le_refl _);have f:(ZO w k).qV.length <=8:=v.few;have l:=ZDT h (ZO w k).ZX.toNat;have t':(Zav (YN w k) (ZO w k)).2.length + (ZG (Zav (YN w k) (ZO w k)).1 (ZO w k).ZX.toNat).length= (ZO w k).qV.length + (ZG w (ZO w k).ZX.toNat).length:=t;omega
 ·rw [ZtZ e];exact(by decide:0 <=48)
theorem ZKQ (h:Wd w) {s:ZH} (m:May w s):(doW w s).2.length <=48:=by
 rcases m.act with c | c | c | c | c
 ·rw [do1 c];unfold QB;split
  ·exact(by decide:1 <=48)
  ·split <;> exact(by decide:0 <=48)
 ·rw [do2 c];have h8:=h.shr.Ko.p2;have:=U3 w s.a.toNat w.Zx.length;show((Yf w s.a.toNat).map _).length <=48;rw [List.length_map];have:(Yf w s.a.toNat).length <=w.Zx.length:=this;omega
 ·rw [do3 c];exact(by decide:0 <=48)
 ·rw [do4 c];exact(by decide:0 <=48)
 ·rw [do5 c];exact ZyH h (m.lnd c)
theorem ZEB (hF:400000 <=F) (hM:F <=1000000) (h:Wd w) (sm:UQ 400 w) {s:ZH} (ha:Ask w s):
 ZsF F w s=some (if ZdF w s=0 then((doW w s).1,(doW w s).2,0) else(ZgL,[],ZdF w s)):=by
 have sm':=sm.mono (show 400 <=900 by omega);unfold ZsF;rw [ZqA hF hM sm h];simp only [Bq0];rw [ZqJ,decide_eq_true ha,XZ];simp only [Bool.not_false,Yu,Bq0,Bool.not_true,Bool.or_self,Cq0];rw [Zpf (by omega) hM h sm' ha];simp only [Bq0];by_cases e:ZdF w s=0
 ·have l:=ZKG.1 e;rw [e,XZ,Cq0,if_pos rfl,Zwn (by omega) sm'];simp only [Bq0];rw [Zwl (by omega) hM h sm' ha l.1 l.2 (by simp)]
  rfl
 ·rw [if_neg e,Qy,decide_eq_true e];rfl
theorem ZEC (hF:400000 <=F) (hM:F <=1000000) (sm:UQ 400 w) {s:ZH} (h:¬ (Wd w∧Ask w s)):ZsF F w s=some (ZgL,[],2):=by
 unfold ZsF;by_cases hw:Wd w
 ·rw [ZqA hF hM sm hw];simp only [Bq0];rw [ZqJ,decide_eq_false fun z=>h ⟨hw,z⟩]
  rfl
 ·rw [ZBw hF hM sm hw];rfl
theorem ZiT (hF:400000 <=F) (hM:F <=1000000):Zwg F ZgL=some true:=by
 unfold Zwg;rw [show Zb.mk [] [] [] [] [] 0=ZgL from rfl,ZfZ Zl4 (by omega) hM];rfl
theorem Zls (F:Nat) (hF:400000 <=F) (hM:F <=1000000) (w:Zb) (s:ZH):f4L F w s=some true:=by
 obtain⟨b,eb,ib⟩:=Zxv hF w;unfold f4L;rw [eb];simp only [Bq0];cases b with
 | false=>rfl
 | true=>
 have sm0:=ib rfl;have sm:=sm0.mono (show 201 <=400 by omega);have sm':=sm0.mono (show 201 <=900 by omega);rw [Bool.not_true,Cq0];by_cases hw:Wd w∧Ask w s
 ·obtain⟨h,ha⟩:=hw;rw [ZEB hF hM h sm ha];simp only [Bq0];rw [Zit hF sm h];simp only [Bq0];rw [Bool.not_true,Bool.not_false,Yu,Zu2,decide_eq_true ha];simp only [Bq0];rw [Bool.not_true,Bool.or_self,Cq0,ZKP (by omega) h sm' ha];simp only [Bq0];by_cases e:ZdF w s=0
  ·have m:May w s:=ZC8.2 ⟨ha,e⟩;have hd:=ZQq h m;have hwl:= (ZuV h.wm m).2.2.2;have sm2:UQ 400 (doW w s).1:=Zw8 hd (by omega) (by have:=sm0.qG;omega);have he:=ZKQ h m;rw [if_pos e];dsimp only;rw [beq_self_eq_true,Yu,ZfZ sm2 (by omega) hM];simp only [Bq0,Bool.and_self,Yu];rw [Zhu (by omega) hM];simp only [Bq0,Bool.and_self,Yu,Bool.true_and];rw [XZ,Bool.not_false,Yu,Zit hF sm2 hd]
   rfl
  ·rw [if_neg e];dsimp only;rw [beq_self_eq_true,Yu,ZfZ Zl4 (by omega) hM];simp only [Bq0,Bool.and_self,Yu];rw [Zhu (by simp;omega) hM];simp only [Bq0,Bool.and_self,Yu,Bool.true_and];rw [Qy,decide_eq_true e]
   rfl
 ·rw [ZEC hF hM sm hw];simp only [Bq0];by_cases h:Wd w
  ·rw [Zit hF sm h];simp only [Bq0];rw [Bool.not_true,Bool.not_false,Yu,Zu2,decide_eq_false fun z=>hw ⟨h,z⟩];simp only [Bq0];rw [beq_self_eq_true,Yu,ZiT hF hM];rfl
  ·rw [Zw6 hF sm h];simp only [Bq0];rw [Bool.not_false,Bool.not_true,Xx];simp only [Bq0];rw [beq_self_eq_true,Yu,ZiT hF hM];rfl
end
end Go.Proofs.YtbmbbcaaimehkaaGreat
end
