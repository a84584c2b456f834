/- Part 14. -/
import Derived.Test.YtcnahmgekicbdaaGreatOa13
set_option linter.all false
set_option maxHeartbeats 2000000
section
namespace Go.Proofs.YtcnahmgekicbdaaGreat
open Go.Lf
section
def tab {α:Type} (n:Nat) (f:Nat ->α):List α:= (List.range n).map f
def Yp {α:Type} (f:Nat ->α) (k:Nat) (v:α):Nat ->α:=fun j=>if j=k then v else f j
theorem Zy {α:Type} (f:Nat ->α) (k:Nat) (v:α):Yp f k v k=v:=if_pos rfl
theorem ZT {α:Type} {f:Nat ->α} {k j:Nat} {v:α} (h:j ≠ k):Yp f k v j=f j:=if_neg h
theorem ZrS {α:Type} (f:Nat ->α) (k:Nat) (v w:α):Yp (Yp f k v) k w=Yp f k w:=by funext j;unfold Yp;by_cases h:j=k <;> simp [h]
section
variable {α:Type} {n k:Nat} {f g:Nat ->α} {v:α}
theorem XU:(tab n f).length=n:=by simp [tab]
theorem ZfJ (h:k < n):(tab n f)[k]? =some (f k):=by simp [tab,h]
theorem Yq (h:k < n):ZJ (tab n f) (k:Int)=some (f k):=by rw [Zds,ZfJ h]
theorem Qs:YX (tab n f) (k:Int) v=tab n (Yp f k v):=by
 unfold YX;apply List.ext_getElem?;intro j;rw [Int.toNat_natCast,List.getElem?_set,XU];by_cases hj:j < n
 ·rw [ZfJ hj,ZfJ hj];unfold Yp;by_cases e:k=j
  ·subst e;simp [hj]
  ·rw [if_neg e,if_neg (fun q=>e q.symm)]
 ·rw [List.getElem?_eq_none (by rw [XU];omega),List.getElem?_eq_none (by rw [XU];omega)];by_cases e:k=j
  ·subst e;simp [hj]
  ·rw [if_neg e]
theorem UF (h:∀ k,k < n ->f k=g k):tab n f=tab n g:=by
 unfold tab;exact List.map_congr_left fun k hk=>h k (List.mem_range.1 hk)
theorem Zgb:tab (n + 1) f=tab n f ++ [f n]:=by simp [tab,List.range_succ]
end
theorem Zyb {α:Type} (n:Nat) (x:α):List.replicate n x=tab n fun _=>x:=by
 apply List.ext_getElem?;intro j;by_cases hj:j < n
 ·rw [ZfJ hj,List.getElem?_replicate,if_pos hj]
 ·rw [List.getElem?_eq_none (by simp;omega),List.getElem?_eq_none (by rw [XU];omega)]
structure TS where
 st:Nat ->Int
 ma:Nat ->Nat ->Int
 kn:Nat ->List Int
 wa:Nat ->List Int
 be:Nat ->List Zd
 sn:Nat ->List Zd
 ld:Nat ->Nat
 sd:Int
 ev:List Zp
section
variable (s:Zc)
def nn:Nat:=s.Ze.length
def mm:Nat:=s.qG.toNat
def pl (p:Nat):Nat:= (spt s p).at_.toNat
def li (a b:Nat):Nat:=a * mm s + b
def Kq (σ:TS) (i:Nat):Zl:= ⟨(σ.ld i:Int),(σ.sn i).drop (σ.ld i)⟩
def vw (σ:TS):Zg:= ⟨tab (nn s) σ.st,tab (nn s) fun p=>tab (mm s * mm s) (σ.ma p),tab (nn s) σ.kn,tab (nn s) σ.wa,tab (mm s) σ.be,tab (mm s * mm s) (Kq σ),σ.sd⟩
def hal (σ:TS):ZB:= ⟨vw s σ,s,σ.ev⟩
def tell (d p q n:Int) (σ:TS):TS:= {σ with ev:=σ.ev ++ [⟨d,p,q,n⟩]}
def send (a b:Nat) (x:Zd) (σ:TS):TS:= {σ with sn:=Yp σ.sn (li s a b) (σ.sn (li s a b) ++ [x])}
def wait (m:Nat) (x:Zd) (σ:TS):TS:= {σ with be:=Yp σ.be m (σ.be m ++ [x])}
def mks (σ:TS) (p:Nat):List Int:=tab (mm s * mm s) (σ.ma p)
def XL (p q:Nat) (σ:TS):TS:=if pl s p=pl s q then wait (pl s p) ⟨5,p,q,0,mks s σ q⟩ σ else send s (pl s q) (pl s p) ⟨5,p,q,0,mks s σ q⟩ σ
def see (p q:Nat) (n:Int) (σ:TS):TS:=if σ.st p=1 then tell 2 p q n σ else σ
def note (p q:Nat) (σ:TS):TS:=if σ.st q=3 then XL s p q σ else{σ with wa:=Yp σ.wa q (σ.wa q ++ [(p:Int)])}
structure Few (B:Nat) (σ:TS):Prop where
 ev:σ.ev.length <=B
 sn:∀ i,i < mm s * mm s ->(σ.sn i).length <=B
 be:∀ m,m < mm s ->(σ.be m).length <=B
 wa:∀ q,q < nn s ->(σ.wa q).length <=B
 ld:∀ i,i < mm s * mm s ->σ.ld i <= (σ.sn i).length
 ws:∀ q,q < nn s ->∀ x ∈ σ.wa q,∃ k:Nat,x= (k:Int)∧k < nn s
end
section
variable {s:Zc} {σ:TS} {a b p q k B:Nat}
theorem Qm.mm (h:Qm s):s.qG= (Proofs.YtcnahmgekicbdaaGreat.mm s:Int)∧1 <=Proofs.YtcnahmgekicbdaaGreat.mm s∧Proofs.YtcnahmgekicbdaaGreat.mm s <=4:=by
 have:=h.m1;have:=h.m2;unfold Proofs.YtcnahmgekicbdaaGreat.mm;omega
theorem Qm.pl (h:Qm s) (hp:p < nn s):(spt s p).at_= (Proofs.YtcnahmgekicbdaaGreat.pl s p:Int)∧Proofs.YtcnahmgekicbdaaGreat.pl s p < Proofs.YtcnahmgekicbdaaGreat.mm s:=by
 have:=h.at_ p hp;have:=h.mm.1;unfold Proofs.YtcnahmgekicbdaaGreat.pl;omega
theorem K6 (ha:a < mm s) (hb:b < mm s):li s a b < mm s * mm s:=by
 unfold li;have:(a + 1) * mm s <=mm s * mm s:=Nat.mul_le_mul_right _ ha;rw [Nat.add_mul,Nat.one_mul] at this;omega
theorem Zbt (hS:Qm s) (ha:a < mm s) (hb:b < mm s):Yx (Yx ((a:Int) * s.qG) + (b:Int))= ((li s a b:Nat):Int):=by
 obtain⟨e,h1,h4⟩:=hS.mm;have hl:=K6 ha hb;have h16:mm s * mm s <=16:=Nat.mul_le_mul h4 h4;have hm:a * mm s <=li s a b:=by unfold li;omega
 rw [e];have e1:(a:Int) * ((mm s:Nat):Int)= ((a * mm s:Nat):Int):=by rw [Int.natCast_mul]
 have e3:Yx ((a * mm s:Nat):Int)= ((a * mm s:Nat):Int):=KF (by omega) (by omega);have e2:((a * mm s:Nat):Int) + (b:Int)= ((li s a b:Nat):Int):=by unfold li;omega
 rw [e1,e3,e2];exact KF (by omega) (by omega)
theorem Uu (hS:Qm s) (hp:p < nn s):Wd (hal s σ) (p:Int)=some (pl s p:Int):=by
 unfold Wd;show(ZJ s.Ze (p:Int)).bind _=_;rw [Qf hp];simp only [Bq0];rw [(hS.pl hp).1]
theorem WG (h:Few s 800000 σ) (d p q n:Int):Zil (hal s σ) d p q n=some (hal s (tell d p q n σ)):=by
 unfold Zil;show(app 32 σ.ev _).bind _=_;rw [app1 (by have:=h.ev;omega) (by decide)];rfl
theorem ZuV (h:Few s B σ) (ha:a < mm s) (hb:b < mm s) (x:Zd):tab (mm s * mm s) (Yp (Kq σ) (li s a b) ⟨(σ.ld (li s a b):Int),(σ.sn (li s a b)).drop (σ.ld (li s a b)) ++ [x]⟩)=tab (mm s * mm s) (Kq (send s a b x σ)):=by
 refine UF fun k hk=>?_
 by_cases e:k=li s a b
 ·subst e;rw [Zy];show _= (⟨_,(Yp σ.sn (li s a b) _ (li s a b)).drop _⟩:Zl);rw [Zy];show _= (⟨_,(σ.sn (li s a b) ++ [x]).drop (σ.ld (li s a b))⟩:Zl);rw [List.drop_append_of_le_length (h.ld _ hk)];rfl
 ·rw [ZT e];show _= (⟨_,(Yp σ.sn (li s a b) _ k).drop _⟩:Zl);rw [ZT e];rfl
theorem KX (hS:Qm s) (h:Few s 800000 σ) (ha:a < mm s) (hb:b < mm s) (x:Zd):Zkw (hal s σ) (a:Int) (b:Int) x=some (hal s (send s a b x σ)):=by
 unfold Zkw;show(ZJ (tab (mm s * mm s) (Kq σ)) (Yx (Yx ((a:Int) * s.qG) + (b:Int)))).bind _=_;have hl:=K6 ha hb;rw [Zbt hS ha hb,Yq hl];simp only [Bq0];have:((Kq σ (li s a b)).kG).length <=900000:=by have:=h.sn _ hl;unfold Kq;simp;omega
 rw [app1 this (by decide)];simp only [Bq0];show some (ZB.mk (Zg.mk _ _ _ _ _ (YX (tab (mm s * mm s) (Kq σ)) (Yx (Yx ((a:Int) * s.qG) + (b:Int))) _) _) _ _)=_;rw [Zbt hS ha hb,Qs,show(Kq σ (li s a b)).ZL= (σ.ld (li s a b):Int) from rfl,show(Kq σ (li s a b)).kG= (σ.sn (li s a b)).drop (σ.ld (li s a b)) from rfl,ZuV h ha hb x];rfl
theorem ZiI (h:Few s 800000 σ) (ha:a < mm s) (x:Zd):Zjk (hal s σ) (a:Int) x=some (hal s (wait a x σ)):=by
 unfold Zjk;show(ZJ (tab (mm s) σ.be) (a:Int)).bind _=_;rw [Yq ha];simp only [Bq0];rw [app1 (by have:=h.be a ha;omega) (by decide)];simp only [Bq0];show(ZJ (tab (mm s) σ.be) (a:Int)).bind (fun _=>some (ZB.mk (Zg.mk _ _ _ _ (YX (tab (mm s) σ.be) (a:Int) _) _ _) _ _))=_;rw [Yq ha,Qs];rfl
theorem Zl7 (hS:Qm s) (hq:q < nn s):app 8 ([]:List Int) (mks s σ q)=some (mks s σ q):=by
 have:(mks s σ q).length <=16:=by unfold mks;rw [XU];exact Nat.mul_le_mul hS.mm.2.2 hS.mm.2.2
 rw [ZAg (by simp;omega)];rfl
theorem ZdG (a b:Nat):(((a:Int))== ((b:Int)))=decide (a=b):=by
 rw [Y5];by_cases h:a=b
 ·subst h;simp
 ·rw [decide_eq_false h,decide_eq_false (by omega)]
theorem Zjv (hS:Qm s) (h:Few s 800000 σ) (hp:p < nn s) (hq:q < nn s):Zr1 (hal s σ) (p:Int) (q:Int)=some (hal s (XL s p q σ)):=by
 unfold Zr1 Zfp;show(ZJ (tab (nn s) fun p=>tab (mm s * mm s) (σ.ma p)) (q:Int)).bind _=_;rw [Yq hq];simp only [Bq0];rw [show app 8 ([]:List Int) (tab (mm s * mm s) (σ.ma q))=some (mks s σ q) from Zl7 hS hq];simp only [Bq0];rw [Uu hS hp,Uu hS hq];simp only [Bq0];rw [ZdG];unfold XL;by_cases e:pl s p=pl s q
 ·rw [decide_eq_true e,Cq1,if_pos e,ZiI h (hS.pl hp).2];rfl
 ·rw [decide_eq_false e,Cq0,if_neg e,KX hS h (hS.pl hq).2 (hS.pl hp).2];rfl
theorem ZlJ (h:Few s 800000 σ) {x:Zd} (hx:x.kX= (p:Int)) (hp:p < nn s):Zr3 (hal s σ) x=some (hal s (if σ.st p=1 then tell 2 p x.kV x.n σ else σ)):=by
 unfold Zr3;rw [hx];show(ZJ (tab (nn s) σ.st) (p:Int)).bind _=_;rw [Yq hp];simp only [Bq0];rw [Y5];by_cases e:σ.st p=1
 ·rw [decide_eq_true e,Cq1,if_pos e,WG h];rfl
 ·rw [decide_eq_false e,Cq0,if_neg e]
theorem Zi3 (hS:Qm s) (h:Few s 800000 σ) {x:Zd} (hx:x.kV= (p:Int)) (hy:x.kX= (q:Int)) (hp:p < nn s) (hq:q < nn s):Zr2 (hal s σ) x=some (hal s (note s p q σ)):=by
 unfold Zr2;rw [hx,hy];show(ZJ (tab (nn s) σ.st) (q:Int)).bind _=_;rw [Yq hq];simp only [Bq0];unfold note;rw [Y5];by_cases e:σ.st q=3
 ·rw [decide_eq_true e,Cq1,if_pos e,Zjv hS h hp hq];rfl
 ·rw [decide_eq_false e,Cq0,if_neg e];show(ZJ (tab (nn s) σ.wa) (q:Int)).bind _=_;rw [Yq hq];simp only [Bq0];rw [app1 (by have:=h.wa _ hq;omega) (by decide)];simp only [Bq0];show(ZJ (tab (nn s) σ.wa) (q:Int)).bind (fun _=>some (ZB.mk (Zg.mk _ _ _ (YX (tab (nn s) σ.wa) (q:Int) _) _ _ _) _ _))=_;rw [Yq hq,Qs];rfl
end
end
section
def Alo (s:Zc) (σ:TS) (p:Nat):Prop:=∀ k:Nat,k < nn s ->inn s (k:Int)= (p:Int) ->(k:Int) ∈ σ.kn p
def ins (k:Int) (l:List Int):List Int:=l.takeWhile (fun x=>decide (x < k)) ++ k::l.dropWhile (fun x=>decide (x < k))
def mx (f:Nat ->Int) (l:List Int) (i:Nat):Int:=if l.getD i 0 > f i then l.getD i 0 else f i
theorem ZAf:∀ (l:List Int) (a b:Int),l.Pairwise (· < ·) ->(∀ x ∈ l,a <=x∧x < b) ->(l.length:Int) <=max 0 (b - a):=by
 intro l
 induction l with
 | nil=>intro a b _ _;simp;omega
 | cons x xs ih=>
   intro a b h1 h2;obtain⟨p1,p2⟩:=List.pairwise_cons.1 h1;have:=ih (x + 1) b p2 fun y hy=>⟨by have:=p1 y hy;omega,(h2 y (by simp [hy])).2⟩
   have:=h2 x (by simp);rw [List.length_cons];omega
section
variable {s:Zc} {σ:TS} {F p k q:Nat}
theorem Zu5 {l:List Int} (hF:1000 <=F) (hl:l.length <=500) (x:Int):∃ r,ZmE F l x=some r∧(r >=0↔x ∈ l):=by
 unfold ZmE;by_cases hz:∃ j,j < l.length∧l.getD j 0=x
 ·obtain⟨j,hj⟩:=hz;obtain⟨m,_,⟨hm,hx⟩,hlt⟩:=Zad (c:=fun j=>j < l.length∧l.getD j 0=x) hj;refine⟨(m:Int),XD (fun k=>(k:Int)) rfl (n:=m) (by omega) (fun k hk next=>?_) (fun next=>?_),?_⟩
  ·unfold Zb7;rw [YT (show k < l.length by omega),Cq1,QD 0 (show k < l.length by omega)];simp only [Bq0];rw [Y5,decide_eq_false (fun e=>hlt k hk ⟨by omega,e.symm⟩),Cq0,Qo (by omega)]
  ·unfold Zb7;rw [YT hm,Cq1,QD 0 hm];simp only [Bq0];rw [Y5,decide_eq_true hx.symm,Cq1]
  ·exact⟨fun _=>by rw [← hx];exact XP hm,fun _=>by omega⟩
 ·refine⟨-1,XD (fun k=>(k:Int)) rfl (n:=l.length) (by omega) (fun k hk next=>?_) (fun next=>?_),?_⟩
  ·unfold Zb7;rw [YT hk,Cq1,QD 0 hk];simp only [Bq0];rw [Y5,decide_eq_false (fun e=>hz ⟨k,hk,e.symm⟩),Cq0,Qo (by omega)]
  ·unfold Zb7;rw [Y2,Cq0]
  ·refine⟨fun h=>by omega,fun h=>?_⟩;obtain⟨j,hj,e⟩:=List.getElem_of_mem h;exact absurd ⟨j,hj,by rw [Zdu hj];exact e⟩ hz
theorem contains_eq {l:List Int} (hF:1000 <=F) (hl:l.length <=500) (x:Int):Zr0 F l x=some (decide (x ∈ l)):=by
 obtain⟨r,h1,h2⟩:=Zu5 (F:=F) hF hl x;unfold Zr0;rw [h1];simp only [Bq0];congr 1;by_cases h:x ∈ l
 ·rw [decide_eq_true h,decide_eq_true (h2.2 h)]
 ·rw [decide_eq_false h,decide_eq_false fun q=>h (h2.1 q)]
theorem ZcW (hF:1000 <=F) (hS:Qm s) (hp:p < nn s) (hl:(σ.kn p).length <=500):ZmC F (hal s σ) (p:Int)=ifc (Alo s σ p) (some true) (some false):=by
 unfold ZmC Zkv;simp only [Bq0];have h8:=hS.p2
 have e:=Ky (body:=Zhj F (hal s σ) (p:Int)) (r1:=some false) (r2:=some true) (s0:= ((0:Int),false)) (fun k=>((k:Int),false)) rfl (fun k:Nat=>inn s (k:Int)= (p:Int) ->(k:Int) ∈ σ.kn p) (n:=nn s) (F:=F) (by unfold nn;omega) (fun k hk next=>by
  unfold Zhj;dsimp only;rw [show(hal s σ).qK.Ze=s.Ze from rfl,show((s.Ze.length:Nat):Int)= ((nn s:Nat):Int) from rfl,YT hk,Cq1,Qf hk];simp only [Bq0];rw [JD,Y5];by_cases e:inn s (k:Int)= (p:Int)
  ·rw [decide_eq_true e,Cq1,Cq0];show(ZJ (tab (nn s) σ.kn) (p:Int)).bind _=_;rw [Yq hp];simp only [Bq0];rw [contains_eq hF hl];simp only [Bq0,Bool.not_false,Bool.not_true,Cq1,Cq0];by_cases m:(k:Int) ∈ σ.kn p
   ·rw [decide_eq_true m,Bool.not_true,Cq0,ZX (fun _=>m),Qo (by unfold nn at hk;omega)]
   ·rw [decide_eq_false m,Bool.not_false,Cq1,ZR (fun z=>m (z e))];rfl
  ·rw [decide_eq_false e,Cq0,ZX (fun z=>absurd z e),Qo (by unfold nn at hk;omega)]) (fun next=>by
  unfold Zhj;dsimp only;rw [show(hal s σ).qK.Ze=s.Ze from rfl,show((s.Ze.length:Nat):Int)= ((nn s:Nat):Int) from rfl,Y2,Cq0]
  rfl)
 rw [e];rfl
def ZD0 (s:Zc) (p:Nat):List Nat:= (List.range (nn s)).filter fun q:Nat=>inn s (q:Int)== (p:Int)
theorem Zu2:k ∈ ZD0 s p↔k < nn s∧inn s (k:Int)= (p:Int):=by unfold ZD0;simp
end
theorem ZiJ {l:List Int} {k:Int}:(l.takeWhile fun x=>decide (x < k)).length <=l.length:=by
 induction l with
 | nil=>simp
 | cons x xs ih=>
   rw [List.takeWhile_cons];by_cases h:x < k <;> simp [h];omega
theorem ZHC {l:List Int} {k:Int}:∀ j,j < (l.takeWhile fun x=>decide (x < k)).length ->l.getD j 0 < k:=by
 induction l with
 | nil=>intro j hj;simp at hj
 | cons x xs ih=>
   intro j hj;rw [List.takeWhile_cons] at hj;by_cases h:x < k
   ·rw [decide_eq_true h,if_pos rfl,List.length_cons] at hj;cases j with
    | zero=>simpa using h
    | succ j=>have:=ih j (by omega);simpa using this
   ·rw [decide_eq_false h] at hj;simp at hj
theorem ZHD {l:List Int} {k:Int} (hs:l.Pairwise (· < ·)):∀ j,(l.takeWhile fun x=>decide (x < k)).length <=j ->j < l.length ->k <=l.getD j 0:=by
 induction l with
 | nil=>intro j _ hj;simp at hj
 | cons x xs ih=>
   intro j h1 h2;obtain⟨p1,p2⟩:=List.pairwise_cons.1 hs;rw [List.takeWhile_cons] at h1;by_cases h:x < k
   ·rw [decide_eq_true h,if_pos rfl,List.length_cons] at h1;cases j with
    | zero=>omega
    | succ j=>have:=ih p2 j (by omega) (by simpa using h2);simpa using this
   ·cases j with
    | zero=>simpa using h
    | succ j=>
      have hj:j < xs.length:=by simpa using h2
      have:=p1 _ (XP (d:=0) hj);simp only [List.getD_cons_succ];omega
theorem ZlA {l:List Int} {k:Int}:l.take (l.takeWhile fun x=>decide (x < k)).length=l.takeWhile (fun x=>decide (x < k))∧l.drop (l.takeWhile fun x=>decide (x < k)).length=l.dropWhile (fun x=>decide (x < k)):=by
 have h:=List.takeWhile_append_dropWhile (p:=fun x:Int=>decide (x < k)) (l:=l)
 constructor
 ·conv=>lhs;rw [← h]
  rw [List.takeWhile_append_dropWhile];have:∀ (a b:List Int),(a ++ b).take a.length=a:=fun a b=>by simp
  conv=>lhs;arg 2;rw [← h]
  exact this _ _
 ·have:∀ (a b:List Int),(a ++ b).drop a.length=b:=fun a b=>by simp
  conv=>lhs;arg 2;rw [← h]
  exact this _ _
theorem ZD5 (k:Int) (l:List Int):ins k l=l.take (l.takeWhile fun x=>decide (x < k)).length ++ k::l.drop (l.takeWhile fun x=>decide (x < k)).length:=by
 unfold ins;rw [ZlA.1,ZlA.2]
theorem Kz {k x:Int} {l:List Int}:x ∈ ins k l↔x=k∨x ∈ l:=by
 unfold ins
 conv=>rhs;rhs;rw [← List.takeWhile_append_dropWhile (p:=fun x:Int=>decide (x < k)) (l:=l)]
 simp only [List.mem_append,List.mem_cons]
 constructor
 ·rintro(h | h | h)
  ·exact .inr (.inl h)
  ·exact .inl h
  ·exact .inr (.inr h)
 ·rintro(h | h | h)
  ·exact .inr (.inl h)
  ·exact .inl h
  ·exact .inr (.inr h)
theorem Zop {k:Int}:∀ {l:List Int},l.Pairwise (· < ·) ->k ∉ l ->(ins k l).Pairwise (· < ·):=by
 intro l
 induction l with
 | nil=>intro _ _;simp [ins]
 | cons x xs ih=>
   intro hs hk;obtain⟨p1,p2⟩:=List.pairwise_cons.1 hs;simp at hk;by_cases h:x < k
   ·have e:ins k (x::xs)=x::ins k xs:=by unfold ins;simp [List.takeWhile_cons,List.dropWhile_cons,h]
    rw [e]
    exact List.pairwise_cons.2 ⟨fun y hy=>by rcases Kz.1 hy with z | z;· rw [z];exact h
                                             ·exact p1 y z,ih p2 hk.2⟩
   ·have e:ins k (x::xs)=k::x::xs:=by unfold ins;simp [List.takeWhile_cons,List.dropWhile_cons,h]
    rw [e]
    exact List.pairwise_cons.2 ⟨fun y hy=>by rcases List.mem_cons.1 hy with z | z;· rw [z];omega
                                             ·have:=p1 y z;omega,hs⟩
theorem Zyu (a b:Int):ZmF a b=some (decide (a < b)):=by
 unfold ZmF Zjj;simp [gd]
theorem ZiO {F:Nat} {l:List Int} {k:Int} (hF:1000 <=F) (hl:l.length <=500) (hs:l.Pairwise (· < ·)) (hk:k ∉ l):Zji F l k=some (((l.takeWhile fun x=>decide (x < k)).length:Int),false):=by
 unfold Zji;obtain⟨c,hc⟩:∃ c,c= (l.takeWhile fun x=>decide (x < k)).length:= ⟨_,rfl⟩
 have h1:∀ j,j < c ->l.getD j 0 < k:=fun j hj=>ZHC j (by omega)
 have h2:∀ j,c <=j ->j < l.length ->k <=l.getD j 0:=fun j a b=>ZHD hs j (by omega) b
 have hcl:c <=l.length:=by rw [hc];exact ZiJ
 rw [← hc]
 have key:∀ d F i j:Nat,d < F ->j - i <=d ->i <=c ->c <=j ->j <=l.length ->loop F (Zdx l k) ((i:Int),(j:Int))=some ((c:Int),false):=by
  intro d
  induction d with
  | zero=>
    intro F i j hF hd hi hj hjl;have:i=c:=by omega
    subst this;have:j=i:=by omega
    subst this;cases F with
    | zero=>omega
    | succ F=>
      rw [Ua];unfold Zdx;dsimp only;rw [Y2,Cq0,ZDT];by_cases hlt:j < l.length
      ·rw [decide_eq_true hlt,QD 0 hlt];have:l.getD j 0 ≠ k:=fun e=>hk (by rw [← e];exact XP hlt)
       rw [UR];simp only [Bq0];rw [Y5,decide_eq_false this];simp [gd,Zjg,QD 0 hlt]
      ·rw [decide_eq_false hlt];simp [gd]
  | succ d ih=>
    intro F i j hF hd hi hj hjl;by_cases hij:i < j
    ·cases F with
     | zero=>omega
     | succ F=>
       rw [Ua];unfold Zdx;dsimp only;have e1:Yx ((i:Int) + (j:Int))= ((i + j:Nat):Int):=by rw [KF (by omega) (by omega)];omega
       have e2:IntKind.wrap .u64 (((i + j:Nat):Int))= ((i + j:Nat):Int):=by
        show(((i + j:Nat):Int)) % 18446744073709551616=_;omega
       have e3:Yx ((((i + j:Nat):Int)) / 2)= (((i + j) / 2:Nat):Int):=by rw [KF (by omega) (by omega)];omega
       obtain⟨m,hm⟩:∃ m,m= (i + j) / 2:= ⟨_,rfl⟩
       rw [YT hij,Cq1,e1,e2,e3,← hm,QD 0 (by omega)];simp only [Bq0];rw [Zyu];simp only [Bq0];by_cases hx:l.getD m 0 < k
       ·rw [decide_eq_true hx,Cq1,Qo (by omega)];have:m < c:=Classical.byContradiction fun z=>by have:=h2 m (by omega) (by omega);omega
        exact ih F (m + 1) j (by omega) (by omega) (by omega) hj hjl
       ·rw [decide_eq_false hx,Cq0];have:c <=m:=Classical.byContradiction fun z=>by have:=h1 m (by omega);omega
        exact ih F i m (by omega) (by omega) hi this (by omega)
    ·exact ih F i j (by omega) (by omega) hi hj hjl
 have:=key l.length F 0 l.length (by omega) (by omega) (Nat.zero_le _) hcl (Nat.le_refl _);exact this
theorem insert_eq {l:List Int} {k:Int} (hl:l.length <=500):ZmD l ((l.takeWhile fun x=>decide (x < k)).length:Int) [k]=some (ins k l):=by
 unfold ZmD;have:=ZiJ (l:=l) (k:=k);rw [Nm0 (by omega),decide_eq_true (show(0:Int) <= ((l.takeWhile fun x=>decide (x < k)).length:Int) by omega),decide_eq_true (show((l.takeWhile fun x=>decide (x < k)).length:Int) <= (l.length:Int) by omega)];show some _=_;rw [Int.toNat_natCast,ZD5,List.append_assoc];rfl
theorem Zoi {β:Type} {F n:Nat} {f:Nat ->Int} {l:List Int} {r:Option β} (hF:n < F) (hn:n <=1000) (hl:l.length=n) {body:Int×List Int ->(Int×List Int ->Option β) ->Option β}
 (hb:∀ v8 (k:Nat),k < n ->∀ next,body ((k:Int),v8) next= (ZJ l (k:Int)).bind fun x=>(ZJ v8 (k:Int)).bind fun y=>(ZJ v8 (k:Int)).bind fun z=>next (Yx ((k:Int) + 1),YX v8 (k:Int) (if x > y then x else y)))
 (he:∀ next,body ((n:Int),tab n (mx f l)) next=r):loop F body (0,tab n f)=r:=by
 refine XD (fun k=>((k:Int),tab n fun i=>if i < k then mx f l i else f i)) (by simp) hF (fun k hk next=>?_) (fun next=>?_)
 ·rw [hb _ _ hk,QD 0 (by rw [hl];exact hk)];simp only [Bq0];rw [Yq hk];simp only [Bq0];rw [if_neg (Nat.lt_irrefl _),Qs,Qo (by omega)];congr 2;refine UF fun i hi=>?_
  unfold Yp;by_cases e:i=k
  ·subst e;rw [if_pos rfl,if_pos (Nat.lt_succ_self _)];rfl
  ·rw [if_neg e];show(if i < k then mx f l i else f i)=_;by_cases h:i < k
   ·rw [if_pos h,if_pos (by omega)]
   ·rw [if_neg h,if_neg (by omega)]
 ·have:(tab n fun i=>if i < n then mx f l i else f i)=tab n (mx f l):=UF fun i hi=>by rw [if_pos hi]
  show body ((n:Int),tab n fun i=>if i < n then mx f l i else f i) next=r;rw [this];exact he next
section
variable {F n:Nat} {f:Nat ->Int} {l:List Int}
theorem Zdr (hF:1000 <=F) (hn:n <=500) (hl:l.length=n):Zjh F [tab n f,l]=some (tab n (mx f l)):=by
 unfold Zjh Zfp;have e0:ZJ [tab n f,l] 0=some (tab n f):=rfl;rw [e0];simp only [Bq0];rw [ZAg (by rw [XU];simp;omega)];simp only [Bq0,List.nil_append];have e1:slL [tab n f,l] 1 (([tab n f,l].length:Nat):Int)=some [l]:=rfl;rw [e1];simp only [Bq0];refine XD (fun k=>((k:Int),if k=0 then tab n f else tab n (mx f l))) rfl (n:=1) (by omega) (fun k hk next=>?_) (fun next=>?_)
 ·have:k=0:=by omega
  subst this;unfold ZfV;dsimp only;rw [show decide (((0:Nat):Int) < (([l].length:Nat):Int))=true from rfl,Cq1,show ZJ [l] ((0:Nat):Int)=some l from rfl];simp only [Bq0];refine Zoi (by omega) (by omega) hl (fun v8 k hk next=>?_) (fun next'=>?_)
  ·unfold ZfU;dsimp only;rw [hl,YT hk,Cq1]
  ·unfold ZfU;dsimp only;rw [hl,Y2,Cq0];rfl
 ·unfold ZfV;dsimp only;rw [show decide (((1:Nat):Int) < (([l].length:Nat):Int))=false from rfl,Cq0];rfl
end
end
section
def X7 (n:Nat) (f:Nat ->Nat):Nat:= ((List.range n).map f).sum
section
variable {n k:Nat} {f g:Nat ->Nat}
theorem WH:X7 (n + 1) f=X7 n f + f n:=by simp [X7,List.range_succ]
theorem Zaq (h:∀ k,k < n ->f k=g k):X7 n f=X7 n g:=by
 unfold X7;rw [List.map_congr_left fun k hk=>h k (List.mem_range.1 hk)]
theorem Zyc (h:∀ k,k < n ->f k <=g k):X7 n f <=X7 n g:=by
 induction n with
 | zero=>simp [X7]
 | succ n ih=>rw [WH,WH];have:=ih fun k hk=>h k (by omega);have:=h n (by omega);omega
theorem Uj (h:k < n):f k <=X7 n f:=by
 induction n with
 | zero=>omega
 | succ n ih=>
   rw [WH];by_cases e:k=n
   ·subst e;omega
   ·have:=ih (by omega);omega
theorem ZlD {v:Nat} (h:k < n):X7 n (Yp f k v) + f k=X7 n f + v:=by
 induction n with
 | zero=>omega
 | succ n ih=>
   rw [WH,WH];by_cases e:k=n
   ·subst e;rw [Zy,Zaq (f:=Yp f k v) (g:=f) fun j hj=>ZT (by omega)];omega
   ·have:=ih (by omega);rw [ZT (by omega)];omega
theorem Zbe (h:k < n) (hg:∀ j,j < n ->j ≠ k ->g j=f j):X7 n g + f k=X7 n f + g k:=by
 rw [Zaq (f:=g) (g:=Yp f k (g k)) fun j hj=>by
  by_cases e:j=k
  ·subst e;rw [Zy]
  ·rw [ZT e,hg j hj e]]
 exact ZlD h
theorem Zgc (n c:Nat):X7 n (fun _=>c)=n * c:=by
 induction n with
 | zero=>simp [X7]
 | succ n ih=>rw [WH,ih,Nat.succ_mul]
end
def ew (x:Zd):Nat:=if x.kW=1 then 1 else if x.kW=2 then 2 else if x.kW=5 then 1 else 0
def sw (x:Int):Nat:=if x=1 then 11 else if x=3 then 0 else 2
def fl (σ:TS) (i:Nat):List Zd:= (σ.sn i).drop (σ.ld i)
def lw (σ:TS) (i:Nat):Nat:= (σ.sn i).length + ((fl σ i).map ew).sum
def Pot (s:Zc) (σ:TS):Nat:=σ.ev.length + X7 (mm s * mm s) (lw σ) + X7 (mm s) (fun m=>(σ.be m).length) + X7 (nn s) (fun q=>2 * (σ.wa q).length) + X7 (nn s) (fun p=>sw (σ.st p))
structure Wf (s:Zc) (B:Nat) (σ:TS):Prop where
 pot:Pot s σ <=B
 ld:∀ i,i < mm s * mm s ->σ.ld i <= (σ.sn i).length
 ws:∀ q,q < nn s ->∀ x ∈ σ.wa q,∃ k:Nat,x= (k:Int)∧k < nn s
section
variable {s:Zc} {σ:TS} {B a b p q m:Nat}
theorem Wf.few (h:Wf s B σ) (hB:B <=800000):Few s 800000 σ:=by
 have hp:=h.pot;unfold Pot at hp;refine⟨by omega,fun i hi=>?_,fun m hm=>?_,fun q hq=>?_,h.ld,h.ws⟩
 ·have:=Uj (f:=lw σ) hi;unfold lw at this;unfold lw at hp;omega
 ·have:=Uj (f:=fun m=>(σ.be m).length) hm;omega
 ·have:=Uj (f:=fun q=>2 * (σ.wa q).length) hq;omega
theorem Zus (d p q n:Int):Pot s (tell d p q n σ)=Pot s σ + 1:=by
 show(σ.ev ++ [_]).length + X7 (mm s * mm s) (lw σ) + X7 (mm s) (fun m=>(σ.be m).length) + X7 (nn s) (fun q=>2 * (σ.wa q).length) + X7 (nn s) (fun p=>sw (σ.st p))=_;rw [List.length_append,List.length_singleton];unfold Pot;omega
theorem ZqJ (hl:σ.ld (li s a b) <= (σ.sn (li s a b)).length) (x:Zd):fl (send s a b x σ) (li s a b)=fl σ (li s a b) ++ [x]:=by
 show(Yp σ.sn (li s a b) _ (li s a b)).drop (σ.ld (li s a b))=_;rw [Zy,List.drop_append_of_le_length hl];rfl
theorem Zhd {i:Nat} (hi:i ≠ li s a b) (x:Zd):fl (send s a b x σ) i=fl σ i:=by
 show(Yp σ.sn (li s a b) _ i).drop (σ.ld i)=_;rw [ZT hi];rfl
theorem ZbT (x:Zd):(send s a b x σ).sn (li s a b)=σ.sn (li s a b) ++ [x]:=Zy _ _ _
theorem JU {i:Nat} (hi:i ≠ li s a b) (x:Zd):(send s a b x σ).sn i=σ.sn i:=ZT hi
theorem Zut (ha:a < mm s) (hb:b < mm s) (hl:∀ i,i < mm s * mm s ->σ.ld i <= (σ.sn i).length) (x:Zd):Pot s (send s a b x σ)=Pot s σ + 1 + ew x:=by
 have hi:=K6 ha hb;have h:=Zbe (f:=lw σ) (g:=lw (send s a b x σ)) hi fun j _ hj=>by unfold lw;rw [JU hj,Zhd hj]
 have e:lw (send s a b x σ) (li s a b)=lw σ (li s a b) + 1 + ew x:=by
  unfold lw;rw [ZbT,ZqJ (hl _ hi),List.length_append,List.map_append,List.sum_append];simp;omega
 show σ.ev.length + X7 (mm s * mm s) (lw (send s a b x σ)) + X7 (mm s) (fun m=>(σ.be m).length) + X7 (nn s) (fun q=>2 * (σ.wa q).length) + X7 (nn s) (fun p=>sw (σ.st p))=_;unfold Pot;omega
theorem Zn7 (hm:m < mm s) (l:List Zd):Pot s {σ with be:=Yp σ.be m l} + (σ.be m).length=Pot s σ + l.length:=by
 have h:=Zbe (f:=fun m=>(σ.be m).length) (g:=fun j=>(Yp σ.be m l j).length) hm fun j _ hj=>by rw [ZT hj]
 rw [Zy] at h;show σ.ev.length + X7 (mm s * mm s) (lw σ) + X7 (mm s) (fun j=>(Yp σ.be m l j).length) + X7 (nn s) (fun q=>2 * (σ.wa q).length) + X7 (nn s) (fun p=>sw (σ.st p)) + _=_;unfold Pot;omega
theorem Zur (hm:m < mm s) (x:Zd):Pot s (wait m x σ)=Pot s σ + 1:=by
 have:=Zn7 (σ:=σ) hm (σ.be m ++ [x]);rw [List.length_append,List.length_singleton] at this;unfold wait;omega
theorem ZDO (hq:q < nn s) (l:List Int):Pot s {σ with wa:=Yp σ.wa q l} + 2 * (σ.wa q).length=Pot s σ + 2 * l.length:=by
 have h:=Zbe (f:=fun q=>2 * (σ.wa q).length) (g:=fun j=>2 * (Yp σ.wa q l j).length) hq fun j _ hj=>by rw [ZT hj]
 rw [Zy] at h;show σ.ev.length + X7 (mm s * mm s) (lw σ) + X7 (mm s) (fun m=>(σ.be m).length) + X7 (nn s) (fun j=>2 * (Yp σ.wa q l j).length) + X7 (nn s) (fun p=>sw (σ.st p)) + _=_;unfold Pot;omega
theorem ZDP (hp:p < nn s) (v:Int):Pot s {σ with st:=Yp σ.st p v} + sw (σ.st p)=Pot s σ + sw v:=by
 have h:=Zbe (f:=fun p=>sw (σ.st p)) (g:=fun j=>sw (Yp σ.st p v j)) hp fun j _ hj=>by rw [ZT hj]
 rw [Zy] at h;show σ.ev.length + X7 (mm s * mm s) (lw σ) + X7 (mm s) (fun m=>(σ.be m).length) + X7 (nn s) (fun q=>2 * (σ.wa q).length) + X7 (nn s) (fun j=>sw (Yp σ.st p v j)) + _=_;unfold Pot;omega
theorem ZzG (p q n:Int) (l:List Int):ew ⟨5,p,q,n,l⟩=1:=rfl
theorem Wf.tell (h:Wf s B σ) (d p q n:Int):Wf s (B + 1) (tell d p q n σ):= ⟨by rw [Zus];have:=h.pot;omega,h.ld,h.ws⟩
theorem Wf.send (h:Wf s B σ) (ha:a < mm s) (hb:b < mm s) (x:Zd):Wf s (B + 1 + ew x) (send s a b x σ):=by
 refine⟨by rw [Zut ha hb h.ld];have:=h.pot;omega,fun i hi=>?_,h.ws⟩;show σ.ld i <=_;by_cases e:i=li s a b
 ·subst e;rw [ZbT,List.length_append];have:=h.ld _ hi;omega
 ·rw [JU e];exact h.ld i hi
theorem Wf.wait (h:Wf s B σ) (hm:m < mm s) (x:Zd):Wf s (B + 1) (wait m x σ):= ⟨by rw [Zur hm];have:=h.pot;omega,h.ld,h.ws⟩
theorem Wf.up (h:Wf s B σ) {B':Nat} (hb:B <=B'):Wf s B' σ:= ⟨Nat.le_trans h.pot hb,h.ld,h.ws⟩
theorem Wf.XL (hS:Qm s) (h:Wf s B σ) (hp:p < nn s) (hq:q < nn s):Wf s (B + 2) (XL s p q σ):=by
 unfold Proofs.YtcnahmgekicbdaaGreat.XL;by_cases e:pl s p=pl s q
 ·rw [if_pos e];exact(h.wait (hS.pl hp).2 _).up (by omega)
 ·rw [if_neg e];exact(h.send (hS.pl hq).2 (hS.pl hp).2 _).up (by rw [ZzG];omega)
theorem Wf.wa (h:Wf s B σ) (hq:q < nn s) {l:List Int} (hl:∀ x ∈ l,∃ k:Nat,x= (k:Int)∧k < nn s) {B':Nat} (hB:B + 2 * l.length <=B' + 2 * (σ.wa q).length):Wf s B' {σ with wa:=Yp σ.wa q l}:=by
 refine⟨?_,h.ld,fun j hj x hx=>?_⟩
 ·have:=ZDO (σ:=σ) hq l;have:=h.pot;omega
 ·have hx:x ∈ Yp σ.wa q l j:=hx;by_cases e:j=q
  ·subst e;rw [Zy] at hx;exact hl x hx
  ·rw [ZT e] at hx;exact h.ws j hj x hx
theorem Wf.st (h:Wf s B σ) (hp:p < nn s) (v:Int) {B':Nat} (hB:B + sw v <=B' + sw (σ.st p)):Wf s B' {σ with st:=Yp σ.st p v}:=
 ⟨by have:=ZDP (σ:=σ) hp v;have:=h.pot;omega,h.ld,h.ws⟩
theorem Wf.note (hS:Qm s) (h:Wf s B σ) (hp:p < nn s) (hq:q < nn s):Wf s (B + 2) (note s p q σ):=by
 unfold Proofs.YtcnahmgekicbdaaGreat.note;by_cases e:σ.st q=3
 ·rw [if_pos e];exact h.XL hS hp hq
 ·rw [if_neg e]
  exact h.wa hq (fun x hx=>by
   rcases List.mem_append.1 hx with hx | hx
   ·exact h.ws q hq x hx
   ·rw [List.mem_singleton.1 hx];exact⟨p,rfl,hp⟩) (by rw [List.length_append,List.length_singleton];omega)
theorem Wf.see (h:Wf s B σ) (p q:Nat) (n:Int):Wf s (B + 1) (see p q n σ):=by
 unfold Proofs.YtcnahmgekicbdaaGreat.see;by_cases e:σ.st p=1
 ·rw [if_pos e];exact h.tell _ _ _ _
 ·rw [if_neg e];exact h.up (by omega)
end
end
section
structure Kn (s:Zc) (σ:TS):Prop where
 srt:∀ q,q < nn s ->(σ.kn q).Pairwise (· < ·)
 rng:∀ q,q < nn s ->∀ x ∈ σ.kn q,∃ k:Nat,x= (k:Int)∧k < nn s∧inn s (k:Int)= (q:Int)∧σ.st k=3
noncomputable section
variable (s:Zc)
def Zdi (σ:TS) (p K:Nat) (i:Nat):Int:=if i / mm s=pl s p∧i % mm s < K∧i % mm s ≠ pl s p then((σ.sn i).length:Int) else σ.ma p i
def Wx (p:Nat) (σ:TS):TS:= {σ with st:=Yp σ.st p 3,ev:=σ.ev ++ [⟨6,(p:Int),0,0⟩],wa:=Yp σ.wa p []}
def Zt (p:Nat) (l:List Int) (σ:TS):TS:=l.foldl (fun σ x=>XL s x.toNat p σ) σ
def ZLp (p:Nat) (σ:TS):TS:= {σ with ma:=Yp σ.ma p (Zdi s σ p (mm s))}
def YM (p:Nat) (σ:TS):TS:=ZLp s p (Zt s p (σ.wa p) (Wx p σ))
def YL (k:Nat) (l:List Int) (σ:TS):TS:= {σ with kn:=Yp σ.kn (inn s (k:Int)).toNat (ins (k:Int) (σ.kn (inn s (k:Int)).toNat)),ma:=Yp σ.ma (inn s (k:Int)).toNat (mx (σ.ma (inn s (k:Int)).toNat) l)}
def KN (die:Nat ->TS ->TS) (k:Nat) (l:List Int) (σ:TS):TS:=
 ifc ((YL s k l σ).st (inn s (k:Int)).toNat=2∧Alo s (YL s k l σ) (inn s (k:Int)).toNat) (die (inn s (k:Int)).toNat (YL s k l σ)) (YL s k l σ)
def ZkZ (die:Nat ->TS ->TS) (p:Nat) (σ:TS):TS:=
 if inn s (p:Int) < 0 then σ
 else if pl s (inn s (p:Int)).toNat=pl s p then KN s die p (mks s σ p) σ
 else send s (pl s p) (pl s (inn s (p:Int)).toNat) ⟨4,(p:Int),0,0,mks s σ p⟩ σ
def ZhA:Nat ->Nat ->TS ->TS
 | 0,_,σ=>σ
 | d + 1,p,σ=>ZkZ s (ZhA d) p (YM s p σ)
end
section
variable {s:Zc} {σ:TS} {F B p q:Nat}
theorem Zka:ZB.mk (Zg.mk (tab (nn s) σ.st) (tab (nn s) fun p=>tab (mm s * mm s) (σ.ma p)) (tab (nn s) σ.kn) (tab (nn s) σ.wa) (tab (mm s) σ.be) (tab (mm s * mm s) (Kq σ)) σ.sd) (Zc.mk s.qG s.Ze) σ.ev=hal s σ:=rfl
theorem ZdQ (p q:Nat) (σ:TS):(XL s p q σ).st=σ.st∧(XL s p q σ).kn=σ.kn∧(XL s p q σ).ma=σ.ma∧(XL s p q σ).ld=σ.ld∧(XL s p q σ).sd=σ.sd∧(XL s p q σ).ev=σ.ev∧(XL s p q σ).wa=σ.wa:=by
 unfold XL;split <;> exact⟨rfl,rfl,rfl,rfl,rfl,rfl,rfl⟩
theorem Zm6 (p:Nat):∀ (l:List Int) (σ:TS),(Zt s p l σ).st=σ.st∧(Zt s p l σ).kn=σ.kn∧(Zt s p l σ).ma=σ.ma∧(Zt s p l σ).ld=σ.ld∧(Zt s p l σ).sd=σ.sd∧(Zt s p l σ).ev=σ.ev∧(Zt s p l σ).wa=σ.wa:=by
 intro l
 induction l with
 | nil=>intro σ;exact⟨rfl,rfl,rfl,rfl,rfl,rfl,rfl⟩
 | cons x l ih=>
   intro σ;have h1:=ih (XL s x.toNat p σ);have h2:=ZdQ (s:=s) x.toNat p σ;have e:Zt s p (x::l) σ=Zt s p l (XL s x.toNat p σ):=rfl;rw [e];exact⟨h1.1.trans h2.1,h1.2.1.trans h2.2.1,h1.2.2.1.trans h2.2.2.1,h1.2.2.2.1.trans h2.2.2.2.1,h1.2.2.2.2.1.trans h2.2.2.2.2.1,h1.2.2.2.2.2.1.trans h2.2.2.2.2.2.1,h1.2.2.2.2.2.2.trans h2.2.2.2.2.2.2⟩
theorem Zph (p k:Nat) (l:List Int) (hk:k < l.length) (σ:TS):Zt s p (l.take (k + 1)) σ=XL s (l.getD k 0).toNat p (Zt s p (l.take k) σ):=by
 unfold Zt;rw [List.take_succ_eq_append_getElem hk,List.foldl_append,Zdu hk];rfl
theorem Zga (hS:Qm s) (hp:p < nn s):∀ (l:List Int) (B:Nat) (σ:TS),Wf s B σ ->(∀ x ∈ l,∃ k:Nat,x= (k:Int)∧k < nn s) ->Wf s (B + 2 * l.length) (Zt s p l σ):=by
 intro l
 induction l with
 | nil=>intro B σ h _;exact h
 | cons x l ih=>
   intro B σ h hx;obtain⟨k,e,hk⟩:=hx x (by simp);have h1:=ih (B + 2) (XL s x.toNat p σ) (by rw [e,Int.toNat_natCast];exact h.XL hS hk hp) (fun y hy=>hx y (by simp [hy]));exact h1.up (by rw [List.length_cons];omega)
theorem Zty {x:Int} (h:x ≠ 3):2 <=sw x:=by
 unfold sw;by_cases e:x=1
 ·rw [if_pos e];omega
 ·rw [if_neg e,if_neg h];omega
theorem ZjH (h:Wf s B σ) (hp:p < nn s) (h3:σ.st p ≠ 3):2 <=B∧Wf s (B - 1 - 2 * (σ.wa p).length) (Wx p σ)∧2 * (σ.wa p).length + 2 <=B:=by
 have h2:=Zty h3
 have ZVT:2 + 2 * (σ.wa p).length <=Pot s σ:=by
  have a1:=Uj (f:=fun p=>sw (σ.st p)) hp;have a2:=Uj (f:=fun q=>2 * (σ.wa q).length) hp;unfold Pot;omega
 have hb:=h.pot;have w1:=h.st hp (3:Int) (B':=B - 2) (by rw [show sw (3:Int)=0 from rfl];omega);have w2:=w1.tell 6 (p:Int) 0 0
 have w3:=w2.wa (l:= []) hp (by simp) (B':=B - 1 - 2 * (σ.wa p).length) (by
  show _ <=_ + 2 * (σ.wa p).length;simp;omega)
 exact⟨by omega,w3,by omega⟩
theorem Wf.ma (h:Wf s B σ) (f:Nat ->Nat ->Int):Wf s B {σ with ma:=f}:= ⟨h.pot,h.ld,h.ws⟩
theorem KV {k:Nat} {l:List Int} (h:Wf s B σ):Wf s B (YL s k l σ):= ⟨h.pot,h.ld,h.ws⟩
theorem ZpL (hS:Qm s) (h:Wf s B σ) (hp:p < nn s) (h3:σ.st p ≠ 3):Wf s (B - 1) (YM s p σ):=by
 obtain⟨h1,h2,h4⟩:=ZjH h hp h3;have:=Zga hS hp (σ.wa p) _ _ h2 (h.ws p hp);exact(this.up (by omega)).ma _
theorem JP (p:Nat) (σ:TS):(YM s p σ).st=Yp σ.st p 3∧(YM s p σ).kn=σ.kn∧(YM s p σ).ld=σ.ld∧(YM s p σ).sd=σ.sd∧(YM s p σ).ev=σ.ev ++ [⟨6,(p:Int),0,0⟩]∧(YM s p σ).wa=Yp σ.wa p []:=by
 have h:=Zm6 (s:=s) p (σ.wa p) (Wx p σ);exact⟨h.1,h.2.1,h.2.2.2.1,h.2.2.2.2.1,h.2.2.2.2.2.1,h.2.2.2.2.2.2⟩
theorem Zqo (h:Kn s σ) (p:Nat):Kn s (YM s p σ):=by
 have e:=JP (s:=s) p σ;refine⟨fun q hq=>by rw [e.2.1];exact h.srt q hq,fun q hq x hx=>?_⟩;rw [e.2.1] at hx;obtain⟨k,h1,h2,h3,h4⟩:=h.rng q hq x hx;refine⟨k,h1,h2,h3,?_⟩;rw [e.1];by_cases z:k=p
 ·subst z;exact Zy _ _ _
 ·rw [ZT z];exact h4
theorem Kn.len (hS:Qm s) (h:Kn s σ) (hq:q < nn s):(σ.kn q).length <=8:=by
 have:=ZAf (σ.kn q) 0 (nn s) (h.srt q hq) fun x hx=>by
  obtain⟨k,e,hk,_⟩:=h.rng q hq x hx;omega
 have h8:=hS.p2;unfold nn at this;omega
theorem JO (hS:Qm s) (hp:p < nn s) (h0:¬ inn s (p:Int) < 0):inn s (p:Int)= ((inn s (p:Int)).toNat:Int)∧(inn s (p:Int)).toNat < nn s:=by
 obtain⟨k,e,hk⟩:=ZbX (hS.inn.rng p hp) h0;rw [e,Int.toNat_natCast];exact⟨rfl,hk⟩
theorem UK (hS:Qm s) (h:Kn s σ) (hp:p < nn s) (h0:¬ inn s (p:Int) < 0) (h3:σ.st p=3) (hn:(p:Int) ∉ σ.kn (inn s (p:Int)).toNat) (l:List Int):Kn s (YL s p l σ):=by
 obtain⟨e,hq⟩:=JO hS hp h0;refine⟨fun q hq'=>?_,fun q hq' x hx=>?_⟩
 ·show(Yp σ.kn _ _ q).Pairwise _;by_cases z:q= (inn s (p:Int)).toNat
  ·subst z;rw [Zy];exact Zop (h.srt _ hq) hn
  ·rw [ZT z];exact h.srt q hq'
 ·have hx:x ∈ Yp σ.kn _ _ q:=hx;by_cases z:q= (inn s (p:Int)).toNat
  ·subst z;rw [Zy] at hx;rcases Kz.1 hx with w | w
   ·exact⟨p,w,hp,e,h3⟩
   ·exact h.rng _ hq x w
  ·rw [ZT z] at hx;exact h.rng q hq' x hx
theorem Kw {M a b i:Nat} (hb:b < M):i=a * M + b↔i / M=a∧i % M=b:=by
 have hM:0 < M:=by omega
 constructor
 ·intro e;subst e;have e1:(a * M + b) / M=a:=by rw [Nat.mul_comm,Nat.mul_add_div hM,Nat.div_eq_of_lt hb,Nat.add_zero]
  exact⟨e1,by rw [Nat.mul_comm,Nat.mul_add_mod,Nat.mod_eq_of_lt hb]⟩
 ·rintro⟨h1,h2⟩;have:=Nat.div_add_mod i M;rw [h1,h2,Nat.mul_comm] at this;exact this.symm
theorem ZrB (σ:TS) (p i:Nat):Zdi s σ p 0 i=σ.ma p i:=by unfold Zdi;rw [if_neg];rintro⟨_,h,_⟩;omega
theorem ZrC {k:Nat} (hk:k < mm s) (hne:k ≠ pl s p) (i:Nat):Zdi s σ p (k + 1) i=Yp (Zdi s σ p k) (li s (pl s p) k) ((σ.sn (li s (pl s p) k)).length:Int) i:=by
 unfold Yp;by_cases e:i=li s (pl s p) k
 ·rw [if_pos e];obtain⟨e1,e2⟩:= (Kw hk).1 e;unfold Zdi;rw [if_pos ⟨e1,by omega,by omega⟩,e]
 ·rw [if_neg e];unfold Zdi;by_cases c:i / mm s=pl s p∧i % mm s < k∧i % mm s ≠ pl s p
  ·rw [if_pos c,if_pos ⟨c.1,by omega,c.2.2⟩]
  ·rw [if_neg c,if_neg];rintro⟨c1,c2,c3⟩;refine c ⟨c1,?_,c3⟩;have:i % mm s ≠ k:=fun z=>e ((Kw hk).2 ⟨c1,z⟩)
   omega
theorem ZrD {k:Nat} (hne:k=pl s p) (i:Nat):Zdi s σ p (k + 1) i=Zdi s σ p k i:=by
 unfold Zdi;by_cases c:i / mm s=pl s p∧i % mm s < k∧i % mm s ≠ pl s p
 ·rw [if_pos c,if_pos ⟨c.1,by omega,c.2.2⟩]
 ·rw [if_neg c,if_neg];rintro⟨c1,c2,c3⟩;exact c ⟨c1,by omega,c3⟩
def Zcm (s:Zc) (f:Nat ->Nat ->Int):List (List Int):=tab (nn s) fun j=>tab (mm s * mm s) (f j)
theorem Zi4 {f:Nat ->Nat ->Int} (hp:p < nn s):ZJ (Zcm s f) (p:Int)=some (tab (mm s * mm s) (f p)):=Yq hp
theorem Zen {f:Nat ->Nat ->Int} {g:Nat ->Int}:YX (Zcm s f) (p:Int) (tab (mm s * mm s) g)=Zcm s (Yp f p g):=by
 unfold Zcm;rw [Qs];refine UF fun j _=>?_
 by_cases e:j=p
 ·subst e;rw [Zy,Zy]
 ·rw [ZT e,ZT e]
theorem ZcF {f g:Nat ->Nat ->Int} (h:∀ j,j < nn s ->∀ i,i < mm s * mm s ->f j i=g j i):Zcm s f=Zcm s g:=UF fun j hj=>UF fun i hi=>h j hj i hi
theorem ZtJ (h:Wf s B σ) (hB:B <=800000) {i:Nat} (hi:i < mm s * mm s):Yx ((Kq σ i).ZL + ((Kq σ i).kG.length:Int))= ((σ.sn i).length:Int):=by
 have h1:=h.ld i hi;have h2:= (h.few hB).sn i hi;show Yx ((σ.ld i:Int) + (((σ.sn i).drop (σ.ld i)).length:Int))=_;rw [List.length_drop,KF (by omega) (by omega)];omega
theorem Zoj {β:Type} (hF:1000 <=F) (hS:Qm s) (h:Wf s B σ) (hB:B <=800000) (hp:p < nn s) {r:Option β} {body:Int×List (List Int) ->(Int×List (List Int) ->Option β) ->Option β}
 (hb:∀ (v:List (List Int)) (k:Nat),k < mm s ->∀ next,body ((k:Int),v) next=bif((k:Int) != (pl s p:Int)) then((ZJ v (p:Int)).bind fun x=>(ZJ x (Yx (Yx ((pl s p:Int) * s.qG) + (k:Int)))).bind fun _=>next (Yx ((k:Int) + 1),YX v (p:Int) (YX x (Yx (Yx ((pl s p:Int) * s.qG) + (k:Int))) ((σ.sn (li s (pl s p) k)).length:Int)))) else next (Yx ((k:Int) + 1),v))
 (he:∀ next,body ((mm s:Int),Zcm s (ZLp s p σ).ma) next=r):loop F body (0,Zcm s σ.ma)=r:=by
 obtain⟨_,_,h4⟩:=hS.mm;have hpl:= (hS.pl hp).2
 refine XD (fun k=>((k:Int),Zcm s (Yp σ.ma p (Zdi s σ p k)))) (by
  have:Zcm s (Yp σ.ma p (Zdi s σ p 0))=Zcm s σ.ma:=ZcF fun j _ i _=>by
   by_cases e:j=p
   ·subst e;rw [Zy,ZrB]
   ·rw [ZT e]
  rw [this];rfl) (n:=mm s) (by omega) (fun k hk next=>?_) (fun next=>?_)
 ·rw [hb _ _ hk]
  have e1:(((k:Int)) != ((pl s p:Int)))=decide (k ≠ pl s p):=by
   rw [Zcf];by_cases z:k=pl s p
   ·subst z;simp
   ·rw [decide_eq_true z,decide_eq_true (by omega)]
  rw [e1];by_cases z:k ≠ pl s p
  ·rw [decide_eq_true z,Cq1,Zi4 hp,Zy];simp only [Bq0];rw [Zbt hS hpl hk,Yq (K6 hpl hk)];simp only [Bq0];rw [Qs,Zen,Qo (by omega)];congr 2;refine ZcF fun j _ i hi=>?_
   by_cases e:j=p
   ·subst e;rw [Zy,Zy,ZrC hk z]
   ·rw [ZT e,ZT e,ZT e]
  ·have z:=Classical.not_not.1 z;rw [decide_eq_false (by simpa using z),Cq0,Qo (by omega)];congr 2;refine ZcF fun j _ i hi=>?_
   by_cases e:j=p
   ·subst e;rw [Zy,Zy,ZrD z]
   ·rw [ZT e,ZT e]
 ·exact he next
end
end
section
section
variable {s:Zc} {σ:TS} {F B p q:Nat} {die:Nat ->TS ->TS}
theorem ZgQ (hS:Qm s):mm s * mm s <=16:=Nat.mul_le_mul hS.mm.2.2 hS.mm.2.2
theorem Zj2 (hS:Qm s):decide (((mm s:Nat):Int) < s.qG)=false:=by rw [hS.mm.1];exact Y2 _
theorem Zeo (hS:Qm s) {k:Nat} (hk:k < mm s):decide ((k:Int) < s.qG)=true:=by rw [hS.mm.1];exact YT hk
theorem Zrj (hF:100000 <=F) (hS:Qm s) (hp:p < nn s) (hw:Wf s B σ) (hB:B <=700000) (hk:Kn s σ) (h3:σ.st p=3) (hn:¬ inn s (p:Int) < 0 ->(p:Int) ∉ σ.kn (inn s (p:Int)).toNat) (UC:ZB×Int ->Option ZB) (nx:Int×List (List Int) ->Option ZB)
 (hx:¬ inn s (p:Int) < 0 ->(YL s p (mks s σ p) σ).st (inn s (p:Int)).toNat=2 ->UC (hal s (YL s p (mks s σ p) σ),((inn s (p:Int)).toNat:Int))=some (hal s (die (inn s (p:Int)).toNat (YL s p (mks s σ p) σ)))):
 Zhh F (p:Int) UC (tab (nn s) σ.st) (tab (nn s) σ.kn) (tab (nn s) σ.wa) (tab (mm s) σ.be) (tab (mm s * mm s) (Kq σ)) σ.sd s.qG s.Ze σ.ev (pl s p:Int) ((mm s:Int),Zcm s σ.ma) nx=some (hal s (ZkZ s die p σ)):=by
 have h16:=ZgQ hS;unfold Zhh;dsimp only;rw [Zj2 hS,Cq0,Qf hp];simp only [Bq0];rw [JD];unfold ZkZ;by_cases h0:inn s (p:Int) < 0
 ·rw [decide_eq_true h0,Cq1,if_pos h0];rfl
 ·rw [decide_eq_false h0,Cq0,if_neg h0];obtain⟨eq,hq⟩:=JO hS hp h0;have hn:=hn h0;have hx:=hx h0;obtain⟨q,hqe⟩:∃ q,q= (inn s (p:Int)).toNat:= ⟨_,rfl⟩
  rw [← hqe] at eq hq hn hx ⊢;rw [eq,show Zcm s σ.ma=tab (nn s) fun p=>tab (mm s * mm s) (σ.ma p) from rfl,Zka,Uu hS hq];simp only [Bq0];rw [ZdG,Yq hp];simp only [Bq0];by_cases e:pl s q=pl s p
  ·rw [decide_eq_true e,Cq1,if_pos e,Yq hq];simp only [Bq0];have hl:=hk.len hS hq;rw [ZiO (by omega) (by omega) (hk.srt q hq) hn];simp only [Bq0,Bool.not_false,Cq1];rw [insert_eq (by omega)];simp only [Bq0];rw [Qs];unfold Zhf;rw [JD,eq,Yq hq];simp only [Bq0];rw [Zdr (by omega) (by omega) XU];simp only [Bq0];rw [Yq hq];simp only [Bq0]
   have e3:YX (tab (nn s) fun p=>tab (mm s * mm s) (σ.ma p)) (q:Int) (tab (mm s * mm s) (mx (σ.ma q) (tab (mm s * mm s) (σ.ma p))))=tab (nn s) fun j=>tab (mm s * mm s) ((YL s p (mks s σ p) σ).ma j):=by
    have:=Zen (s:=s) (p:=q) (f:=σ.ma) (g:=mx (σ.ma q) (tab (mm s * mm s) (σ.ma p)));unfold Zcm at this;rw [this];show _=tab (nn s) fun j=>tab (mm s * mm s) (Yp σ.ma (inn s (p:Int)).toNat _ j)
    rw [← hqe];rfl
   have e4:tab (nn s) (Yp σ.kn q (ins (p:Int) (σ.kn q)))=tab (nn s) (YL s p (mks s σ p) σ).kn:=by
    show _=tab (nn s) (Yp σ.kn (inn s (p:Int)).toNat _);rw [← hqe]
   rw [e3,e4];have e5:ZB.mk (Zg.mk (tab (nn s) σ.st) (tab (nn s) fun j=>tab (mm s * mm s) ((YL s p (mks s σ p) σ).ma j)) (tab (nn s) (YL s p (mks s σ p) σ).kn) (tab (nn s) σ.wa) (tab (mm s) σ.be) (tab (mm s * mm s) (Kq σ)) σ.sd) (Zc.mk s.qG s.Ze) σ.ev=hal s (YL s p (mks s σ p) σ):=rfl;rw [e5];have hk3:=UK hS hk hp h0 h3 (by rw [← hqe];exact hn) (mks s σ p);rw [Y5];unfold KN;rw [← hqe];have e6:(YL s p (mks s σ p) σ).st q=σ.st q:=rfl;by_cases h2:σ.st q=2
   ·rw [decide_eq_true h2,UR,ZcW (by omega) hS hq (by have:=hk3.len hS hq;omega)];by_cases hA:Alo s (YL s p (mks s σ p) σ) q
    ·rw [ZX hA];simp only [Bq0,Bool.and_self,Cq1];rw [hx (by rw [e6];exact h2),ZX ⟨by rw [e6];exact h2,hA⟩];rfl
    ·rw [ZR hA];simp only [Bq0,Bool.and_false,Cq0];rw [ZR fun z=>hA z.2]
     rfl
   ·rw [decide_eq_false h2,Zab];simp only [Bq0,Bool.false_and,Cq0];rw [ZR fun z=>h2 (by rw [← e6];exact z.1)]
    rfl
  ·rw [decide_eq_false e,Cq0,if_neg e];unfold Zfp;rw [show app 8 ([]:List Int) (tab (mm s * mm s) (σ.ma p))=some (mks s σ p) from Zl7 hS hp];simp only [Bq0];rw [KX hS (hw.few (by omega)) (hS.pl hp).2 (hS.pl hq).2];rfl
theorem ZmW (hF:1000000 <=F) (hS:Qm s):∀ (d p:Nat) (σ:TS) (F':Nat),d < F' ->p < nn s ->up s d (p:Int) < 0 ->Wf s B σ ->B <=700000 ->Kn s σ ->σ.st p ≠ 3 ->loop F' (Zje F) (hal s σ,(p:Int))=some (hal s (ZhA s d p σ)):=by
 intro d
 induction d generalizing B with
 | zero=>intro p σ F' _ _ hu _ _ _ _;exact absurd hu (by show ¬ ((p:Int)) < 0;omega)
 | succ d ih=>
   intro p σ F' hd hp hu hw hB hk h3;cases F' with
   | zero=>omega
   | succ F'=>
     obtain⟨b1,w0,b2⟩:=ZjH hw hp h3;have wA:=ZpL hS hw hp h3;have kA:=Zqo hk p;have sA:=JP (s:=s) p σ;have w1:=hw.st hp (3:Int) (B':=B) (by rw [show sw (3:Int)=0 from rfl];omega);have sB:=Zm6 (s:=s) p (σ.wa p) (Wx p σ);rw [Ua];unfold Zje;dsimp only;rw [show(hal s σ).Za.qV=tab (nn s) σ.st from rfl,Yq hp];simp only [Bq0];rw [Qs,show ZB.mk (Zg.mk (tab (nn s) (Yp σ.st p 3)) (hal s σ).Za.qX (hal s σ).Za.qZ (hal s σ).Za.Zk (hal s σ).Za.Zt (hal s σ).Za.kQ (hal s σ).Za.kK) (hal s σ).qK (hal s σ).kU=hal s {σ with st:=Yp σ.st p 3} from rfl,WG (w1.few (by omega))];simp only [Bq0];rw [show(hal s (tell 6 (p:Int) 0 0 {σ with st:=Yp σ.st p 3})).Za.Zk=tab (nn s) σ.wa from rfl,Yq hp];simp only [Bq0];rw [Qs];refine XD (fun k=>((k:Int),tab (nn s) (Zt s p ((σ.wa p).take k) (Wx p σ)).st,(tab (nn s) fun j=>tab (mm s * mm s) ((Zt s p ((σ.wa p).take k) (Wx p σ)).ma j)),tab (nn s) (Zt s p ((σ.wa p).take k) (Wx p σ)).kn,tab (nn s) (Zt s p ((σ.wa p).take k) (Wx p σ)).wa,tab (mm s) (Zt s p ((σ.wa p).take k) (Wx p σ)).be,tab (mm s * mm s) (Kq (Zt s p ((σ.wa p).take k) (Wx p σ))),(Zt s p ((σ.wa p).take k) (Wx p σ)).sd,s.qG,s.Ze,(Zt s p ((σ.wa p).take k) (Wx p σ)).ev)) rfl (n:= (σ.wa p).length) (by omega) (fun k hk' next=>?_) (fun next=>?_)
     ·unfold Zku;dsimp only;rw [YT hk',Cq1,QD 0 hk'];simp only [Bq0];obtain⟨j,ej,hj⟩:=hw.ws p hp _ (XP (d:=0) hk');have wk:=Zga hS hp ((σ.wa p).take k) _ _ w0 (fun x hx=>hw.ws p hp x (List.mem_of_mem_take hx));have hlen:((σ.wa p).take k).length <= (σ.wa p).length:=by rw [List.length_take];omega
      rw [Zka,ej,Zjv hS (wk.few (by omega)) hj hp];simp only [Bq0];rw [Zph p k _ hk',ej,Int.toNat_natCast,Qo (by omega)];rfl
     ·unfold Zku;dsimp only;rw [Y2,Cq0,List.take_length,Zka,Uu hS hp];simp only [Bq0];have wB:=Zga hS hp (σ.wa p) _ _ w0 (hw.ws p hp);refine Zoj (by omega) hS wB (by omega) hp (fun v k hk' next=>?_) (fun next=>?_)
      ·unfold Zhh Zhg;dsimp only;rw [Zeo hS hk',Cq1];by_cases z:k=pl s p
       ·subst z;rw [show(((pl s p:Nat):Int) != ((pl s p:Nat):Int))=false by simp,Cq0,Cq0]
       ·have:(((k:Int)) != ((pl s p:Int)))=true:=by rw [Zcf];exact decide_eq_true (by omega)
        rw [this,Cq1,Cq1,Zbt hS (hS.pl hp).2 hk',Yq (K6 (hS.pl hp).2 hk')];simp only [Bq0];rw [ZtJ wB (by omega) (K6 (hS.pl hp).2 hk')]
      ·have hpA:(YM s p σ).st p=3:=by rw [sA.1,Zy]
       have hnot:¬ inn s (p:Int) < 0 ->(p:Int) ∉ (YM s p σ).kn (inn s (p:Int)).toNat:=fun h0 hm=>by
        obtain⟨eq,hq⟩:=JO hS hp h0;rw [sA.2.1] at hm;obtain⟨k,e1,e2,e3,e4⟩:=hk.rng _ hq _ hm;have:k=p:=by omega
        subst this;exact h3 e4
       have ht:=Zrj (F:=F) (die:=ZhA s d) (by omega) hS hp wA (by omega) kA hpA hnot (fun x=>loop F' (Zje F) x) next fun h0 h2=>by
        obtain⟨eq,hq⟩:=JO hS hp h0;refine ih (B:=B - 1) _ _ F' (by omega) hq ?_ ((KV wA).up (Nat.le_refl _)) (by omega) (UK hS kA hp h0 hpA (hnot h0) _) (by rw [h2];decide);rw [← eq];have hu:(if((p:Int)) < 0 then(p:Int) else up s d (inn s (p:Int))) < 0:=hu
        rwa [if_neg (by omega)] at hu
       exact ht
end
end
section
theorem Zye {α:Type} {l:List α} {c:Nat} (h:c <=l.length):slL l 0 (c:Int)=some (l.take c):=by
 unfold slL;rw [decide_eq_true (show(0:Int) <=0 by omega),decide_eq_true (show(0:Int) <= (c:Int) by omega),decide_eq_true (show(c:Int) <= (l.length:Int) by omega)];simp
theorem ZpO {α:Type} {l:List α} {c:Nat} (h:c <=l.length):slL l (c:Int) (l.length:Int)=some (l.drop c):=by
 unfold slL;rw [decide_eq_true (show(0:Int) <= (c:Int) by omega),decide_eq_true (show(c:Int) <= (l.length:Int) by omega),decide_eq_true (show(l.length:Int) <= (l.length:Int) by omega)];simp
section
variable {s:Zc} {σ:TS} {F B p q:Nat} {die:Nat ->TS ->TS}
end
end
section
noncomputable section
variable (s:Zc)
def Uq (p:Nat) (σ:TS):TS:= {σ with st:=Yp σ.st p 2,ev:=σ.ev ++ [⟨5,(p:Int),0,0⟩]}
def Zfm (fall:Nat ->TS ->TS) (p:Nat) (σ:TS) (k:Nat):TS:=
 if pl s k=pl s p then(if σ.st k=1 then fall k σ else σ)
 else if(k:Int) ∈ σ.kn p then σ else send s (pl s p) (pl s k) ⟨3,(k:Int),0,0,[]⟩ σ
def Zkr (p:Nat) (σ:TS):TS:=ifc (σ.st p=2∧Alo s σ p) (ZhA s (nn s) p σ) σ
def Zmd (p k:Nat):List Nat:= (List.range k).filter fun q:Nat=>inn s (q:Int)== (p:Int)
def fk (fall:Nat ->TS ->TS) (p k:Nat) (σ:TS):TS:= (Zmd s p k).foldl (Zfm s fall p) σ
def Jo:Nat ->Nat ->TS ->TS
 | 0,_,σ=>σ
 | d + 1,p,σ=>Zkr s p (fk s (Jo d) p (nn s) (Uq p σ))
end
section
variable {s:Zc} {σ:TS} {F B p q d:Nat} {fall:Nat ->TS ->TS}
theorem Zb2 (p k:Nat):Zmd s p (k + 1)=Zmd s p k ++ (if inn s (k:Int)= (p:Int) then [k] else []):=by
 unfold Zmd;rw [List.range_succ,List.filter_append,List.filter_cons,List.filter_nil,Y5];by_cases h:inn s (k:Int)= (p:Int) <;> simp [h]
theorem Zg0 (p k:Nat):(Zmd s p k).length <=k:=by
 unfold Zmd;have:=List.length_filter_le (fun q:Nat=>inn s (q:Int)== (p:Int)) (List.range k)
 rwa [List.length_range] at this
theorem Zwg {k:Nat} (h:inn s (k:Int)= (p:Int)):fk s fall p (k + 1) σ=Zfm s fall p (fk s fall p k σ) k:=by
 unfold fk;rw [Zb2,if_pos h,List.foldl_append];rfl
theorem ZBr {k:Nat} (h:inn s (k:Int) ≠ (p:Int)):fk s fall p (k + 1) σ=fk s fall p k σ:=by
 unfold fk;rw [Zb2,if_neg h,List.append_nil]
structure Gd (s:Zc) (B:Nat) (σ:TS):Prop where
 wf:Wf s B σ
 kn:Kn s σ
theorem Gd.up (h:Gd s B σ) {B':Nat} (hb:B <=B'):Gd s B' σ:= ⟨h.wf.up hb,h.kn⟩
theorem ZIB (h:Kn s σ) {v:Int} (h3:σ.st p ≠ 3) {e:List Zp}:Kn s {σ with st:=Yp σ.st p v,ev:=e}:=by
 refine⟨h.srt,fun q hq x hx=>?_⟩;obtain⟨k,h1,h2,h4,h5⟩:=h.rng q hq x hx;refine⟨k,h1,h2,h4,?_⟩;show Yp σ.st p v k=3;rw [ZT (fun z=>by subst z;exact h3 h5)];exact h5
theorem Zqn (h:Kn s σ) (a b:Nat) (x:Zd):Kn s (send s a b x σ):= ⟨h.srt,h.rng⟩
theorem Zmr (h:Gd s B σ) (hp:p < nn s) (h1:σ.st p=1):11 <=B∧Gd s (B - 8) (Uq p σ):=by
 have hb:=h.wf.pot
 have h11:11 <=Pot s σ:=by
  have:=Uj (f:=fun p=>sw (σ.st p)) hp;have e:sw (σ.st p)=11:=by rw [h1];rfl
  unfold Pot;omega
 have w1:=h.wf.st hp (2:Int) (B':=B - 9) (by rw [h1];show B + 2 <=B - 9 + 11;omega);exact⟨by omega,(w1.tell 5 (p:Int) 0 0).up (by omega),ZIB h.kn (by rw [h1];decide)⟩
theorem Ztv (hp:p < nn s) (hu:up s (d + 1) (p:Int) < 0):up s d (inn s (p:Int)) < 0:=by
 have hu:(if((p:Int)) < 0 then(p:Int) else up s d (inn s (p:Int))) < 0:=hu
 rwa [if_neg (by omega)] at hu
theorem ZwK (hS:Qm s):∀ (d p:Nat) (σ:TS) (B:Nat),p < nn s ->up s d (p:Int) < 0 ->Gd s B σ ->σ.st p ≠ 3 ->Gd s B (ZhA s d p σ):=by
 intro d
 induction d with
 | zero=>intro p σ B hp hu _ _;exact absurd hu (by show ¬ ((p:Int)) < 0;omega)
 | succ d ih=>
   intro p σ B hp hu h h3;have wA:=ZpL hS h.wf hp h3;have kA:=Zqo h.kn p;have sA:=JP (s:=s) p σ;have b1:= (ZjH h.wf hp h3).1;have hpA:(YM s p σ).st p=3:=by rw [sA.1,Zy]
   show Gd s B (ZkZ s (ZhA s d) p (YM s p σ));unfold ZkZ;by_cases h0:inn s (p:Int) < 0
   ·rw [if_pos h0];exact⟨wA.up (by omega),kA⟩
   ·rw [if_neg h0];obtain⟨eq,hq⟩:=JO hS hp h0
    have hnot:(p:Int) ∉ (YM s p σ).kn (inn s (p:Int)).toNat:=fun hm=>by
     rw [sA.2.1] at hm;obtain⟨k,e1,e2,e3,e4⟩:=h.kn.rng _ hq _ hm;have:k=p:=by omega
     subst this;exact h3 e4
    have k3:=UK hS kA hp h0 hpA hnot (mks s (YM s p σ) p);by_cases e:pl s (inn s (p:Int)).toNat=pl s p
    ·rw [if_pos e];unfold KN;by_cases c:(YL s p (mks s (YM s p σ) p) (YM s p σ)).st (inn s (p:Int)).toNat=2∧Alo s (YL s p (mks s (YM s p σ) p) (YM s p σ)) (inn s (p:Int)).toNat
     ·rw [ZX c];refine(ih _ _ (B - 1) hq ?_ ⟨KV wA,k3⟩ (by rw [c.1];decide)).up (by omega);rw [← eq];exact Ztv hp hu
     ·rw [ZR c];exact⟨(KV wA).up (by omega),k3⟩
    ·rw [if_neg e];exact⟨(wA.send (hS.pl hp).2 (hS.pl hq).2 _).up (by show B - 1 + 1 + 0 <=B;omega),Zqn kA _ _ _⟩
theorem Zyd (hS:Qm s) (ih:∀ (k:Nat) (σ:TS) (B:Nat),k < nn s ->Za9 s d k ->Gd s B σ ->σ.st k=1 ->Gd s B (fall k σ)) {k:Nat} (hk:k < nn s) (hp:p < nn s) (hs:Za9 s d k) (h:Gd s B σ):Gd s (B + 1) (Zfm s fall p σ k):=by
 unfold Zfm;by_cases e:pl s k=pl s p
 ·rw [if_pos e];by_cases e1:σ.st k=1
  ·rw [if_pos e1];exact(ih k σ B hk hs h e1).up (by omega)
  ·rw [if_neg e1];exact h.up (by omega)
 ·rw [if_neg e];by_cases e1:(k:Int) ∈ σ.kn p
  ·rw [if_pos e1];exact h.up (by omega)
  ·rw [if_neg e1];exact⟨(h.wf.send (hS.pl hp).2 (hS.pl hk).2 _).up (by show B + 1 + 0 <=B + 1;omega),Zqn h.kn _ _ _⟩
theorem ZBs (hS:Qm s) (ih:∀ (k:Nat) (σ:TS) (B:Nat),k < nn s ->Za9 s d k ->Gd s B σ ->σ.st k=1 ->Gd s B (fall k σ)) (hp:p < nn s) (hs:Za9 s (d + 1) p) (h:Gd s B σ):∀ k,k <=nn s ->Gd s (B + (Zmd s p k).length) (fk s fall p k σ):=by
 intro k
 induction k with
 | zero=>intro _;exact h
 | succ k ihk=>
   intro hk;have h1:=ihk (by omega);by_cases e:inn s (k:Int)= (p:Int)
   ·rw [Zwg e,Zb2,if_pos e,List.length_append,List.length_singleton];exact Zyd hS ih (by omega) hp (hs.kid e) h1
   ·rw [ZBr e,Zb2,if_neg e,List.append_nil];exact h1
theorem Ze6 (hS:Qm s) (hp:p < nn s):up s (nn s) (p:Int) < 0:=hS.inn.acy p hp
theorem Zks (hS:Qm s):∀ (d p:Nat) (σ:TS) (B:Nat),p < nn s ->Za9 s d p ->Gd s B σ ->σ.st p=1 ->Gd s B (Jo s d p σ):=by
 intro d
 induction d with
 | zero=>intro p σ B hp hs _ _;exact absurd rfl (hs p hp 0 (Nat.le_refl _))
 | succ d ih=>
   intro p σ B hp hs h h1;obtain⟨b,g0⟩:=Zmr h hp h1;have g1:=ZBs hS ih hp hs g0 (nn s) (Nat.le_refl _);have hl:=Zg0 (s:=s) p (nn s);have h8:nn s <=8:=hS.p2;have g2:=g1.up (B':=B) (by omega);show Gd s B (Zkr s p (fk s (Jo s d) p (nn s) (Uq p σ)));unfold Zkr;by_cases c:(fk s (Jo s d) p (nn s) (Uq p σ)).st p=2∧Alo s (fk s (Jo s d) p (nn s) (Uq p σ)) p
   ·rw [ZX c];exact ZwK hS _ _ _ _ hp (Ze6 hS hp) g2 (by rw [c.1];decide)
   ·rw [ZR c];exact g2
def U5 (s:Zc) (σ:TS):List Int×List (List Int)×List (List Int)×List (List Int)×List (List Zd)×List Zl×Int×Int×List ZI×List Zp:=
 (tab (nn s) σ.st,(tab (nn s) fun j=>tab (mm s * mm s) (σ.ma j)),tab (nn s) σ.kn,tab (nn s) σ.wa,tab (mm s) σ.be,tab (mm s * mm s) (Kq σ),σ.sd,s.qG,s.Ze,σ.ev)
theorem ZrZ (hF:1000000 <=F) (hS:Qm s) (hp:p < nn s) (h:Gd s B σ) (hB:B <=700000):ZcQ F (p:Int) (U5 s σ)=some (hal s (Zkr s p σ)):=by
 unfold ZcQ U5;dsimp only;rw [Yq hp];simp only [Bq0];rw [Y5,Zka];unfold Zkr;by_cases h2:σ.st p=2
 ·rw [decide_eq_true h2,UR,ZcW (by omega) hS hp (by have:=h.kn.len hS hp;omega)];by_cases hA:Alo s σ p
  ·rw [ZX hA,ZX ⟨h2,hA⟩];simp only [Bq0,Bool.and_self,Cq1];unfold Zwk;have h8:nn s <=8:=hS.p2;rw [ZmW hF hS _ _ _ F (by omega) hp (Ze6 hS hp) h.wf hB h.kn (by rw [h2];decide)];rfl
  ·rw [ZR hA,ZR fun z=>hA z.2];simp only [Bq0,Bool.and_false,Cq0]
 ·rw [decide_eq_false h2,Zab,ZR fun z=>h2 z.1];simp only [Bq0,Bool.false_and,Cq0]
theorem ZfP (k:Int) (nx:Int×List Int×List (List Int)×List (List Int)×List (List Int)×List (List Zd)×List Zl×Int×Int×List ZI×List Zp ->Option ZB):ZcP F (p:Int) k nx (U5 s σ)=nx (Yx (k + 1),U5 s σ):=rfl
theorem Zjc (hF:1000000 <=F) (hS:Qm s):∀ (d p:Nat) (σ:TS) (F' B:Nat),d < F' ->p < nn s ->Za9 s d p ->Gd s B σ ->B <=700000 ->σ.st p=1 ->loop F' (Zjf F) (hal s σ,(p:Int))=some (hal s (Jo s d p σ)):=by
 intro d
 induction d with
 | zero=>intro p σ F' B _ hp hs _ _ _;exact absurd rfl (hs p hp 0 (Nat.le_refl _))
 | succ d ih=>
   intro p σ F' B hd hp hs h hB h1;cases F' with
   | zero=>omega
   | succ F'=>
     obtain⟨b,g0⟩:=Zmr h hp h1;have gk:=ZBs hS (fun k σ B hk hs h e=>Zks hS d k σ B hk hs h e) hp hs g0;have h8:nn s <=8:=hS.p2;have w1:=h.wf.st hp (2:Int) (B':=B) (by rw [h1];show B + 2 <=B + 11;omega);rw [Ua];generalize hnx:loop F' (Zjf F)=nx;unfold Zjf ZkC;dsimp only;rw [show(hal s σ).Za.qV=tab (nn s) σ.st from rfl,Yq hp];simp only [Bq0];rw [Qs,show ZB.mk (Zg.mk (tab (nn s) (Yp σ.st p 2)) (hal s σ).Za.qX (hal s σ).Za.qZ (hal s σ).Za.Zk (hal s σ).Za.Zt (hal s σ).Za.kQ (hal s σ).Za.kK) (hal s σ).qK (hal s σ).kU=hal s {σ with st:=Yp σ.st p 2} from rfl,WG (w1.few (by omega))];simp only [Bq0];refine XD (fun k=>((k:Int),U5 s (fk s (Jo s d) p k (Uq p σ)))) rfl (n:=nn s) (by omega) (fun k hk next=>?_) (fun next=>?_)
     ·have gk':=gk k (by omega);have hl:=Zg0 (s:=s) p k;have hB':B - 8 + (Zmd s p k).length <=700000:=by omega
      obtain⟨σk,hσ⟩:∃ σk,σk=fk s (Jo s d) p k (Uq p σ):= ⟨_,rfl⟩
      rw [← hσ] at gk' ⊢;have fw:=gk'.wf.few (by omega);unfold Zhm;rw [show(U5 s σk)= (tab (nn s) σk.st,(tab (nn s) fun j=>tab (mm s * mm s) (σk.ma j)),tab (nn s) σk.kn,tab (nn s) σk.wa,tab (mm s) σk.be,tab (mm s * mm s) (Kq σk),σk.sd,s.qG,s.Ze,σk.ev) from rfl];dsimp only;rw [show(hal s (tell 5 (p:Int) 0 0 {σ with st:=Yp σ.st p 2})).qK.Ze=s.Ze from rfl,show((s.Ze.length:Nat):Int)= ((nn s:Nat):Int) from rfl,YT hk,Cq1,Qf hk];simp only [Bq0];rw [JD,Y5];by_cases e:inn s (k:Int)= (p:Int)
      ·rw [decide_eq_true e,Cq1,Zka,Uu hS hk,Uu hS hp];simp only [Bq0];rw [Zwg e,← hσ,ZdG];unfold Zfm;by_cases e1:pl s k=pl s p
       ·rw [decide_eq_true e1,Cq1,if_pos e1,Yq hk];simp only [Bq0];rw [Y5];by_cases e2:σk.st k=1
        ·rw [decide_eq_true e2,Cq1,if_pos e2,← hnx,ih k σk F' _ (by omega) hk (hs.kid e) gk' hB' e2];simp only [Bq0];exact(ZfP (s:=s) (σ:=Jo s d k σk) (F:=F) (p:=p) (k:Int) next).trans (by rw [Qo (by omega)])
        ·rw [decide_eq_false e2,Cq0,if_neg e2];exact(ZfP (s:=s) (σ:=σk) (F:=F) (p:=p) (k:Int) next).trans (by rw [Qo (by omega)])
       ·rw [decide_eq_false e1,Cq0,if_neg e1,Yq hp];simp only [Bq0];rw [contains_eq (by omega) (by have:=gk'.kn.len hS hp;omega)];simp only [Bq0];by_cases e2:(k:Int) ∈ σk.kn p
        ·rw [decide_eq_true e2,Bool.not_true,Cq0,if_pos e2];exact(ZfP (s:=s) (σ:=σk) (F:=F) (p:=p) (k:Int) next).trans (by rw [Qo (by omega)])
        ·rw [decide_eq_false e2,Bool.not_false,Cq1,if_neg e2];rw [KX hS fw (hS.pl hp).2 (hS.pl hk).2];simp only [Bq0];exact(ZfP (s:=s) (σ:=send s (pl s p) (pl s k) ⟨3,(k:Int),0,0,[]⟩ σk) (F:=F) (p:=p) (k:Int) next).trans (by rw [Qo (by omega)])
      ·rw [decide_eq_false e,Cq0,ZBr e,← hσ,Qo (by omega)]
       rfl
     ·have gk':=gk (nn s) (Nat.le_refl _);have hl:=Zg0 (s:=s) p (nn s);refine(?_:Zhm F (p:Int) _ _ _ next=ZcQ F (p:Int) (U5 s (fk s (Jo s d) p (nn s) (Uq p σ)))).trans (ZrZ hF hS hp gk' (by omega));unfold Zhm U5;dsimp only;rw [show(hal s (tell 5 (p:Int) 0 0 {σ with st:=Yp σ.st p 2})).qK.Ze=s.Ze from rfl,show((s.Ze.length:Nat):Int)= ((nn s:Nat):Int) from rfl,Y2,Cq0]
end
end
section
section
variable {s:Zc} {σ:TS} {F B p q d:Nat} {fall:Nat ->TS ->TS}
end
end
section
def drop1 (i:Nat) (σ:TS):TS:= {σ with ld:=Yp σ.ld i (σ.ld i + 1)}
noncomputable def ZcI (s:Zc) (k:Nat) (l:List Int) (σ:TS):TS:=KN s (ZhA s (nn s)) k l σ
noncomputable def Zi6 (s:Zc) (b:Nat) (x:Zd) (σ:TS):TS:=
 if x.kW=1 then see x.kX.toNat x.kV.toNat x.n σ
 else if x.kW=2 then note s x.kV.toNat x.kX.toNat σ
 else if x.kW=3 then(if σ.st x.kV.toNat=1 then Jo s (nn s) x.kV.toNat σ else σ)
 else if x.kW=4 then ZcI s x.kV.toNat x.qX σ
 else wait b x σ
def hd (σ:TS) (i:Nat):Zd:= (σ.sn i).getD (σ.ld i) default
noncomputable def Zfl (s:Zc) (a b:Nat) (σ:TS):TS:=Zi6 s b (hd σ (li s a b)) (drop1 (li s a b) σ)
def Zxx (s:Zc) (b:Nat) (x:Zd):Prop:=∃ p:Nat,x.kV= (p:Int)∧p < nn s∧
 ((x.kW=1∧∃ q:Nat,x.kX= (q:Int)∧q < nn s)∨(x.kW=2∧∃ q:Nat,x.kX= (q:Int)∧q < nn s)∨x.kW=3∨(x.kW=4∧0 <=inn s (p:Int)∧x.qX.length=mm s * mm s)∨(x.kW=5∧pl s p=b∧x.qX.length=mm s * mm s∧∃ q:Nat,x.kX= (q:Int)∧q < nn s))
def ZsN (s:Zc) (x:Zd) (σ:TS):Prop:=x.kW=4 ->σ.st x.kV.toNat=3∧x.kV ∉ σ.kn (inn s x.kV).toNat
section
variable {s:Zc} {σ:TS} {F B a b p q:Nat} {x:Zd} {l:List Int}
theorem Zko (h:σ.ld p < (σ.sn p).length):fl σ p=hd σ p::(σ.sn p).drop (σ.ld p + 1):=by
 unfold fl hd;rw [List.drop_eq_getElem_cons h,Zdu h]
theorem Zuu (hp:p < mm s * mm s) (h:σ.ld p < (σ.sn p).length):Pot s (drop1 p σ) + ew (hd σ p)=Pot s σ:=by
 have e:=Zbe (f:=lw σ) (g:=lw (drop1 p σ)) hp fun j _ hj=>by
  unfold lw fl;show _ + (((σ.sn j).drop (Yp σ.ld p _ j)).map ew).sum=_;rw [ZT hj];rfl
 have e1:lw (drop1 p σ) p + ew (hd σ p)=lw σ p:=by
  show(σ.sn p).length + (((σ.sn p).drop (Yp σ.ld p _ p)).map ew).sum + _= (σ.sn p).length + ((fl σ p).map ew).sum;rw [Zy,Zko h,List.map_cons,List.sum_cons];omega
 show σ.ev.length + X7 (mm s * mm s) (lw (drop1 p σ)) + X7 (mm s) (fun m=>(σ.be m).length) + X7 (nn s) (fun q=>2 * (σ.wa q).length) + X7 (nn s) (fun p=>sw (σ.st p)) + _=_;unfold Pot;omega
theorem ZqF (h:Gd s B σ) (hp:p < mm s * mm s) (hl:σ.ld p < (σ.sn p).length):ew (hd σ p) <=B∧Gd s (B - ew (hd σ p)) (drop1 p σ):=by
 have:=Zuu (s:=s) hp hl;have:=h.wf.pot;refine⟨by omega,⟨by omega,fun i hi=>?_,h.wf.ws⟩,⟨h.kn.srt,h.kn.rng⟩⟩;show Yp σ.ld p _ i <=_;by_cases e:i=p
 ·subst e;rw [Zy];exact hl
 ·rw [ZT e];exact h.wf.ld i hi
theorem ZuX (hS:Qm s) (h:Gd s B σ) (hp:p < nn s) (h0:¬ inn s (p:Int) < 0) (h3:σ.st p=3) (hn:(p:Int) ∉ σ.kn (inn s (p:Int)).toNat):Gd s B (ZcI s p l σ):=by
 obtain⟨eq,hq⟩:=JO hS hp h0;have k3:=UK hS h.kn hp h0 h3 hn l;unfold ZcI KN;by_cases c:(YL s p l σ).st (inn s (p:Int)).toNat=2∧Alo s (YL s p l σ) (inn s (p:Int)).toNat
 ·rw [ZX c];exact ZwK hS _ _ _ _ hq (Ze6 hS hq) ⟨KV h.wf,k3⟩ (by rw [c.1];decide)
 ·rw [ZR c];exact⟨KV h.wf,k3⟩
theorem ZtK (h:Gd s B σ) (p q:Nat) (n:Int):Gd s (B + 1) (see p q n σ):=by
 refine⟨h.wf.see p q n,?_⟩;unfold see;split <;> exact⟨h.kn.srt,h.kn.rng⟩
theorem ZAa (hS:Qm s) (h:Gd s B σ) (hp:p < nn s) (hq:q < nn s):Gd s (B + 2) (XL s p q σ):=by
 have e:=ZdQ (s:=s) p q σ;exact⟨h.wf.XL hS hp hq,⟨fun j hj=>by rw [e.2.1];exact h.kn.srt j hj,fun j hj y hy=>by rw [e.2.1] at hy;rw [e.1];exact h.kn.rng j hj y hy⟩⟩
theorem Zqe (hS:Qm s) (h:Gd s B σ) (hp:p < nn s) (hq:q < nn s):Gd s (B + 2) (note s p q σ):=by
 refine⟨h.wf.note hS hp hq,?_⟩;unfold note;split
 ·exact(ZAa hS h hp hq).kn
 ·exact⟨h.kn.srt,h.kn.rng⟩
theorem Zx0 (h:Gd s B σ) (ha:a < mm s) (x:Zd):Gd s (B + 1) (wait a x σ):= ⟨h.wf.wait ha x,⟨h.kn.srt,h.kn.rng⟩⟩
theorem ZgW (hp:x.kV= (p:Int)) (hd:ZsN s x σ) (h4:x.kW=4):σ.st p=3∧(p:Int) ∉ σ.kn (inn s (p:Int)).toNat:=by
 have:=hd h4;rw [hp,Int.toNat_natCast] at this;exact this
theorem ZuZ (hS:Qm s) (h:Gd s B σ) (hb:b < mm s) (hx:Zxx s b x) (hd:ZsN s x σ):Gd s (B + ew x) (Zi6 s b x σ):=by
 obtain⟨p,hp,hpn,c⟩:=hx;unfold Zi6;rw [hp,Int.toNat_natCast];rcases c with⟨k,q,hq,hqn⟩ | ⟨k,q,hq,hqn⟩ | k | ⟨k,h0,hl⟩ | ⟨k,e,hl,q,hq,hqn⟩
 ·rw [if_pos k,hq,Int.toNat_natCast];exact(ZtK h q p x.n).up (by unfold ew;rw [if_pos k];omega)
 ·rw [if_neg (by omega),if_pos k,hq,Int.toNat_natCast];exact(Zqe hS h hpn hqn).up (by unfold ew;rw [if_neg (by omega),if_pos k];omega)
 ·rw [if_neg (by omega),if_neg (by omega),if_pos k];split
  ·exact(Zks hS _ _ _ _ hpn (Za9.all hS.inn) h (by assumption)).up (by omega)
  ·exact h.up (by omega)
 ·rw [if_neg (by omega),if_neg (by omega),if_neg (by omega),if_pos k];have:=ZgW hp hd k;exact(ZuX hS h hpn (by omega) this.1 this.2).up (by omega)
 ·rw [if_neg (by omega),if_neg (by omega),if_neg (by omega),if_neg (by omega)];exact(Zx0 h hb x).up (by unfold ew;rw [if_neg (by omega),if_neg (by omega),if_pos k];omega)
theorem Zmc (hS:Qm s) (h:Gd s B σ) (ha:a < mm s) (hb:b < mm s) (hl:σ.ld (li s a b) < (σ.sn (li s a b)).length) (hx:Zxx s b (hd σ (li s a b))) (hd:ZsN s (hd σ (li s a b)) σ):Gd s B (Zfl s a b σ):=by
 obtain⟨h1,h2⟩:=ZqF h (K6 ha hb) hl;exact(ZuZ hS h2 hb hx hd).up (by omega)
theorem ZBG {xs ys:List Zd} (h:xs.length + ys.length <=1000000):app 56 xs ys=some (xs ++ ys):=Zpn h (by decide)
theorem Zol (h:Gd s B σ) (hB:B <=700000) (hp:p < mm s * mm s) (hl:σ.ld p < (σ.sn p).length):
 YX (YX (tab (mm s * mm s) (Kq σ)) (p:Int) ⟨(Kq σ p).ZL,(fl σ p).drop 1⟩) (p:Int) ⟨Yx ((Kq σ p).ZL + 1),(fl σ p).drop 1⟩=tab (mm s * mm s) (Kq (drop1 p σ)):=by
 have hs:= (h.wf.few (by omega)).sn p hp;rw [Qs,Qs,ZrS];refine UF fun j hj=>?_
 by_cases e:j=p
 ·subst e;rw [Zy];show _= (⟨((Yp σ.ld j _ j:Nat):Int),(σ.sn j).drop (Yp σ.ld j _ j)⟩:Zl);rw [Zy,show(Kq σ j).ZL= (σ.ld j:Int) from rfl,Qo (by omega)];unfold fl;rw [List.drop_drop]
 ·rw [ZT e];show _= (⟨((Yp σ.ld p _ j:Nat):Int),(σ.sn j).drop (Yp σ.ld p _ j)⟩:Zl);rw [ZT e];rfl
theorem ZCm (hl:σ.ld p < (σ.sn p).length):ZJ (Kq σ p).kG 0=some (hd σ p):=by
 show ZJ (fl σ p) 0=_;rw [Zko hl];rfl
theorem ZCl (h:Gd s B σ) (hB:B <=700000) (hp:p < mm s * mm s) (hl:σ.ld p < (σ.sn p).length):slL (Kq σ p).kG 1 (((Kq σ p).kG.length:Nat):Int)=some ((fl σ p).drop 1)∧((fl σ p).drop 1).length <=800000:=by
 have hs:= (h.wf.few (by omega)).sn p hp;refine⟨?_,by unfold fl;rw [List.length_drop,List.length_drop];omega⟩;show slL (fl σ p) ((1:Nat):Int) (((fl σ p).length:Nat):Int)=_;exact ZpO (by unfold fl;rw [List.length_drop];omega)
theorem ZmB (hF:1000000 <=F) (hS:Qm s) (h:Gd s B σ) (hB:B <=700000) (hp:p < nn s) (h0:¬ inn s (p:Int) < 0) (h3:σ.st p=3) (hn:(p:Int) ∉ σ.kn (inn s (p:Int)).toNat) (hx:x.kV= (p:Int)) (hm:x.qX.length=mm s * mm s):
 ZmI F (hal s σ) x=some (hal s (ZcI s p x.qX σ)):=by
 obtain⟨eq,hq⟩:=JO hS hp h0;have k3:=UK hS h.kn hp h0 h3 hn x.qX;have w3:Wf s B (YL s p x.qX σ):=KV h.wf;have h16:=ZgQ hS;unfold ZmI;rw [hx];show(ZJ s.Ze (p:Int)).bind _=_;rw [Qf hp];simp only [Bq0];obtain⟨q,hqe⟩:∃ q,q= (inn s (p:Int)).toNat:= ⟨_,rfl⟩
 rw [← hqe] at eq hq hn;rw [JD,eq];have hl:=h.kn.len hS hq;rw [show(hal s σ).Za.qZ=tab (nn s) σ.kn from rfl,Yq hq];simp only [Bq0];rw [ZiO (by omega) (by omega) (h.kn.srt q hq) hn];simp only [Bq0,Bool.not_false,Cq1];rw [insert_eq (by omega)];simp only [Bq0];rw [Qs];unfold Zdz;rw [JD,eq,show(hal s σ).Za.qX=Zcm s σ.ma from rfl,Zi4 hq];simp only [Bq0];rw [Zdr (by omega) (by omega) hm];simp only [Bq0]
 have e4:tab (nn s) (Yp σ.kn q (ins (p:Int) (σ.kn q)))=tab (nn s) (YL s p x.qX σ).kn:=by
  show _=tab (nn s) (Yp σ.kn (inn s (p:Int)).toNat _);rw [← hqe]
 have e3:Zcm s (Yp σ.ma q (mx (σ.ma q) x.qX))=tab (nn s) fun j=>tab (mm s * mm s) ((YL s p x.qX σ).ma j):=by
  show _=tab (nn s) fun j=>tab (mm s * mm s) (Yp σ.ma (inn s (p:Int)).toNat _ j)
  rw [← hqe];rfl
 rw [Zen,e3,e4,show(hal s σ).Za.qV=tab (nn s) σ.st from rfl,Yq hq];simp only [Bq0];have e5:ZB.mk (Zg.mk (tab (nn s) σ.st) (tab (nn s) fun j=>tab (mm s * mm s) ((YL s p x.qX σ).ma j)) (tab (nn s) (YL s p x.qX σ).kn) (hal s σ).Za.Zk (hal s σ).Za.Zt (hal s σ).Za.kQ (hal s σ).Za.kK) (hal s σ).qK (hal s σ).kU=hal s (YL s p x.qX σ):=rfl;rw [e5,Y5];unfold ZcI KN;rw [← hqe];have e6:(YL s p x.qX σ).st q=σ.st q:=rfl;have h8:nn s <=8:=hS.p2;by_cases h2:σ.st q=2
 ·rw [decide_eq_true h2,UR,ZcW (by omega) hS hq (by have:=k3.len hS hq;omega)];by_cases hA:Alo s (YL s p x.qX σ) q
  ·rw [ZX hA];simp only [Bq0,Bool.and_self,Cq1];unfold Zwk;rw [ZmW hF hS _ _ _ F (by omega) hq (Ze6 hS hq) w3 hB k3 (by rw [e6,h2];decide),ZX ⟨by rw [e6];exact h2,hA⟩];rfl
  ·rw [ZR hA];simp only [Bq0,Bool.and_false,Cq0];rw [ZR fun z=>hA z.2];rfl
 ·rw [decide_eq_false h2,Zab];simp only [Bq0,Bool.false_and,Cq0];rw [ZR fun z=>h2 (by rw [← e6];exact z.1)];rfl
theorem ZrM (hF:1000000 <=F) (hS:Qm s) (h:Gd s B σ) (hB:B <=600000) (ha:a < mm s) (hb:b < mm s) (hl:σ.ld (li s a b) < (σ.sn (li s a b)).length) (hx:Zxx s b (hd σ (li s a b))) (hd:ZsN s (hd σ (li s a b)) σ):Zwo F (hal s σ) (a:Int) (b:Int)=some (hal s (Zfl s a b σ)):=by
 have hi:=K6 ha hb;obtain⟨_,g'⟩:=ZqF h hi hl;have fw:=g'.wf.few (by omega);obtain⟨t1,t2⟩:=ZCl h (by omega) hi hl;unfold Zwo;show(ZJ (tab (mm s * mm s) (Kq σ)) (Yx (Yx ((a:Int) * s.qG) + (b:Int)))).bind _=_;rw [Zbt hS ha hb,Yq hi];simp only [Bq0];rw [ZCm hl];simp only [Bq0];rw [t1];simp only [Bq0];unfold ZqU;rw [ZBG (by rw [List.length_nil];omega)];simp only [Bq0,List.nil_append]
 have el:∀ (β:Type) (f:List Zl ->β),f (YX (YX (hal s σ).Za.kQ (Yx ((Yx ((a:Int) * (hal s σ).qK.qG)) + (b:Int))) (Zl.mk (Kq σ (li s a b)).ZL ((fl σ (li s a b)).drop 1))) (Yx ((Yx ((a:Int) * (hal s σ).qK.qG)) + (b:Int))) (Zl.mk (Yx ((Kq σ (li s a b)).ZL + 1)) ((fl σ (li s a b)).drop 1)))=f (tab (mm s * mm s) (Kq (drop1 (li s a b) σ))):=fun β f=>by
  rw [show(hal s σ).qK.qG=s.qG from rfl,Zbt hS ha hb,show(hal s σ).Za.kQ=tab (mm s * mm s) (Kq σ) from rfl,Zol h (by omega) hi hl]
 have el:=el _ id;simp only [id] at el;rw [el];have e5:ZB.mk (Zg.mk (hal s σ).Za.qV (hal s σ).Za.qX (hal s σ).Za.qZ (hal s σ).Za.Zk (hal s σ).Za.Zt (tab (mm s * mm s) (Kq (drop1 (li s a b) σ))) (hal s σ).Za.kK) (hal s σ).qK (hal s σ).kU=hal s (drop1 (li s a b) σ):=rfl;rw [e5];unfold Zfl Zi6;obtain⟨y,hy⟩:∃ y,y=Proofs.YtcnahmgekicbdaaGreat.hd σ (li s a b):= ⟨_,rfl⟩
 rw [← hy] at hx hd ⊢;obtain⟨p,hp,hpn,c⟩:=hx;simp only [Y5];rcases c with⟨k,q,hq,hqn⟩ | ⟨k,q,hq,hqn⟩ | k | ⟨k,h0,hm⟩ | ⟨k,e,hm,q,hq,hqn⟩
 ·rw [decide_eq_true k,Cq1,if_pos k,ZlJ fw hq hqn,hp,hq,Int.toNat_natCast,Int.toNat_natCast]
  rfl
 ·rw [decide_eq_false (by omega),Cq0,decide_eq_true k,Cq1,if_neg (by omega),if_pos k,Zi3 hS fw hp hq hpn hqn,hp,hq,Int.toNat_natCast,Int.toNat_natCast]
  rfl
 ·rw [decide_eq_false (by omega),Cq0,decide_eq_false (by omega),Cq0,decide_eq_true k,Cq1,if_neg (by omega),if_neg (by omega),if_pos k,hp,Int.toNat_natCast];show(ZJ (tab (nn s) σ.st) (p:Int)).bind _=_;rw [Yq hpn];simp only [Bq0];by_cases e:σ.st p=1
  ·rw [decide_eq_true e,Cq1,if_pos (show(drop1 (li s a b) σ).st p=1 from e)];unfold Zwq;have h8:nn s <=8:=hS.p2;rw [Zjc hF hS (nn s) _ _ F _ (by omega) hpn (Za9.all hS.inn) g' (by omega) e];rfl
  ·rw [decide_eq_false e,Cq0,if_neg (show ¬ (drop1 (li s a b) σ).st p=1 from e)];rfl
 ·have hD:=ZgW hp hd k;rw [decide_eq_false (by omega),Cq0,decide_eq_false (by omega),Cq0,decide_eq_false (by omega),Cq0,decide_eq_true k,Cq1,if_neg (by omega),if_neg (by omega),if_neg (by omega),if_pos k,ZmB hF hS g' (by omega) hpn (by omega) hD.1 hD.2 hp hm,hp,Int.toNat_natCast];rfl
 ·rw [decide_eq_false (by omega),Cq0,decide_eq_false (by omega),Cq0,decide_eq_false (by omega),Cq0,decide_eq_false (by omega),Cq0,decide_eq_true k,Cq1,if_neg (by omega),if_neg (by omega),if_neg (by omega),if_neg (by omega)];unfold ZqT;rw [hp,Uu hS hpn,e];simp only [Bq0];rw [ZiI fw hb];rfl
end
end
section
section
variable {s:Zc} {σ:TS} {F B a b p q:Nat} {x:Zd} {l:List Int}
end
end
section
noncomputable section
def dep (s:Zc) (q:Nat):Nat:=@dite _ (∃ m,m <=nn s∧up s (m + 1) (q:Int) < 0∧∀ k,k < m ->¬ up s (k + 1) (q:Int) < 0) (Classical.propDecidable _) (fun h=>Classical.choose h) (fun _=>0)
def rdy (s:Zc) (ld:Nat ->Nat) (w:Nat) (x:Zd):Prop:=∀ b:Nat,b < mm s ->b ≠ w ->x.qX.getD (li s b w) 0 <= (ld (li s b w):Int)
def ZcD (s:Zc) (x:Zd):Nat:=dep s x.kX.toNat
def Jh (s:Zc) (ld:Nat ->Nat) (w:Nat) (l:List Zd):Nat ->Option Nat
 | 0=>none
 | k + 1=>ifc (rdy s ld w (l.getD k default)∧∀ j,Jh s ld w l k=some j ->ZcD s (l.getD j default) < ZcD s (l.getD k default)) (some k) (Jh s ld w l k)
def Zcn {α:Type} (l:List α) (i:Nat):List α:=l.take i ++ l.drop (i + 1)
def rung (s:Zc) (w i:Nat) (σ:TS):TS:=
 if σ.st ((σ.be w).getD i default).kV.toNat=1 then tell 4 ((σ.be w).getD i default).kV ((σ.be w).getD i default).kX 0 {σ with be:=Yp σ.be w (Zcn (σ.be w) i)} else{σ with be:=Yp σ.be w (Zcn (σ.be w) i)}
def U2 (s:Zc) (w:Nat):Nat ->TS ->TS
 | 0,σ=>σ
 | n + 1,σ=>match Jh s σ.ld w (σ.be w) (σ.be w).length with
   | none=>σ
   | some i=>U2 s w n (rung s w i σ)
end
def BeS (s:Zc) (x:Zd):Prop:= (∃ p:Nat,x.kV= (p:Int)∧p < nn s)∧(∃ q:Nat,x.kX= (q:Int)∧q < nn s)∧x.qX.length=mm s * mm s
section
variable {s:Zc} {σ:TS} {F B a b p q w:Nat} {x:Zd} {l:List Zd}
theorem ZwL (hS:Qm s) (hq:q < nn s):dep s q <=nn s∧up s (dep s q + 1) (q:Int) < 0∧∀ k,k < dep s q ->¬ up s (k + 1) (q:Int) < 0:=by
 have h:∃ m,m <=nn s∧up s (m + 1) (q:Int) < 0∧∀ k,k < m ->¬ up s (k + 1) (q:Int) < 0:=
  Zad (c:=fun k=>up s (k + 1) (q:Int) < 0) (n:=nn s) (U1 (hS.inn.acy q hq) (by unfold nn;omega))
 unfold dep;rw [dif_pos h];exact Classical.choose_spec h
theorem ZhB {β:Type} (hF:1000 <=F) (hS:Qm s) (hq:q < nn s) {r:Int ->Option β} {body:Int×Int ->(Int×Int ->Option β) ->Option β}
 (hb:∀ v n next,body (v,n) next=bif decide (v >=0) then(ZJ s.Ze v).bind fun x=>next (x.Uw,Yx (n + 1)) else r n):loop F body (inn s (q:Int),0)=r (dep s q:Int):=by
 obtain⟨h1,h2,h3⟩:=ZwL hS hq;have h8:nn s <=8:=hS.p2;refine XD (fun k=>(up s (k + 1) (q:Int),(k:Int))) (by show(up s (0 + 1) (q:Int),((0:Nat):Int))=_;rw [up1];rfl) (n:=dep s q) (by omega) (fun k hk next=>?_) (fun next=>?_)
 ·have h:=h3 k hk;obtain⟨j,e,hj⟩:=ZbX (hS.inn.up (q:= (q:Int)) ⟨by omega,by unfold nn at hq;omega⟩ (k + 1)) h;rw [hb,UQ s (k + 1),if_neg h,e,Zdv,Cq1,Qf hj];simp only [Bq0];rw [JD,Qo (by omega)]
 ·rw [hb,decide_eq_false (by omega),Cq0]
theorem ZnU (hF:1000 <=F) (hS:Qm s) (hw:w < mm s) (hx:x.qX.length=mm s * mm s):ZmH F (hal s σ) (w:Int) x=ifc (rdy s σ.ld w x) (some true) (some false):=by
 have h4:=hS.mm.2.2;unfold ZmH
 exact Ky (body:=Zdy (hal s σ) (w:Int) x) (r1:=some false) (r2:=some true) (s0:= (0:Int)) (fun k=>(k:Int)) rfl (fun k:Nat=>k ≠ w ->x.qX.getD (li s k w) 0 <= (σ.ld (li s k w):Int)) (n:=mm s) (F:=F) (by omega) (fun k hk next=>by
  unfold Zdy;rw [show(hal s σ).qK.qG=s.qG from rfl,Zeo hS hk,Cq1];by_cases e:k=w
  ·subst e;rw [show(((k:Int)) != ((k:Int)))=false by simp,Cq0,ZX (fun z=>absurd rfl z),Qo (by omega)]
  ·have e1:(((k:Int)) != ((w:Int)))=true:=by rw [Zcf];exact decide_eq_true (by omega)
   have hi:=K6 hk hw;rw [e1,Cq1,Zbt hS hk hw,show(hal s σ).Za.kQ=tab (mm s * mm s) (Kq σ) from rfl,Yq hi];simp only [Bq0];rw [QD 0 (by rw [hx];exact hi)];simp only [Bq0];rw [show(Kq σ (li s k w)).ZL= (σ.ld (li s k w):Int) from rfl];by_cases c:x.qX.getD (li s k w) 0 <= (σ.ld (li s k w):Int)
   ·rw [decide_eq_false (by omega),Cq0,ZX (fun _=>c),Qo (by omega)]
   ·rw [decide_eq_true (by omega),Cq1,ZR (fun z=>c (z e))]) (fun next=>by
  unfold Zdy;rw [show(hal s σ).qK.qG=s.qG from rfl,Zj2 hS,Cq0])
theorem Zdf {ld:Nat ->Nat}:∀ k j,Jh s ld w l k=some j ->j < k:=by
 intro k
 induction k with
 | zero=>intro j h;cases h
 | succ k ih=>
   intro j h;rw [Jh] at h;by_cases c:rdy s ld w (l.getD k default)∧∀ j,Jh s ld w l k=some j ->ZcD s (l.getD j default) < ZcD s (l.getD k default)
   ·rw [ZX c] at h;cases h;omega
   ·rw [ZR c] at h;have:=ih j h;omega
def pI (o:Option Nat):Int:=match o with | none=>-1 | some j=>(j:Int)
noncomputable def pD (s:Zc) (l:List Zd) (o:Option Nat):Int:=match o with | none=>0 | some j=>(ZcD s (l.getD j default):Int)
theorem Zi0 (hF:1000000 <=F) (hS:Qm s) (hw:w < mm s) (hl:l.length <=700000) (hx:∀ x ∈ l,BeS s x):
 Zhl F (w:Int) (tab (nn s) σ.st) (tab (nn s) fun p=>tab (mm s * mm s) (σ.ma p)) (tab (nn s) σ.kn) (tab (nn s) σ.wa) (tab (mm s) σ.be) (tab (mm s * mm s) (Kq σ)) σ.sd s.qG s.Ze σ.ev l=some (pI (Jh s σ.ld w l l.length)):=by
 unfold Zhl;refine XD (fun k=>(pI (Jh s σ.ld w l k),pD s l (Jh s σ.ld w l k),(k:Int))) rfl (n:=l.length) (by omega) (fun k hk next=>?_) (fun next=>?_)
 ·unfold ZkA;dsimp only;rw [YT hk,Cq1,QD default hk];simp only [Bq0];obtain⟨x,ex⟩:∃ x,x=l.getD k default:= ⟨_,rfl⟩
  obtain⟨_,⟨q,hq,hqn⟩,hm⟩:=hx _ (XP (d:=default) hk);rw [← ex] at hq hm ⊢;rw [Zka,ZnU (by omega) hS hw hm,hq];have ed:ZcD s x=dep s q:=by unfold ZcD;rw [hq,Int.toNat_natCast]
  rw [Jh,← ex];have j0:∀ (a b:Int),Zbz (k:Int) next (a,b)=next (a,b,((k + 1:Nat):Int)):=fun a b=>by unfold Zbz;dsimp only;rw [Qo (by omega)]
  by_cases r:rdy s σ.ld w x
  ·rw [ZX r];simp only [Bq0,Bool.true_and];cases hpk:Jh s σ.ld w l k with
   | none=>
     rw [show decide (pI none < 0)=true from rfl,Bool.not_true,Cq0,Cq1];unfold Zkx;simp only [Bq0];rw [Qf hqn];simp only [Bq0];rw [JD,ZhB (r:=fun n=>ZeB (k:Int) next n) (by omega) hS hqn (fun v n nx=>by unfold ZoQ;dsimp only;rw [Bool.not_true,Cq0]),ZX ⟨r,fun j z=>by cases z⟩];unfold ZeB;rw [j0];show _=next ((k:Int),(ZcD s (l.getD k default):Int),_);rw [← ex,ed]
   | some j=>
     rw [show decide (pI (some j) < 0)=false from decide_eq_false (by simp [pI]),Bool.not_false,Cq1];unfold Zkz;simp only [Bq0];rw [Qf hqn];simp only [Bq0];rw [JD,ZhB (r:=fun n=>ZeD F s.Ze (pI (some j)) (pD s l (some j)) (k:Int) next x true n) (by omega) hS hqn (fun v n nx=>by unfold ZoR;dsimp only;rw [Bool.not_true,Cq0])];unfold ZeD;rw [Bool.true_and];by_cases c:ZcD s (l.getD j default) < ZcD s x
     ·rw [decide_eq_true (show(dep s q:Int) > pD s l (some j) by show(dep s q:Int) > (ZcD s (l.getD j default):Int);omega),Cq1];unfold Zky;simp only [Bq0];rw [hq,Qf hqn];simp only [Bq0];rw [JD,ZhB (r:=fun n=>ZeC (k:Int) next n) (by omega) hS hqn (fun v n nx=>by unfold ZoS;dsimp only;rw [Bool.not_true,Cq0]),ZX ⟨r,fun j' z=>by cases z;exact c⟩];unfold ZeC;rw [j0];show _=next ((k:Int),(ZcD s (l.getD k default):Int),_);rw [← ex,ed]
     ·rw [decide_eq_false (show ¬ (dep s q:Int) > pD s l (some j) by show ¬ (dep s q:Int) > (ZcD s (l.getD j default):Int);omega),Cq0,ZR (fun z=>c (z.2 j rfl)),j0]
  ·rw [ZR r,ZR (fun z=>r z.1)];simp only [Bq0,Bool.false_and,Cq0];rw [j0]
 ·unfold ZkA;dsimp only;rw [Y2,Cq0]
end
end
section
noncomputable def rings (s:Zc):Nat ->TS ->TS
 | 0,σ=>σ
 | k + 1,σ=>U2 s k ((rings s k σ).be k).length (rings s k σ)
def BeA (s:Zc) (σ:TS):Prop:=∀ w,w < mm s ->∀ x ∈ σ.be w,BeS s x
section
variable {s:Zc} {σ:TS} {F B a b p q w i n:Nat} {x:Zd} {l:List Zd}
theorem ZdK {α:Type} {l:List α} {i:Nat} (h:i < l.length):(Zcn l i).length + 1=l.length:=by
 unfold Zcn;rw [List.length_append,List.length_take,List.length_drop];omega
theorem ZdJ {α:Type} {l:List α} {i:Nat} {x:α} (h:x ∈ Zcn l i):x ∈ l:=by
 unfold Zcn at h;rcases List.mem_append.1 h with h | h
 ·exact List.mem_of_mem_take h
 ·exact List.mem_of_mem_drop h
theorem Js (s:Zc) (w i:Nat) (σ:TS):(rung s w i σ).be=Yp σ.be w (Zcn (σ.be w) i)∧(rung s w i σ).ld=σ.ld∧(rung s w i σ).st=σ.st∧(rung s w i σ).kn=σ.kn∧(rung s w i σ).ma=σ.ma∧(rung s w i σ).sn=σ.sn∧(rung s w i σ).wa=σ.wa∧(rung s w i σ).sd=σ.sd:=by
 unfold rung;split <;> exact⟨rfl,rfl,rfl,rfl,rfl,rfl,rfl,rfl⟩
theorem ZpT (h:Gd s B σ) (hw:w < mm s) (hi:i < (σ.be w).length):Gd s B (rung s w i σ):=by
 have hb:=h.wf.pot;have h1:(σ.be w).length <=Pot s σ:=by have:=Uj (f:=fun m=>(σ.be m).length) hw;unfold Pot;omega
 have hp:=Zn7 (s:=s) (σ:=σ) hw (Zcn (σ.be w) i);have hc:=ZdK hi;have w1:Wf s (B - 1) {σ with be:=Yp σ.be w (Zcn (σ.be w) i)}:= ⟨by omega,h.wf.ld,h.wf.ws⟩
 unfold rung;split
 ·exact⟨(w1.tell _ _ _ _).up (by omega),⟨h.kn.srt,h.kn.rng⟩⟩
 ·exact⟨w1.up (by omega),⟨h.kn.srt,h.kn.rng⟩⟩
theorem ZlM (h:BeA s σ):BeA s (rung s w i σ):=fun v hv x hx=>by
 rw [(Js s w i σ).1] at hx;by_cases e:v=w
 ·subst e;rw [Zy] at hx;exact h v hv x (ZdJ hx)
 ·rw [ZT e] at hx;exact h v hv x hx
theorem Zyi (hw:w < mm s):∀ (n:Nat) (σ:TS),Gd s B σ ->BeA s σ ->Gd s B (U2 s w n σ)∧BeA s (U2 s w n σ):=by
 intro n
 induction n with
 | zero=>intro σ h hb;exact⟨h,hb⟩
 | succ n ih=>
   intro σ h hb;rw [U2];cases hpk:Jh s σ.ld w (σ.be w) (σ.be w).length with
   | none=>exact⟨h,hb⟩
   | some i=>exact ih _ (ZpT h hw (Zdf _ _ hpk)) (ZlM hb)
theorem Zgs (h:Gd s B σ) (hb:BeA s σ):∀ k,k <=mm s ->Gd s B (rings s k σ)∧BeA s (rings s k σ):=by
 intro k
 induction k with
 | zero=>intro _;exact⟨h,hb⟩
 | succ k ih=>
   intro hk;obtain⟨h1,h2⟩:=ih (by omega);exact Zyi (by omega) _ _ h1 h2
theorem del_eq (hi:i < l.length) (hl:l.length <=700000):ZmG l (i:Int) (Yx ((i:Int) + 1))=some (Zcn l i):=by
 unfold ZmG;rw [Qo (by omega)]
 have e1:slL l (i:Int) ((i + 1:Nat):Int)=some ((l.take (i + 1)).drop i):=by
  unfold slL;rw [decide_eq_true (show(0:Int) <= (i:Int) by omega),decide_eq_true (show(i:Int) <= ((i + 1:Nat):Int) by omega),decide_eq_true (show((i + 1:Nat):Int) <= (l.length:Int) by omega)]
  rfl
 rw [e1];simp only [Bq0];rw [Y5,decide_eq_false (by omega),Cq0,Zye (by omega)];simp only [Bq0];rw [ZpO (by omega)];simp only [Bq0];rw [ZBG (by rw [List.length_take,List.length_drop];omega)];rfl
theorem Zro (hF:1000000 <=F) (hS:Qm s) (hB:B <=600000) (hw:w < mm s):∀ (n F':Nat) (σ:TS),n < F' ->(σ.be w).length <=n ->Gd s B σ ->BeA s σ ->loop F' (ZcO F (w:Int)) (U5 s σ)=some (hal s (U2 s w n σ)):=by
 intro n
 induction n with
 | zero=>
   intro F' σ hn hl h hb;cases F' with
   | zero=>omega
   | succ F'=>
     rw [Ua];unfold ZcO U5;dsimp only;rw [Yq hw];simp only [Bq0];rw [Zi0 hF hS hw (by omega) (hb w hw)];have:(σ.be w).length=0:=by omega
     simp only [Bq0];rw [this,show decide (pI (Jh s σ.ld w (σ.be w) 0) < 0)=true from rfl,Cq1];rfl
 | succ n ih=>
   intro F' σ hn hl h hb;cases F' with
   | zero=>omega
   | succ F'=>
     rw [Ua];generalize hnx:loop F' (ZcO F (w:Int))=nx;have hlen:= (h.wf.few (by omega)).be w hw;unfold ZcO;rw [show U5 s σ= (tab (nn s) σ.st,(tab (nn s) fun j=>tab (mm s * mm s) (σ.ma j)),tab (nn s) σ.kn,tab (nn s) σ.wa,tab (mm s) σ.be,tab (mm s * mm s) (Kq σ),σ.sd,s.qG,s.Ze,σ.ev) from rfl];dsimp only;have hl7:(σ.be w).length <=600000:=by have:=h.wf.pot;have:=Uj (f:=fun m=>(σ.be m).length) hw;unfold Pot at *;omega
     rw [Yq hw];simp only [Bq0];rw [Zi0 hF hS hw (by omega) (hb w hw),U2];simp only [Bq0];cases hpk:Jh s σ.ld w (σ.be w) (σ.be w).length with
     | none=>rw [show decide (pI none < 0)=true from rfl,Cq1];rfl
     | some i=>
       have hi:=Zdf _ _ hpk;rw [decide_eq_false (show ¬ pI (some i) < 0 by simp [pI]),Cq0,show pI (some i)= (i:Int) from rfl,QD default hi];simp only [Bq0];rw [del_eq hi (by omega)];simp only [Bq0];obtain⟨⟨p,hp,hpn⟩,_,_⟩:=hb w hw _ (XP (d:=default) hi);rw [hp,Yq hpn];simp only [Bq0];have gr:=ZpT h hw hi;have br:=ZlM (w:=w) (i:=i) hb;have lr:((rung s w i σ).be w).length <=n:=by rw [(Js s w i σ).1,Zy];have:=ZdK hi;omega
       have hih:=ih F' (rung s w i σ) (by omega) lr gr br;rw [hnx] at hih;refine Eq.trans ?_ hih;unfold rung;rw [hp,Int.toNat_natCast,Y5,Qs];by_cases e:σ.st p=1
       ·rw [decide_eq_true e,Cq1,if_pos e,show ZB.mk (Zg.mk (tab (nn s) σ.st) (tab (nn s) fun j=>tab (mm s * mm s) (σ.ma j)) (tab (nn s) σ.kn) (tab (nn s) σ.wa) (tab (mm s) (Yp σ.be w (Zcn (σ.be w) i))) (tab (mm s * mm s) (Kq σ)) σ.sd) (Zc.mk s.qG s.Ze) σ.ev=hal s {σ with be:=Yp σ.be w (Zcn (σ.be w) i)} from rfl];have hpb:=Zn7 (s:=s) (σ:=σ) hw (Zcn (σ.be w) i);have:=ZdK hi;have:=h.wf.pot;have w1:Wf s B {σ with be:=Yp σ.be w (Zcn (σ.be w) i)}:= ⟨by omega,h.wf.ld,h.wf.ws⟩
        rw [WG (w1.few (by omega))]
        rfl
       ·rw [decide_eq_false e,Cq0,if_neg e];rfl
end
end
section
noncomputable section
variable (s:Zc)
def ZbD (p:Nat) (σ:TS):TS:=
 if inn s (p:Int) < 0 then YM s p σ
 else if pl s (inn s (p:Int)).toNat=pl s p then YL s p (mks s (YM s p σ) p) (YM s p σ)
 else send s (pl s p) (pl s (inn s (p:Int)).toNat) ⟨4,(p:Int),0,0,mks s (YM s p σ) p⟩ (YM s p σ)
def kK (p q:Nat) (σ:TS):TS:=tell 1 p q σ.sd {σ with sd:=σ.sd + 1}
inductive Act:TS ->TS ->Prop
 | fall {σ:TS} {p:Nat} (hp:p < nn s) (h:σ.st p=1):Act σ (Uq p σ)
 | Zcq {σ:TS} {p k:Nat} (hp:p < nn s) (hk:k < nn s) (hi:inn s (k:Int)= (p:Int)) (h:σ.st p ≠ 1) (hr:pl s k ≠ pl s p) (hn:(k:Int) ∉ σ.kn p):Act σ (send s (pl s p) (pl s k) ⟨3,(k:Int),0,0,[]⟩ σ)
 | die {σ:TS} {p:Nat} (hp:p < nn s) (h:σ.st p=2) (ha:Alo s σ p):Act σ (ZbD s p σ)
 | Zh3 {σ:TS} {p q:Nat} (hp:p < nn s) (hq:q < nn s) (h:σ.st p=1) (e:pl s p=pl s q):Act σ (see q p σ.sd (kK p q σ))
 | Zh2 {σ:TS} {p q:Nat} (hp:p < nn s) (hq:q < nn s) (h:σ.st p=1) (e:pl s p ≠ pl s q):Act σ (send s (pl s p) (pl s q) ⟨1,(p:Int),(q:Int),σ.sd,[]⟩ (kK p q σ))
 | ZhY {σ:TS} {p q:Nat} (hp:p < nn s) (hq:q < nn s) (h:σ.st p=1) (e:pl s p=pl s q):Act σ (note s p q (tell 3 p q 0 σ))
 | ZhX {σ:TS} {p q:Nat} (hp:p < nn s) (hq:q < nn s) (h:σ.st p=1) (e:pl s p ≠ pl s q):Act σ (send s (pl s p) (pl s q) ⟨2,(p:Int),(q:Int),0,[]⟩ (tell 3 p q 0 σ))
 | Zib {σ:TS} {a b p q:Nat} (ha:a < mm s) (hb:b < mm s) (hl:σ.ld (li s a b) < (σ.sn (li s a b)).length) (hk:(hd σ (li s a b)).kW=1) (hp:(hd σ (li s a b)).kV= (p:Int)) (hq:(hd σ (li s a b)).kX= (q:Int)) (hpn:p < nn s) (hqn:q < nn s):Act σ (see q p (hd σ (li s a b)).n (drop1 (li s a b) σ))
 | Zie {σ:TS} {a b p q:Nat} (ha:a < mm s) (hb:b < mm s) (hl:σ.ld (li s a b) < (σ.sn (li s a b)).length) (hk:(hd σ (li s a b)).kW=2) (hp:(hd σ (li s a b)).kV= (p:Int)) (hq:(hd σ (li s a b)).kX= (q:Int)) (hpn:p < nn s) (hqn:q < nn s):Act σ (note s p q (drop1 (li s a b) σ))
 | Zic {σ:TS} {a b p:Nat} (ha:a < mm s) (hb:b < mm s) (hl:σ.ld (li s a b) < (σ.sn (li s a b)).length) (hk:(hd σ (li s a b)).kW=3) (hp:(hd σ (li s a b)).kV= (p:Int)) (hpn:p < nn s):Act σ (drop1 (li s a b) σ)
 | Zfz {σ:TS} {a b p:Nat} (ha:a < mm s) (hb:b < mm s) (hl:σ.ld (li s a b) < (σ.sn (li s a b)).length) (hk:(hd σ (li s a b)).kW=4) (hp:(hd σ (li s a b)).kV= (p:Int)) (hpn:p < nn s) (h0:0 <=inn s (p:Int)) (hm:(hd σ (li s a b)).qX.length=mm s * mm s) (h3:σ.st p=3) (hn:(p:Int) ∉ σ.kn (inn s (p:Int)).toNat):Act σ (YL s p (hd σ (li s a b)).qX (drop1 (li s a b) σ))
 | Zid {σ:TS} {a b:Nat} (ha:a < mm s) (hb:b < mm s) (hl:σ.ld (li s a b) < (σ.sn (li s a b)).length) (hk:(hd σ (li s a b)).kW=5):Act σ (wait b (hd σ (li s a b)) (drop1 (li s a b) σ))
 | ring {σ:TS} {w i:Nat} (hw:w < mm s) (h:Jh s σ.ld w (σ.be w) (σ.be w).length=some i):Act σ (rung s w i σ)
inductive Q6:TS ->TS ->Prop
 | refl {σ:TS}:Q6 σ σ
 | tail {σ τ υ:TS}:Q6 σ τ ->Act s τ υ ->Q6 σ υ
def Zfb (x:Z7) (σ:TS):Prop:=
 (x.act=1∧∃ p q:Nat,x.a= (p:Int)∧x.b= (q:Int)∧p < nn s∧q < nn s∧σ.st p=1)∨
 (x.act=2∧∃ p q:Nat,x.a= (p:Int)∧x.b= (q:Int)∧p < nn s∧q < nn s∧σ.st p=1)∨
 (x.act=3∧∃ p:Nat,x.a= (p:Int)∧p < nn s∧σ.st p=1)∨
 (x.act=4∧∃ a b:Nat,x.a= (a:Int)∧x.b= (b:Int)∧a < mm s∧b < mm s∧σ.ld (li s a b) < (σ.sn (li s a b)).length)
def Zfr (x:Z7) (σ:TS):TS:=
 if x.act=1 then(if pl s x.a.toNat=pl s x.b.toNat then see x.b.toNat x.a.toNat σ.sd (kK x.a.toNat x.b.toNat σ) else send s (pl s x.a.toNat) (pl s x.b.toNat) ⟨1,x.a,x.b,σ.sd,[]⟩ (kK x.a.toNat x.b.toNat σ))
 else if x.act=2 then(if pl s x.a.toNat=pl s x.b.toNat then note s x.a.toNat x.b.toNat (tell 3 x.a x.b 0 σ) else send s (pl s x.a.toNat) (pl s x.b.toNat) ⟨2,x.a,x.b,0,[]⟩ (tell 3 x.a x.b 0 σ))
 else if x.act=3 then Jo s (nn s) x.a.toNat σ
 else Zfl s x.a.toNat x.b.toNat σ
def stepW (x:Z7) (σ:TS):TS:=rings s (mm s) (Zfr s x σ)
end
section
variable {s:Zc} {σ τ υ:TS} {F B a b p q w i n d:Nat} {x:Zd}
theorem Q6.trans (h:Q6 s σ τ) (h':Q6 s τ υ):Q6 s σ υ:=by
 induction h' with
 | refl=>exact h
 | tail _ a ih=>exact .tail ih a
theorem Q6.one (h:Act s σ τ):Q6 s σ τ:= .tail .refl h
theorem Q6.keep {P:TS ->Prop} (hP:∀ σ τ,P σ ->Act s σ τ ->P τ) (h:Q6 s σ τ) (h0:P σ):P τ:=by
 induction h with
 | refl=>exact h0
 | tail _ a ih=>exact hP _ _ ih a
theorem Kc {α:Type} (f:TS ->α ->TS) (Q:TS ->Prop):∀ (l:List α) (σ:TS),Q σ ->(∀ σ x,x ∈ l ->Q σ ->Q (f σ x)) ->Q (l.foldl f σ):=by
 intro l
 induction l with
 | nil=>intro σ h _;exact h
 | cons x l ih=>intro σ h hf;exact ih _ (hf σ x (by simp) h) fun σ y hy=>hf σ y (by simp [hy])
theorem Jg (p q:Nat) (n:Int) (σ:TS):(see p q n σ).st=σ.st∧(see p q n σ).kn=σ.kn∧(see p q n σ).ma=σ.ma∧(see p q n σ).ld=σ.ld∧(see p q n σ).sn=σ.sn∧(see p q n σ).be=σ.be∧(see p q n σ).wa=σ.wa∧(see p q n σ).sd=σ.sd:=by
 unfold see;split <;> exact⟨rfl,rfl,rfl,rfl,rfl,rfl,rfl,rfl⟩
theorem Ju (p q:Nat) (σ:TS):(note s p q σ).st=σ.st∧(note s p q σ).kn=σ.kn∧(note s p q σ).ma=σ.ma∧(note s p q σ).ld=σ.ld∧(note s p q σ).sd=σ.sd∧(note s p q σ).ev=σ.ev:=by
 unfold note;split
 ·have:=ZdQ (s:=s) p q σ;exact⟨this.1,this.2.1,this.2.2.1,this.2.2.2.1,this.2.2.2.2.1,this.2.2.2.2.2.1⟩
 ·exact⟨rfl,rfl,rfl,rfl,rfl,rfl⟩
theorem ZzQ (p:Nat) (σ:TS):(ZbD s p σ).st=Yp σ.st p 3:=by
 have e:= (JP (s:=s) p σ).1;unfold ZbD;split
 ·exact e
 ·split
  ·exact e
  ·exact e
theorem Zms {f:Nat ->Int} {k j:Nat} {v:Int} (hv:v ≠ 1) (h:f j ≠ 1):Yp f k v j ≠ 1:=by
 unfold Yp;by_cases e:j=k
 ·rw [if_pos e];exact hv
 ·rw [if_neg e];exact h
theorem ZGc (h:Act s σ τ) (hp:σ.st p ≠ 1):τ.st p ≠ 1:=by
 cases h with
 | fall hq h=>exact Zms (by decide) hp
 | Zcq=>exact hp
 | die hq h ha=>rw [ZzQ];exact Zms (by decide) hp
 | Zh3=>rw [(Jg _ _ _ _).1];exact hp
 | Zh2=>exact hp
 | ZhY=>rw [(Ju _ _ _).1];exact hp
 | ZhX=>exact hp
 | Zib=>rw [(Jg _ _ _ _).1];exact hp
 | Zie=>rw [(Ju _ _ _).1];exact hp
 | Zic=>exact hp
 | Zfz=>exact hp
 | Zid=>exact hp
 | ring=>rw [(Js _ _ _ _).2.2.1];exact hp
theorem ZAm (h:Q6 s σ τ) (hp:σ.st p ≠ 1):τ.st p ≠ 1:=h.keep (P:=fun σ=>σ.st p ≠ 1) (fun _ _ h a=>ZGc a h) hp
theorem ZmX (hS:Qm s):∀ (d p:Nat) (σ:TS),p < nn s ->up s d (p:Int) < 0 ->σ.st p=2 ->Alo s σ p ->Q6 s σ (ZhA s d p σ):=by
 intro d
 induction d with
 | zero=>intro p σ hp hu _ _;exact absurd hu (by show ¬ ((p:Int)) < 0;omega)
 | succ d ih=>
   intro p σ hp hu h2 hA;have h1:Q6 s σ (ZbD s p σ):= .one (.die hp h2 hA);show Q6 s σ (ZkZ s (ZhA s d) p (YM s p σ));unfold ZkZ;unfold ZbD at h1;by_cases h0:inn s (p:Int) < 0
   ·rw [if_pos h0] at h1 ⊢;exact h1
   ·rw [if_neg h0] at h1 ⊢;obtain⟨eq,hq⟩:=JO hS hp h0;by_cases e:pl s (inn s (p:Int)).toNat=pl s p
    ·rw [if_pos e] at h1 ⊢;unfold KN;by_cases c:(YL s p (mks s (YM s p σ) p) (YM s p σ)).st (inn s (p:Int)).toNat=2∧Alo s (YL s p (mks s (YM s p σ) p) (YM s p σ)) (inn s (p:Int)).toNat
     ·rw [ZX c];exact h1.trans (ih _ _ hq (by rw [← eq];exact Ztv hp hu) c.1 c.2)
     ·rw [ZR c];exact h1
    ·rw [if_neg e] at h1 ⊢;exact h1
theorem Zjd (hS:Qm s):∀ (d p:Nat) (σ:TS),p < nn s ->Za9 s d p ->σ.st p=1 ->Q6 s σ (Jo s d p σ):=by
 intro d
 induction d with
 | zero=>intro p σ hp hs _;exact absurd rfl (hs p hp 0 (Nat.le_refl _))
 | succ d ih=>
   intro p σ hp hs h1;have h0:Q6 s σ (Uq p σ):= .one (.fall hp h1);have hne:(Uq p σ).st p ≠ 1:=by show Yp σ.st p 2 p ≠ 1;rw [Zy];decide
   have hk:Q6 s σ (fk s (Jo s d) p (nn s) (Uq p σ))∧(fk s (Jo s d) p (nn s) (Uq p σ)).st p ≠ 1:=by
    refine Kc _ (fun τ=>Q6 s σ τ∧τ.st p ≠ 1) _ _ ⟨h0,hne⟩ (fun τ k hk ⟨ha,hτ⟩=>?_);obtain⟨hkn,hki⟩:=Zu2.1 (show k ∈ ZD0 s p from hk)
    have:Q6 s τ (Zfm s (Jo s d) p τ k):=by
     unfold Zfm;by_cases e:pl s k=pl s p
     ·rw [if_pos e];by_cases e1:τ.st k=1
      ·rw [if_pos e1];exact ih k τ hkn (hs.kid hki) e1
      ·rw [if_neg e1];exact .refl
     ·rw [if_neg e];by_cases e1:(k:Int) ∈ τ.kn p
      ·rw [if_pos e1];exact .refl
      ·rw [if_neg e1];exact .one (.Zcq hp hkn hki hτ e e1)
    exact⟨ha.trans this,ZAm this hτ⟩
   show Q6 s σ (Zkr s p (fk s (Jo s d) p (nn s) (Uq p σ)));unfold Zkr;by_cases c:(fk s (Jo s d) p (nn s) (Uq p σ)).st p=2∧Alo s (fk s (Jo s d) p (nn s) (Uq p σ)) p
   ·rw [ZX c];exact hk.1.trans (ZmX hS _ _ _ hp (Ze6 hS hp) c.1 c.2)
   ·rw [ZR c];exact hk.1
theorem Zrp (hw:w < mm s):∀ (n:Nat) (σ:TS),Q6 s σ (U2 s w n σ):=by
 intro n
 induction n with
 | zero=>intro σ;exact .refl
 | succ n ih=>
   intro σ;rw [U2];cases hpk:Jh s σ.ld w (σ.be w) (σ.be w).length with
   | none=>exact .refl
   | some i=>exact(Q6.one (.ring hw hpk)).trans (ih _)
theorem ZcC:∀ k,k <=mm s ->Q6 s σ (rings s k σ):=by
 intro k
 induction k with
 | zero=>intro _;exact .refl
 | succ k ih=>intro hk;exact(ih (by omega)).trans (Zrp (by omega) _ _)
theorem ZrN (hS:Qm s) (ha:a < mm s) (hb:b < mm s) (hl:σ.ld (li s a b) < (σ.sn (li s a b)).length) (hx:Zxx s b (hd σ (li s a b))) (hD:ZsN s (hd σ (li s a b)) σ):Q6 s σ (Zfl s a b σ):=by
 obtain⟨p,hp,hpn,c⟩:=hx;unfold Zfl Zi6;rcases c with⟨k,q,hq,hqn⟩ | ⟨k,q,hq,hqn⟩ | k | ⟨k,h0,hm⟩ | ⟨k,e,hm,q,hq,hqn⟩
 ·rw [if_pos k,hp,hq,Int.toNat_natCast,Int.toNat_natCast];exact .one (.Zib ha hb hl k hp hq hpn hqn)
 ·rw [if_neg (by omega),if_pos k,hp,hq,Int.toNat_natCast,Int.toNat_natCast];exact .one (.Zie ha hb hl k hp hq hpn hqn)
 ·rw [if_neg (by omega),if_neg (by omega),if_pos k,hp,Int.toNat_natCast];have h1:Q6 s σ (drop1 (li s a b) σ):= .one (.Zic ha hb hl k hp hpn);by_cases e:(drop1 (li s a b) σ).st p=1
  ·rw [if_pos e];exact h1.trans (Zjd hS _ _ _ hpn (Za9.all hS.inn) e)
  ·rw [if_neg e];exact h1
 ·rw [if_neg (by omega),if_neg (by omega),if_neg (by omega),if_pos k,hp,Int.toNat_natCast];obtain⟨h3,hn⟩:=ZgW hp hD k;obtain⟨eq,hq⟩:=JO hS hpn (by omega);have h1:Q6 s σ (YL s p (hd σ (li s a b)).qX (drop1 (li s a b) σ)):= .one (.Zfz ha hb hl k hp hpn h0 hm h3 hn);unfold ZcI KN;by_cases c:(YL s p (hd σ (li s a b)).qX (drop1 (li s a b) σ)).st (inn s (p:Int)).toNat=2∧Alo s (YL s p (hd σ (li s a b)).qX (drop1 (li s a b) σ)) (inn s (p:Int)).toNat
  ·rw [ZX c];exact h1.trans (ZmX hS _ _ _ hq (Ze6 hS hq) c.1 c.2)
  ·rw [ZR c];exact h1
 ·rw [if_neg (by omega),if_neg (by omega),if_neg (by omega),if_neg (by omega)];exact .one (.Zid ha hb hl k)
end
end
section
def Zxy (s:Zc) (a b:Nat) (x:Zd):Prop:=∃ p:Nat,x.kV= (p:Int)∧p < nn s∧x.qX.length <=16∧
 ((x.kW=1∧pl s p=a∧∃ q:Nat,x.kX= (q:Int)∧q < nn s∧pl s q=b)∨(x.kW=2∧pl s p=a∧∃ q:Nat,x.kX= (q:Int)∧q < nn s∧pl s q=b)∨(x.kW=3∧pl s p=b∧0 <=inn s (p:Int)∧pl s (inn s (p:Int)).toNat=a)∨(x.kW=4∧0 <=inn s (p:Int)∧x.qX.length=mm s * mm s∧pl s p=a∧pl s (inn s (p:Int)).toNat=b)∨(x.kW=5∧pl s p=b∧x.qX.length=mm s * mm s∧∃ q:Nat,x.kX= (q:Int)∧q < nn s∧pl s q=a))
theorem Zxy.s {s:Zc} {a b:Nat} {x:Zd} (h:Zxy s a b x):Zxx s b x:=by
 obtain⟨p,hp,hpn,_,c⟩:=h;refine⟨p,hp,hpn,?_⟩;rcases c with⟨k,_,q,hq,hqn,_⟩ | ⟨k,_,q,hq,hqn,_⟩ | ⟨k,_⟩ | ⟨k,h0,hm,_⟩ | ⟨k,e,hm,q,hq,hqn,_⟩
 ·exact .inl ⟨k,q,hq,hqn⟩
 ·exact .inr (.inl ⟨k,q,hq,hqn⟩)
 ·exact .inr (.inr (.inl k))
 ·exact .inr (.inr (.inr (.inl ⟨k,h0,hm⟩)))
 ·exact .inr (.inr (.inr (.inr ⟨k,e,hm,q,hq,hqn⟩)))
structure P1 (s:Zc) (σ:TS):Prop where
 lets:∀ a b,a < mm s ->b < mm s ->∀ x ∈ σ.sn (li s a b),Zxy s a b x
 self:∀ a,a < mm s ->σ.sn (li s a a)= []
 bea:∀ w,w < mm s ->∀ x ∈ σ.be w,BeS s x∧x.kW=5
 ws:∀ q,q < nn s ->∀ x ∈ σ.wa q,∃ k:Nat,x= (k:Int)∧k < nn s
section
variable {s:Zc} {σ τ υ:TS} {F B a b p q w i n d:Nat} {x:Zd}
theorem ZuW {a b a' b':Nat} (hb:b < mm s) (hb':b' < mm s) (h:li s a b=li s a' b'):a=a'∧b=b':=by
 obtain⟨e1,e2⟩:= (Kw hb).1 (show li s a b=a * mm s + b from rfl);obtain⟨e3,e4⟩:= (Kw hb').1 (show li s a' b'=a' * mm s + b' from rfl);rw [h] at e1 e2;exact⟨by omega,by omega⟩
theorem P1.congr (h:P1 s σ) (h1:τ.sn=σ.sn) (h2:τ.be=σ.be) (h3:τ.wa=σ.wa):P1 s τ:= ⟨by rw [h1];exact h.lets,by rw [h1];exact h.self,by rw [h2];exact h.bea,by rw [h3];exact h.ws⟩
theorem P1.send (h:P1 s σ) (ha:a < mm s) (hb:b < mm s) (hne:a ≠ b) (hx:Zxy s a b x):P1 s (Proofs.YtcnahmgekicbdaaGreat.send s a b x σ):=by
 refine⟨fun a' b' ha' hb' y hy=>?_,fun a' ha'=>?_,h.bea,h.ws⟩
 ·by_cases e:li s a' b'=li s a b
  ·obtain⟨rfl,rfl⟩:=ZuW hb' hb e;rw [ZbT] at hy;rcases List.mem_append.1 hy with hy | hy
   ·exact h.lets _ _ ha' hb' y hy
   ·rw [List.mem_singleton.1 hy];exact hx
  ·rw [JU e] at hy;exact h.lets _ _ ha' hb' y hy
 ·rw [JU (fun e=>hne (by obtain⟨e1,e2⟩:=ZuW ha' hb e;omega))];exact h.self a' ha'
theorem P1.wait (h:P1 s σ) (hx:BeS s x∧x.kW=5):P1 s (Proofs.YtcnahmgekicbdaaGreat.wait a x σ):=by
 refine⟨h.lets,h.self,fun w hw y hy=>?_,h.ws⟩;have hy:y ∈ Yp σ.be a (σ.be a ++ [x]) w:=hy;by_cases e:w=a
 ·subst e;rw [Zy] at hy;rcases List.mem_append.1 hy with hy | hy
  ·exact h.bea w hw y hy
  ·rw [List.mem_singleton.1 hy];exact hx
 ·rw [ZT e] at hy;exact h.bea w hw y hy
theorem P1.XL (hS:Qm s) (h:P1 s σ) (hp:p < nn s) (hq:q < nn s):P1 s (Proofs.YtcnahmgekicbdaaGreat.XL s p q σ):=by
 unfold Proofs.YtcnahmgekicbdaaGreat.XL;by_cases e:pl s p=pl s q
 ·rw [if_pos e];exact h.wait ⟨⟨⟨p,rfl,hp⟩,⟨q,rfl,hq⟩,XU⟩,rfl⟩
 ·rw [if_neg e];exact h.send (hS.pl hq).2 (hS.pl hp).2 (fun z=>e z.symm) ⟨p,rfl,hp,(by show(tab _ _).length <=16;rw [XU];exact ZgQ hS),.inr (.inr (.inr (.inr ⟨rfl,rfl,XU,q,rfl,hq,rfl⟩)))⟩
theorem P1.see (h:P1 s σ) (p q:Nat) (n:Int):P1 s (Proofs.YtcnahmgekicbdaaGreat.see p q n σ):=by
 have e:=Jg p q n σ;exact h.congr e.2.2.2.2.1 e.2.2.2.2.2.1 e.2.2.2.2.2.2.1
theorem P1.note (hS:Qm s) (h:P1 s σ) (hp:p < nn s) (hq:q < nn s):P1 s (Proofs.YtcnahmgekicbdaaGreat.note s p q σ):=by
 unfold Proofs.YtcnahmgekicbdaaGreat.note;by_cases e:σ.st q=3
 ·rw [if_pos e];exact h.XL hS hp hq
 ·rw [if_neg e];refine⟨h.lets,h.self,h.bea,fun j hj y hy=>?_⟩;have hy:y ∈ Yp σ.wa q (σ.wa q ++ [(p:Int)]) j:=hy;by_cases e1:j=q
  ·subst e1;rw [Zy] at hy;rcases List.mem_append.1 hy with hy | hy
   ·exact h.ws j hj y hy
   ·rw [List.mem_singleton.1 hy];exact⟨p,rfl,hp⟩
  ·rw [ZT e1] at hy;exact h.ws j hj y hy
theorem P1.Wx (h:P1 s σ) (p:Nat):P1 s (Proofs.YtcnahmgekicbdaaGreat.Wx p σ):=by
 refine⟨h.lets,h.self,h.bea,fun j hj y hy=>?_⟩;have hy:y ∈ Yp σ.wa p [] j:=hy;by_cases e1:j=p
 ·subst e1;rw [Zy] at hy;cases hy
 ·rw [ZT e1] at hy;exact h.ws j hj y hy
theorem P1.Zt (hS:Qm s) (h:P1 s σ) (hp:p < nn s) (l:List Int) (hl:∀ x ∈ l,∃ k:Nat,x= (k:Int)∧k < nn s):P1 s (Proofs.YtcnahmgekicbdaaGreat.Zt s p l σ):=
 Kc _ (P1 s) l σ h fun τ x hx hτ=>by
  obtain⟨k,e,hk⟩:=hl x hx;rw [e,Int.toNat_natCast];exact hτ.XL hS hk hp
theorem P1.YM (hS:Qm s) (h:P1 s σ) (hp:p < nn s):P1 s (Proofs.YtcnahmgekicbdaaGreat.YM s p σ):= ((h.Wx p).Zt hS hp _ (h.ws p hp)).congr rfl rfl rfl
theorem P1.ZbD (hS:Qm s) (h:P1 s σ) (hp:p < nn s):P1 s (Proofs.YtcnahmgekicbdaaGreat.ZbD s p σ):=by
 have hA:=h.YM hS hp;unfold Proofs.YtcnahmgekicbdaaGreat.ZbD;by_cases h0:inn s (p:Int) < 0
 ·rw [if_pos h0];exact hA
 ·rw [if_neg h0];obtain⟨eq,hq⟩:=JO hS hp h0;by_cases e:pl s (inn s (p:Int)).toNat=pl s p
  ·rw [if_pos e];exact hA.congr rfl rfl rfl
  ·rw [if_neg e];exact hA.send (hS.pl hp).2 (hS.pl hq).2 (fun z=>e z.symm) ⟨p,rfl,hp,(by show(tab _ _).length <=16;rw [XU];exact ZgQ hS),.inr (.inr (.inr (.inl ⟨rfl,by omega,XU,rfl,rfl⟩)))⟩
theorem ZcK (h:σ.ld i < (σ.sn i).length):hd σ i ∈ σ.sn i:=XP h
theorem P1.act (hS:Qm s) (h:P1 s σ) (ac:Act s σ τ):P1 s τ:=by
 cases ac with
 | fall=>exact h.congr rfl rfl rfl
 | @Zcq p k hp hk hi h1 hr hn=>
   exact h.send (hS.pl hp).2 (hS.pl hk).2 (fun z=>hr z.symm) ⟨k,rfl,hk,(by show 0 <=16;omega),.inr (.inr (.inl ⟨rfl,rfl,by omega,by rw [hi,Int.toNat_natCast]⟩))⟩
 | die hp=>exact h.ZbD hS hp
 | Zh3 hp hq h1 e=>exact(h.congr (τ:=kK _ _ σ) rfl rfl rfl).see _ _ _
 | @Zh2 p q hp hq h1 e=>exact(h.congr (τ:=kK _ _ σ) rfl rfl rfl).send (hS.pl hp).2 (hS.pl hq).2 e ⟨p,rfl,hp,(by show 0 <=16;omega),.inl ⟨rfl,rfl,q,rfl,hq,rfl⟩⟩
 | ZhY hp hq h1 e=>exact(h.congr (τ:=tell _ _ _ _ σ) rfl rfl rfl).note hS hp hq
 | @ZhX p q hp hq h1 e=>exact(h.congr (τ:=tell _ _ _ _ σ) rfl rfl rfl).send (hS.pl hp).2 (hS.pl hq).2 e ⟨p,rfl,hp,(by show 0 <=16;omega),.inr (.inl ⟨rfl,rfl,q,rfl,hq,rfl⟩)⟩
 | Zib=>exact(h.congr (τ:=drop1 _ σ) rfl rfl rfl).see _ _ _
 | Zie ha hb hl hk hp hq hpn hqn=>exact(h.congr (τ:=drop1 _ σ) rfl rfl rfl).note hS hpn hqn
 | Zic=>exact h.congr rfl rfl rfl
 | Zfz=>exact h.congr rfl rfl rfl
 | @Zid a b ha hb hl hk=>
   have hm:=ZcK hl;obtain⟨p,hp,hpn,_,c⟩:=h.lets a b ha hb _ hm;refine(h.congr (τ:=drop1 _ σ) rfl rfl rfl).wait ⟨?_,hk⟩;rcases c with⟨k,_⟩ | ⟨k,_⟩ | ⟨k,_⟩ | ⟨k,_⟩ | ⟨k,e,hm,q,hq,hqn,_⟩
   ·omega
   ·omega
   ·omega
   ·omega
   ·exact⟨⟨p,hp,hpn⟩,⟨q,hq,hqn⟩,hm⟩
 | @ring w i hw hpk=>
   have e:=Js s w i σ;refine⟨by rw [e.2.2.2.2.2.1];exact h.lets,by rw [e.2.2.2.2.2.1];exact h.self,fun v hv y hy=>?_,by rw [e.2.2.2.2.2.2.1];exact h.ws⟩;rw [e.1] at hy;by_cases z:v=w
   ·subst z;rw [Zy] at hy;exact h.bea v hv y (ZdJ hy)
   ·rw [ZT z] at hy;exact h.bea v hv y hy
def SnM (σ τ:TS):Prop:=∀ i,(σ.sn i).length <= (τ.sn i).length
theorem SnM.refl' (h:τ.sn=σ.sn):SnM σ τ:=fun i=>by rw [h];exact Nat.le_refl _
theorem SnM.trans (h:SnM σ τ) (h':SnM τ υ):SnM σ υ:=fun i=>Nat.le_trans (h i) (h' i)
theorem SnM.send (x:Zd):SnM σ (Proofs.YtcnahmgekicbdaaGreat.send s a b x σ):=fun i=>by
 by_cases e:i=li s a b
 ·subst e;rw [ZbT,List.length_append];omega
 ·rw [JU e];exact Nat.le_refl _
theorem SnM.XL (p q:Nat):SnM σ (Proofs.YtcnahmgekicbdaaGreat.XL s p q σ):=by
 unfold Proofs.YtcnahmgekicbdaaGreat.XL;split
 ·exact .refl' rfl
 ·exact .send _
theorem SnM.Zt (p:Nat) (l:List Int):SnM σ (Proofs.YtcnahmgekicbdaaGreat.Zt s p l σ):=Kc _ (SnM σ) l σ (.refl' rfl) fun τ x _ h=>h.trans (.XL _ _)
theorem SnM.note (p q:Nat):SnM σ (Proofs.YtcnahmgekicbdaaGreat.note s p q σ):=by
 unfold Proofs.YtcnahmgekicbdaaGreat.note;split
 ·exact .XL _ _
 ·exact .refl' rfl
theorem SnM.YM (p:Nat):SnM σ (Proofs.YtcnahmgekicbdaaGreat.YM s p σ):= (SnM.Zt (σ:=Proofs.YtcnahmgekicbdaaGreat.Wx p σ) p (σ.wa p)).trans (.refl' rfl)
structure P2 (s:Zc) (σ:TS):Prop where
 ld:∀ i,σ.ld i <= (σ.sn i).length
 kn:Kn s σ
theorem P2.of (h:P2 s σ) (h1:τ.ld=σ.ld) (h2:SnM σ τ) (h3:τ.kn=σ.kn) (h4:∀ k,σ.st k=3 ->τ.st k=3):P2 s τ:=
 ⟨fun i=>by rw [h1];exact Nat.le_trans (h.ld i) (h2 i),fun q hq=>by rw [h3];exact h.kn.srt q hq,fun q hq x hx=>by
   rw [h3] at hx;obtain⟨k,a,b,c,d⟩:=h.kn.rng q hq x hx;exact⟨k,a,b,c,h4 k d⟩⟩
theorem P2.drop (h:P2 s σ) (hl:σ.ld i < (σ.sn i).length):P2 s (drop1 i σ):= ⟨fun j=>by
 show Yp σ.ld i (σ.ld i + 1) j <= (σ.sn j).length;by_cases e:j=i
 ·subst e;rw [Zy];exact hl
 ·rw [ZT e];exact h.ld j,⟨h.kn.srt,h.kn.rng⟩⟩
theorem ZE8 {f:Nat ->Int} {k j:Nat} (h:f j=3):Yp f k 3 j=3:=by
 unfold Yp;by_cases e:j=k
 ·rw [if_pos e]
 ·rw [if_neg e];exact h
theorem P2.YM (h:P2 s σ) (p:Nat):P2 s (Proofs.YtcnahmgekicbdaaGreat.YM s p σ):=by
 have sA:=JP (s:=s) p σ;exact h.of sA.2.2.1 (.YM p) sA.2.1 fun k hk=>by rw [sA.1];exact ZE8 hk
theorem P2.not_mem (h:P2 s σ) {q:Nat} (hq:q < nn s) (h2:σ.st p ≠ 3):(p:Int) ∉ σ.kn q:=fun hm=>by
 obtain⟨k,e1,_,_,e4⟩:=h.kn.rng q hq _ hm;have:k=p:=by omega
 subst this;exact h2 e4
theorem P2.act (hS:Qm s) (h:P2 s σ) (ac:Act s σ τ):P2 s τ:=by
 cases ac with
 | @fall p hp h1=>
   refine h.of rfl (.refl' rfl) rfl fun k hk=>?_
   show Yp σ.st p 2 k=3;rw [ZT (fun z=>by subst z;rw [h1] at hk;cases hk)];exact hk
 | Zcq=>exact h.of rfl (.send _) rfl fun _ z=>z
 | @die p hp h2 hA=>
   have hD:=h.YM p;have sA:=JP (s:=s) p σ;unfold ZbD;by_cases h0:inn s (p:Int) < 0
   ·rw [if_pos h0];exact hD
   ·rw [if_neg h0];obtain⟨eq,hq⟩:=JO hS hp h0;by_cases e:pl s (inn s (p:Int)).toNat=pl s p
    ·rw [if_pos e];exact⟨hD.ld,UK hS hD.kn hp h0 (by rw [sA.1,Zy]) (by rw [sA.2.1];exact h.not_mem hq (by rw [h2];decide)) _⟩
    ·rw [if_neg e];exact hD.of rfl (.send _) rfl fun _ z=>z
 | @Zh3 p q=>have e:=Jg q p σ.sd (kK p q σ);exact h.of e.2.2.2.1 (.refl' e.2.2.2.2.1) e.2.1 fun k z=>by rw [e.1];exact z
 | @Zh2 p q=>exact h.of rfl (SnM.trans (.refl' (τ:=kK p q σ) rfl) (.send _)) rfl fun _ z=>z
 | @ZhY p q=>have e:=Ju (s:=s) p q (tell 3 p q 0 σ);exact h.of e.2.2.2.1 (SnM.trans (.refl' (τ:=tell 3 p q 0 σ) rfl) (.note _ _)) e.2.1 fun k z=>by rw [e.1];exact z
 | @ZhX p q=>exact h.of rfl (SnM.trans (.refl' (τ:=tell 3 p q 0 σ) rfl) (.send _)) rfl fun _ z=>z
 | @Zib a b p q ha hb hl=>have e:=Jg q p (hd σ (li s a b)).n (drop1 (li s a b) σ);exact(h.drop hl).of e.2.2.2.1 (.refl' e.2.2.2.2.1) e.2.1 fun k z=>by rw [e.1];exact z
 | @Zie a b p q ha hb hl=>have e:=Ju (s:=s) p q (drop1 (li s a b) σ);exact(h.drop hl).of e.2.2.2.1 (.note _ _) e.2.1 fun k z=>by rw [e.1];exact z
 | Zic ha hb hl=>exact h.drop hl
 | Zfz ha hb hl hk hp hpn h0 hm h3 hn=>exact⟨(h.drop hl).ld,UK hS (h.drop hl).kn hpn (by omega) h3 hn _⟩
 | Zid ha hb hl=>exact(h.drop hl).of rfl (.refl' rfl) rfl fun _ z=>z
 | @ring w i=>have e:=Js s w i σ;exact h.of e.2.1 (.refl' e.2.2.2.2.2.1) e.2.2.2.1 fun k z=>by rw [e.2.2.1];exact z
structure KI (s:Zc) (σ:TS):Prop where
 k1:∀ (i j:Nat) (x:Zd),(σ.sn i)[j]? =some x ->x.kW=4 ->∃ k:Nat,x.kV= (k:Int)∧k < nn s∧σ.st k=3∧((k:Int) ∈ σ.kn (inn s (k:Int)).toNat↔j < σ.ld i)
 k2:∀ (i i' j j':Nat) (x x':Zd),(σ.sn i)[j]? =some x ->(σ.sn i')[j']? =some x' ->x.kW=4 ->x'.kW=4 ->x.kV=x'.kV ->i=i'∧j=j'
 k3:∀ p,p < nn s ->σ.st p=3 ->0 <=inn s (p:Int) ->(p:Int) ∈ σ.kn (inn s (p:Int)).toNat∨∃ (i j:Nat) (x:Zd),(σ.sn i)[j]? =some x∧x.kW=4∧x.kV= (p:Int)
 k4:∀ p,p < nn s ->σ.st p=3 ->Alo s σ p
def S4 (σ τ:TS):Prop:=∀ (i j:Nat) (x:Zd),x.kW=4 ->((τ.sn i)[j]? =some x↔(σ.sn i)[j]? =some x)
theorem S4.refl' (h:τ.sn=σ.sn):S4 σ τ:=fun i j x _=>by rw [h]
theorem S4.trans (h:S4 σ τ) (h':S4 τ υ):S4 σ υ:=fun i j x hx=>(h' i j x hx).trans (h i j x hx)
theorem KY {x y:Zd} {j:Nat}:((send s a b x σ).sn i)[j]? =some y↔(σ.sn i)[j]? =some y∨(i=li s a b∧j= (σ.sn i).length∧y=x):=by
 by_cases e:i=li s a b
 ·subst e;rw [ZbT];rcases Nat.lt_trichotomy j (σ.sn (li s a b)).length with h | h | h
  ·rw [List.getElem?_append_left h];exact⟨.inl,fun z=>z.elim id fun w=>absurd w.2.1 (by omega)⟩
  ·subst h;rw [List.getElem?_append_right (Nat.le_refl _),Nat.sub_self]
   constructor
   ·intro z;simp at z;exact .inr ⟨rfl,rfl,z.symm⟩
   ·rintro(z | ⟨_,_,z⟩)
    ·rw [List.getElem?_eq_none (Nat.le_refl _)] at z;cases z
    ·simp [z]
  ·constructor
   ·intro z;have:= (Li0 z).1;rw [List.length_append,List.length_singleton] at this;omega
   ·rintro(z | ⟨_,z,_⟩)
    ·have:= (Li0 z).1;omega
    ·omega
 ·rw [JU e];exact⟨.inl,fun z=>z.elim id fun w=>absurd w.1 e⟩
theorem S4.send (hx:x.kW ≠ 4):S4 σ (Proofs.YtcnahmgekicbdaaGreat.send s a b x σ):=fun i j y hy=>by
 rw [KY];exact⟨fun z=>z.elim id fun w=>absurd (w.2.2 ▸ hy) hx,.inl⟩
theorem S4.XL (p q:Nat):S4 σ (Proofs.YtcnahmgekicbdaaGreat.XL s p q σ):=by
 unfold Proofs.YtcnahmgekicbdaaGreat.XL;split
 ·exact .refl' rfl
 ·exact .send (by show(5:Int) ≠ 4;decide)
theorem S4.Zt (p:Nat) (l:List Int):S4 σ (Proofs.YtcnahmgekicbdaaGreat.Zt s p l σ):=Kc _ (S4 σ) l σ (.refl' rfl) fun τ x _ h=>h.trans (.XL _ _)
theorem S4.note (p q:Nat):S4 σ (Proofs.YtcnahmgekicbdaaGreat.note s p q σ):=by
 unfold Proofs.YtcnahmgekicbdaaGreat.note;split
 ·exact .XL _ _
 ·exact .refl' rfl
theorem S4.YM (p:Nat):S4 σ (Proofs.YtcnahmgekicbdaaGreat.YM s p σ):= (S4.Zt (σ:=Proofs.YtcnahmgekicbdaaGreat.Wx p σ) p (σ.wa p)).trans (.refl' rfl)
theorem KI.same (h:KI s σ) (h1:∀ p,τ.st p=3↔σ.st p=3) (h2:τ.kn=σ.kn) (h3:τ.ld=σ.ld) (h4:S4 σ τ):KI s τ:=by
 refine⟨fun i j x hx hk=>?_,fun i i' j j' x x' hx hx' hk hk' e=>h.k2 i i' j j' x x' ((h4 i j x hk).1 hx) ((h4 i' j' x' hk').1 hx') hk hk' e,fun p hp h3' h0=>?_,fun p hp h3'=>?_⟩
 ·obtain⟨k,e1,e2,e3,e4⟩:=h.k1 i j x ((h4 i j x hk).1 hx) hk;exact⟨k,e1,e2,(h1 k).2 e3,by rw [h2,h3];exact e4⟩
 ·rw [h2];exact(h.k3 p hp ((h1 p).1 h3') h0).imp id fun⟨i,j,x,a,b,c⟩=>⟨i,j,x,(h4 i j x b).2 a,b,c⟩
 ·intro k hk e;rw [h2];exact h.k4 p hp ((h1 p).1 h3') k hk e
theorem KI.drop (h:KI s σ) (hl:σ.ld i < (σ.sn i).length) (hk:(hd σ i).kW ≠ 4):KI s (drop1 i σ):=by
 refine⟨fun i' j x hx hk'=>?_,h.k2,h.k3,h.k4⟩;obtain⟨k,e1,e2,e3,e4⟩:=h.k1 i' j x hx hk';refine⟨k,e1,e2,e3,e4.trans ?_⟩;show j < σ.ld i'↔j < Yp σ.ld i (σ.ld i + 1) i';by_cases e:i'=i
 ·subst e;rw [Zy]
  have:j ≠ σ.ld i':=fun z=>hk (by
   subst z;have hx:(σ.sn i')[σ.ld i']? =some x:=hx;unfold hd;rw [List.getD_eq_getElem?_getD,hx];exact hk')
  omega
 ·rw [ZT e]
theorem ZK6 {f:Nat ->Int} {k j:Nat} {v:Int} (hv:v ≠ 3) (h:f k ≠ 3):Yp f k v j=3↔f j=3:=by
 unfold Yp;by_cases e:j=k
 ·subst e;rw [if_pos rfl];exact⟨fun z=>absurd z hv,fun z=>absurd z h⟩
 ·rw [if_neg e]
theorem KI.die (hS:Qm s) (hP:P2 s σ) (h:KI s σ) (hp:p < nn s) (h2:σ.st p=2) (hA:Alo s σ p):KI s (ZbD s p σ):=by
 have sA:=JP (s:=s) p σ;have h4:=S4.YM (s:=s) (σ:=σ) p
 have no4:∀ (i j:Nat) (x:Zd),(σ.sn i)[j]? =some x ->x.kW=4 ->x.kV ≠ (p:Int):=fun i j x hx hk e=>by
  obtain⟨k,e1,_,e3,_⟩:=h.k1 i j x hx hk;have:k=p:=by omega
  subst this;rw [h2] at e3;cases e3
 have st3:∀ k,σ.st k=3 ->Yp σ.st p 3 k=3:=fun k hk=>by
  unfold Yp;by_cases e:k=p
  ·rw [if_pos e]
  ·rw [if_neg e];exact hk
 have Zrl:∀ k,Yp σ.st p 3 k=3 ->k=p∨σ.st k=3:=fun k hk=>by
  by_cases e:k=p
  ·exact .inl e
  ·rw [ZT e] at hk;exact .inr hk
 unfold ZbD;by_cases h0:inn s (p:Int) < 0
 ·rw [if_pos h0];refine⟨fun i j x hx hk=>?_,fun i i' j j' x x' hx hx' hk hk' e=>h.k2 i i' j j' x x' ((h4 i j x hk).1 hx) ((h4 i' j' x' hk').1 hx') hk hk' e,fun k hk h3' h0'=>?_,fun k hk h3'=>?_⟩
  ·obtain⟨k,e1,e2,e3,e4⟩:=h.k1 i j x ((h4 i j x hk).1 hx) hk;exact⟨k,e1,e2,by rw [sA.1];exact st3 k e3,by rw [sA.2.1,sA.2.2.1];exact e4⟩
  ·rw [sA.1] at h3';rcases Zrl k h3' with e | e
   ·subst e;omega
   ·rw [sA.2.1];exact(h.k3 k hk e h0').imp id fun⟨i,j,x,a,b,c⟩=>⟨i,j,x,(h4 i j x b).2 a,b,c⟩
  ·rw [sA.1] at h3';intro j hj e;rw [sA.2.1];rcases Zrl k h3' with z | z
   ·subst z;exact hA j hj e
   ·exact h.k4 k hk z j hj e
 ·rw [if_neg h0];obtain⟨eq,hq⟩:=JO hS hp h0;by_cases e:pl s (inn s (p:Int)).toNat=pl s p
  ·rw [if_pos e]
   have kne:∀ (k q':Nat),k ≠ p ->(((k:Int)) ∈ Yp (YM s p σ).kn (inn s (p:Int)).toNat (ins (p:Int) ((YM s p σ).kn (inn s (p:Int)).toNat)) q'↔(k:Int) ∈ σ.kn q'):=fun k q' hne=>by
    rw [sA.2.1];by_cases z:q'= (inn s (p:Int)).toNat
    ·subst z;rw [Zy,Kz];exact⟨fun w=>w.elim (fun w=>absurd (by omega) hne) id,.inr⟩
    ·rw [ZT z]
   refine⟨fun i j x hx hk=>?_,fun i i' j j' x x' hx hx' hk hk' e=>h.k2 i i' j j' x x' ((h4 i j x hk).1 hx) ((h4 i' j' x' hk').1 hx') hk hk' e,fun k hk h3' h0'=>?_,fun k hk h3'=>?_⟩
   ·have hx':= (h4 i j x hk).1 hx;obtain⟨k,e1,e2,e3,e4⟩:=h.k1 i j x hx' hk;have hne:k ≠ p:=fun z=>no4 i j x hx' hk (by rw [e1,z])
    refine⟨k,e1,e2,by show(YM s p σ).st k=3;rw [sA.1];exact st3 k e3,?_⟩;refine(kne k _ hne).trans ?_;show _↔j < (YM s p σ).ld i;rw [sA.2.2.1];exact e4
   ·have h3':(YM s p σ).st k=3:=h3';rw [sA.1] at h3';rcases Zrl k h3' with z | z
    ·subst z;left;show _ ∈ Yp _ _ _ _;rw [Zy];exact Kz.2 (.inl rfl)
    ·have hne:k ≠ p:=fun w=>by subst w;rw [h2] at z;cases z
     refine(h.k3 k hk z h0').imp (fun w=>(kne k _ hne).2 w) fun⟨i,j,x,a,b,c⟩=>⟨i,j,x,(h4 i j x b).2 a,b,c⟩
   ·have h3':(YM s p σ).st k=3:=h3';rw [sA.1] at h3';intro j hj ej
    have hold:(j:Int) ∈ σ.kn k:=by
     rcases Zrl k h3' with z | z
     ·subst z;exact hA j hj ej
     ·exact h.k4 k hk z j hj ej
    show _ ∈ Yp _ _ _ _;rw [sA.2.1];by_cases z:k= (inn s (p:Int)).toNat
    ·subst z;rw [Zy];exact Kz.2 (.inr hold)
    ·rw [ZT z];exact hold
  ·rw [if_neg e];obtain⟨y,hy⟩:∃ y:Zd,y= ⟨4,(p:Int),0,0,mks s (YM s p σ) p⟩:= ⟨_,rfl⟩
   rw [← hy];have yk:y.kW=4:=by rw [hy]
   have yp:y.kV= (p:Int):=by rw [hy]
   refine⟨fun i j x hx hk=>?_,fun i i' j j' x x' hx hx' hk hk' e=>?_,fun k hk h3' h0'=>?_,fun k hk h3'=>?_⟩
   ·rcases KY.1 hx with hx | ⟨e1,e2,e3⟩
    ·obtain⟨k,e1,e2,e3,e4⟩:=h.k1 i j x ((h4 i j x hk).1 hx) hk
     exact⟨k,e1,e2,by show(YM s p σ).st k=3;rw [sA.1];exact st3 k e3,by
      show _ ∈ (YM s p σ).kn _↔_ < (YM s p σ).ld i;rw [sA.2.1,sA.2.2.1];exact e4⟩
    ·refine⟨p,by rw [e3];exact yp,hp,by show(YM s p σ).st p=3;rw [sA.1,Zy],?_⟩;show _ ∈ (YM s p σ).kn _↔_ < (YM s p σ).ld i;rw [sA.2.1,e2,e1];have:= (hP.YM p).ld (li s (pl s p) (pl s (inn s (p:Int)).toNat));exact⟨fun w=>absurd w (hP.not_mem hq (by rw [h2];decide)),fun w=>by omega⟩
   ·rcases KY.1 hx with hx | ⟨a1,a2,a3⟩ <;> rcases KY.1 hx' with hx' | ⟨b1,b2,b3⟩
    ·exact h.k2 i i' j j' x x' ((h4 i j x hk).1 hx) ((h4 i' j' x' hk').1 hx') hk hk' e
    ·exact absurd (by rw [e,b3,yp]) (no4 i j x ((h4 i j x hk).1 hx) hk)
    ·exact absurd (by rw [← e,a3,yp]) (no4 i' j' x' ((h4 i' j' x' hk').1 hx') hk')
    ·have:i=i':=by rw [a1,b1]
     subst this;exact⟨rfl,by rw [a2,b2]⟩
   ·have h3':(YM s p σ).st k=3:=h3';rw [sA.1] at h3';rcases Zrl k h3' with z | z
    ·subst z;exact .inr ⟨_,_,y,KY.2 (.inr ⟨rfl,rfl,rfl⟩),yk,yp⟩
    ·refine(h.k3 k hk z h0').imp (fun w=>by show _ ∈ (YM s p σ).kn _;rw [sA.2.1];exact w) fun⟨i,j,x,a,b,c⟩=>⟨i,j,x,KY.2 (.inl ((h4 i j x b).2 a)),b,c⟩
   ·have h3':(YM s p σ).st k=3:=h3';rw [sA.1] at h3';intro j hj ej;show _ ∈ (YM s p σ).kn k;rw [sA.2.1];rcases Zrl k h3' with z | z
    ·subst z;exact hA j hj ej
    ·exact h.k4 k hk z j hj ej
theorem KI.Zfz (hS:Qm s) (h:KI s σ) (hl:σ.ld i < (σ.sn i).length) (hk:(hd σ i).kW=4) (hp:(hd σ i).kV= (p:Int)) (hpn:p < nn s) (l:List Int):KI s (YL s p l (drop1 i σ)):=by
 have hh:(σ.sn i)[σ.ld i]? =some (hd σ i):=by
  unfold hd;rw [List.getD_eq_getElem?_getD,List.getElem?_eq_getElem hl];rfl
 have kne:∀ (k q':Nat),k ≠ p ->(((k:Int)) ∈ Yp σ.kn (inn s (p:Int)).toNat (ins (p:Int) (σ.kn (inn s (p:Int)).toNat)) q'↔(k:Int) ∈ σ.kn q'):=fun k q' hne=>by
  by_cases z:q'= (inn s (p:Int)).toNat
  ·subst z;rw [Zy,Kz];exact⟨fun w=>w.elim (fun w=>absurd (by omega) hne) id,.inr⟩
  ·rw [ZT z]
 have kup:∀ (k q':Nat),(k:Int) ∈ σ.kn q' ->((k:Int)) ∈ Yp σ.kn (inn s (p:Int)).toNat (ins (p:Int) (σ.kn (inn s (p:Int)).toNat)) q':=fun k q' hm=>by
  by_cases e:k=p
  ·by_cases z:q'= (inn s (p:Int)).toNat
   ·subst z;rw [Zy];exact Kz.2 (.inr hm)
   ·rw [ZT z];exact hm
  ·exact(kne k q' e).2 hm
 refine⟨fun i' j x hx hk'=>?_,h.k2,fun k hk' h3 h0=>(h.k3 k hk' h3 h0).imp (fun w=>kup k _ w) id,fun k hk' h3 j hj e=>kup j k (h.k4 k hk' h3 j hj e)⟩;obtain⟨k,e1,e2,e3,e4⟩:=h.k1 i' j x hx hk';refine⟨k,e1,e2,e3,?_⟩;show(k:Int) ∈ Yp σ.kn (inn s (p:Int)).toNat (ins (p:Int) (σ.kn (inn s (p:Int)).toNat)) (inn s (k:Int)).toNat↔j < Yp σ.ld i (σ.ld i + 1) i';by_cases z:k=p
 ·subst z;obtain⟨a,c⟩:=h.k2 i' i j _ x _ hx hh hk' hk (by rw [e1,hp]);subst a c;rw [Zy,Zy];exact⟨fun _=>by omega,fun _=>Kz.2 (.inl rfl)⟩
 ·rw [kne k _ z];by_cases e:i'=i
  ·subst e;rw [Zy]
   have:j ≠ σ.ld i':=fun w=>by
    subst w;have hx:(σ.sn i')[σ.ld i']? =some x:=hx;rw [hh] at hx;cases hx;rw [hp] at e1;omega
   exact e4.trans (by omega)
  ·rw [ZT e];exact e4
theorem KI.act (hS:Qm s) (hP:P2 s σ) (h:KI s σ) (ac:Act s σ τ):KI s τ:=by
 cases ac with
 | @fall p hp h1=>exact h.same (fun k=>ZK6 (by decide) (by rw [h1];decide)) rfl rfl (.refl' rfl)
 | Zcq=>exact h.same (fun _=>Iff.rfl) rfl rfl (.send (by show(3:Int) ≠ 4;decide))
 | die hp h2 hA=>exact h.die hS hP hp h2 hA
 | @Zh3 p q=>have e:=Jg q p σ.sd (kK p q σ);exact h.same (fun k=>by rw [e.1];exact Iff.rfl) e.2.1 e.2.2.2.1 (.refl' e.2.2.2.2.1)
 | @Zh2 p q=>exact h.same (fun _=>Iff.rfl) rfl rfl (S4.trans (.refl' (τ:=kK p q σ) rfl) (.send (by show(1:Int) ≠ 4;decide)))
 | @ZhY p q=>have e:=Ju (s:=s) p q (tell 3 p q 0 σ);exact h.same (fun k=>by rw [e.1];exact Iff.rfl) e.2.1 e.2.2.2.1 (S4.trans (.refl' (τ:=tell 3 p q 0 σ) rfl) (.note _ _))
 | @ZhX p q=>exact h.same (fun _=>Iff.rfl) rfl rfl (S4.trans (.refl' (τ:=tell 3 p q 0 σ) rfl) (.send (by show(2:Int) ≠ 4;decide)))
 | @Zib a b p q ha hb hl hk=>have e:=Jg q p (hd σ (li s a b)).n (drop1 (li s a b) σ);exact(h.drop hl (by rw [hk];decide)).same (fun k=>by rw [e.1]) e.2.1 e.2.2.2.1 (.refl' e.2.2.2.2.1)
 | @Zie a b p q ha hb hl hk=>have e:=Ju (s:=s) p q (drop1 (li s a b) σ);exact(h.drop hl (by rw [hk];decide)).same (fun k=>by rw [e.1]) e.2.1 e.2.2.2.1 (.note _ _)
 | Zic ha hb hl hk=>exact h.drop hl (by rw [hk];decide)
 | Zfz ha hb hl hk hp hpn=>exact h.Zfz hS hl hk hp hpn _
 | Zid ha hb hl hk=>exact(h.drop hl (by rw [hk];decide)).same (fun _=>Iff.rfl) rfl rfl (.refl' rfl)
 | @ring w i=>have e:=Js s w i σ;exact h.same (fun k=>by rw [e.2.2.1]) e.2.2.2.1 e.2.1 (.refl' e.2.2.2.2.2.1)
end
end
section
def SD (σ:TS):Prop:=0 <=σ.sd∧σ.sd <= (σ.ev.length:Int)
structure Ok (s:Zc) (B:Nat) (σ:TS):Prop where
 gd:Gd s B σ
 p1:P1 s σ
 p2:P2 s σ
 ki:KI s σ
 sd:SD σ
section
variable {s:Zc} {σ τ υ:TS} {F B a b p q w i n d:Nat} {x:Z7}
theorem SD.of (h:SD σ) (h1:τ.sd=σ.sd) (h2:σ.ev.length <=τ.ev.length):SD τ:= ⟨by rw [h1];exact h.1,by rw [h1];have:=h.2;omega⟩
theorem ZtL (p q:Nat) (n:Int) (σ:TS):σ.ev.length <= (see p q n σ).ev.length:=by
 unfold see;split
 ·show _ <= (σ.ev ++ [_]).length;rw [List.length_append];omega
 ·exact Nat.le_refl _
theorem SD.act (h:SD σ) (ac:Act s σ τ):SD τ:=by
 cases ac with
 | fall=>exact h.of rfl (by show _ <= (σ.ev ++ [_]).length;rw [List.length_append];omega)
 | Zcq=>exact h
 | @die p hp h2 hA=>
   have sA:=JP (s:=s) p σ;have:SD (YM s p σ):=h.of sA.2.2.2.1 (by rw [sA.2.2.2.2.1,List.length_append];omega);unfold ZbD;split
   ·exact this
   ·split
    ·exact this
    ·exact this
 | @Zh3 p q hp hq=>
   have e:=Jg q p σ.sd (kK p q σ);have e2:=ZtL q p σ.sd (kK p q σ);have e3:(kK p q σ).ev.length=σ.ev.length + 1:=by show(σ.ev ++ [_]).length=_;simp
   refine⟨?_,?_⟩
   ·rw [e.2.2.2.2.2.2.2];show 0 <=σ.sd + 1;have:=h.1;omega
   ·rw [e.2.2.2.2.2.2.2];show σ.sd + 1 <=_;have:=h.2;omega
 | @Zh2 p q=>
   have e3:(kK p q σ).ev.length=σ.ev.length + 1:=by show(σ.ev ++ [_]).length=_;simp
   exact⟨by show 0 <=σ.sd + 1;have:=h.1;omega,by show σ.sd + 1 <= ((kK p q σ).ev.length:Int);have:=h.2;omega⟩
 | @ZhY p q=>
   have e:=Ju (s:=s) p q (tell 3 p q 0 σ);exact h.of e.2.2.2.2.1 (by rw [e.2.2.2.2.2];show _ <= (σ.ev ++ [_]).length;rw [List.length_append];omega)
 | ZhX=>exact h.of rfl (by show _ <= (σ.ev ++ [_]).length;rw [List.length_append];omega)
 | @Zib a b p q=>exact h.of (Jg q p (hd σ (li s a b)).n (drop1 (li s a b) σ)).2.2.2.2.2.2.2 (ZtL q p (hd σ (li s a b)).n (drop1 (li s a b) σ))
 | @Zie a b p q=>have e:=Ju (s:=s) p q (drop1 (li s a b) σ);exact h.of e.2.2.2.2.1 (by rw [e.2.2.2.2.2];exact Nat.le_refl _)
 | Zic=>exact h
 | Zfz=>exact h
 | Zid=>exact h
 | @ring w i=>
   refine h.of (Js s w i σ).2.2.2.2.2.2.2 ?_;unfold rung;split
   ·show _ <= (σ.ev ++ [_]).length;rw [List.length_append];omega
   ·exact Nat.le_refl _
theorem Ok.acts (hS:Qm s) (h:Ok s B σ) (ha:Q6 s σ τ) {B':Nat} (g:Gd s B' τ):Ok s B' τ:=by
 have:=ha.keep (P:=fun σ=>P1 s σ∧P2 s σ∧KI s σ∧SD σ) (fun _ _ ⟨a,b,c,d⟩ ac=>⟨a.act hS ac,b.act hS ac,c.act hS b ac,d.act ac⟩) ⟨h.p1,h.p2,h.ki,h.sd⟩;exact⟨g,this.1,this.2.1,this.2.2.1,this.2.2.2⟩
theorem Ok.head (h:Ok s B σ) (ha:a < mm s) (hb:b < mm s) (hl:σ.ld (li s a b) < (σ.sn (li s a b)).length):Zxy s a b (hd σ (li s a b))∧ZsN s (hd σ (li s a b)) σ:=by
 have hx:=h.p1.lets a b ha hb _ (ZcK hl);refine⟨hx,fun hk=>?_⟩
 have hh:(σ.sn (li s a b))[σ.ld (li s a b)]? =some (hd σ (li s a b)):=by
  unfold hd;rw [List.getD_eq_getElem?_getD,List.getElem?_eq_getElem hl];rfl
 obtain⟨k,e1,e2,e3,e4⟩:=h.ki.k1 _ _ _ hh hk;rw [e1,Int.toNat_natCast];exact⟨e3,fun m=>absurd (e4.1 m) (Nat.lt_irrefl _)⟩
theorem ZjO (h:Gd s B σ) (p q:Nat):Gd s (B + 1) (kK p q σ):=
 ⟨(Wf.tell (σ:= {σ with sd:=σ.sd + 1}) ⟨h.wf.pot,h.wf.ld,h.wf.ws⟩ 1 p q σ.sd),⟨h.kn.srt,h.kn.rng⟩⟩
theorem ZjI (h:Gd s B σ) (d p q n:Int):Gd s (B + 1) (tell d p q n σ):= ⟨h.wf.tell d p q n,⟨h.kn.srt,h.kn.rng⟩⟩
theorem ZpQ (h:Gd s B σ) (ha:a < mm s) (hb:b < mm s) (x:Zd):Gd s (B + 1 + ew x) (send s a b x σ):= ⟨h.wf.send ha hb x,⟨h.kn.srt,h.kn.rng⟩⟩
theorem Zf1 (hS:Qm s) (h:Ok s B σ) (hx:Zfb s x σ):Gd s (B + 4) (Zfr s x σ)∧Q6 s σ (Zfr s x σ):=by
 unfold Zfr;rcases hx with⟨k,p,q,ep,eq,hp,hq,h1⟩ | ⟨k,p,q,ep,eq,hp,hq,h1⟩ | ⟨k,p,ep,hp,h1⟩ | ⟨k,a,b,ea,eb,ha,hb,hl⟩
 ·rw [if_pos k,ep,eq,Int.toNat_natCast,Int.toNat_natCast];by_cases e:pl s p=pl s q
  ·rw [if_pos e];exact⟨(ZtK (ZjO h.gd p q) q p σ.sd).up (by omega),.one (.Zh3 hp hq h1 e)⟩
  ·rw [if_neg e];exact⟨(ZpQ (ZjO h.gd p q) (hS.pl hp).2 (hS.pl hq).2 _).up (by show B + 1 + 1 + 1 <=B + 4;omega),.one (.Zh2 hp hq h1 e)⟩
 ·rw [if_neg (by omega),if_pos k,ep,eq,Int.toNat_natCast,Int.toNat_natCast];by_cases e:pl s p=pl s q
  ·rw [if_pos e];exact⟨(Zqe hS (ZjI h.gd 3 p q 0) hp hq).up (by omega),.one (.ZhY hp hq h1 e)⟩
  ·rw [if_neg e];exact⟨(ZpQ (ZjI h.gd 3 p q 0) (hS.pl hp).2 (hS.pl hq).2 _).up (by show B + 1 + 1 + 2 <=B + 4;omega),.one (.ZhX hp hq h1 e)⟩
 ·rw [if_neg (by omega),if_neg (by omega),if_pos k,ep,Int.toNat_natCast];exact⟨(Zks hS _ _ _ _ hp (Za9.all hS.inn) h.gd h1).up (by omega),Zjd hS _ _ _ hp (Za9.all hS.inn) h1⟩
 ·rw [if_neg (by omega),if_neg (by omega),if_neg (by omega),ea,eb,Int.toNat_natCast,Int.toNat_natCast];obtain⟨hf,hD⟩:=h.head ha hb hl;exact⟨(Zmc hS h.gd ha hb hl hf.s hD).up (by omega),ZrN hS ha hb hl hf.s hD⟩
theorem Zr8 (hS:Qm s) (h:Ok s B σ) (k:x.act=4) (hx:Zfb s x σ):Gd s B (Zfr s x σ):=by
 unfold Zfr;rcases hx with⟨k',_⟩ | ⟨k',_⟩ | ⟨k',_⟩ | ⟨_,a,b,ea,eb,ha,hb,hl⟩
 ·omega
 ·omega
 ·omega
 ·rw [if_neg (by omega),if_neg (by omega),if_neg (by omega),ea,eb,Int.toNat_natCast,Int.toNat_natCast];obtain⟨hf,hD⟩:=h.head ha hb hl;exact Zmc hS h.gd ha hb hl hf.s hD
theorem P1.ZF0 (h:P1 s σ):BeA s σ:=fun w hw x hx=>(h.bea w hw x hx).1
theorem step_ok (hS:Qm s) (h:Ok s B σ) (hx:Zfb s x σ):Ok s (B + 4) (stepW s x σ):=by
 obtain⟨g,ac⟩:=Zf1 hS h hx;have o1:=h.acts hS ac g;exact o1.acts hS (ZcC (mm s) (Nat.le_refl _)) (Zgs g o1.p1.ZF0 (mm s) (Nat.le_refl _)).1
theorem Ztz (hS:Qm s) (h:Ok s B σ) (k:x.act=4) (hx:Zfb s x σ):Ok s B (stepW s x σ):=by
 have g:=Zr8 hS h k hx;have o1:=h.acts hS (Zf1 hS h hx).2 g;exact o1.acts hS (ZcC (mm s) (Nat.le_refl _)) (Zgs g o1.p1.ZF0 (mm s) (Nat.le_refl _)).1
theorem ZiL (hS:Qm s) (h:Ok s B σ) (hx:Zfb s x σ):Q6 s σ (stepW s x σ):= (Zf1 hS h hx).2.trans (ZcC (mm s) (Nat.le_refl _))
theorem ZnQ (hF:1000000 <=F) (hS:Qm s) (hB:B <=600000) (h:Gd s B σ) (hb:BeA s σ):ZaB F (U5 s σ)=some (hal s (rings s (mm s) σ)):=by
 have h4:=hS.mm.2.2;unfold ZaB;rw [show U5 s σ= (tab (nn s) σ.st,(tab (nn s) fun j=>tab (mm s * mm s) (σ.ma j)),tab (nn s) σ.kn,tab (nn s) σ.wa,tab (mm s) σ.be,tab (mm s * mm s) (Kq σ),σ.sd,s.qG,s.Ze,σ.ev) from rfl];dsimp only;refine XD (fun k=>((k:Int),U5 s (rings s k σ))) rfl (n:=mm s) (by omega) (fun k hk next=>?_) (fun next=>?_)
 ·obtain⟨g1,g2⟩:=Zgs h hb k (by omega);have hl7:((rings s k σ).be k).length <=600000:=by have:=g1.wf.pot;have:=Uj (f:=fun m=>((rings s k σ).be m).length) hk;unfold Pot at *;omega
  unfold ZkG;rw [show U5 s (rings s k σ)= (tab (nn s) (rings s k σ).st,(tab (nn s) fun j=>tab (mm s * mm s) ((rings s k σ).ma j)),tab (nn s) (rings s k σ).kn,tab (nn s) (rings s k σ).wa,tab (mm s) (rings s k σ).be,tab (mm s * mm s) (Kq (rings s k σ)),(rings s k σ).sd,s.qG,s.Ze,(rings s k σ).ev) from rfl];dsimp only;rw [Zeo hS hk,Cq1,Zka];unfold Zzu;rw [show loop F (ZcO F (k:Int)) ((hal s (rings s k σ)).Za.qV,(hal s (rings s k σ)).Za.qX,(hal s (rings s k σ)).Za.qZ,(hal s (rings s k σ)).Za.Zk,(hal s (rings s k σ)).Za.Zt,(hal s (rings s k σ)).Za.kQ,(hal s (rings s k σ)).Za.kK,(hal s (rings s k σ)).qK.qG,(hal s (rings s k σ)).qK.Ze,(hal s (rings s k σ)).kU)=some (hal s (rings s (k + 1) σ)) from Zro hF hS hB hk _ F (rings s k σ) (by omega) (Nat.le_refl _) g1 g2];simp only [Bq0];rw [Qo (by omega)];rfl
 ·unfold ZkG U5;dsimp only;rw [Zj2 hS,Cq0];rfl
theorem ZiK (hF:1000000 <=F) (hS:Qm s) (hB:B <=500000) (h:Ok s B σ) (hx:Zfb s x σ):Zr4 F (hal s σ) x=some (hal s (stepW s x σ)):=by
 obtain⟨g,ac⟩:=Zf1 hS h hx;have o1:=h.acts hS ac g;have fin:=ZnQ (F:=F) hF hS (by omega) g o1.p1.ZF0;unfold stepW;have fw:=h.gd.wf.few (by omega);have hsd:=h.sd;have hev:=fw.ev;unfold Zr4;simp only [Y5];unfold Zfr at fin ⊢;rcases hx with⟨k,p,q,ep,eq,hp,hq,h1⟩ | ⟨k,p,q,ep,eq,hp,hq,h1⟩ | ⟨k,p,ep,hp,h1⟩ | ⟨k,a,b,ea,eb,ha,hb,hl⟩
 ·rw [if_pos k,ep,eq,Int.toNat_natCast,Int.toNat_natCast] at fin ⊢;have es:Yx (σ.sd + 1)=σ.sd + 1:=KF (by have:=hsd.1;omega) (by have:=hsd.2;omega);rw [decide_eq_true k,Cq1,show(hal s σ).Za.kK=σ.sd from rfl,WG fw];simp only [Bq0]
  have e5:ZB.mk (Zg.mk (hal s (tell 1 p q σ.sd σ)).Za.qV (hal s (tell 1 p q σ.sd σ)).Za.qX (hal s (tell 1 p q σ.sd σ)).Za.qZ (hal s (tell 1 p q σ.sd σ)).Za.Zk (hal s (tell 1 p q σ.sd σ)).Za.Zt (hal s (tell 1 p q σ.sd σ)).Za.kQ (Yx ((hal s (tell 1 p q σ.sd σ)).Za.kK + 1))) (hal s (tell 1 p q σ.sd σ)).qK (hal s (tell 1 p q σ.sd σ)).kU=hal s (kK p q σ):=by
   rw [show(hal s (tell 1 p q σ.sd σ)).Za.kK=σ.sd from rfl,es];rfl
  have gs:=ZjO h.gd p q;rw [e5,Uu hS hp,Uu hS hq];simp only [Bq0];rw [show decide (((pl s p:Nat):Int)= ((pl s q:Nat):Int))=decide (pl s p=pl s q) by rw [← Y5];exact ZdG _ _];by_cases e:pl s p=pl s q
  ·rw [if_pos e] at fin ⊢;rw [decide_eq_true e,Cq1,ZlJ (gs.wf.few (by omega)) rfl hq];exact fin
  ·rw [if_neg e] at fin ⊢;rw [decide_eq_false e,Cq0,KX hS (gs.wf.few (by omega)) (hS.pl hp).2 (hS.pl hq).2];exact fin
 ·rw [if_neg (by omega),if_pos k,ep,eq,Int.toNat_natCast,Int.toNat_natCast] at fin ⊢;rw [decide_eq_false (by omega),Cq0,decide_eq_true k,Cq1,WG fw];simp only [Bq0];have gs:=ZjI h.gd 3 p q 0;rw [Uu hS hp,Uu hS hq];simp only [Bq0];rw [show decide (((pl s p:Nat):Int)= ((pl s q:Nat):Int))=decide (pl s p=pl s q) by rw [← Y5];exact ZdG _ _];by_cases e:pl s p=pl s q
  ·rw [if_pos e] at fin ⊢;rw [decide_eq_true e,Cq1,Zi3 hS (gs.wf.few (by omega)) rfl rfl hp hq];exact fin
  ·rw [if_neg e] at fin ⊢;rw [decide_eq_false e,Cq0,KX hS (gs.wf.few (by omega)) (hS.pl hp).2 (hS.pl hq).2];exact fin
 ·rw [if_neg (by omega),if_neg (by omega),if_pos k,ep,Int.toNat_natCast] at fin ⊢;rw [decide_eq_false (by omega),Cq0,decide_eq_false (by omega),Cq0,decide_eq_true k,Cq1];unfold Zwq;have h8:nn s <=8:=hS.p2;rw [Zjc hF hS (nn s) _ _ F _ (by omega) hp (Za9.all hS.inn) h.gd (by omega) h1];exact fin
 ·rw [if_neg (by omega),if_neg (by omega),if_neg (by omega),ea,eb,Int.toNat_natCast,Int.toNat_natCast] at fin ⊢;obtain⟨hf,hD⟩:=h.head ha hb hl;rw [decide_eq_false (by omega),Cq0,decide_eq_false (by omega),Cq0,decide_eq_false (by omega),Cq0,decide_eq_true k,Cq1,ZrM hF hS h.gd (by omega) ha hb hl hf.s hD];exact fin
end
end
section
section
variable {s:Zc} {σ τ υ:TS} {F B a b p q w i n d:Nat} {x:Z7}
theorem ZjW {z:Int} (h:¬ ∃ k:Nat,z= (k:Int)∧k < nn s):(decide (z >=0) && decide (z < (s.Ze.length:Int)))=false:=Bool.eq_false_iff.2 fun e=>h ((ZiZ s z).1 e)
theorem ZNx (h:σ.ld i <= (σ.sn i).length):decide (((Kq σ i).kG.length:Int) > 0)=decide (σ.ld i < (σ.sn i).length):=by
 have e:(Kq σ i).kG.length= (σ.sn i).length - σ.ld i:=by show((σ.sn i).drop (σ.ld i)).length=_;rw [List.length_drop]
 rw [e];congr 1;rw [eq_iff_iff];omega
theorem Zdn (hS:Qm s) {z:Int}:(0 <=z∧z < s.qG)↔∃ k:Nat,z= (k:Int)∧k < mm s:=by
 rw [hS.mm.1]
 constructor
 ·rintro⟨h1,h2⟩;exact⟨z.toNat,by omega,by omega⟩
 ·rintro⟨k,rfl,h⟩;omega
theorem Zlf (hS:Qm s) (h:Ok s B σ):Zwt (hal s σ) x=ifc (Zfb s x σ) (some true) (some false):=by
 unfold Zwt ZkD;rw [show(hal s σ).qK=s from rfl];simp only [Bq0]
 obtain⟨L,v,eL,hL⟩:∃ (L:Bool) (v:Int),((gd (decide (x.a >=0) && decide (x.a < (s.Ze.length:Int))) (ZJ (hal s σ).Za.qV x.a) default)=some v∧(((decide (x.a >=0) && decide (x.a < (s.Ze.length:Int))) && (v==1))=L))∧(L=true↔∃ p:Nat,x.a= (p:Int)∧p < nn s∧σ.st p=1):=by
  by_cases hp:∃ p:Nat,x.a= (p:Int)∧p < nn s
  ·obtain⟨p,ep,hp⟩:=hp;refine⟨decide (σ.st p=1),σ.st p,⟨?_,?_⟩,?_⟩
   ·rw [ep,ZjV hp,UR];exact Yq hp
   ·rw [ep,ZjV hp,Bool.true_and,Y5]
   ·rw [decide_eq_true_eq]
    constructor
    ·exact fun z=>⟨p,ep,hp,z⟩
    ·rintro⟨p',e,_,z⟩;have:p'=p:=by omega
     subst this;exact z
  ·refine⟨false,default,⟨by rw [ZjW hp];rfl,by rw [ZjW hp];rfl⟩,?_⟩
   constructor
   ·intro z;cases z
   ·rintro⟨p,e,h1,_⟩;exact absurd ⟨p,e,h1⟩ hp
 rw [eL.1];simp only [Bq0]
 have j:∀ v13:Bool,(v13=true↔x.act=1∨x.act=2) ->ZeF (hal s σ) x (decide (x.a >=0) && decide (x.a < (s.Ze.length:Int))) v v13=ifc (Zfb s x σ) (some true) (some false):=fun v13 hv=>by
  unfold ZeF;rw [eL.2];by_cases k12:x.act=1∨x.act=2
  ·rw [hv.2 k12,Cq1];unfold ZkD;rw [show(hal s σ).qK=s from rfl];cases hLb:L with
   | false=>
     rw [Zab];simp only [Bq0,Bool.false_and];have:¬ ∃ p:Nat,x.a= (p:Int)∧p < nn s∧σ.st p=1:=fun z=>by have:=hL.2 z;rw [hLb] at this;cases this
     rw [ZR];rintro(⟨_,p,q,e1,_,h1,_,z⟩ | ⟨_,p,q,e1,_,h1,_,z⟩ | ⟨_,p,e1,h1,z⟩ | ⟨k',_⟩)
     ·exact this ⟨p,e1,h1,z⟩
     ·exact this ⟨p,e1,h1,z⟩
     ·exact this ⟨p,e1,h1,z⟩
     ·omega
   | true=>
     rw [UR];simp only [Bq0,Bool.true_and];obtain⟨p,ep,hp,h1⟩:=hL.1 hLb;by_cases hq:∃ q:Nat,x.b= (q:Int)∧q < nn s
     ·obtain⟨q,eq,hq⟩:=hq;rw [eq,ZjV hq,ZX];rcases k12 with k | k
      ·exact .inl ⟨k,p,q,ep,eq,hp,hq,h1⟩
      ·exact .inr (.inl ⟨k,p,q,ep,eq,hp,hq,h1⟩)
     ·rw [ZjW hq,ZR];rintro(⟨_,p',q,_,e1,_,z,_⟩ | ⟨_,p',q,_,e1,_,z,_⟩ | ⟨k',_⟩ | ⟨k',_⟩)
      ·exact hq ⟨q,e1,z⟩
      ·exact hq ⟨q,e1,z⟩
      ·omega
      ·omega
  ·have:v13=false:=Bool.eq_false_iff.2 fun z=>k12 (hv.1 z)
   rw [this,Cq0,Y5,Y5];by_cases k3:x.act=3
   ·rw [decide_eq_true k3,Cq1];cases hLb:L with
    | false=>
      have:¬ ∃ p:Nat,x.a= (p:Int)∧p < nn s∧σ.st p=1:=fun z=>by have:=hL.2 z;rw [hLb] at this;cases this
      rw [ZR];rintro(⟨k',_⟩ | ⟨k',_⟩ | ⟨_,p,e1,h1,z⟩ | ⟨k',_⟩)
      ·omega
      ·omega
      ·exact this ⟨p,e1,h1,z⟩
      ·omega
    | true=>
      obtain⟨p,ep,hp,h1⟩:=hL.1 hLb;rw [ZX (.inr (.inr (.inl ⟨k3,p,ep,hp,h1⟩)))]
   ·rw [decide_eq_false k3,Cq0];by_cases k4:x.act=4
    ·rw [decide_eq_true k4,Cq1,show(hal s σ).qK.qG=s.qG from rfl];by_cases hr:((0 <=x.a∧x.a < s.qG)∧(0 <=x.b∧x.b < s.qG))∧x.a ≠ x.b
     ·have:((decide ((if x.b < x.a then x.b else x.a) >=0)) && (decide ((if x.b > x.a then x.b else x.a) < s.qG)) && (x.a !=x.b))=true:=by
       rw [Zcf,decide_eq_true hr.2,decide_eq_true (by split <;> omega),decide_eq_true (by split <;> omega)];rfl
      rw [this,Cq1];obtain⟨a,ea,ha⟩:= (Zdn hS).1 hr.1.1;obtain⟨b,eb,hb⟩:= (Zdn hS).1 hr.1.2;have hi:=K6 ha hb;rw [ea,eb,Zbt hS ha hb,show(hal s σ).Za.kQ=tab (mm s * mm s) (Kq σ) from rfl,Yq hi];simp only [Bq0];rw [ZNx (h.p2.ld _)];by_cases hl:σ.ld (li s a b) < (σ.sn (li s a b)).length
      ·rw [decide_eq_true hl,ZX (.inr (.inr (.inr ⟨k4,a,b,ea,eb,ha,hb,hl⟩)))]
      ·rw [decide_eq_false hl,ZR];rintro(⟨k',_⟩ | ⟨k',_⟩ | ⟨k',_⟩ | ⟨_,a',b',e1,e2,_,_,h'⟩)
       ·omega
       ·omega
       ·omega
       ·have:a'=a:=by omega
        have:b'=b:=by omega
        subst a' b';exact hl h'
     ·have:((decide ((if x.b < x.a then x.b else x.a) >=0)) && (decide ((if x.b > x.a then x.b else x.a) < s.qG)) && (x.a !=x.b))=false:=by
       rw [Bool.eq_false_iff];intro z;rw [Ba0,Ba0,decide_eq_true_eq,decide_eq_true_eq,Zcf,decide_eq_true_eq] at z;obtain⟨⟨z1,z2⟩,z3⟩:=z;split at z1 <;> split at z2 <;> (apply hr;omega)
      rw [this,Cq0,ZR];rintro(⟨k',_⟩ | ⟨k',_⟩ | ⟨k',_⟩ | ⟨_,a',b',e1,e2,h1,h2,h'⟩)
      ·omega
      ·omega
      ·omega
      ·refine hr ⟨⟨(Zdn hS).2 ⟨a',e1,h1⟩,(Zdn hS).2 ⟨b',e2,h2⟩⟩,fun z=>?_⟩;have:a'=b':=by omega
       subst this;rw [h.p1.self a' h1] at h';simp at h'
    ·rw [decide_eq_false k4,Cq0,ZR];rintro(⟨k',_⟩ | ⟨k',_⟩ | ⟨k',_⟩ | ⟨k',_⟩)
     ·omega
     ·omega
     ·omega
     ·omega
 rw [Y5];by_cases k1:x.act=1
 ·rw [decide_eq_true k1,Cq1];exact j true ⟨fun _=>.inl k1,fun _=>rfl⟩
 ·rw [decide_eq_false k1,Cq0,Y5];exact j _ ⟨fun z=>.inr (of_decide_eq_true z),fun z=>decide_eq_true (z.resolve_left k1)⟩
end
end
section
def ts0:TS:= ⟨fun _=>1,fun _ _=>0,fun _=>[],fun _=>[],fun _=>[],fun _=>[],fun _=>0,0,[]⟩
noncomputable def Qu (s:Zc) (l:List Z7):Nat ->TS×List Int
 | 0=>(ts0,[])
 | k + 1=>ifc (Zfb s (l.getD k default) (Qu s l k).1) (stepW s (l.getD k default) (Qu s l k).1,(Qu s l k).2 ++ [(k:Int)]) (Qu s l k)
section
variable {s:Zc} {σ τ υ:TS} {F B a b p q w i n d k:Nat} {l:List Z7}
theorem ZAQ (hS:Qm s):Yx (s.qG * s.qG)= ((mm s * mm s:Nat):Int):=by
 obtain⟨e,h1,h4⟩:=hS.mm;have h16:=ZgQ hS;rw [e,← Int.natCast_mul];exact KF (by omega) (by omega)
theorem Zog {α:Type} (z:α) {QS n:Nat} (h:QS * n <=100000):mkL z QS (n:Int) (n:Int)=some (tab n fun _=>z):=by
 unfold mkL;rw [decide_eq_true (show(0:Int) <= (n:Int) by omega),decide_eq_true (show(n:Int) <= (n:Int) by omega),Int.toNat_natCast,Nm0 h,Zyb];rfl
theorem Zpi (hF:1000 <=F) (hS:Qm s):Zww F s=some (hal s ts0):=by
 have h8:nn s <=8:=hS.p2;obtain⟨em,h1,h4⟩:=hS.mm;have h16:=ZgQ hS;unfold Zww;refine XD (fun k=>((k:Int),tab k (fun _=>(1:Int)),tab k (fun _=>tab (mm s * mm s) fun _=>(0:Int)),tab k (fun _=>([]:List Int)),tab k (fun _=>([]:List Int)))) rfl (n:=nn s) (by omega) (fun k hk next=>?_) (fun next=>?_)
 ·unfold ZkI;dsimp only;rw [show((s.Ze.length:Nat):Int)= ((nn s:Nat):Int) from rfl,YT hk,Cq1,app1 (by rw [XU];omega) (by decide)];simp only [Bq0];rw [ZAQ hS,Zog _ (by omega)];simp only [Bq0];rw [app1 (by rw [XU];omega) (by decide)];simp only [Bq0];rw [app1 (by rw [XU];omega) (by decide)];simp only [Bq0];rw [Qo (by omega),Zgb,Zgb,Zgb]
 ·unfold ZkI;dsimp only;rw [show((s.Ze.length:Nat):Int)= ((nn s:Nat):Int) from rfl,Y2,Cq0,ZAQ hS];have e1:mkL ([]:List Zd) 24 s.qG s.qG=some (tab (mm s) fun _=>[]):=by rw [em];exact Zog _ (by omega)
  rw [e1];simp only [Bq0];rw [Zog _ (by omega)];rfl
theorem Zeb {n:Nat} {f:Nat ->Nat} (h:∀ k,k < n ->f k=0):X7 n f=0:=by rw [Zaq (g:=fun _=>0) h,Zgc];simp
theorem ZNs (s:Zc):Pot s ts0=11 * nn s:=by
 have e1:X7 (mm s * mm s) (lw ts0)=0:=Zeb fun k _=>rfl
 have e2:X7 (mm s) (fun m=>(ts0.be m).length)=0:=Zeb fun k _=>rfl
 have e3:X7 (nn s) (fun q=>2 * (ts0.wa q).length)=0:=Zeb fun k _=>rfl
 have e4:X7 (nn s) (fun p=>sw (ts0.st p))=nn s * 11:= (Zaq (g:=fun _=>11) fun k _=>rfl).trans (Zgc _ _);unfold Pot;rw [e1,e2,e3,e4];show 0 + 0 + 0 + 0 + nn s * 11=_;omega
theorem ok0 (hS:Qm s):Ok s 88 ts0:=by
 have h8:nn s <=8:=hS.p2;have nil:∀ {α:Type} (x:α),¬ x ∈ ([]:List α):=fun x h=>by cases h
 have no3:∀ p,¬ ts0.st p=3:=fun p h=>absurd h (by show ¬ ((1:Int)=3);decide)
 have kn:Kn s ts0:= ⟨fun q _=>List.Pairwise.nil,fun q _ x hx=>absurd hx (nil x)⟩
 have k1:KI s ts0:= ⟨fun i j x hx _=>by simp [ts0] at hx,fun i i' j j' x x' hx _ _ _ _=>by simp [ts0] at hx,fun p _ h=>absurd h (no3 p),fun p _ h=>absurd h (no3 p)⟩
 have w:Wf s 88 ts0:= ⟨by rw [ZNs];omega,fun i _=>Nat.le_refl _,fun q _ x hx=>absurd hx (nil x)⟩
 exact⟨⟨w,kn⟩,⟨fun a b _ _ x hx=>absurd hx (nil x),fun a _=>rfl,fun w _ x hx=>absurd hx (nil x),fun q _ x hx=>absurd hx (nil x)⟩,⟨fun i=>Nat.le_refl _,kn⟩,k1,⟨Int.le_refl _,Int.le_refl _⟩⟩
theorem ZjT (hS:Qm s):∀ k,Ok s (88 + 4 * k) (Qu s l k).1∧(Qu s l k).2.length <=k∧Q6 s ts0 (Qu s l k).1:=by
 intro k
 induction k with
 | zero=>exact⟨ok0 hS,Nat.le_refl _,.refl⟩
 | succ k ih=>
   obtain⟨h1,h2,h3⟩:=ih;rw [Qu];by_cases hA:Zfb s (l.getD k default) (Qu s l k).1
   ·rw [ZX hA];refine⟨?_,by rw [List.length_append,List.length_singleton];omega,h3.trans (ZiL hS h1 hA)⟩;have:=step_ok hS h1 hA;exact⟨this.gd.up (by omega),this.p1,this.p2,this.ki,this.sd⟩
   ·rw [ZR hA];exact⟨⟨h1.gd.up (by omega),h1.p1,h1.p2,h1.ki,h1.sd⟩,by omega,h3⟩
theorem Zry (hF:1000000 <=F) (hS:Qm s) (hl:l.length <=100):Zwv F (hal s ts0) l=some (hal s (Qu s l l.length).1,(Qu s l l.length).2):=by
 unfold Zwv;refine XD (fun k=>((Qu s l k).2,(k:Int),U5 s (Qu s l k).1)) rfl (n:=l.length) (by omega) (fun k hk next=>?_) (fun next=>?_)
 ·obtain⟨h1,h2,_⟩:=ZjT (l:=l) hS k;rw [Qu];obtain⟨σ,hσ⟩:∃ σ,σ= (Qu s l k).1:= ⟨_,rfl⟩
  obtain⟨dn,hd⟩:∃ dn,dn= (Qu s l k).2:= ⟨_,rfl⟩
  rw [← hd] at h2;rw [← hσ] at h1 ⊢;unfold ZkH;rw [show U5 s σ= (tab (nn s) σ.st,(tab (nn s) fun j=>tab (mm s * mm s) (σ.ma j)),tab (nn s) σ.kn,tab (nn s) σ.wa,tab (mm s) σ.be,tab (mm s * mm s) (Kq σ),σ.sd,s.qG,s.Ze,σ.ev) from rfl];dsimp only;rw [YT hk,Cq1,QD default hk];simp only [Bq0];rw [Zka,Zlf hS h1];by_cases hA:Zfb s (l.getD k default) σ
  ·rw [ZX hA,ZX hA];simp only [Bq0,Cq1];rw [ZiK hF hS (by omega) h1 hA];simp only [Bq0];rw [← hd,ZAg (by rw [List.length_singleton];omega)];simp only [Bq0];unfold ZeG;dsimp only;rw [Qo (by omega)];rfl
  ·rw [ZR hA,ZR hA];simp only [Bq0,Cq0];unfold ZeG;dsimp only;rw [Qo (by omega),← hσ];rfl
 ·unfold ZkH U5;dsimp only;rw [Y2,Cq0];rfl
end
end
section
section
variable {s:Zc} {σ τ υ:TS} {F B a b p q w i n d k:Nat}
end
end
section
def opn (s:Zc) (σ:TS) (k:Nat):List Nat:= (List.range k).filter fun i=>decide (σ.ld i < (σ.sn i).length)
def opens (s:Zc) (σ:TS):List Nat:=opn s σ (mm s * mm s)
def ZgM (ls:List Nat) (picks:List Int) (r:Nat):Nat:=if r < picks.length then ls.getD ((picks.getD r 0).toNat % ls.length) 0 else ls.getD 0 0
def ZgZ (s:Zc) (i:Nat):Z7:= ⟨4,((i / mm s:Nat):Int),((i % mm s:Nat):Int)⟩
noncomputable def drK (s:Zc) (picks:List Int) (σ:TS):Nat ->TS
 | 0=>σ
 | r + 1=>if opens s (drK s picks σ r)= [] then drK s picks σ r else stepW s (ZgZ s (ZgM (opens s (drK s picks σ r)) picks r)) (drK s picks σ r)
section
variable {s:Zc} {σ τ υ:TS} {F B a b p q w i n d k r:Nat} {l:List Z7} {picks:List Int}
theorem Zq2:∀ (d p:Nat) (σ:TS),(ZhA s d p σ).ld=σ.ld:=by
 intro d
 induction d with
 | zero=>intro p σ;rfl
 | succ d ih=>
   intro p σ;have e:= (JP (s:=s) p σ).2.2.1;show(ZkZ s (ZhA s d) p (YM s p σ)).ld=_;unfold ZkZ;split
   ·exact e
   ·split
    ·unfold KN;by_cases c:(YL s p (mks s (YM s p σ) p) (YM s p σ)).st (inn s (p:Int)).toNat=2∧Alo s (YL s p (mks s (YM s p σ) p) (YM s p σ)) (inn s (p:Int)).toNat
     ·rw [ZX c,ih];exact e
     ·rw [ZR c];exact e
    ·exact e
theorem Zwi:∀ (d p:Nat) (σ:TS),(Jo s d p σ).ld=σ.ld:=by
 intro d
 induction d with
 | zero=>intro p σ;rfl
 | succ d ih=>
   intro p σ
   have h:(fk s (Jo s d) p (nn s) (Uq p σ)).ld=σ.ld:=by
    refine Kc _ (fun τ=>τ.ld=σ.ld) _ _ rfl fun τ x _ h=>?_
    unfold Zfm;split
    ·split
     ·rw [ih];exact h
     ·exact h
    ·split
     ·exact h
     ·exact h
   show(Zkr s p _).ld=_;unfold Zkr;by_cases c:(fk s (Jo s d) p (nn s) (Uq p σ)).st p=2∧Alo s (fk s (Jo s d) p (nn s) (Uq p σ)) p
   ·rw [ZX c,Zq2];exact h
   ·rw [ZR c];exact h
theorem Zu0:(Zfl s a b σ).ld=Yp σ.ld (li s a b) (σ.ld (li s a b) + 1):=by
 unfold Zfl Zi6;split
 ·rw [(Jg _ _ _ _).2.2.2.1];rfl
 ·split
  ·rw [(Ju _ _ _).2.2.2.1];rfl
  ·split
   ·split
    ·rw [Zwi];rfl
    ·rfl
   ·split
    ·unfold ZcI KN;by_cases c:(YL s (hd σ (li s a b)).kV.toNat (hd σ (li s a b)).qX (drop1 (li s a b) σ)).st (inn s ((hd σ (li s a b)).kV.toNat:Int)).toNat=2∧Alo s (YL s (hd σ (li s a b)).kV.toNat (hd σ (li s a b)).qX (drop1 (li s a b) σ)) (inn s ((hd σ (li s a b)).kV.toNat:Int)).toNat
     ·rw [ZX c,Zq2];rfl
     ·rw [ZR c];rfl
    ·rfl
theorem ZlP (w:Nat):∀ (n:Nat) (σ:TS),(U2 s w n σ).ld=σ.ld:=by
 intro n
 induction n with
 | zero=>intro σ;rfl
 | succ n ih=>
   intro σ;rw [U2];split
   ·rfl
   ·rw [ih,(Js _ _ _ _).2.1]
theorem ZtR:∀ k,(rings s k σ).ld=σ.ld:=by
 intro k
 induction k with
 | zero=>rfl
 | succ k ih=>rw [rings,ZlP,ih]
theorem ZuB:opn s σ (k + 1)=opn s σ k ++ (if σ.ld k < (σ.sn k).length then [k] else []):=by
 unfold opn;rw [List.range_succ,List.filter_append];congr 1;by_cases h:σ.ld k < (σ.sn k).length
 ·rw [if_pos h];simp [h]
 ·rw [if_neg h];simp [h]
theorem Zyp:(opn s σ k).length <=k:=by
 have:=List.length_filter_le (fun i=>decide (σ.ld i < (σ.sn i).length)) (List.range k);rw [List.length_range] at this;exact this
theorem ZbW:i ∈ opens s σ↔i < mm s * mm s∧σ.ld i < (σ.sn i).length:=by unfold opens opn;simp
theorem Zei {ls:List Nat} (h:ls ≠ []):ZgM ls picks r ∈ ls:=by
 have hl:0 < ls.length:=List.length_pos_iff.2 h;unfold ZgM;split
 ·exact XP (Nat.mod_lt _ hl)
 ·exact XP hl
theorem ZgY (hS:Qm s) (h:i ∈ opens s σ):Zfb s (ZgZ s i) σ:=by
 obtain⟨h1,h2⟩:=ZbW.1 h;have hm:=hS.mm.2.1;obtain⟨_,h1',_⟩:=hS.mm;refine .inr (.inr (.inr ⟨rfl,i / mm s,i % mm s,rfl,rfl,Nat.div_lt_of_lt_mul h1,Nat.mod_lt _ (by omega),?_⟩));have:li s (i / mm s) (i % mm s)=i:=by unfold li;rw [Nat.mul_comm];exact Nat.div_add_mod _ _
 rw [this];exact h2
theorem Zu1 (hS:Qm s):(stepW s (ZgZ s i) σ).ld=Yp σ.ld i (σ.ld i + 1):=by
 have:li s (i / mm s) (i % mm s)=i:=by unfold li;rw [Nat.mul_comm];exact Nat.div_add_mod _ _
 unfold stepW;rw [ZtR];unfold Zfr ZgZ;rw [if_neg (show ¬ ((4:Int)=1) by decide),if_neg (show ¬ ((4:Int)=2) by decide),if_neg (show ¬ ((4:Int)=3) by decide),Int.toNat_natCast,Int.toNat_natCast,Zu0,this]
def lds (s:Zc) (σ:TS):Nat:=X7 (mm s * mm s) σ.ld
theorem ZkY (hS:Qm s) (h:Ok s B σ):∀ r,Ok s B (drK s picks σ r)∧Q6 s σ (drK s picks σ r):=by
 intro r
 induction r with
 | zero=>exact⟨h,.refl⟩
 | succ r ih=>
   rw [drK];by_cases e:opens s (drK s picks σ r)= []
   ·rw [if_pos e];exact ih
   ·rw [if_neg e];have hA:=ZgY (σ:=drK s picks σ r) hS (Zei (picks:=picks) (r:=r) e);exact⟨Ztz hS ih.1 rfl hA,ih.2.trans (ZiL hS ih.1 hA)⟩
theorem ZDW (h:Ok s B σ):lds s σ <=B:=by
 have h1:lds s σ <=X7 (mm s * mm s) (lw σ):=Zyc fun k hk=>Nat.le_trans (h.gd.wf.ld k hk) (by unfold lw;omega)
 have:=h.gd.wf.pot;unfold Pot at this;omega
theorem Zq1 (hS:Qm s):∀ r,(∀ j,j < r ->opens s (drK s picks σ j) ≠ []) ->lds s (drK s picks σ r)=lds s σ + r:=by
 intro r
 induction r with
 | zero=>intro _;rfl
 | succ r ih=>
   intro hj;have e:=ih fun j hjr=>hj j (by omega)
   have hn:=hj r (by omega);rw [drK,if_neg hn];obtain⟨h1,_⟩:=ZbW.1 (Zei (picks:=picks) (r:=r) hn);unfold lds at *;rw [Zu1 hS];have:=ZlD (f:= (drK s picks σ r).ld) (v:= (drK s picks σ r).ld (ZgM (opens s (drK s picks σ r)) picks r) + 1) h1;omega
theorem ZFz (hS:Qm s) (h:Ok s B σ) (picks:List Int):∃ n,n <=B∧opens s (drK s picks σ n)= []∧∀ j,j < n ->opens s (drK s picks σ j) ≠ []:=by
 by_cases hz:∃ n,n < B + 1∧opens s (drK s picks σ n)= []
 ·obtain⟨n,hn,e⟩:=hz;obtain⟨m,hm,c,hlt⟩:=Zad (c:=fun i=>opens s (drK s picks σ i)= []) e;exact⟨m,by omega,c,hlt⟩
 ·have hall:∀ j,j < B + 1 ->opens s (drK s picks σ j) ≠ []:=fun j hj q=>hz ⟨j,hj,q⟩
  have:=Zq1 (picks:=picks) (σ:=σ) hS (B + 1) hall;have:=ZDW (ZkY (picks:=picks) hS h (B + 1)).1;omega
theorem Zyk {a b:Nat} (hb:0 < b) (ha:a <=1000000):Zrt (a:Int) (b:Int)=some ((a / b:Nat):Int):=by
 unfold Zrt;rw [beq_eq_false_iff_ne.2 (by omega),Cq0,← Int.ofNat_tdiv];have:=Nat.div_le_self a b;generalize a / b=q at *;exact congrArg some (KF (by omega) (by omega))
theorem ZpX {a b:Nat} (hb:0 < b):ZlQ (a:Int) (b:Int)=some ((a % b:Nat):Int):=by
 unfold ZlQ;rw [beq_eq_false_iff_ne.2 (by omega),Cq0];rfl
theorem Zg8 {l:List Nat} (h:k < l.length):ZJ (l.map Int.ofNat) (k:Int)=some ((l.getD k 0:Nat):Int):=by
 rw [QD 0 (by rw [List.length_map];exact h)];simp [List.getD_eq_getElem?_getD,h]
theorem ZuC (hk:k < mm s * mm s) {β:Type} (next:List Int×Int ->Option β) {l1:List Int×Int ->Option β} (h16:mm s * mm s <=16) (hs:(σ.sn k).length <=800000)
 (e1:∀ v,l1 v=next v):
 ((ZJ (tab (mm s * mm s) (Kq σ)) (k:Int)).bind fun x=>(bif decide ((x.kG.length:Int) > 0) then(app 8 ((opn s σ k).map Int.ofNat) [(k:Int)]).bind fun z=>l1 (z,Yx ((k:Int) + 1)) else l1 ((opn s σ k).map Int.ofNat,Yx ((k:Int) + 1))))=next ((opn s σ (k + 1)).map Int.ofNat,((k + 1:Nat):Int)):=by
 have hl:=Zyp (s:=s) (σ:=σ) (k:=k);rw [Yq hk];simp only [Bq0];rw [show(Kq σ k).kG= (σ.sn k).drop (σ.ld k) from rfl,List.length_drop,ZuB];by_cases c:σ.ld k < (σ.sn k).length
 ·rw [decide_eq_true (by omega),Cq1,ZAg (by rw [List.length_map,List.length_singleton];omega),if_pos c];simp only [Bq0];rw [e1,Qo (by omega),List.map_append];rfl
 ·rw [decide_eq_false (by omega),Cq0,if_neg c,e1,Qo (by omega),List.append_nil]
theorem Zgl (hF:1000000 <=F) (hS:Qm s) (h:Ok s B σ) (hB:B <=500000) (hr:r <=500000) (hp:∀ x ∈ picks,0 <=x) (hpl:picks.length <=100) (next:_ ->Option (Zg×(List Zp)×Int×Int)):
 ZeK F s picks ((r:Int),U5 s σ) next=if opens s σ= [] then some (vw s σ,σ.ev,(r:Int),0) else next (((r + 1:Nat):Int),U5 s (stepW s (ZgZ s (ZgM (opens s σ) picks r)) σ)):=by
 have h16:=ZgQ hS;obtain⟨em,h1,h4⟩:=hS.mm;have fw:=h.gd.wf.few (by omega);unfold ZeK U5;dsimp only;refine XD (fun k=>((opn s σ k).map Int.ofNat,(k:Int))) rfl (n:=mm s * mm s) (by omega) (fun k hk nx=>?_) (fun nx=>?_)
 ·unfold ZkO;dsimp only;rw [XU,YT hk,Cq1];exact ZuC hk nx h16 (fw.sn k hk) (l1:=fun v=>nx v) fun v=>rfl
 ·unfold ZkO;dsimp only;rw [XU,Y2,Cq0,List.length_map];show(bif((((opens s σ).length:Nat):Int)==0) then _ else(ZJ ((opens s σ).map Int.ofNat) 0).bind _)=_;by_cases e:opens s σ= []
  ·rw [if_pos e,e];rfl
  ·have hl:0 < (opens s σ).length:=List.length_pos_iff.2 e;rw [if_neg e,beq_eq_false_iff_ne.2 (by omega),Cq0,show(0:Int)= ((0:Nat):Int) from rfl,Zg8 hl];simp only [Bq0];have hm:=Zei (picks:=picks) (r:=r) e
   have go:∀ v:Nat,v ∈ opens s σ ->ZeJ F s (r:Int) (tab (nn s) σ.st) (tab (nn s) fun j=>tab (mm s * mm s) (σ.ma j)) (tab (nn s) σ.kn) (tab (nn s) σ.wa) (tab (mm s) σ.be) (tab (mm s * mm s) (Kq σ)) σ.sd s.qG s.Ze σ.ev next (v:Int)=next (((r + 1:Nat):Int),U5 s (stepW s (ZgZ s v) σ)):=fun v hv=>by
    have hv1:= (ZbW.1 hv).1;unfold ZeJ;rw [em,Zyk (by omega) (by omega),ZpX (by omega)];simp only [Bq0];rw [← em,Zka,show Z7.mk 4 ((v / mm s:Nat):Int) ((v % mm s:Nat):Int)=ZgZ s v from rfl,ZiK hF hS hB h (ZgY hS hv)];simp only [Bq0];rw [Qo (by omega)];rfl
   by_cases c:r < picks.length
   ·rw [YT c,Cq1,QD 0 c];simp only [Bq0];have h0:=hp _ (XP (d:=0) c);obtain⟨y,hy⟩:∃ y:Nat,picks.getD r 0= (y:Int):= ⟨(picks.getD r 0).toNat,by omega⟩
    show(ZlQ (picks.getD r 0) (((opens s σ).length:Nat):Int)).bind _=_;unfold ZgM at hm ⊢;rw [if_pos c] at hm ⊢;rw [hy] at hm ⊢;rw [Int.toNat_natCast] at hm ⊢;rw [ZpX hl];simp only [Bq0];show(ZJ ((opens s σ).map Int.ofNat) _).bind _=_;rw [Zg8 (Nat.mod_lt _ hl)];simp only [Bq0];exact go _ hm
   ·rw [show decide ((r:Int) < (picks.length:Int))=false from decide_eq_false (by omega),Cq0];unfold ZgM at hm ⊢;rw [if_neg c] at hm ⊢;exact go _ hm
end
end
section
section
variable {s:Zc} {σ τ υ:TS} {F B a b p q w i n d k r:Nat} {l:List Z7} {picks:List Int}
theorem ZMZ {k:Nat} (h:k < 9223372036854775807):Yx ((k:Int) + 1)= ((k + 1:Nat):Int):=KF (by omega) (by omega)
theorem Zrz (hF:picks.length < F) (hl:picks.length <=9223372036854775807):ZoW F picks=ifc (∀ k,k < picks.length ->0 <=picks.getD k 0) (some (decide ((picks.length:Int) <=100))) (some false):=by
 unfold ZoW;refine Ky (fun k=>(k:Int)) rfl (fun k=>0 <=picks.getD k 0) (n:=picks.length) (by omega) (fun k hk next=>?_) (fun next=>?_)
 ·unfold ZkL;rw [YT hk,Cq1,QD 0 hk];simp only [Bq0];by_cases c:0 <=picks.getD k 0
  ·rw [ZX c,decide_eq_false (by omega),Cq0,ZMZ (by omega)]
  ·rw [ZR c,decide_eq_true (by omega),Cq1]
 ·unfold ZkL;rw [Y2,Cq0]
theorem Zni:(∀ k,k < picks.length ->0 <=picks.getD k 0)↔∀ x ∈ picks,0 <=x:=by
 constructor
 ·intro h x hx;obtain⟨k,hk,e⟩:=List.getElem_of_mem hx;have:=h k hk;rw [List.getD_eq_getElem?_getD,List.getElem?_eq_getElem hk] at this;rw [← e];exact this
 ·intro h k hk;exact h _ (XP hk)
noncomputable def Ww (s:Zc) (l:List Z7) (picks:List Int) (n:Nat):TS:=drK s picks (Qu s l l.length).1 n
theorem Zo2 (hF:1000000 <=F) (hS:Qm s) (hl:l.length <=100) (hp:∀ x ∈ picks,0 <=x) (hpl:picks.length <=100) {n:Nat} (hn:n <=500000) (he:opens s (Ww s l picks n)= []) (hj:∀ j,j < n ->opens s (Ww s l picks j) ≠ []):
 ZwC F s l picks=some (vw s (Ww s l picks n),(Ww s l picks n).ev,(n:Int),0):=by
 obtain⟨ok,dl,_⟩:=ZjT (l:=l) hS l.length;unfold ZwC;rw [Zo9 (by omega),ZX hS];simp only [Bq0,ZfM,Bool.false_or];rw [decide_eq_false (by omega),decide_eq_false (by omega)];simp only [Bool.or_self,Bool.not_false,Cq1];refine XD (fun k=>(k:Int)) rfl (n:=picks.length) (by omega) (fun k hk next=>?_) (fun next=>?_)
 ·unfold ZkN Zzw;rw [YT hk,Cq1,QD 0 hk];simp only [Bq0];rw [decide_eq_false (by have:=hp _ (XP (d:=0) hk);omega),Cq0,Qo (by omega)]
 ·unfold ZkN;rw [Y2,Cq0];unfold Zhr;rw [show decide ((-1:Int) >=0)=false from rfl,Cq0,Zpi (by omega) hS];simp only [Bq0];rw [Zry hF hS hl];simp only [Bq0];refine XD (fun k=>((k:Int),U5 s (Ww s l picks k))) rfl (n:=n) (by omega) (fun k hk next=>?_) (fun next=>?_)
  ·have o:= (ZkY (picks:=picks) hS ok k).1;show ZeK F s picks ((k:Int),U5 s (drK s picks (Qu s l l.length).1 k)) next=_;rw [Zgl hF hS o (by omega) (by omega) hp hpl,if_neg (show ¬ opens s (drK s picks (Qu s l l.length).1 k)= [] from hj k hk)];have:=hj k hk;unfold Ww at *;rw [drK,if_neg this]
  ·have o:= (ZkY (picks:=picks) hS ok n).1;show ZeK F s picks ((n:Int),U5 s (drK s picks (Qu s l l.length).1 n)) next=_;rw [Zgl hF hS o (by omega) (by omega) hp hpl,if_pos (show opens s (drK s picks (Qu s l l.length).1 n)= [] from he)];rfl
theorem ZzK (hS:Qm s) (hl:l.length <=100) (picks:List Int):∃ n,n <=488∧opens s (Ww s l picks n)= []∧(∀ j,j < n ->opens s (Ww s l picks j) ≠ [])∧Ok s 488 (Ww s l picks n)∧Q6 s ts0 (Ww s l picks n)∧Q6 s (Qu s l l.length).1 (Ww s l picks n)∧lds s (Ww s l picks n)=lds s (Qu s l l.length).1 + n:=by
 obtain⟨ok,dl,ac⟩:=ZjT (l:=l) hS l.length;have ok:Ok s 488 (Qu s l l.length).1:= ⟨ok.gd.up (by omega),ok.p1,ok.p2,ok.ki,ok.sd⟩
 obtain⟨n,h1,h2,h3⟩:=ZFz hS ok picks;obtain⟨o,a⟩:=ZkY (picks:=picks) hS ok n;exact⟨n,h1,h2,h3,o,ac.trans a,a,Zq1 hS n h3⟩
end
end
section
def ZMg (s:Zc) (e:Zp):Prop:= (∃ p:Nat,e.kV= (p:Int)∧p < nn s)∧(∃ q:Nat,e.kX= (q:Int)∧q < nn s)
def EvR (s:Zc) (σ:TS):Prop:=∀ e ∈ σ.ev,ZMg s e
section
variable {s:Zc} {σ τ υ:TS} {F B a b p q w i n d k r:Nat} {l:List Z7} {picks:List Int} {x:Zd}
theorem EvR.add (h:EvR s σ) {e:Zp} (he:ZMg s e) (ht:τ.ev=σ.ev ++ [e]):EvR s τ:=fun y hy=>by
 rw [ht] at hy;rcases List.mem_append.1 hy with hy | hy
 ·exact h y hy
 ·rw [List.mem_singleton.1 hy];exact he
theorem EvR.congr (h:EvR s σ) (ht:τ.ev=σ.ev):EvR s τ:=fun y hy=>h y (by rwa [ht] at hy)
theorem EvR.see (h:EvR s σ) (hp:p < nn s) (hq:q < nn s) (n:Int):EvR s (Proofs.YtcnahmgekicbdaaGreat.see p q n σ):=by
 unfold Proofs.YtcnahmgekicbdaaGreat.see;split
 ·exact h.add ⟨⟨p,rfl,hp⟩,⟨q,rfl,hq⟩⟩ rfl
 ·exact h
theorem EvR.act (hS:Qm s) (h1:P1 s σ) (h:EvR s σ) (ac:Act s σ τ):EvR s τ:=by
 cases ac with
 | @fall p hp=>exact h.add ⟨⟨p,rfl,hp⟩,⟨0,rfl,by omega⟩⟩ rfl
 | Zcq=>exact h
 | @die p hp h2 hA=>
   have:EvR s (YM s p σ):=h.add ⟨⟨p,rfl,hp⟩,⟨0,rfl,by omega⟩⟩ (JP (s:=s) p σ).2.2.2.2.1;unfold ZbD;split
   ·exact this
   ·split
    ·exact this
    ·exact this
 | @Zh3 p q hp hq=>exact EvR.see (h.add (τ:=kK p q σ) (e:= ⟨1,p,q,σ.sd⟩) ⟨⟨p,rfl,hp⟩,⟨q,rfl,hq⟩⟩ rfl) hq hp _
 | @Zh2 p q hp hq=>exact h.add (τ:=kK p q σ) (e:= ⟨1,p,q,σ.sd⟩) ⟨⟨p,rfl,hp⟩,⟨q,rfl,hq⟩⟩ rfl
 | @ZhY p q hp hq=>exact(h.add (τ:=tell 3 p q 0 σ) (e:= ⟨3,p,q,0⟩) ⟨⟨p,rfl,hp⟩,⟨q,rfl,hq⟩⟩ rfl).congr (Ju (s:=s) p q (tell 3 p q 0 σ)).2.2.2.2.2
 | @ZhX p q hp hq=>exact h.add (τ:=tell 3 p q 0 σ) (e:= ⟨3,p,q,0⟩) ⟨⟨p,rfl,hp⟩,⟨q,rfl,hq⟩⟩ rfl
 | Zib ha hb hl hk hp hq hpn hqn=>exact EvR.see (σ:=drop1 _ σ) h hqn hpn _
 | @Zie a b p q ha hb hl hk hp hq hpn hqn=>exact h.congr (Ju (s:=s) p q (drop1 (li s a b) σ)).2.2.2.2.2
 | Zic=>exact h
 | Zfz=>exact h
 | Zid=>exact h
 | @ring w i hw hpk=>
   have hm:=h1.bea w hw;unfold rung;split
   ·rename_i hst;have hi:i < (σ.be w).length:=Zdf _ _ hpk;obtain⟨⟨⟨p,e1,h1'⟩,⟨q,e2,h2'⟩,_⟩,_⟩:=hm _ (XP (d:=default) hi);exact h.add (τ:=tell 4 _ _ 0 _) (e:= ⟨4,((σ.be w).getD i default).kV,((σ.be w).getD i default).kX,0⟩) ⟨⟨p,e1,h1'⟩,⟨q,e2,h2'⟩⟩ rfl
   ·exact h
theorem ZwF (hS:Qm s) (h:Q6 s ts0 σ):EvR s σ:=by
 have h0:=ok0 hS;exact(h.keep (P:=fun σ=>P1 s σ∧EvR s σ) (fun _ _ ⟨a,b⟩ ac=>⟨a.act hS ac,b.act hS a ac⟩) ⟨h0.p1,fun e he=>absurd he (by simp [ts0])⟩).2
def Giv (s:Zc) (l:List Z7) (picks:List Int):Prop:=Qm s∧l.length <=100∧(∀ x ∈ picks,0 <=x)∧picks.length <=100
theorem ZrA (hF:picks.length < F) (hl:picks.length <=9223372036854775807):ZoW F picks=ifc ((∀ x ∈ picks,0 <=x)∧picks.length <=100) (some true) (some false):=by
 rw [Zrz hF hl];by_cases c:∀ k,k < picks.length ->0 <=picks.getD k 0
 ·rw [ZX c];by_cases c2:picks.length <=100
  ·rw [ZX ⟨Zni.1 c,c2⟩,decide_eq_true (by omega)]
  ·rw [ZR fun q=>c2 q.2,decide_eq_false (by omega)]
 ·rw [ZR c,ZR fun q=>c (Zni.2 q.1)]
theorem Zv3 (hF:1000000 <=F) {pp:List (List Int)} (hpp:pp.length <=100) (hl:∀ x ∈ pp,x.length < F∧x.length <=9223372036854775807):∃ g:Bool,ZwB F s l pp=some g∧(g=true ->∀ x ∈ pp,Giv s l x):=by
 have h:=Ky (body:=Zhq F s l pp) (r1:=some false) (r2:= (ZwE s).bind fun x18=>(gd x18 (ZoX F s) default).bind fun x19=>some ((x18 && x19) && (decide ((l.length:Int) <=100)))) (s0:= (0:Int)) (fun k=>(k:Int)) rfl (fun k=>(∀ x ∈ pp.getD k [],0 <=x)∧(pp.getD k []).length <=100) (n:=pp.length) (F:=F) (by omega) (fun k hk next=>by
  unfold Zhq;rw [YT hk,Cq1,QD [] hk];simp only [Bq0];rw [ZrA (hl _ (XP hk)).1 (hl _ (XP hk)).2];by_cases c:(∀ x ∈ pp.getD k [],0 <=x)∧(pp.getD k []).length <=100
  ·rw [ZX c,ZX c];simp only [Bq0,Bool.not_true,Cq0];rw [Qo (by omega)]
  ·rw [ZR c,ZR c];rfl) (fun next=>by
  unfold Zhq;rw [Y2,Cq0])
 unfold ZwB;rw [h];by_cases c:∀ k,k < pp.length ->(∀ x ∈ pp.getD k [],0 <=x)∧(pp.getD k []).length <=100
 ·rw [ZX c];unfold ZwE;simp only [Bq0];cases h30:decide ((s.Ze.length:Int) <=30) with
  | false=>exact⟨_,rfl,fun q=>by cases q⟩
  | true=>
    simp only [UR,Bool.true_and];rw [Zrn (by omega)];by_cases hS:Qm s
    ·rw [ZX hS];refine⟨_,rfl,fun q x hx=>?_⟩;simp only [Bool.true_and,decide_eq_true_eq] at q;obtain⟨k,hk,e⟩:=List.getElem_of_mem hx;have:=c k hk;rw [List.getD_eq_getElem?_getD,List.getElem?_eq_getElem hk] at this;have e':(some pp[k]).getD []=x:=e;rw [e'] at this;exact⟨hS,by omega,this.1,this.2⟩
    ·rw [ZR hS];exact⟨_,rfl,fun q=>by cases q⟩
 ·rw [ZR c];exact⟨_,rfl,fun q=>by cases q⟩
theorem Zl3 (hp:p < nn s):ZoU s (p:Int)=some true:=by
 unfold ZoU;rw [decide_eq_true (by omega),show decide ((p:Int) < (s.Ze.length:Int))=true from decide_eq_true (by show(p:Int) < ((nn s:Nat):Int);omega)];rfl
theorem Zo1 (hF:1000000 <=F) (hg:Giv s l picks):∃ n,n <=488∧opens s (Ww s l picks n)= []∧Ok s 488 (Ww s l picks n)∧Q6 s ts0 (Ww s l picks n)∧Q6 s (Qu s l l.length).1 (Ww s l picks n)∧lds s (Ww s l picks n)=lds s (Qu s l l.length).1 + n∧
 ZwA F s l picks=some (vw s (Ww s l picks n),(Ww s l picks n).ev,(n:Int),true):=by
 obtain⟨hS,hl,hp,hpl⟩:=hg;obtain⟨n,hn,he,hj,ok,ac,ac2,e2⟩:=ZzK hS hl picks;refine⟨n,hn,he,ok,ac,ac2,e2,?_⟩;have hr:=ZwF hS ac;have hev:(Ww s l picks n).ev.length <=488:=by have:=ok.gd.wf.pot;unfold Pot at this;omega
 unfold ZwA;rw [Zo2 hF hS hl hp hpl (by omega) he hj];simp only [Bq0,ZfM,Bool.false_or];rw [show(vw s (Ww s l picks n)).qV=tab (nn s) (Ww s l picks n).st from rfl,XU,show((nn s:Nat):Int)= ((s.Ze.length:Nat):Int) from rfl,ZfM,decide_eq_false (by omega)];simp only [Bool.or_self,Cq0];refine XD (fun k=>(k:Int)) rfl (n:= (Ww s l picks n).ev.length) (by omega) (fun k hk next=>?_) (fun next=>?_)
 ·unfold ZkK;dsimp only;rw [YT hk,Cq1,QD default hk];simp only [Bq0];obtain⟨⟨p,e1,h1⟩,⟨q,e2,h2⟩⟩:=hr _ (XP (d:=default) hk);rw [e1,e2,Zl3 h1];simp only [Bq0,Bool.not_true,Bool.not_false,UR];rw [Zl3 h2];simp only [Bq0,Bool.not_true,Bool.or_self,Cq0];rw [Qo (by omega)]
 ·unfold ZkK;dsimp only;rw [Y2,Cq0]
end
end
section
def kc (k:Int) (p q:Nat) (l:List Zd):Nat:=l.countP fun x=>((x.kW==k) && (x.kV== (p:Int))) && (x.kX== (q:Int))
def asks (s:Zc) (σ:TS) (p q:Nat):Nat:=kc 2 p q (fl σ (li s (pl s p) (pl s q)))
def bb (s:Zc) (σ:TS) (p q:Nat):Nat:=kc 5 p q (σ.be (pl s p)) + kc 5 p q (fl σ (li s (pl s q) (pl s p)))
def wat (σ:TS) (p q:Nat):Nat:= (σ.wa q).count (p:Int)
def ec (σ:TS) (d:Int) (p q:Nat):Nat:=c3 σ.ev d p q
structure Bal (s:Zc) (σ:TS):Prop where
 le:∀ p q,p < nn s ->q < nn s ->ec σ 4 p q + bb s σ p q + wat σ p q + asks s σ p q <=ec σ 3 p q
 eq:∀ p q,p < nn s ->q < nn s ->σ.st p=1 ->ec σ 4 p q + bb s σ p q + wat σ p q + asks s σ p q=ec σ 3 p q
 dead:∀ p q,p < nn s ->q < nn s ->0 < ec σ 4 p q + bb s σ p q ->σ.st q=3
 wz:∀ p q,p < nn s ->q < nn s ->σ.st q=3 ->wat σ p q=0
section
variable {s:Zc} {σ τ υ:TS} {F B a b p q w i j n d r p0 q0:Nat} {x:Zd} {k:Int}
def one (c:Prop) [Decidable c]:Nat:=if c then 1 else 0
theorem ZaL {c:Prop} [Decidable c] (h:c):one c=1:=if_pos h
theorem XJ {c:Prop} [Decidable c] (h:¬ c):one c=0:=if_neg h
theorem Zeq (l m:List Zd):kc k p q (l ++ m)=kc k p q l + kc k p q m:=by unfold kc;rw [List.countP_append]
theorem Zb5 (l:List Zd):kc k p q (x::l)=kc k p q l + one (x.kW=k∧x.kV= (p:Int)∧x.kX= (q:Int)):=by
 unfold kc;rw [List.countP_cons];congr 1;by_cases c:x.kW=k∧x.kV= (p:Int)∧x.kX= (q:Int)
 ·rw [ZaL c,c.1,c.2.1,c.2.2];simp
 ·rw [XJ c,if_neg];simp only [Ba0,beq_iff_eq];exact fun z=>c ⟨z.1.1,z.1.2,z.2⟩
theorem Zj4:kc k p q []=0:=rfl
theorem ZD2 {l:List Zd} (hi:i < l.length):kc k p q l=kc k p q (Zcn l i) + one ((l.getD i default).kW=k∧(l.getD i default).kV= (p:Int)∧(l.getD i default).kX= (q:Int)):=by
 have e:l=l.take i ++ l.getD i default::l.drop (i + 1):=by
  rw [List.getD_eq_getElem?_getD,List.getElem?_eq_getElem hi];simp
 unfold Zcn
 conv=>lhs;rw [e]
 rw [Zeq,Zb5,Zeq];omega
theorem Zb3 (hl:σ.ld (li s a b) <= (σ.sn (li s a b)).length) (j:Nat):kc k p q (fl (send s a b x σ) j)=kc k p q (fl σ j) + (if j=li s a b then one (x.kW=k∧x.kV= (p:Int)∧x.kX= (q:Int)) else 0):=by
 by_cases e:j=li s a b
 ·subst e;rw [if_pos rfl,ZqJ hl,Zeq,Zb5,Zj4,Nat.zero_add]
 ·rw [if_neg e,Zhd e];rfl
theorem Zb4 (hl:σ.ld i < (σ.sn i).length) (j:Nat):kc k p q (fl σ j)=kc k p q (fl (drop1 i σ) j) + (if j=i then one ((hd σ i).kW=k∧(hd σ i).kV= (p:Int)∧(hd σ i).kX= (q:Int)) else 0):=by
 by_cases e:j=i
 ·subst e;rw [if_pos rfl,Zko hl,Zb5];congr 2;show _= (σ.sn j).drop (Yp σ.ld j (σ.ld j + 1) j);rw [Zy]
 ·rw [if_neg e,Nat.add_zero];congr 1;show _= (σ.sn j).drop (Yp σ.ld i (σ.ld i + 1) j);rw [ZT e];rfl
theorem ZwR (l:List Zp) (e:Zp) (d p q:Int):c3 (l ++ [e]) d p q=c3 l d p q + one (e.kZ=d∧e.kV=p∧e.kX=q):=by
 unfold c3;rw [List.countP_append,List.countP_cons,List.countP_nil,Nat.zero_add];congr 1;by_cases c:e.kZ=d∧e.kV=p∧e.kX=q
 ·rw [ZaL c,c.1,c.2.1,c.2.2];simp
 ·rw [XJ c,if_neg];simp only [Ba0,beq_iff_eq];exact fun z=>c ⟨z.1.1,z.1.2,z.2⟩
theorem ZdH (d':Int) (p' q' n:Int):ec (tell d' p' q' n σ) k p q=ec σ k p q + one (d'=k∧p'= (p:Int)∧q'= (q:Int)):=ZwR _ _ _ _ _
theorem ZwI {e:Zp} (h:τ.ev=σ.ev ++ [e]):ec τ k p q=ec σ k p q + one (e.kZ=k∧e.kV= (p:Int)∧e.kX= (q:Int)):=by unfold ec;rw [h];exact ZwR _ _ _ _ _
theorem Zjq (h:τ.ev=σ.ev):ec τ k p q=ec σ k p q:=by unfold ec;rw [h]
theorem Zq8 (h1:τ.sn=σ.sn) (h2:τ.ld=σ.ld):asks s τ p q=asks s σ p q:=by unfold asks fl;rw [h1,h2]
theorem ZLK (h1:τ.sn=σ.sn) (h2:τ.ld=σ.ld) (h3:τ.be=σ.be):bb s τ p q=bb s σ p q:=by unfold bb fl;rw [h1,h2,h3]
theorem ZnG (h:τ.wa=σ.wa):wat τ p q=wat σ p q:=by unfold wat;rw [h]
structure Un (s:Zc) (σ τ:TS):Prop where
 a:∀ p q,asks s τ p q=asks s σ p q
 b:∀ p q,bb s τ p q=bb s σ p q
 w:∀ p q,wat τ p q=wat σ p q
 e3:∀ p q,ec τ 3 p q=ec σ 3 p q
 e4:∀ p q,ec τ 4 p q=ec σ 4 p q
theorem Un.trans (h:Un s σ τ) (h':Un s τ υ):Un s σ υ:= ⟨fun p q=>(h'.a p q).trans (h.a p q),fun p q=>(h'.b p q).trans (h.b p q),fun p q=>(h'.w p q).trans (h.w p q),fun p q=>(h'.e3 p q).trans (h.e3 p q),fun p q=>(h'.e4 p q).trans (h.e4 p q)⟩
theorem Bal.un (h:Bal s σ) (u:Un s σ τ) (s1:∀ p,p < nn s ->τ.st p=1 ->σ.st p=1) (s3:∀ p,p < nn s ->(σ.st p=3↔τ.st p=3)):Bal s τ:=
 ⟨fun p q hp hq=>by rw [u.e4,u.b,u.w,u.a,u.e3];exact h.le p q hp hq,fun p q hp hq z=>by rw [u.e4,u.b,u.w,u.a,u.e3];exact h.eq p q hp hq (s1 p hp z),fun p q hp hq z=>by rw [u.e4,u.b] at z;exact(s3 q hq).1 (h.dead p q hp hq z),fun p q hp hq z=>by rw [u.w];exact h.wz p q hp hq ((s3 q hq).2 z)⟩
theorem Un.send (hl:σ.ld (li s a b) <= (σ.sn (li s a b)).length) (h2:x.kW ≠ 2) (h5:x.kW ≠ 5):Un s σ (Proofs.YtcnahmgekicbdaaGreat.send s a b x σ):=by
 refine⟨fun p q=>?_,fun p q=>?_,fun p q=>rfl,fun p q=>rfl,fun p q=>rfl⟩
 ·unfold asks;rw [Zb3 hl,XJ (fun z=>h2 z.1)];split <;> rfl
 ·unfold bb;rw [Zb3 hl,XJ (fun z=>h5 z.1)];show kc 5 p q (σ.be (pl s p)) + _=_;split <;> rfl
theorem Un.drop (hl:σ.ld i < (σ.sn i).length) (h2:(hd σ i).kW ≠ 2) (h5:(hd σ i).kW ≠ 5):Un s σ (drop1 i σ):=by
 refine⟨fun p q=>?_,fun p q=>?_,fun p q=>rfl,fun p q=>rfl,fun p q=>rfl⟩
 ·have:=Zb4 (k:=2) (p:=p) (q:=q) hl (li s (pl s p) (pl s q));rw [XJ (fun z=>h2 z.1)] at this;unfold asks;rw [this];split <;> rfl
 ·have:=Zb4 (k:=5) (p:=p) (q:=q) hl (li s (pl s q) (pl s p));rw [XJ (fun z=>h5 z.1)] at this;unfold bb;rw [this];show kc 5 p q (σ.be (pl s p)) + _=_;split <;> rfl
theorem Un.tell (d' p' q' n:Int) (h3:d' ≠ 3) (h4:d' ≠ 4):Un s σ (Proofs.YtcnahmgekicbdaaGreat.tell d' p' q' n σ):=
 ⟨fun _ _=>rfl,fun _ _=>rfl,fun _ _=>rfl,fun p q=>by rw [ZdH,XJ (fun z=>h3 z.1)];rfl,fun p q=>by rw [ZdH,XJ (fun z=>h4 z.1)];rfl⟩
theorem Un.see (p q:Nat) (n:Int):Un s σ (Proofs.YtcnahmgekicbdaaGreat.see p q n σ):=by
 unfold Proofs.YtcnahmgekicbdaaGreat.see;split
 ·exact Un.tell _ _ _ _ (by decide) (by decide)
 ·exact⟨fun _ _=>rfl,fun _ _=>rfl,fun _ _=>rfl,fun _ _=>rfl,fun _ _=>rfl⟩
theorem Zq7 (hS:Qm s) (hl:∀ i,σ.ld i <= (σ.sn i).length) (hp0:p0 < nn s) (hq0:q0 < nn s) (hp:p < nn s) (hq:q < nn s):
 bb s (XL s p0 q0 σ) p q=bb s σ p q + one (p0=p∧q0=q)∧asks s (XL s p0 q0 σ) p q=asks s σ p q:=by
 unfold XL;by_cases e:pl s p0=pl s q0
 ·rw [if_pos e];refine⟨?_,rfl⟩;unfold bb;show kc 5 p q (Yp σ.be (pl s p0) (σ.be (pl s p0) ++ [_]) (pl s p)) + kc 5 p q (fl σ (li s (pl s q) (pl s p)))=_;by_cases e2:pl s p=pl s p0
  ·rw [e2,Zy,Zeq,Zb5,Zj4,Nat.zero_add];by_cases c:p0=p∧q0=q
   ·rw [ZaL c,ZaL ⟨rfl,by show((p0:Int))=p;omega,by show((q0:Int))=q;omega⟩];omega
   ·rw [XJ c,XJ (fun z=>c ⟨by have:((p0:Int))=p:=z.2.1;omega,by have:((q0:Int))=q:=z.2.2;omega⟩)];omega
  ·rw [ZT e2,XJ (fun z=>e2 (by rw [z.1]))];omega
 ·rw [if_neg e];refine⟨?_,?_⟩
  ·unfold bb;rw [Zb3 (hl _)];show kc 5 p q (σ.be (pl s p)) + (_ + _)=_;by_cases c:p0=p∧q0=q
   ·obtain⟨rfl,rfl⟩:=c;rw [if_pos rfl,ZaL ⟨rfl,rfl,rfl⟩,ZaL ⟨rfl,rfl⟩];omega
   ·rw [XJ c,XJ (fun z=>c ⟨by have:((p0:Int))=p:=z.2.1;omega,by have:((q0:Int))=q:=z.2.2;omega⟩)];split <;> omega
  ·unfold asks;rw [Zb3 (hl _),XJ (fun z=>by have:(5:Int)=2:=z.1;omega)];split <;> rfl
theorem Zz9 (hl:∀ i,σ.ld i <= (σ.sn i).length) (p q:Nat):∀ i,(XL s p q σ).ld i <= ((XL s p q σ).sn i).length:=fun i=>by
 rw [(ZdQ (s:=s) p q σ).2.2.2.1];exact Nat.le_trans (hl i) (SnM.XL p q i)
theorem ZwZ (hS:Qm s) (hq0:q0 < nn s) (hp:p < nn s) (hq:q < nn s):∀ (l:List Int) (σ:TS),(∀ i,σ.ld i <= (σ.sn i).length) ->(∀ x ∈ l,∃ k:Nat,x= (k:Int)∧k < nn s) ->
 bb s (Zt s q0 l σ) p q=bb s σ p q + (if q0=q then l.count (p:Int) else 0)∧asks s (Zt s q0 l σ) p q=asks s σ p q:=by
 intro l
 induction l with
 | nil=>intro σ _ _;exact⟨by show bb s σ p q=_;split <;> rfl,rfl⟩
 | cons x l ih=>
   intro σ hl hx;obtain⟨k,rfl,hk⟩:=hx x (by simp);have h1:=ih (XL s k q0 σ) (Zz9 hl k q0) fun y hy=>hx y (by simp [hy])
   have h2:=Zq7 (p:=p) (q:=q) hS hl hk hq0 hp hq;show bb s (Zt s q0 l (XL s ((k:Int)).toNat q0 σ)) p q=_∧asks s (Zt s q0 l (XL s ((k:Int)).toNat q0 σ)) p q=_;rw [Int.toNat_natCast,h1.1,h1.2,h2.1,h2.2];refine⟨?_,rfl⟩;rw [List.count_cons];by_cases e:q0=q
   ·rw [if_pos e,if_pos e];by_cases c:k=p
    ·rw [ZaL ⟨c,e⟩,if_pos (by simp [c])];omega
    ·rw [XJ (fun z=>c z.1),if_neg (by simp;omega)];omega
   ·rw [if_neg e,if_neg e,XJ (fun z=>e z.2)]
theorem Zqd (hS:Qm s) (hl:∀ i,σ.ld i <= (σ.sn i).length) (hp0:p0 < nn s) (hq0:q0 < nn s) (hp:p < nn s) (hq:q < nn s):
 asks s (note s p0 q0 σ) p q=asks s σ p q∧(σ.st q0=3 ->bb s (note s p0 q0 σ) p q=bb s σ p q + one (p0=p∧q0=q)∧wat (note s p0 q0 σ) p q=wat σ p q)∧
 (σ.st q0 ≠ 3 ->bb s (note s p0 q0 σ) p q=bb s σ p q∧wat (note s p0 q0 σ) p q=wat σ p q + one (p0=p∧q0=q)):=by
 unfold note;by_cases e:σ.st q0=3
 ·rw [if_pos e];have h:=Zq7 (p:=p) (q:=q) hS hl hp0 hq0 hp hq;exact⟨h.2,fun _=>⟨h.1,ZnG (ZdQ (s:=s) p0 q0 σ).2.2.2.2.2.2⟩,fun z=>absurd e z⟩
 ·rw [if_neg e];refine⟨rfl,fun z=>absurd z e,fun _=>⟨rfl,?_⟩⟩;unfold wat;show(Yp σ.wa q0 (σ.wa q0 ++ [(p0:Int)]) q).count (p:Int)=_;by_cases c:q=q0
  ·subst c;rw [Zy,List.count_append,List.count_singleton];by_cases c2:p0=p
   ·rw [ZaL ⟨c2,rfl⟩,if_pos (by simp [c2])]
   ·rw [XJ (fun z=>c2 z.1),if_neg (by simp;omega)]
  ·rw [ZT c,XJ (fun z=>c z.2.symm)];rfl
end
end
section
def P3 (s:Zc) (σ:TS):Prop:=∀ w,w < mm s ->∀ x ∈ σ.be w,∃ p:Nat,x.kV= (p:Int)∧p < nn s∧pl s p=w
section
variable {s:Zc} {σ τ υ:TS} {F B a b p q w i j n d r p0 q0:Nat} {x:Zd} {k:Int}
theorem P3.congr (h:P3 s σ) (e:τ.be=σ.be):P3 s τ:=fun w hw x hx=>h w hw x (by rwa [e] at hx)
theorem P3.wait (h:P3 s σ) (hx:x.kV= (p:Int)) (hp:p < nn s) (hm:pl s p=a):P3 s (Proofs.YtcnahmgekicbdaaGreat.wait a x σ):=fun w hw y hy=>by
 have hy:y ∈ Yp σ.be a (σ.be a ++ [x]) w:=hy;by_cases e:w=a
 ·subst e;rw [Zy] at hy;rcases List.mem_append.1 hy with hy | hy
  ·exact h w hw y hy
  ·rw [List.mem_singleton.1 hy];exact⟨p,hx,hp,hm⟩
 ·rw [ZT e] at hy;exact h w hw y hy
theorem P3.XL (h:P3 s σ) (hp:p < nn s) (q:Nat):P3 s (Proofs.YtcnahmgekicbdaaGreat.XL s p q σ):=by
 unfold Proofs.YtcnahmgekicbdaaGreat.XL;split
 ·exact h.wait rfl hp rfl
 ·exact h.congr rfl
theorem P3.note (h:P3 s σ) (hp:p < nn s) (q:Nat):P3 s (Proofs.YtcnahmgekicbdaaGreat.note s p q σ):=by
 unfold Proofs.YtcnahmgekicbdaaGreat.note;split
 ·exact h.XL hp q
 ·exact h.congr rfl
theorem P3.act (h1:P1 s σ) (h:P3 s σ) (ac:Act s σ τ):P3 s τ:=by
 cases ac with
 | fall=>exact h.congr rfl
 | Zcq=>exact h.congr rfl
 | @die p hp h2 hA=>
   have hA:P3 s (YM s p σ):=by
    have:P3 s (Zt s p (σ.wa p) (Wx p σ)):=Kc _ (P3 s) (σ.wa p) (Wx p σ) (h.congr rfl) fun τ x hx hτ=>by
     obtain⟨k,rfl,hk⟩:=h1.ws p hp x hx;exact hτ.XL (by rw [Int.toNat_natCast];exact hk) p
    exact this.congr rfl
   unfold ZbD;split
   ·exact hA
   ·split
    ·exact hA.congr rfl
    ·exact hA.congr rfl
 | @Zh3 p q=>exact h.congr (Jg q p σ.sd (kK p q σ)).2.2.2.2.2.1
 | Zh2=>exact h.congr rfl
 | @ZhY p q hp=>exact(h.congr (τ:=tell 3 p q 0 σ) rfl).note hp q
 | ZhX=>exact h.congr rfl
 | @Zib a b p q=>exact(h.congr (τ:=drop1 (li s a b) σ) rfl).congr (Jg _ _ _ _).2.2.2.2.2.1
 | @Zie a b p q ha hb hl hk hp hq hpn hqn=>exact(h.congr (τ:=drop1 (li s a b) σ) rfl).note hpn q
 | Zic=>exact h.congr rfl
 | Zfz=>exact h.congr rfl
 | @Zid a b ha hb hl hk=>
   obtain⟨p,hp,hpn,_,c⟩:=h1.lets a b ha hb _ (ZcK hl);refine(h.congr (τ:=drop1 (li s a b) σ) rfl).wait hp hpn ?_;rcases c with⟨k,_⟩ | ⟨k,_⟩ | ⟨k,_⟩ | ⟨k,_⟩ | ⟨k,e,_⟩
   ·omega
   ·omega
   ·omega
   ·omega
   ·exact e
 | @ring w i hw hpk=>
   have e:=Js s w i σ;intro v hv y hy;rw [e.1] at hy;by_cases z:v=w
   ·subst z;rw [Zy] at hy;exact h v hv y (ZdJ hy)
   ·rw [ZT z] at hy;exact h v hv y hy
theorem Zjt {d:Int} (h:x.kW=d) (hp:x.kV= (p0:Int)) (hq:x.kX= (q0:Int)):one (x.kW=d∧x.kV= (p:Int)∧x.kX= (q:Int))=one (p0=p∧q0=q):=by
 rw [hp,hq];by_cases c:p0=p∧q0=q
 ·rw [ZaL c,ZaL ⟨h,by omega,by omega⟩]
 ·rw [XJ c,XJ (fun z=>c ⟨by have:=z.2.1;omega,by have:=z.2.2;omega⟩)]
theorem Zhy (n:Int):ec (tell k p0 q0 n σ) k p q=ec σ k p q + one (p0=p∧q0=q):=by
 rw [ZdH];congr 1;by_cases c:p0=p∧q0=q
 ·rw [ZaL c,ZaL ⟨rfl,by omega,by omega⟩]
 ·rw [XJ c,XJ (fun z=>c ⟨by have:=z.2.1;omega,by have:=z.2.2;omega⟩)]
theorem Zjp (d':Int) (n:Int) (h:d' ≠ k):ec (tell d' p0 q0 n σ) k p q=ec σ k p q:=by
 rw [ZdH,XJ (fun z=>h z.1)];rfl
theorem Un.of (h1:τ.sn=σ.sn) (h2:τ.ld=σ.ld) (h3:τ.be=σ.be) (h4:τ.wa=σ.wa) (h5:τ.ev=σ.ev):Un s σ τ:=
 ⟨fun _ _=>Zq8 h1 h2,fun _ _=>ZLK h1 h2 h3,fun _ _=>ZnG h4,fun _ _=>Zjq h5,fun _ _=>Zjq h5⟩
theorem Bal.YM (hS:Qm s) (h1:P1 s σ) (h2:P2 s σ) (h:Bal s σ) (hp0:p0 < nn s):Bal s (Proofs.YtcnahmgekicbdaaGreat.YM s p0 σ):=by
 have sA:=JP (s:=s) p0 σ
 have bA:∀ p q,p < nn s ->q < nn s ->bb s (Proofs.YtcnahmgekicbdaaGreat.YM s p0 σ) p q=bb s σ p q + (if p0=q then(σ.wa p0).count (p:Int) else 0)∧asks s (Proofs.YtcnahmgekicbdaaGreat.YM s p0 σ) p q=asks s σ p q:=fun p q hp hq=>
  ZwZ hS hp0 hp hq (σ.wa p0) (Wx p0 σ) h2.ld (h1.ws p0 hp0)
 have wA:∀ p q,wat (Proofs.YtcnahmgekicbdaaGreat.YM s p0 σ) p q=if p0=q then 0 else wat σ p q:=fun p q=>by
  unfold wat;rw [sA.2.2.2.2.2];by_cases e:p0=q
  ·subst e;rw [Zy,if_pos rfl];rfl
  ·rw [ZT (fun z=>e z.symm),if_neg e]
 have e3:∀ p q,ec (Proofs.YtcnahmgekicbdaaGreat.YM s p0 σ) 3 p q=ec σ 3 p q:=fun p q=>by rw [ZwI sA.2.2.2.2.1,XJ (fun z=>by have:(6:Int)=3:=z.1;omega)];rfl
 have e4:∀ p q,ec (Proofs.YtcnahmgekicbdaaGreat.YM s p0 σ) 4 p q=ec σ 4 p q:=fun p q=>by rw [ZwI sA.2.2.2.2.1,XJ (fun z=>by have:(6:Int)=4:=z.1;omega)];rfl
 have tot:∀ p q,p < nn s ->q < nn s ->ec (Proofs.YtcnahmgekicbdaaGreat.YM s p0 σ) 4 p q + bb s (Proofs.YtcnahmgekicbdaaGreat.YM s p0 σ) p q + wat (Proofs.YtcnahmgekicbdaaGreat.YM s p0 σ) p q + asks s (Proofs.YtcnahmgekicbdaaGreat.YM s p0 σ) p q=ec σ 4 p q + bb s σ p q + wat σ p q + asks s σ p q:=fun p q hp hq=>by
  obtain⟨b1,b2⟩:=bA p q hp hq;rw [b1,b2,wA,e4];by_cases e:p0=q
  ·rw [if_pos e,if_pos e,e];unfold wat;omega
  ·rw [if_neg e,if_neg e];omega
 refine⟨fun p q hp hq=>by rw [tot p q hp hq,e3];exact h.le p q hp hq,fun p q hp hq z=>?_,fun p q hp hq z=>?_,fun p q hp hq z=>?_⟩
 ·rw [tot p q hp hq,e3];rw [sA.1] at z;refine h.eq p q hp hq ?_;by_cases e:p=p0
  ·subst e;rw [Zy] at z;omega
  ·rwa [ZT e] at z
 ·rw [sA.1];by_cases e:q=p0
  ·subst e;rw [Zy]
  ·rw [ZT e];rw [e4,(bA p q hp hq).1,if_neg (fun z=>e z.symm)] at z;exact h.dead p q hp hq z
 ·rw [wA];by_cases e:p0=q
  ·rw [if_pos e]
  ·rw [if_neg e];rw [sA.1,ZT (fun z=>e z.symm)] at z;exact h.wz p q hp hq z
theorem Bal.act (hS:Qm s) (h1:P1 s σ) (h2:P2 s σ) (h3:P3 s σ) (h:Bal s σ) (ac:Act s σ τ):Bal s τ:=by
 have id1:∀ (ρ:TS),ρ.st=σ.st ->∀ p,p < nn s ->ρ.st p=1 ->σ.st p=1:=fun ρ e p _ z=>by rwa [e] at z
 have id3:∀ (ρ:TS),ρ.st=σ.st ->∀ p,p < nn s ->(σ.st p=3↔ρ.st p=3):=fun ρ e p _=>by rw [e]
 cases ac with
 | @fall p0 hp0 hst=>
   refine h.un ((Un.of (s:=s) (σ:=σ) (τ:= {σ with st:=Yp σ.st p0 2}) rfl rfl rfl rfl rfl).trans (Un.tell (σ:= {σ with st:=Yp σ.st p0 2}) 5 p0 0 0 (by decide) (by decide))) (fun p _ z=>?_) (fun p _=>?_)
   ·have z:Yp σ.st p0 2 p=1:=z;by_cases e:p=p0
    ·subst e;exact hst
    ·rwa [ZT e] at z
   ·show _↔Yp σ.st p0 2 p=3;by_cases e:p=p0
    ·subst e;rw [Zy,hst];decide
    ·rw [ZT e]
 | Zcq=>exact h.un (Un.send (h2.ld _) (show(3:Int) ≠ 2 by decide) (show(3:Int) ≠ 5 by decide)) (id1 _ rfl) (id3 _ rfl)
 | @die p0 hp0 hst hA=>
   have hB:=Bal.YM hS h1 h2 h hp0;unfold ZbD;split
   ·exact hB
   ·split
    ·exact hB.un ⟨fun _ _=>rfl,fun _ _=>rfl,fun _ _=>rfl,fun _ _=>rfl,fun _ _=>rfl⟩ (fun _ _ z=>z) (fun _ _=>Iff.rfl)
    ·refine hB.un (Un.send ?_ (show(4:Int) ≠ 2 by decide) (show(4:Int) ≠ 5 by decide)) (fun _ _ z=>z) (fun _ _=>Iff.rfl);rw [(JP (s:=s) p0 σ).2.2.1];exact Nat.le_trans (h2.ld _) (SnM.YM p0 _)
 | @Zh3 p0 q0 hp hq=>exact h.un (((Un.of (s:=s) (σ:=σ) (τ:= {σ with sd:=σ.sd + 1}) rfl rfl rfl rfl rfl).trans (Un.tell (σ:= {σ with sd:=σ.sd + 1}) 1 p0 q0 σ.sd (by decide) (by decide))).trans (Un.see q0 p0 σ.sd)) (id1 _ (Jg q0 p0 σ.sd (kK p0 q0 σ)).1) (id3 _ (Jg q0 p0 σ.sd (kK p0 q0 σ)).1)
 | @Zh2 p0 q0 hp hq=>exact h.un (((Un.of (s:=s) (σ:=σ) (τ:= {σ with sd:=σ.sd + 1}) rfl rfl rfl rfl rfl).trans (Un.tell (σ:= {σ with sd:=σ.sd + 1}) 1 p0 q0 σ.sd (by decide) (by decide))).trans (Un.send (x:= ⟨1,p0,q0,σ.sd,[]⟩) (h2.ld _) (show(1:Int) ≠ 2 by decide) (show(1:Int) ≠ 5 by decide))) (id1 _ rfl) (id3 _ rfl)
 | @ZhY p0 q0 hp0 hq0 hst e0=>
   have e:=Ju (s:=s) p0 q0 (tell 3 p0 q0 0 σ);have e3:∀ p q,ec (note s p0 q0 (tell 3 p0 q0 0 σ)) 3 p q=ec σ 3 p q + one (p0=p∧q0=q):=fun p q=>by rw [Zjq e.2.2.2.2.2,Zhy]
   have e4:∀ p q,ec (note s p0 q0 (tell 3 p0 q0 0 σ)) 4 p q=ec σ 4 p q:=fun p q=>by rw [Zjq e.2.2.2.2.2,Zjp _ _ (by decide)]
   have nt:=fun p q hp hq=>Zqd (p:=p) (q:=q) (σ:=tell 3 p0 q0 0 σ) hS h2.ld hp0 hq0 hp hq
   have ta:∀ p q,asks s (tell 3 p0 q0 0 σ) p q=asks s σ p q:=fun _ _=>rfl
   have tb:∀ p q,bb s (tell 3 p0 q0 0 σ) p q=bb s σ p q:=fun _ _=>rfl
   have tw:∀ p q,wat (tell 3 p0 q0 0 σ) p q=wat σ p q:=fun _ _=>rfl
   have ts:(tell 3 p0 q0 0 σ).st q0=σ.st q0:=rfl;refine⟨fun p q hp hq=>?_,fun p q hp hq z=>?_,fun p q hp hq z=>?_,fun p q hp hq z=>?_⟩
   ·have l:=h.le p q hp hq;obtain⟨n1,n2,n3⟩:=nt p q hp hq;rw [e3,e4,n1,ta];by_cases c:σ.st q0=3
    ·obtain⟨m1,m2⟩:=n2 c;rw [m1,m2,tb,tw];omega
    ·obtain⟨m1,m2⟩:=n3 c;rw [m1,m2,tb,tw];omega
   ·rw [e.1] at z;have l:=h.eq p q hp hq z;obtain⟨n1,n2,n3⟩:=nt p q hp hq;rw [e3,e4,n1,ta];by_cases c:σ.st q0=3
    ·obtain⟨m1,m2⟩:=n2 c;rw [m1,m2,tb,tw];omega
    ·obtain⟨m1,m2⟩:=n3 c;rw [m1,m2,tb,tw];omega
   ·rw [e.1];obtain⟨n1,n2,n3⟩:=nt p q hp hq;rw [e4] at z;by_cases c:σ.st q0=3
    ·obtain⟨m1,m2⟩:=n2 c;rw [m1,tb] at z;by_cases cc:p0=p∧q0=q
     ·rw [← cc.2];exact c
     ·rw [XJ cc] at z;exact h.dead p q hp hq z
    ·obtain⟨m1,m2⟩:=n3 c;rw [m1,tb] at z;exact h.dead p q hp hq z
   ·rw [e.1] at z;obtain⟨n1,n2,n3⟩:=nt p q hp hq;have l:=h.wz p q hp hq z;by_cases c:σ.st q0=3
    ·obtain⟨m1,m2⟩:=n2 c;rw [m2,tw];exact l
    ·obtain⟨m1,m2⟩:=n3 c;rw [m2,tw,l,XJ (fun cc=>c (by rw [cc.2];exact z))]
 | @ZhX p0 q0 hp0 hq0 hst e0=>
   have e3:∀ p q,ec (send s (pl s p0) (pl s q0) ⟨2,p0,q0,0,[]⟩ (tell 3 p0 q0 0 σ)) 3 p q=ec σ 3 p q + one (p0=p∧q0=q):=fun p q=>Zhy 0
   have e4:∀ p q,ec (send s (pl s p0) (pl s q0) ⟨2,p0,q0,0,[]⟩ (tell 3 p0 q0 0 σ)) 4 p q=ec σ 4 p q:=fun p q=>Zjp _ _ (by decide)
   have ea:∀ p q,asks s (send s (pl s p0) (pl s q0) ⟨2,p0,q0,0,[]⟩ (tell 3 p0 q0 0 σ)) p q=asks s σ p q + one (p0=p∧q0=q):=fun p q=>by
    unfold asks;rw [Zb3 (σ:=tell 3 p0 q0 0 σ) (h2.ld _),Zjt (x:= ⟨2,p0,q0,0,[]⟩) (d:=2) (p0:=p0) (q0:=q0) rfl rfl rfl];by_cases c:p0=p∧q0=q
    ·rw [if_pos (by rw [c.1,c.2])];rfl
    ·rw [XJ c];split <;> rfl
   have eb:∀ p q,bb s (send s (pl s p0) (pl s q0) ⟨2,p0,q0,0,[]⟩ (tell 3 p0 q0 0 σ)) p q=bb s σ p q:=fun p q=>by
    unfold bb;rw [Zb3 (σ:=tell 3 p0 q0 0 σ) (h2.ld _),XJ (fun z=>by have:(2:Int)=5:=z.1;omega)];show kc 5 p q (σ.be (pl s p)) + _=_;split <;> rfl
   have ew:∀ p q,wat (send s (pl s p0) (pl s q0) ⟨2,p0,q0,0,[]⟩ (tell 3 p0 q0 0 σ)) p q=wat σ p q:=fun p q=>rfl
   refine⟨fun p q hp hq=>?_,fun p q hp hq z=>?_,fun p q hp hq z=>?_,fun p q hp hq z=>?_⟩
   ·have l:=h.le p q hp hq;rw [e3,e4,ea,eb,ew];omega
   ·have l:=h.eq p q hp hq z;rw [e3,e4,ea,eb,ew];omega
   ·rw [e4,eb] at z;exact h.dead p q hp hq z
   ·rw [ew];exact h.wz p q hp hq z
 | @Zib a b p0 q0 ha hb hl hk hp hq hpn hqn=>exact h.un ((Un.drop hl (by omega) (by omega)).trans (Un.see q0 p0 _)) (id1 _ (Jg q0 p0 (hd σ (li s a b)).n (drop1 (li s a b) σ)).1) (id3 _ (Jg q0 p0 (hd σ (li s a b)).n (drop1 (li s a b) σ)).1)
 | @Zie a b p0 q0 ha hb hl hk hpe hqe hp0 hq0=>
   have e:=Ju (s:=s) p0 q0 (drop1 (li s a b) σ);have hlet:=h1.lets a b ha hb _ (ZcK hl)
   have hpq:pl s p0=a∧pl s q0=b:=by
    obtain⟨p',hp',_,_,c⟩:=hlet;have:p'=p0:=by omega
    subst this;rcases c with⟨k,_⟩ | ⟨k,e1,q',hq',_,e2⟩ | ⟨k,_⟩ | ⟨k,_⟩ | ⟨k,_⟩
    ·omega
    ·have:q'=q0:=by omega
     subst this;exact⟨e1,e2⟩
    ·omega
    ·omega
    ·omega
   have hd2:∀ i,(drop1 (li s a b) σ).ld i <= ((drop1 (li s a b) σ).sn i).length:= (h2.drop hl).ld;have e3:∀ p q,ec (note s p0 q0 (drop1 (li s a b) σ)) 3 p q=ec σ 3 p q:=fun p q=>by rw [Zjq e.2.2.2.2.2];rfl
   have e4:∀ p q,ec (note s p0 q0 (drop1 (li s a b) σ)) 4 p q=ec σ 4 p q:=fun p q=>by rw [Zjq e.2.2.2.2.2];rfl
   have nt:=fun p q hp hq=>Zqd (p:=p) (q:=q) (σ:=drop1 (li s a b) σ) hS hd2 hp0 hq0 hp hq
   have ta:∀ p q,asks s σ p q=asks s (drop1 (li s a b) σ) p q + one (p0=p∧q0=q):=fun p q=>by
    have:=Zb4 (k:=2) (p:=p) (q:=q) hl (li s (pl s p) (pl s q));rw [Zjt (d:=2) (p0:=p0) (q0:=q0) hk hpe hqe] at this;unfold asks;rw [this];by_cases c:p0=p∧q0=q
    ·rw [if_pos (by rw [← c.1,← c.2,hpq.1,hpq.2])]
    ·rw [XJ c];split <;> rfl
   have tb:∀ p q,bb s (drop1 (li s a b) σ) p q=bb s σ p q:=fun p q=>by
    have:=Zb4 (k:=5) (p:=p) (q:=q) hl (li s (pl s q) (pl s p));rw [XJ (fun z=>by have:=z.1;omega)] at this;unfold bb;rw [this];show kc 5 p q (σ.be (pl s p)) + _=_;split <;> rfl
   have tw:∀ p q,wat (drop1 (li s a b) σ) p q=wat σ p q:=fun _ _=>rfl
   have ts:(drop1 (li s a b) σ).st=σ.st:=rfl;refine⟨fun p q hp hq=>?_,fun p q hp hq z=>?_,fun p q hp hq z=>?_,fun p q hp hq z=>?_⟩
   ·have l:=h.le p q hp hq;obtain⟨n1,n2,n3⟩:=nt p q hp hq;rw [e3,e4,n1];rw [ta] at l;by_cases c:σ.st q0=3
    ·obtain⟨m1,m2⟩:=n2 c;rw [m1,m2,tb,tw];omega
    ·obtain⟨m1,m2⟩:=n3 c;rw [m1,m2,tb,tw];omega
   ·rw [e.1] at z;have l:=h.eq p q hp hq z;obtain⟨n1,n2,n3⟩:=nt p q hp hq;rw [e3,e4,n1];rw [ta] at l;by_cases c:σ.st q0=3
    ·obtain⟨m1,m2⟩:=n2 c;rw [m1,m2,tb,tw];omega
    ·obtain⟨m1,m2⟩:=n3 c;rw [m1,m2,tb,tw];omega
   ·rw [e.1];obtain⟨n1,n2,n3⟩:=nt p q hp hq;rw [e4] at z;by_cases c:σ.st q0=3
    ·obtain⟨m1,m2⟩:=n2 c;rw [m1,tb] at z;by_cases cc:p0=p∧q0=q
     ·rw [← cc.2];exact c
     ·rw [XJ cc] at z;exact h.dead p q hp hq z
    ·obtain⟨m1,m2⟩:=n3 c;rw [m1,tb] at z;exact h.dead p q hp hq z
   ·rw [e.1] at z;obtain⟨n1,n2,n3⟩:=nt p q hp hq;have l:=h.wz p q hp hq z;by_cases c:σ.st q0=3
    ·obtain⟨m1,m2⟩:=n2 c;rw [m2,tw];exact l
    ·obtain⟨m1,m2⟩:=n3 c;rw [m2,tw,l,XJ (fun cc=>c (by rw [cc.2];exact z))]
 | Zic ha hb hl hk=>exact h.un (Un.drop hl (by omega) (by omega)) (id1 _ rfl) (id3 _ rfl)
 | Zfz ha hb hl hk=>exact h.un ((Un.drop hl (by omega) (by omega)).trans ⟨fun _ _=>rfl,fun _ _=>rfl,fun _ _=>rfl,fun _ _=>rfl,fun _ _=>rfl⟩) (id1 _ rfl) (id3 _ rfl)
 | @Zid a b ha hb hl hk=>
   obtain⟨p0,hpe,hp0,_,c⟩:=h1.lets a b ha hb _ (ZcK hl)
   obtain⟨q0,hqe,hq0,e1,e2⟩:∃ q0:Nat,(hd σ (li s a b)).kX= (q0:Int)∧q0 < nn s∧pl s p0=b∧pl s q0=a:=by
    rcases c with⟨k,_⟩ | ⟨k,_⟩ | ⟨k,_⟩ | ⟨k,_⟩ | ⟨k,e,_,q,h1,h2,h3⟩
    ·omega
    ·omega
    ·omega
    ·omega
    ·exact⟨q,h1,h2,e,h3⟩
   refine h.un ⟨fun p q=>?_,fun p q=>?_,fun _ _=>rfl,fun _ _=>rfl,fun _ _=>rfl⟩ (id1 _ rfl) (id3 _ rfl)
   ·have:=Zb4 (k:=2) (p:=p) (q:=q) hl (li s (pl s p) (pl s q));rw [XJ (fun z=>by have:=z.1;omega)] at this;show asks s (drop1 (li s a b) σ) p q=_;unfold asks;rw [this];split <;> rfl
   ·have:=Zb4 (k:=5) (p:=p) (q:=q) hl (li s (pl s q) (pl s p));rw [Zjt (d:=5) (p0:=p0) (q0:=q0) hk hpe hqe] at this;unfold bb;rw [this];show kc 5 p q (Yp σ.be b (σ.be b ++ [hd σ (li s a b)]) (pl s p)) + kc 5 p q (fl (drop1 (li s a b) σ) (li s (pl s q) (pl s p)))=_;by_cases c:p0=p∧q0=q
    ·rw [if_pos (by rw [← c.1,← c.2,e1,e2]),show pl s p=b by rw [← c.1,e1],Zy,Zeq,Zb5,Zj4,Zjt (d:=5) (p0:=p0) (q0:=q0) hk hpe hqe];omega
    ·rw [XJ c]
     have:kc 5 p q (Yp σ.be b (σ.be b ++ [hd σ (li s a b)]) (pl s p))=kc 5 p q (σ.be (pl s p)):=by
      by_cases z:pl s p=b
      ·rw [z,Zy,Zeq,Zb5,Zj4,Zjt (d:=5) (p0:=p0) (q0:=q0) hk hpe hqe,XJ c];rfl
      ·rw [ZT z]
     rw [this];split <;> omega
 | @ring w i hw hpk=>
   have e:=Js s w i σ;have hi:i < (σ.be w).length:=Zdf _ _ hpk;obtain⟨x,hx⟩:∃ x,x= (σ.be w).getD i default:= ⟨_,rfl⟩
   have hm:x ∈ σ.be w:=by rw [hx];exact XP hi
   obtain⟨p0,hpe,hp0,hpw⟩:=h3 w hw x hm;obtain⟨⟨_,⟨q0,hqe,hq0⟩,_⟩,hk⟩:=h1.bea w hw x hm;have ea:∀ p q,asks s (rung s w i σ) p q=asks s σ p q:=fun p q=>Zq8 e.2.2.2.2.2.1 e.2.1
   have ew:∀ p q,wat (rung s w i σ) p q=wat σ p q:=fun p q=>ZnG e.2.2.2.2.2.2.1
   have eb:∀ p q,bb s σ p q=bb s (rung s w i σ) p q + one (p0=p∧q0=q):=fun p q=>by
    have hc:=ZD2 (k:=5) (p:=p) (q:=q) hi;rw [← hx,Zjt (d:=5) (p0:=p0) (q0:=q0) hk hpe hqe] at hc;have hf:fl (rung s w i σ)=fl σ:=by unfold fl;rw [e.2.1,e.2.2.2.2.2.1]
    unfold bb;rw [hf,e.1];by_cases z:pl s p=w
    ·rw [z,Zy,hc];omega
    ·rw [ZT z,XJ (fun c=>z (by rw [← c.1];exact hpw))];omega
   have e3:∀ p q,ec (rung s w i σ) 3 p q=ec σ 3 p q:=fun p q=>by
    unfold rung;split
    ·rw [ZdH,XJ (fun z=>by have:=z.1;omega)];rfl
    ·rfl
   have e4:∀ p q,ec (rung s w i σ) 4 p q=ec σ 4 p q + (if σ.st p0=1 then one (p0=p∧q0=q) else 0):=fun p q=>by
    unfold rung;rw [← hx,hpe,Int.toNat_natCast];split
    ·rw [hqe,Zhy];rfl
    ·rfl
   refine⟨fun p q hp hq=>?_,fun p q hp hq z=>?_,fun p q hp hq z=>?_,fun p q hp hq z=>?_⟩
   ·have l:=h.le p q hp hq;rw [eb] at l;rw [e3,e4,ea,ew];split <;> omega
   ·rw [e.2.2.1] at z;have l:=h.eq p q hp hq z;rw [eb] at l;rw [e3,e4,ea,ew];by_cases c:p0=p∧q0=q
    ·rw [if_pos (by rw [c.1];exact z)];omega
    ·rw [XJ c] at l ⊢;split <;> omega
   ·rw [e.2.2.1];refine h.dead p q hp hq ?_;rw [eb];rw [e4] at z;split at z <;> omega
   ·rw [ew];rw [e.2.2.1] at z;exact h.wz p q hp hq z
end
end
section
structure MB (s:Zc) (σ:TS):Prop where
 ma:∀ p i,i < mm s * mm s ->σ.ma p i <= ((σ.sn i).length:Int)
 le:∀ j,∀ x ∈ σ.sn j,∀ i,i < mm s * mm s ->x.qX.getD i 0 <= ((σ.sn i).length:Int)
 be:∀ m,∀ x ∈ σ.be m,∀ i,i < mm s * mm s ->x.qX.getD i 0 <= ((σ.sn i).length:Int)
def NoR (s:Zc) (σ:TS):Prop:=∀ w,w < mm s ->Jh s σ.ld w (σ.be w) (σ.be w).length=none
section
variable {s:Zc} {σ τ υ:TS} {F B a b p q w i j n d r p0 q0:Nat} {x:Zd} {k:Int} {l:List Z7} {picks:List Int}
def MX (s:Zc) (σ:TS) (x:Zd):Prop:=∀ i,i < mm s * mm s ->x.qX.getD i 0 <= ((σ.sn i).length:Int)
theorem MB.congr (h:MB s σ) (h1:τ.sn=σ.sn) (h2:τ.be=σ.be) (h3:τ.ma=σ.ma):MB s τ:= ⟨by rw [h1,h3];exact h.ma,by rw [h1];exact h.le,by rw [h1,h2];exact h.be⟩
theorem MB.send (h:MB s σ) (hx:MX s σ x):MB s (Proofs.YtcnahmgekicbdaaGreat.send s a b x σ):=by
 have up:∀ i,(σ.sn i).length <= ((Proofs.YtcnahmgekicbdaaGreat.send s a b x σ).sn i).length:=SnM.send x;refine⟨fun p i hi=>Int.le_trans (h.ma p i hi) (by have:=up i;omega),fun j y hy i hi=>?_,fun m y hy i hi=>Int.le_trans (h.be m y hy i hi) (by have:=up i;omega)⟩;refine Int.le_trans ?_ (Int.ofNat_le.2 (up i));by_cases e:j=li s a b
 ·subst e;rw [ZbT] at hy;rcases List.mem_append.1 hy with hy | hy
  ·exact h.le _ y hy i hi
  ·rw [List.mem_singleton.1 hy];exact hx i hi
 ·rw [JU e] at hy;exact h.le _ y hy i hi
theorem MB.wait (h:MB s σ) (hx:MX s σ x):MB s (Proofs.YtcnahmgekicbdaaGreat.wait a x σ):=by
 refine⟨h.ma,h.le,fun m y hy i hi=>?_⟩;have hy:y ∈ Yp σ.be a (σ.be a ++ [x]) m:=hy;by_cases e:m=a
 ·subst e;rw [Zy] at hy;rcases List.mem_append.1 hy with hy | hy
  ·exact h.be _ y hy i hi
  ·rw [List.mem_singleton.1 hy];exact hx i hi
 ·rw [ZT e] at hy;exact h.be _ y hy i hi
theorem Zql (hi:i < mm s * mm s):(mks s σ p).getD i 0=σ.ma p i:=by
 unfold mks;have:=Yq (f:=σ.ma p) hi;rw [QD 0 (by rw [XU];exact hi)] at this;exact Oi0 this
theorem MB.mks (h:MB s σ) (d p q n:Int) (p':Nat):MX s σ ⟨d,p,q,n,Proofs.YtcnahmgekicbdaaGreat.mks s σ p'⟩:=fun i hi=>by
 show(Proofs.YtcnahmgekicbdaaGreat.mks s σ p').getD i 0 <=_;rw [Zql hi];exact h.ma p' i hi
theorem MX.nil (d p q n:Int):MX s σ ⟨d,p,q,n,[]⟩:=fun i hi=>by show(0:Int) <=_;omega
theorem MB.XL (h:MB s σ) (p q:Nat):MB s (Proofs.YtcnahmgekicbdaaGreat.XL s p q σ):=by
 unfold Proofs.YtcnahmgekicbdaaGreat.XL;split
 ·exact h.wait (h.mks _ _ _ _ _)
 ·exact h.send (h.mks _ _ _ _ _)
theorem MB.note (h:MB s σ) (p q:Nat):MB s (Proofs.YtcnahmgekicbdaaGreat.note s p q σ):=by
 unfold Proofs.YtcnahmgekicbdaaGreat.note;split
 ·exact h.XL _ _
 ·exact h.congr rfl rfl rfl
theorem MB.see (h:MB s σ) (p q:Nat) (n:Int):MB s (Proofs.YtcnahmgekicbdaaGreat.see p q n σ):=by
 have e:=Jg p q n σ;exact h.congr e.2.2.2.2.1 e.2.2.2.2.2.1 e.2.2.1
theorem MB.YM (h:MB s σ) (p:Nat):MB s (Proofs.YtcnahmgekicbdaaGreat.YM s p σ):=by
 have h1:MB s (Zt s p (σ.wa p) (Wx p σ)):=Kc _ (MB s) (σ.wa p) (Wx p σ) (h.congr rfl rfl rfl) fun τ x _ hτ=>hτ.XL _ _
 refine⟨fun p' i hi=>?_,h1.le,h1.be⟩;show Yp (Zt s p (σ.wa p) (Wx p σ)).ma p (Zdi s (Zt s p (σ.wa p) (Wx p σ)) p (mm s)) p' i <=_;by_cases e:p'=p
 ·subst e;rw [Zy];unfold Zdi;split
  ·exact Int.le_refl _
  ·exact h1.ma _ i hi
 ·rw [ZT e];exact h1.ma _ i hi
theorem MB.learn (h:MB s σ) {l:List Int} (hl:∀ i,i < mm s * mm s ->l.getD i 0 <= ((σ.sn i).length:Int)) (p:Nat):MB s (YL s p l σ):=by
 refine⟨fun p' i hi=>?_,h.le,h.be⟩;show Yp σ.ma (inn s (p:Int)).toNat (mx (σ.ma (inn s (p:Int)).toNat) l) p' i <= ((σ.sn i).length:Int);by_cases e:p'= (inn s (p:Int)).toNat
 ·rw [e,Zy];have h1:=h.ma (inn s (p:Int)).toNat i hi;have h2:=hl i hi;unfold mx;split <;> omega
 ·rw [ZT e];exact h.ma _ i hi
theorem MB.act (h:MB s σ) (ac:Act s σ τ):MB s τ:=by
 cases ac with
 | fall=>exact h.congr rfl rfl rfl
 | Zcq=>exact h.send (MX.nil _ _ _ _)
 | @die p hp h2 hA=>
   have hA:=h.YM p;unfold ZbD;split
   ·exact hA
   ·split
    ·exact hA.learn (fun i hi=>by rw [Zql hi];exact hA.ma p i hi) p
    ·exact hA.send (hA.mks _ _ _ _ _)
 | @Zh3 p q=>exact(h.congr (τ:=kK p q σ) rfl rfl rfl).see _ _ _
 | @Zh2 p q=>exact(h.congr (τ:=kK p q σ) rfl rfl rfl).send (MX.nil _ _ _ _)
 | @ZhY p q hp=>exact(h.congr (τ:=tell 3 p q 0 σ) rfl rfl rfl).note _ _
 | @ZhX p q=>exact(h.congr (τ:=tell 3 p q 0 σ) rfl rfl rfl).send (MX.nil _ _ _ _)
 | @Zib a b p q=>exact(h.congr (τ:=drop1 (li s a b) σ) rfl rfl rfl).see _ _ _
 | @Zie a b p q=>exact(h.congr (τ:=drop1 (li s a b) σ) rfl rfl rfl).note _ _
 | Zic=>exact h.congr rfl rfl rfl
 | @Zfz a b p ha hb hl=>exact(h.congr (τ:=drop1 (li s a b) σ) rfl rfl rfl).learn (fun i hi=>h.le _ _ (ZcK hl) i hi) p
 | @Zid a b ha hb hl=>exact(h.congr (τ:=drop1 (li s a b) σ) rfl rfl rfl).wait (fun i hi=>h.le _ _ (ZcK hl) i hi)
 | @ring w i hw hpk=>
   have e:=Js s w i σ;refine⟨by rw [e.2.2.2.2.1,e.2.2.2.2.2.1];exact h.ma,by rw [e.2.2.2.2.2.1];exact h.le,fun m y hy j hj=>?_⟩;rw [e.2.2.2.2.2.1];rw [e.1] at hy;by_cases z:m=w
   ·subst z;rw [Zy] at hy;exact h.be _ y (ZdJ hy) j hj
   ·rw [ZT z] at hy;exact h.be _ y hy j hj
theorem ZtS (w:Nat):∀ (n:Nat) (σ:TS),∀ v,v ≠ w ->(U2 s w n σ).be v=σ.be v:=by
 intro n
 induction n with
 | zero=>intro σ v _;rfl
 | succ n ih=>
   intro σ v hv;rw [U2];split
   ·rfl
   ·rw [ih _ v hv,(Js _ _ _ _).1,ZT hv]
theorem ZnS (w:Nat):∀ (n:Nat) (σ:TS),(σ.be w).length <=n ->Jh s (U2 s w n σ).ld w ((U2 s w n σ).be w) ((U2 s w n σ).be w).length=none:=by
 intro n
 induction n with
 | zero=>intro σ h;show Jh s σ.ld w (σ.be w) (σ.be w).length=none;rw [List.length_eq_zero_iff.1 (Nat.le_zero.1 h)];rfl
 | succ n ih=>
   intro σ h;rw [U2];split
   ·rename_i e;exact e
   ·rename_i i e;refine ih _ ?_;rw [(Js _ _ _ _).1,Zy];have:=ZdK (Zdf _ _ e);omega
theorem ZnR:∀ k w,w < k ->Jh s (rings s k σ).ld w ((rings s k σ).be w) ((rings s k σ).be w).length=none:=by
 intro k
 induction k with
 | zero=>intro w hw;omega
 | succ k ih=>
   intro w hw;rw [rings];by_cases e:w=k
   ·subst e;exact ZnS _ _ _ (Nat.le_refl _)
   ·rw [ZtS _ _ _ w e,ZlP];exact ih w (by omega)
theorem ZlF (y:Z7):NoR s (stepW s y σ):=fun w hw=>ZnR (mm s) w hw
theorem Zux:∀ k,NoR s (Qu s l k).1:=by
 intro k
 induction k with
 | zero=>intro w _;rfl
 | succ k ih=>
   rw [Qu];by_cases c:Zfb s (l.getD k default) (Qu s l k).1
   ·rw [ZX c];exact ZlF _
   ·rw [ZR c];exact ih
theorem ZzP (h:NoR s σ):∀ r,NoR s (drK s picks σ r):=by
 intro r
 induction r with
 | zero=>exact h
 | succ r ih=>
   rw [drK];split
   ·exact ih
   ·exact ZlF _
theorem ZuA {ld:Nat ->Nat} {l:List Zd}:∀ k,0 < k ->(∀ j,j < k ->rdy s ld w (l.getD j default)) ->Jh s ld w l k ≠ none:=by
 intro k
 induction k with
 | zero=>intro h;omega
 | succ k ih=>
   intro _ hr;rw [Jh];by_cases c:rdy s ld w (l.getD k default)∧∀ j,Jh s ld w l k=some j ->ZcD s (l.getD j default) < ZcD s (l.getD k default)
   ·rw [ZX c];simp
   ·rw [ZR c];by_cases hk:k=0
    ·subst hk;exact absurd ⟨hr 0 (by omega),fun j hj=>by cases hj⟩ c
    ·exact ih (by omega) fun j hj=>hr j (by omega)
theorem ZpU (h:P2 s σ) (he:opens s σ= []) (hi:i < mm s * mm s):σ.ld i= (σ.sn i).length:=by
 have h1:=h.ld i;have h2:¬ i ∈ opens s σ:=by rw [he];simp
 rw [ZbW] at h2;have:¬ σ.ld i < (σ.sn i).length:=fun z=>h2 ⟨hi,z⟩
 omega
theorem ZpW (h2:P2 s σ) (hm:MB s σ) (hn:NoR s σ) (he:opens s σ= []) (hw:w < mm s):σ.be w= []:=by
 by_cases e:σ.be w= []
 ·exact e
 ·exfalso;refine ZuA (σ.be w).length (List.length_pos_iff.2 e) (fun j hj b hb hne=>?_) (hn w hw);have hi:=K6 hb hw;rw [ZpU h2 he hi];exact hm.be w _ (XP hj) _ hi
theorem ZpV (h2:P2 s σ) (he:opens s σ= []) (hi:i < mm s * mm s):fl σ i= []:=by
 unfold fl;rw [ZpU h2 he hi];simp
theorem Zxe (hS:Qm s) (h:Q6 s ts0 σ):Bal s σ∧MB s σ:=by
 have h0:=ok0 hS
 have hz:= (h.keep (P:=fun σ=>P1 s σ∧P2 s σ∧P3 s σ∧Bal s σ∧MB s σ) (fun _ _ ⟨a,b,c,d,e⟩ ac=>⟨a.act hS ac,b.act hS ac,c.act a ac,d.act hS a b c ac,e.act ac⟩)
  ⟨h0.p1,h0.p2,fun w _ x hx=>by simp [ts0] at hx,⟨fun p q _ _=>Nat.le_refl 0,fun p q _ _ _=>rfl,fun p q _ _ z=>absurd z (Nat.lt_irrefl 0),fun p q _ _ _=>rfl⟩,⟨fun p i _=>by show(0:Int) <=0;omega,fun j x hx=>by simp [ts0] at hx,fun m x hx=>by simp [ts0] at hx⟩⟩)
 exact hz.2.2.2
theorem ZtT (hS:Qm s) (h2:P2 s σ) (hm:MB s σ) (hn:NoR s σ) (he:opens s σ= []) (hB:Bal s σ) (hp:p < nn s) (hq:q < nn s):
 ec σ 4 p q <=ec σ 3 p q∧(0 < ec σ 4 p q ->σ.st q=3)∧(σ.st p=1 ->σ.st q=3 ->ec σ 4 p q=ec σ 3 p q):=by
 have a0:asks s σ p q=0:=by unfold asks;rw [ZpV h2 he (K6 (hS.pl hp).2 (hS.pl hq).2)];rfl
 have b0:bb s σ p q=0:=by unfold bb;rw [ZpV h2 he (K6 (hS.pl hq).2 (hS.pl hp).2),ZpW h2 hm hn he (hS.pl hp).2];rfl
 have l1:=hB.le p q hp hq;refine⟨by omega,fun z=>hB.dead p q hp hq (by omega),fun z1 z3=>?_⟩;have l2:=hB.eq p q hp hq z1;have l3:=hB.wz p q hp hq z3;omega
theorem Zjx (hF:100000 <=F) {l:List Zp} (hl:l.length <=9000) (d p o:Int):ZoV F l d p o=some ((c3 l d p o:Nat):Int):=by
 unfold ZoV c3;refine XD (fun k=>((((l.take k).countP (fun x=>((x.kZ==d) && (x.kV==p)) && (x.kX==o)):Nat):Int),(k:Int))) rfl (n:=l.length) (by omega) (fun k hk next=>?_) (fun next=>?_)
 ·have hc:=List.countP_le_length (p:=fun x:Zp=>((x.kZ==d) && (x.kV==p)) && (x.kX==o)) (l:=l.take k);rw [List.length_take] at hc;unfold ZkJ;dsimp only;rw [YT hk,Cq1,QD default hk,ZzS hk];simp only [Bq0];unfold Zhp;cases h:((((l.getD k default).kZ==d) && ((l.getD k default).kV==p)) && ((l.getD k default).kX==o)) with
  | true=>rw [Cq1,if_pos rfl,Qo (by omega),Qo (by omega)]
  | false=>rw [Cq0,if_neg (by decide),Qo (by omega)];rfl
 ·unfold ZkJ;dsimp only;rw [Y2,Cq0,List.take_length]
end
theorem Zlm (s:Zc) (l:List Z7) (picks:List Int) (hpl:picks.length <=9223372036854775807):f8L (1000000 + picks.length) s l picks=some true:=by
 obtain⟨F,eF⟩:∃ F,F=1000000 + picks.length:= ⟨_,rfl⟩
 have hF:1000000 <=F:=by omega
 rw [← eF];unfold f8L;obtain⟨g,hg,hgt⟩:=Zv3 (s:=s) (l:=l) hF (pp:= [picks]) (by simp) (fun x hx=>by rw [List.mem_singleton.1 hx];exact⟨by omega,hpl⟩);rw [hg];simp only [Bq0];cases g with
 | false=>rfl
 | true=>
 have hG:=hgt rfl picks (by simp);have hS:=hG.1;have h8:nn s <=8:=hS.p2;have h4:=hS.mm.2.2;obtain⟨n,hn,he,ok,ac,ac2,e2,hdr⟩:=Zo1 hF hG;rw [hdr];simp only [Bool.not_true,Cq0,Bq0];obtain⟨σ,hσ⟩:∃ σ,σ=Ww s l picks n:= ⟨_,rfl⟩
 have ZJK:NoR s σ:=by rw [hσ];exact ZzP (Zux _) _
 rw [← hσ] at he ok ac ac2 e2 ⊢;obtain⟨hB,hM⟩:=Zxe hS ac;have hev:σ.ev.length <=9000:=by have:=ok.gd.wf.pot;unfold Pot at this;omega
 refine XD (fun k=>(k:Int)) rfl (n:=mm s) (by omega) (fun k hk next=>?_) (fun next=>?_)
 ·unfold ZqM;dsimp only;rw [show(vw s σ).Zt=tab (mm s) σ.be from rfl,XU,YT hk,Cq1,Yq hk];simp only [Bq0];rw [ZpW ok.p2 hM ZJK he hk,show decide (((([]:List Zd).length:Nat):Int) > 0)=false from rfl,Cq0,Qo (by omega)]
 unfold ZqM;dsimp only;rw [show(vw s σ).Zt=tab (mm s) σ.be from rfl,XU,Y2,Cq0];refine XD (fun k=>(k:Int)) rfl (n:=nn s) (by omega) (fun p hp next=>?_) (fun next=>?_)
 ·unfold ZqL;rw [show((s.Ze.length:Nat):Int)= ((nn s:Nat):Int) from rfl,YT hp,Cq1];refine XD (fun k=>(k:Int)) rfl (n:=nn s) (by omega) (fun q hq nx=>?_) (fun nx=>?_)
  ·unfold ZqK;dsimp only;rw [show((s.Ze.length:Nat):Int)= ((nn s:Nat):Int) from rfl,YT hq,Cq1,Zjx (by omega) hev,Zjx (by omega) hev];simp only [Bq0];rw [show(vw s σ).qV=tab (nn s) σ.st from rfl,Yq hq];simp only [Bq0];obtain⟨r1,r2,r3⟩:=ZtT hS ok.p2 hM ZJK he hB hp hq;unfold ec at r1 r2 r3
   have c1:(decide (((c3 σ.ev 4 p q:Nat):Int) > ((c3 σ.ev 3 p q:Nat):Int)) || (decide (((c3 σ.ev 4 p q:Nat):Int) > 0) && (!(σ.st q==3))))=false:=by
    rw [decide_eq_false (by omega),Bool.false_or];by_cases z:0 < c3 σ.ev 4 p q
    ·rw [r2 z];simp
    ·rw [decide_eq_false (by omega),Bool.false_and]
   rw [c1];simp only [Bool.not_false,UR,Bool.false_or];rw [Yq hp];simp only [Bq0]
   have c2:(((σ.st p==1) && (σ.st q==3)) && (((c3 σ.ev 4 p q:Nat):Int) != ((c3 σ.ev 3 p q:Nat):Int)))=false:=by
    by_cases z1:σ.st p=1
    ·by_cases z3:σ.st q=3
     ·rw [r3 z1 z3];simp
     ·rw [show(σ.st q==3)=false from beq_eq_false_iff_ne.2 z3];simp
    ·rw [show(σ.st p==1)=false from beq_eq_false_iff_ne.2 z1];simp
   rw [c2,Cq0,Qo (by omega)]
  ·unfold ZqK;dsimp only;rw [show((s.Ze.length:Nat):Int)= ((nn s:Nat):Int) from rfl,Y2,Cq0,Qo (by omega)]
 ·unfold ZqL;rw [show((s.Ze.length:Nat):Int)= ((nn s:Nat):Int) from rfl,Y2,Cq0];rfl
end
end Go.Proofs.YtcnahmgekicbdaaGreat
end
