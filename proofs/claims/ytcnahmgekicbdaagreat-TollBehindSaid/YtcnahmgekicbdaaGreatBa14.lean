/- Part 14. -/
import Derived.Test.YtcnahmgekicbdaaGreatBa13
set_option linter.all false
set_option maxHeartbeats 2000000
section
namespace Go.Proofs.YtcnahmgekicbdaaGreat
open Go.Lf
section
def arK (s:Zc) (p:Nat) (k:Nat):List Int:= (List.range k).map fun j=>up s (j + 1) (p:Int)
theorem ZnL (s:Zc) (p k:Nat):arK s p (k + 1)=arK s p k ++ [up s (k + 1) (p:Int)]:=by
 unfold arK;rw [List.range_succ,List.map_append];rfl
theorem ZlN (s:Zc) (p k:Nat):(arK s p k).length=k:=by unfold arK;rw [List.length_map,List.length_range]
section
variable {F:Nat} {s:Zc}
theorem Zjv (s:Zc) (p:Int):(decide (p >=0) && decide (p < (s.Ze.length:Int)))=true↔∃ k:Nat,p= (k:Int)∧k < s.Ze.length:=by
 rw [Ba0,decide_eq_true_eq,decide_eq_true_eq]
 constructor
 ·rintro⟨a,b⟩;exact⟨p.toNat,by omega,by omega⟩
 ·rintro⟨k,rfl,h⟩;omega
theorem Zgi {k:Nat} (h:k < s.Ze.length):(decide ((k:Int) >=0) && decide ((k:Int) < (s.Ze.length:Int)))=true:= (Zjv s k).2 ⟨k,rfl,h⟩
theorem up1 {p:Nat}:up s (0 + 1) (p:Int)=inn s (p:Int):=by
 rw [Jk];show(if((p:Int)) < 0 then _ else _)=_;rw [if_neg (by omega)];rfl
theorem around (hF:1000 <=F) (hS:X0 s) {p:Nat} (hp:p < s.Ze.length):
 ∃ L,Zxe F s (p:Int)=some L∧ZL3 F s (p:Int)=some (L,0)∧L.length <=8∧∀ q:Nat,((q:Int) ∈ L↔∃ j,up s (j + 1) (p:Int)= (q:Int)):=by
 obtain⟨m,hm,hs,hlt⟩:=Kv (c:=fun k=>up s (k + 1) (p:Int) < 0) (n:=s.Ze.length) (Jt (hS.inn.acy p hp) (by omega));have h8:=hS.p2;refine⟨arK s p m,?_,?_,by rw [ZlN];omega,fun q=>?_⟩
 ·unfold Zxe;rw [XE hp];simp only [Bq0];rw [QR];refine XI (fun k=>(arK s p k,up s (k + 1) (p:Int))) (by show(arK s p 0,up s (0 + 1) (p:Int))=_;rw [up1];rfl) (n:=m) (by omega) (fun k hk next=>?_) (fun next=>?_)
  ·have h2:=hlt k hk;obtain⟨j,e,hj⟩:=KO (hS.inn.up (q:= (p:Int)) ⟨by omega,by omega⟩ (k + 1)) h2;unfold Zlh;dsimp only;rw [Jk s (k + 1),if_neg h2,ZnL,e,ZaO,Cq1,ZsW (by rw [ZlN,List.length_singleton];omega),XE hj];simp only [Bq0];rw [QR]
  ·unfold Zlh;dsimp only;rw [decide_eq_false (by omega),Cq0]
 ·unfold ZL3 Zh0;rw [Zij hF,Z6 hS,XE hp,Zgi hp];simp only [Bq0,ZdS,Bool.not_false,U5,Bool.not_true,Bool.or_false,Cq0];rw [QR];refine XI (fun k=>(up s (k + 1) (p:Int),arK s p k)) (by show(up s (0 + 1) (p:Int),arK s p 0)=_;rw [up1];rfl) (n:=m) (by omega) (fun k hk next=>?_) (fun next=>?_)
  ·have h2:=hlt k hk;obtain⟨j,e,hj⟩:=KO (hS.inn.up (q:= (p:Int)) ⟨by omega,by omega⟩ (k + 1)) h2;unfold Zpk;dsimp only;rw [Jk s (k + 1),if_neg h2,ZnL,e,ZaO,Cq1,ZsW (by rw [ZlN,List.length_singleton];omega),XE hj];simp only [Bq0,Bool.not_true,Cq0];rw [QR]
  ·unfold Zpk;dsimp only;rw [decide_eq_false (by omega),Cq0];rfl
 ·unfold arK;rw [List.mem_map]
  constructor
  ·rintro⟨j,_,e⟩;exact⟨j,e⟩
  ·rintro⟨j,e⟩;refine⟨j,List.mem_range.2 (Classical.byContradiction fun z=>?_),e⟩;have:=Jt hs (show m + 1 <=j + 1 by omega);omega
theorem lies (hF:1000 <=F) (hS:X0 s) {p:Nat} (hp:p < s.Ze.length) (q:Nat):ZsC F s (p:Int) (q:Int)=some (ZeC s q p):=by
 obtain⟨L,e1,_,hl,hm⟩:=around hF hS hp
 have hW:Wth s q p↔p=q∨(q:Int) ∈ L:=by
  rw [hm]
  constructor
  ·rintro⟨j,e⟩;cases j with
   | zero=>left;have:(p:Int)= (q:Int):=e;omega
   | succ j=>exact .inr ⟨j,e⟩
  ·rintro(rfl | ⟨j,e⟩)
   ·exact⟨0,rfl⟩
   ·exact⟨j + 1,e⟩
 unfold ZsC;by_cases h:p=q
 ·subst h;rw [beq_self_eq_true,Cq1,(ZgH hS.inn hp).2 ⟨0,rfl⟩]
 ·rw [Y4,decide_eq_false (by omega),Cq0,e1];simp only [Bq0];rw [show(0:Int)= ((0:Nat):Int) from rfl]
  rw [Zvx (fun k=>(k:Int)) (fun k=>L.getD k 0== (q:Int)) (r1:=some true) (r2:=some false) (n:=L.length) (by omega) (fun k hk next=>by
   unfold Zli;rw [Y0 hk,Cq1,Qx 0 hk];simp only [Bq0];rw [Qt (by omega)]) (fun next=>by
   unfold Zli;rw [Y9,Cq0])]
  rw [Zi7 L (fun x=>x== (q:Int)) 0]
  have:L.any (fun x=>x== (q:Int))=ZeC s q p:=by
   rw [Bool.eq_iff_iff,ZgH hS.inn hp,hW,List.any_eq_true]
   constructor
   ·rintro⟨x,h1,h2⟩;right;rwa [← beq_iff_eq.1 h2]
   ·rintro(h1 | h1)
    ·exact absurd h1 h
    ·exact⟨_,h1,beq_self_eq_true _⟩
  rw [this];cases ZeC s q p <;> rfl
end
end
section
def Pl (w:Zc) (p:Int):Prop:=∃ k:Nat,p= (k:Int)∧k < w.Ze.length
structure Told (w:Zc) (e:Zk):Prop where
 pl:Pl w e.kV
 n0:0 <=e.n
 dd:((e.kZ=1∨e.kZ=2)∧Pl w e.kX)∨((e.kZ=3∨e.kZ=4)∧Pl w e.kX∧e.n=0)∨((e.kZ=5∨e.kZ=6)∧e.kX=0∧e.n=0)
section
variable {F:Nat} {w:Zc} {d p o n:Int}
def c3 (l:List Zk) (d p o:Int):Nat:=l.countP fun x=>((x.kZ==d) && (x.kV==p)) && (x.kX==o)
end
end
section
def k1 (l:List Zk) (e:Zk):Nat:=l.countP fun x=>((x.kZ==1) && (x.n==e.n)) && ((e.kZ==1) || ((x.kV==e.kX) && (x.kX==e.kV)))
def k2 (l:List Zk) (e:Zk):Nat:=l.countP fun x=>(x.kZ==2) && (x.n==e.n)
def ZqQ (w:Zc) (l:List Zk) (p:Int):Bool:= (List.range w.Ze.length).any fun q:Nat=>(inn w (q:Int)==p) && decide (c3 l 6 (q:Int) 0=0)
def atW (w:Zc) (p:Int):Int:= (w.Ze.getD p.toNat default).at_
def Zmk (w:Zc) (l:List Zk) (e:Zk):Bool:=l.any fun x=>((x.kZ==4) && (atW w x.kV==atW w e.kV)) && ZeC w x.kX.toNat e.kX.toNat
def UB (w:Zc) (l:List Zk) (e:Zk):Int:=
 bif(e.kZ !=6) && decide (c3 l 5 e.kV 0 > 0) then 1
 else bif e.kZ==1 then(bif decide (k1 l e > 0) then 2 else 0)
 else bif e.kZ==2 then(bif decide (k1 l e=0) || decide (k2 l e > 0) then 2 else bif Zmk w l e then 5 else 0)
 else bif e.kZ==6 then(bif(decide (c3 l 5 e.kV 0=0) || decide (c3 l 6 e.kV 0 > 0)) || ZqQ w l e.kV then 3 else 0)
 else bif e.kZ==4 then(bif decide (c3 l 6 e.kX 0=0) || decide (c3 l 4 e.kV e.kX >=c3 l 3 e.kV e.kX) then 4 else 0)
 else 0
section
variable {F:Nat} {w:Zc}
end
end
section
section
variable {F:Nat} {w:Zc}
end
end
section
def tab {α:Type} (n:Nat) (f:Nat ->α):List α:= (List.range n).map f
def Z5 {α:Type} (f:Nat ->α) (k:Nat) (v:α):Nat ->α:=fun j=>if j=k then v else f j
theorem Zt {α:Type} (f:Nat ->α) (k:Nat) (v:α):Z5 f k v k=v:=if_pos rfl
theorem ZC {α:Type} {f:Nat ->α} {k j:Nat} {v:α} (h:j ≠ k):Z5 f k v j=f j:=if_neg h
theorem Zsm {α:Type} (f:Nat ->α) (k:Nat) (v w:α):Z5 (Z5 f k v) k w=Z5 f k w:=by funext j;unfold Z5;by_cases h:j=k <;> simp [h]
section
variable {α:Type} {n k:Nat} {f g:Nat ->α} {v:α}
theorem Qg:(tab n f).length=n:=by simp [tab]
theorem Zgg (h:k < n):(tab n f)[k]? =some (f k):=by simp [tab,h]
theorem Yu (h:k < n):ZK (tab n f) (k:Int)=some (f k):=by rw [Zd2,Zgg h]
theorem Qn:YP (tab n f) (k:Int) v=tab n (Z5 f k v):=by
 unfold YP;apply List.ext_getElem?;intro j;rw [Int.toNat_natCast,List.getElem?_set,Qg];by_cases hj:j < n
 ·rw [Zgg hj,Zgg hj];unfold Z5;by_cases e:k=j
  ·subst e;simp [hj]
  ·rw [if_neg e,if_neg (fun q=>e q.symm)]
 ·rw [List.getElem?_eq_none (by rw [Qg];omega),List.getElem?_eq_none (by rw [Qg];omega)];by_cases e:k=j
  ·subst e;simp [hj]
  ·rw [if_neg e]
theorem UU (h:∀ k,k < n ->f k=g k):tab n f=tab n g:=by
 unfold tab;exact List.map_congr_left fun k hk=>h k (List.mem_range.1 hk)
theorem ZgK:tab (n + 1) f=tab n f ++ [f n]:=by simp [tab,List.range_succ]
end
theorem ZyR {α:Type} (n:Nat) (x:α):List.replicate n x=tab n fun _=>x:=by
 apply List.ext_getElem?;intro j;by_cases hj:j < n
 ·rw [Zgg hj,List.getElem?_replicate,if_pos hj]
 ·rw [List.getElem?_eq_none (by simp;omega),List.getElem?_eq_none (by rw [Qg];omega)]
structure TS where
 st:Nat ->Int
 ma:Nat ->Nat ->Int
 kn:Nat ->List Int
 wa:Nat ->List Int
 be:Nat ->List Zd
 sn:Nat ->List Zd
 ld:Nat ->Nat
 sd:Int
 ev:List Zk
section
variable (s:Zc)
def nn:Nat:=s.Ze.length
def mm:Nat:=s.qG.toNat
def pl (p:Nat):Nat:= (spt s p).at_.toNat
def li (a b:Nat):Nat:=a * mm s + b
def KH (σ:TS) (i:Nat):Zl:= ⟨(σ.ld i:Int),(σ.sn i).drop (σ.ld i)⟩
def vw (σ:TS):Zh:= ⟨tab (nn s) σ.st,tab (nn s) fun p=>tab (mm s * mm s) (σ.ma p),tab (nn s) σ.kn,tab (nn s) σ.wa,tab (mm s) σ.be,tab (mm s * mm s) (KH σ),σ.sd⟩
def hal (σ:TS):ZB:= ⟨vw s σ,s,σ.ev⟩
def tell (d p q n:Int) (σ:TS):TS:= {σ with ev:=σ.ev ++ [⟨d,p,q,n⟩]}
def send (a b:Nat) (x:Zd) (σ:TS):TS:= {σ with sn:=Z5 σ.sn (li s a b) (σ.sn (li s a b) ++ [x])}
def wait (m:Nat) (x:Zd) (σ:TS):TS:= {σ with be:=Z5 σ.be m (σ.be m ++ [x])}
def Wx (σ:TS) (p:Nat):List Int:=tab (mm s * mm s) (σ.ma p)
def Y7 (p q:Nat) (σ:TS):TS:=if pl s p=pl s q then wait (pl s p) ⟨5,p,q,0,Wx s σ q⟩ σ else send s (pl s q) (pl s p) ⟨5,p,q,0,Wx s σ q⟩ σ
def see (p q:Nat) (n:Int) (σ:TS):TS:=if σ.st p=1 then tell 2 p q n σ else σ
def note (p q:Nat) (σ:TS):TS:=if σ.st q=3 then Y7 s p q σ else{σ with wa:=Z5 σ.wa q (σ.wa q ++ [(p:Int)])}
structure Few (B:Nat) (σ:TS):Prop where
 ev:σ.ev.length <=B
 sn:∀ i,i < mm s * mm s ->(σ.sn i).length <=B
 be:∀ m,m < mm s ->(σ.be m).length <=B
 wa:∀ q,q < nn s ->(σ.wa q).length <=B
 ld:∀ i,i < mm s * mm s ->σ.ld i <= (σ.sn i).length
 ws:∀ q,q < nn s ->∀ x ∈ σ.wa q,∃ k:Nat,x= (k:Int)∧k < nn s
end
section
variable {s:Zc} {σ:TS} {a b p q k B:Nat}
theorem X0.mm (h:X0 s):s.qG= (Proofs.YtcnahmgekicbdaaGreat.mm s:Int)∧1 <=Proofs.YtcnahmgekicbdaaGreat.mm s∧Proofs.YtcnahmgekicbdaaGreat.mm s <=4:=by
 have:=h.m1;have:=h.m2;unfold Proofs.YtcnahmgekicbdaaGreat.mm;omega
theorem X0.pl (h:X0 s) (hp:p < nn s):(spt s p).at_= (Proofs.YtcnahmgekicbdaaGreat.pl s p:Int)∧Proofs.YtcnahmgekicbdaaGreat.pl s p < Proofs.YtcnahmgekicbdaaGreat.mm s:=by
 have:=h.at_ p hp;have:=h.mm.1;unfold Proofs.YtcnahmgekicbdaaGreat.pl;omega
theorem Wy (ha:a < mm s) (hb:b < mm s):li s a b < mm s * mm s:=by
 unfold li;have:(a + 1) * mm s <=mm s * mm s:=Nat.mul_le_mul_right _ ha;rw [Nat.add_mul,Nat.one_mul] at this;omega
theorem ZbH (hS:X0 s) (ha:a < mm s) (hb:b < mm s):Yz (Yz ((a:Int) * s.qG) + (b:Int))= ((li s a b:Nat):Int):=by
 obtain⟨e,h1,h4⟩:=hS.mm;have hl:=Wy ha hb;have h16:mm s * mm s <=16:=Nat.mul_le_mul h4 h4;have hm:a * mm s <=li s a b:=by unfold li;omega
 rw [e];have e1:(a:Int) * ((mm s:Nat):Int)= ((a * mm s:Nat):Int):=by rw [Int.natCast_mul]
 have e3:Yz ((a * mm s:Nat):Int)= ((a * mm s:Nat):Int):=KX (by omega) (by omega);have e2:((a * mm s:Nat):Int) + (b:Int)= ((li s a b:Nat):Int):=by unfold li;omega
 rw [e1,e3,e2];exact KX (by omega) (by omega)
theorem UI (hS:X0 s) (hp:p < nn s):Wt (hal s σ) (p:Int)=some (pl s p:Int):=by
 unfold Wt;show(ZK s.Ze (p:Int)).bind _=_;rw [XE hp];simp only [Bq0];rw [(hS.pl hp).1]
theorem WY (h:Few s 800000 σ) (d p q n:Int):ZiR (hal s σ) d p q n=some (hal s (tell d p q n σ)):=by
 unfold ZiR;show(app 32 σ.ev _).bind _=_;rw [app1 (by have:=h.ev;omega) (by decide)];rfl
theorem Zvy (h:Few s B σ) (ha:a < mm s) (hb:b < mm s) (x:Zd):tab (mm s * mm s) (Z5 (KH σ) (li s a b) ⟨(σ.ld (li s a b):Int),(σ.sn (li s a b)).drop (σ.ld (li s a b)) ++ [x]⟩)=tab (mm s * mm s) (KH (send s a b x σ)):=by
 refine UU fun k hk=>?_
 by_cases e:k=li s a b
 ·subst e;rw [Zt];show _= (⟨_,(Z5 σ.sn (li s a b) _ (li s a b)).drop _⟩:Zl);rw [Zt];show _= (⟨_,(σ.sn (li s a b) ++ [x]).drop (σ.ld (li s a b))⟩:Zl);rw [List.drop_append_of_le_length (h.ld _ hk)];rfl
 ·rw [ZC e];show _= (⟨_,(Z5 σ.sn (li s a b) _ k).drop _⟩:Zl);rw [ZC e];rfl
theorem Zag (hS:X0 s) (h:Few s 800000 σ) (ha:a < mm s) (hb:b < mm s) (x:Zd):Zk5 (hal s σ) (a:Int) (b:Int) x=some (hal s (send s a b x σ)):=by
 unfold Zk5;show(ZK (tab (mm s * mm s) (KH σ)) (Yz (Yz ((a:Int) * s.qG) + (b:Int)))).bind _=_;have hl:=Wy ha hb;rw [ZbH hS ha hb,Yu hl];simp only [Bq0];have:((KH σ (li s a b)).kG).length <=900000:=by have:=h.sn _ hl;unfold KH;simp;omega
 rw [app1 this (by decide)];simp only [Bq0];show some (ZB.mk (Zh.mk _ _ _ _ _ (YP (tab (mm s * mm s) (KH σ)) (Yz (Yz ((a:Int) * s.qG) + (b:Int))) _) _) _ _)=_;rw [ZbH hS ha hb,Qn,show(KH σ (li s a b)).ZM= (σ.ld (li s a b):Int) from rfl,show(KH σ (li s a b)).kG= (σ.sn (li s a b)).drop (σ.ld (li s a b)) from rfl,Zvy h ha hb x];rfl
theorem Zjd (h:Few s 800000 σ) (ha:a < mm s) (x:Zd):ZjR (hal s σ) (a:Int) x=some (hal s (wait a x σ)):=by
 unfold ZjR;show(ZK (tab (mm s) σ.be) (a:Int)).bind _=_;rw [Yu ha];simp only [Bq0];rw [app1 (by have:=h.be a ha;omega) (by decide)];simp only [Bq0];show(ZK (tab (mm s) σ.be) (a:Int)).bind (fun _=>some (ZB.mk (Zh.mk _ _ _ _ (YP (tab (mm s) σ.be) (a:Int) _) _ _) _ _))=_;rw [Yu ha,Qn];rfl
theorem ZmH (hS:X0 s) (hq:q < nn s):app 8 ([]:List Int) (Wx s σ q)=some (Wx s σ q):=by
 have:(Wx s σ q).length <=16:=by unfold Wx;rw [Qg];exact Nat.mul_le_mul hS.mm.2.2 hS.mm.2.2
 rw [ZsW (by simp;omega)];rfl
theorem Zee (a b:Nat):(((a:Int))== ((b:Int)))=decide (a=b):=by
 rw [Y4];by_cases h:a=b
 ·subst h;simp
 ·rw [decide_eq_false h,decide_eq_false (by omega)]
theorem Zj0 (hS:X0 s) (h:Few s 800000 σ) (hp:p < nn s) (hq:q < nn s):Zsx (hal s σ) (p:Int) (q:Int)=some (hal s (Y7 s p q σ)):=by
 unfold Zsx ZfR;show(ZK (tab (nn s) fun p=>tab (mm s * mm s) (σ.ma p)) (q:Int)).bind _=_;rw [Yu hq];simp only [Bq0];rw [show app 8 ([]:List Int) (tab (mm s * mm s) (σ.ma q))=some (Wx s σ q) from ZmH hS hq];simp only [Bq0];rw [UI hS hp,UI hS hq];simp only [Bq0];rw [Zee];unfold Y7;by_cases e:pl s p=pl s q
 ·rw [decide_eq_true e,Cq1,if_pos e,Zjd h (hS.pl hp).2];rfl
 ·rw [decide_eq_false e,Cq0,if_neg e,Zag hS h (hS.pl hq).2 (hS.pl hp).2];rfl
theorem Zmj (h:Few s 800000 σ) {x:Zd} (hx:x.kX= (p:Int)) (hp:p < nn s):Zsz (hal s σ) x=some (hal s (if σ.st p=1 then tell 2 p x.kV x.n σ else σ)):=by
 unfold Zsz;rw [hx];show(ZK (tab (nn s) σ.st) (p:Int)).bind _=_;rw [Yu hp];simp only [Bq0];rw [Y4];by_cases e:σ.st p=1
 ·rw [decide_eq_true e,Cq1,if_pos e,WY h];rfl
 ·rw [decide_eq_false e,Cq0,if_neg e]
theorem Zjz (hS:X0 s) (h:Few s 800000 σ) {x:Zd} (hx:x.kV= (p:Int)) (hy:x.kX= (q:Int)) (hp:p < nn s) (hq:q < nn s):Zsy (hal s σ) x=some (hal s (note s p q σ)):=by
 unfold Zsy;rw [hx,hy];show(ZK (tab (nn s) σ.st) (q:Int)).bind _=_;rw [Yu hq];simp only [Bq0];unfold note;rw [Y4];by_cases e:σ.st q=3
 ·rw [decide_eq_true e,Cq1,if_pos e,Zj0 hS h hp hq];rfl
 ·rw [decide_eq_false e,Cq0,if_neg e];show(ZK (tab (nn s) σ.wa) (q:Int)).bind _=_;rw [Yu hq];simp only [Bq0];rw [app1 (by have:=h.wa _ hq;omega) (by decide)];simp only [Bq0];show(ZK (tab (nn s) σ.wa) (q:Int)).bind (fun _=>some (ZB.mk (Zh.mk _ _ _ (YP (tab (nn s) σ.wa) (q:Int) _) _ _ _) _ _))=_;rw [Yu hq,Qn];rfl
end
end
section
def Alo (s:Zc) (σ:TS) (p:Nat):Prop:=∀ k:Nat,k < nn s ->inn s (k:Int)= (p:Int) ->(k:Int) ∈ σ.kn p
def ins (k:Int) (l:List Int):List Int:=l.takeWhile (fun x=>decide (x < k)) ++ k::l.dropWhile (fun x=>decide (x < k))
def mx (f:Nat ->Int) (l:List Int) (i:Nat):Int:=if l.getD i 0 > f i then l.getD i 0 else f i
theorem ZAU:∀ (l:List Int) (a b:Int),l.Pairwise (· < ·) ->(∀ x ∈ l,a <=x∧x < b) ->(l.length:Int) <=max 0 (b - a):=by
 intro l
 induction l with
 | nil=>intro a b _ _;simp;omega
 | cons x xs ih=>
   intro a b h1 h2;obtain⟨p1,p2⟩:=List.pairwise_cons.1 h1;have:=ih (x + 1) b p2 fun y hy=>⟨by have:=p1 y hy;omega,(h2 y (by simp [hy])).2⟩
   have:=h2 x (by simp);rw [List.length_cons];omega
section
variable {s:Zc} {σ:TS} {F p k q:Nat}
theorem ZvJ {l:List Int} (hF:1000 <=F) (hl:l.length <=500) (x:Int):∃ r,Znc F l x=some r∧(r >=0↔x ∈ l):=by
 unfold Znc;by_cases hz:∃ j,j < l.length∧l.getD j 0=x
 ·obtain⟨j,hj⟩:=hz;obtain⟨m,_,⟨hm,hx⟩,hlt⟩:=Kv (c:=fun j=>j < l.length∧l.getD j 0=x) hj;refine⟨(m:Int),XI (fun k=>(k:Int)) rfl (n:=m) (by omega) (fun k hk next=>?_) (fun next=>?_),?_⟩
  ·unfold Zcr;rw [Y0 (show k < l.length by omega),Cq1,Qx 0 (show k < l.length by omega)];simp only [Bq0];rw [Y4,decide_eq_false (fun e=>hlt k hk ⟨by omega,e.symm⟩),Cq0,Qt (by omega)]
  ·unfold Zcr;rw [Y0 hm,Cq1,Qx 0 hm];simp only [Bq0];rw [Y4,decide_eq_true hx.symm,Cq1]
  ·exact⟨fun _=>by rw [← hx];exact XG hm,fun _=>by omega⟩
 ·refine⟨-1,XI (fun k=>(k:Int)) rfl (n:=l.length) (by omega) (fun k hk next=>?_) (fun next=>?_),?_⟩
  ·unfold Zcr;rw [Y0 hk,Cq1,Qx 0 hk];simp only [Bq0];rw [Y4,decide_eq_false (fun e=>hz ⟨k,hk,e.symm⟩),Cq0,Qt (by omega)]
  ·unfold Zcr;rw [Y9,Cq0]
  ·refine⟨fun h=>by omega,fun h=>?_⟩;obtain⟨j,hj,e⟩:=List.getElem_of_mem h;exact absurd ⟨j,hj,by rw [ZhM hj];exact e⟩ hz
theorem contains_eq {l:List Int} (hF:1000 <=F) (hl:l.length <=500) (x:Int):Zsw F l x=some (decide (x ∈ l)):=by
 obtain⟨r,h1,h2⟩:=ZvJ (F:=F) hF hl x;unfold Zsw;rw [h1];simp only [Bq0];congr 1;by_cases h:x ∈ l
 ·rw [decide_eq_true h,decide_eq_true (h2.2 h)]
 ·rw [decide_eq_false h,decide_eq_false fun q=>h (h2.1 q)]
theorem Zdt (hF:1000 <=F) (hS:X0 s) (hp:p < nn s) (hl:(σ.kn p).length <=500):Zna F (hal s σ) (p:Int)=ifc (Alo s σ p) (some true) (some false):=by
 unfold Zna Zk4;simp only [Bq0];have h8:=hS.p2
 have e:=KR (body:=ZhW F (hal s σ) (p:Int)) (r1:=some false) (r2:=some true) (s0:= ((0:Int),false)) (fun k=>((k:Int),false)) rfl (fun k:Nat=>inn s (k:Int)= (p:Int) ->(k:Int) ∈ σ.kn p) (n:=nn s) (F:=F) (by unfold nn;omega) (fun k hk next=>by
  unfold ZhW;dsimp only;rw [show(hal s σ).qK.Ze=s.Ze from rfl,show((s.Ze.length:Nat):Int)= ((nn s:Nat):Int) from rfl,Y0 hk,Cq1,XE hk];simp only [Bq0];rw [QR,Y4];by_cases e:inn s (k:Int)= (p:Int)
  ·rw [decide_eq_true e,Cq1,Cq0];show(ZK (tab (nn s) σ.kn) (p:Int)).bind _=_;rw [Yu hp];simp only [Bq0];rw [contains_eq hF hl];simp only [Bq0,Bool.not_false,Bool.not_true,Cq1,Cq0];by_cases m:(k:Int) ∈ σ.kn p
   ·rw [decide_eq_true m,Bool.not_true,Cq0,Z6 (fun _=>m),Qt (by unfold nn at hk;omega)]
   ·rw [decide_eq_false m,Bool.not_false,Cq1,ZU (fun z=>m (z e))];rfl
  ·rw [decide_eq_false e,Cq0,Z6 (fun z=>absurd z e),Qt (by unfold nn at hk;omega)]) (fun next=>by
  unfold ZhW;dsimp only;rw [show(hal s σ).qK.Ze=s.Ze from rfl,show((s.Ze.length:Nat):Int)= ((nn s:Nat):Int) from rfl,Y9,Cq0]
  rfl)
 rw [e];rfl
def ZEW (s:Zc) (p:Nat):List Nat:= (List.range (nn s)).filter fun q:Nat=>inn s (q:Int)== (p:Int)
theorem ZvE:k ∈ ZEW s p↔k < nn s∧inn s (k:Int)= (p:Int):=by unfold ZEW;simp
end
theorem Zje {l:List Int} {k:Int}:(l.takeWhile fun x=>decide (x < k)).length <=l.length:=by
 induction l with
 | nil=>simp
 | cons x xs ih=>
   rw [List.takeWhile_cons];by_cases h:x < k <;> simp [h];omega
theorem ZIx {l:List Int} {k:Int}:∀ j,j < (l.takeWhile fun x=>decide (x < k)).length ->l.getD j 0 < k:=by
 induction l with
 | nil=>intro j hj;simp at hj
 | cons x xs ih=>
   intro j hj;rw [List.takeWhile_cons] at hj;by_cases h:x < k
   ·rw [decide_eq_true h,if_pos rfl,List.length_cons] at hj;cases j with
    | zero=>simpa using h
    | succ j=>have:=ih j (by omega);simpa using this
   ·rw [decide_eq_false h] at hj;simp at hj
theorem ZIy {l:List Int} {k:Int} (hs:l.Pairwise (· < ·)):∀ j,(l.takeWhile fun x=>decide (x < k)).length <=j ->j < l.length ->k <=l.getD j 0:=by
 induction l with
 | nil=>intro j _ hj;simp at hj
 | cons x xs ih=>
   intro j h1 h2;obtain⟨p1,p2⟩:=List.pairwise_cons.1 hs;rw [List.takeWhile_cons] at h1;by_cases h:x < k
   ·rw [decide_eq_true h,if_pos rfl,List.length_cons] at h1;cases j with
    | zero=>omega
    | succ j=>have:=ih p2 j (by omega) (by simpa using h2);simpa using this
   ·cases j with
    | zero=>simpa using h
    | succ j=>
      have hj:j < xs.length:=by simpa using h2
      have:=p1 _ (XG (d:=0) hj);simp only [List.getD_cons_succ];omega
theorem Zmb {l:List Int} {k:Int}:l.take (l.takeWhile fun x=>decide (x < k)).length=l.takeWhile (fun x=>decide (x < k))∧l.drop (l.takeWhile fun x=>decide (x < k)).length=l.dropWhile (fun x=>decide (x < k)):=by
 have h:=List.takeWhile_append_dropWhile (p:=fun x:Int=>decide (x < k)) (l:=l)
 constructor
 ·conv=>lhs;rw [← h]
  rw [List.takeWhile_append_dropWhile];have:∀ (a b:List Int),(a ++ b).take a.length=a:=fun a b=>by simp
  conv=>lhs;arg 2;rw [← h]
  exact this _ _
 ·have:∀ (a b:List Int),(a ++ b).drop a.length=b:=fun a b=>by simp
  conv=>lhs;arg 2;rw [← h]
  exact this _ _
theorem ZE0 (k:Int) (l:List Int):ins k l=l.take (l.takeWhile fun x=>decide (x < k)).length ++ k::l.drop (l.takeWhile fun x=>decide (x < k)).length:=by
 unfold ins;rw [Zmb.1,Zmb.2]
theorem U4 {k x:Int} {l:List Int}:x ∈ ins k l↔x=k∨x ∈ l:=by
 unfold ins
 conv=>rhs;rhs;rw [← List.takeWhile_append_dropWhile (p:=fun x:Int=>decide (x < k)) (l:=l)]
 simp only [List.mem_append,List.mem_cons]
 constructor
 ·rintro(h | h | h)
  ·exact .inr (.inl h)
  ·exact .inl h
  ·exact .inr (.inr h)
 ·rintro(h | h | h)
  ·exact .inr (.inl h)
  ·exact .inl h
  ·exact .inr (.inr h)
theorem ZoR {k:Int}:∀ {l:List Int},l.Pairwise (· < ·) ->k ∉ l ->(ins k l).Pairwise (· < ·):=by
 intro l
 induction l with
 | nil=>intro _ _;simp [ins]
 | cons x xs ih=>
   intro hs hk;obtain⟨p1,p2⟩:=List.pairwise_cons.1 hs;simp at hk;by_cases h:x < k
   ·have e:ins k (x::xs)=x::ins k xs:=by unfold ins;simp [List.takeWhile_cons,List.dropWhile_cons,h]
    rw [e]
    exact List.pairwise_cons.2 ⟨fun y hy=>by rcases U4.1 hy with z | z;· rw [z];exact h
                                             ·exact p1 y z,ih p2 hk.2⟩
   ·have e:ins k (x::xs)=k::x::xs:=by unfold ins;simp [List.takeWhile_cons,List.dropWhile_cons,h]
    rw [e]
    exact List.pairwise_cons.2 ⟨fun y hy=>by rcases List.mem_cons.1 hy with z | z;· rw [z];omega
                                             ·have:=p1 y z;omega,hs⟩
theorem Zy9 (a b:Int):Znd a b=some (decide (a < b)):=by
 unfold Znd ZjQ;simp [gd]
theorem Zjj {F:Nat} {l:List Int} {k:Int} (hF:1000 <=F) (hl:l.length <=500) (hs:l.Pairwise (· < ·)) (hk:k ∉ l):ZjP F l k=some (((l.takeWhile fun x=>decide (x < k)).length:Int),false):=by
 unfold ZjP;obtain⟨c,hc⟩:∃ c,c= (l.takeWhile fun x=>decide (x < k)).length:= ⟨_,rfl⟩
 have h1:∀ j,j < c ->l.getD j 0 < k:=fun j hj=>ZIx j (by omega)
 have h2:∀ j,c <=j ->j < l.length ->k <=l.getD j 0:=fun j a b=>ZIy hs j (by omega) b
 have hcl:c <=l.length:=by rw [hc];exact Zje
 rw [← hc]
 have key:∀ d F i j:Nat,d < F ->j - i <=d ->i <=c ->c <=j ->j <=l.length ->loop F (Zd5 l k) ((i:Int),(j:Int))=some ((c:Int),false):=by
  intro d
  induction d with
  | zero=>
    intro F i j hF hd hi hj hjl;have:i=c:=by omega
    subst this;have:j=i:=by omega
    subst this;cases F with
    | zero=>omega
    | succ F=>
      rw [Uk];unfold Zd5;dsimp only;rw [Y9,Cq0,ZEP];by_cases hlt:j < l.length
      ·rw [decide_eq_true hlt,Qx 0 hlt];have:l.getD j 0 ≠ k:=fun e=>hk (by rw [← e];exact XG hlt)
       rw [U5];simp only [Bq0];rw [Y4,decide_eq_false this];simp [gd,ZjN,Qx 0 hlt]
      ·rw [decide_eq_false hlt];simp [gd]
  | succ d ih=>
    intro F i j hF hd hi hj hjl;by_cases hij:i < j
    ·cases F with
     | zero=>omega
     | succ F=>
       rw [Uk];unfold Zd5;dsimp only;have e1:Yz ((i:Int) + (j:Int))= ((i + j:Nat):Int):=by rw [KX (by omega) (by omega)];omega
       have e2:IntKind.wrap .u64 (((i + j:Nat):Int))= ((i + j:Nat):Int):=by
        show(((i + j:Nat):Int)) % 18446744073709551616=_;omega
       have e3:Yz ((((i + j:Nat):Int)) / 2)= (((i + j) / 2:Nat):Int):=by rw [KX (by omega) (by omega)];omega
       obtain⟨m,hm⟩:∃ m,m= (i + j) / 2:= ⟨_,rfl⟩
       rw [Y0 hij,Cq1,e1,e2,e3,← hm,Qx 0 (by omega)];simp only [Bq0];rw [Zy9];simp only [Bq0];by_cases hx:l.getD m 0 < k
       ·rw [decide_eq_true hx,Cq1,Qt (by omega)];have:m < c:=Classical.byContradiction fun z=>by have:=h2 m (by omega) (by omega);omega
        exact ih F (m + 1) j (by omega) (by omega) (by omega) hj hjl
       ·rw [decide_eq_false hx,Cq0];have:c <=m:=Classical.byContradiction fun z=>by have:=h1 m (by omega);omega
        exact ih F i m (by omega) (by omega) hi this (by omega)
    ·exact ih F i j (by omega) (by omega) hi hj hjl
 have:=key l.length F 0 l.length (by omega) (by omega) (Nat.zero_le _) hcl (Nat.le_refl _);exact this
theorem insert_eq {l:List Int} {k:Int} (hl:l.length <=500):Znb l ((l.takeWhile fun x=>decide (x < k)).length:Int) [k]=some (ins k l):=by
 unfold Znb;have:=Zje (l:=l) (k:=k);rw [Nm0 (by omega),decide_eq_true (show(0:Int) <= ((l.takeWhile fun x=>decide (x < k)).length:Int) by omega),decide_eq_true (show((l.takeWhile fun x=>decide (x < k)).length:Int) <= (l.length:Int) by omega)];show some _=_;rw [Int.toNat_natCast,ZE0,List.append_assoc];rfl
theorem ZoJ {β:Type} {F n:Nat} {f:Nat ->Int} {l:List Int} {r:Option β} (hF:n < F) (hn:n <=1000) (hl:l.length=n) {body:Int×List Int ->(Int×List Int ->Option β) ->Option β}
 (hb:∀ v8 (k:Nat),k < n ->∀ next,body ((k:Int),v8) next= (ZK l (k:Int)).bind fun x=>(ZK v8 (k:Int)).bind fun y=>(ZK v8 (k:Int)).bind fun z=>next (Yz ((k:Int) + 1),YP v8 (k:Int) (if x > y then x else y)))
 (he:∀ next,body ((n:Int),tab n (mx f l)) next=r):loop F body (0,tab n f)=r:=by
 refine XI (fun k=>((k:Int),tab n fun i=>if i < k then mx f l i else f i)) (by simp) hF (fun k hk next=>?_) (fun next=>?_)
 ·rw [hb _ _ hk,Qx 0 (by rw [hl];exact hk)];simp only [Bq0];rw [Yu hk];simp only [Bq0];rw [if_neg (Nat.lt_irrefl _),Qn,Qt (by omega)];congr 2;refine UU fun i hi=>?_
  unfold Z5;by_cases e:i=k
  ·subst e;rw [if_pos rfl,if_pos (Nat.lt_succ_self _)];rfl
  ·rw [if_neg e];show(if i < k then mx f l i else f i)=_;by_cases h:i < k
   ·rw [if_pos h,if_pos (by omega)]
   ·rw [if_neg h,if_neg (by omega)]
 ·have:(tab n fun i=>if i < n then mx f l i else f i)=tab n (mx f l):=UU fun i hi=>by rw [if_pos hi]
  show body ((n:Int),tab n fun i=>if i < n then mx f l i else f i) next=r;rw [this];exact he next
section
variable {F n:Nat} {f:Nat ->Int} {l:List Int}
theorem Zd1 (hF:1000 <=F) (hn:n <=500) (hl:l.length=n):ZjO F [tab n f,l]=some (tab n (mx f l)):=by
 unfold ZjO ZfR;have e0:ZK [tab n f,l] 0=some (tab n f):=rfl;rw [e0];simp only [Bq0];rw [ZsW (by rw [Qg];simp;omega)];simp only [Bq0,List.nil_append];have e1:slL [tab n f,l] 1 (([tab n f,l].length:Nat):Int)=some [l]:=rfl;rw [e1];simp only [Bq0];refine XI (fun k=>((k:Int),if k=0 then tab n f else tab n (mx f l))) rfl (n:=1) (by omega) (fun k hk next=>?_) (fun next=>?_)
 ·have:k=0:=by omega
  subst this;unfold Zgr;dsimp only;rw [show decide (((0:Nat):Int) < (([l].length:Nat):Int))=true from rfl,Cq1,show ZK [l] ((0:Nat):Int)=some l from rfl];simp only [Bq0];refine ZoJ (by omega) (by omega) hl (fun v8 k hk next=>?_) (fun next'=>?_)
  ·unfold Zgq;dsimp only;rw [hl,Y0 hk,Cq1]
  ·unfold Zgq;dsimp only;rw [hl,Y9,Cq0];rfl
 ·unfold Zgr;dsimp only;rw [show decide (((1:Nat):Int) < (([l].length:Nat):Int))=false from rfl,Cq0];rfl
end
end
section
def Qd (n:Nat) (f:Nat ->Nat):Nat:= ((List.range n).map f).sum
section
variable {n k:Nat} {f g:Nat ->Nat}
theorem WZ:Qd (n + 1) f=Qd n f + f n:=by simp [Qd,List.range_succ]
theorem ZaF (h:∀ k,k < n ->f k=g k):Qd n f=Qd n g:=by
 unfold Qd;rw [List.map_congr_left fun k hk=>h k (List.mem_range.1 hk)]
theorem ZyS (h:∀ k,k < n ->f k <=g k):Qd n f <=Qd n g:=by
 induction n with
 | zero=>simp [Qd]
 | succ n ih=>rw [WZ,WZ];have:=ih fun k hk=>h k (by omega);have:=h n (by omega);omega
theorem Uz (h:k < n):f k <=Qd n f:=by
 induction n with
 | zero=>omega
 | succ n ih=>
   rw [WZ];by_cases e:k=n
   ·subst e;omega
   ·have:=ih (by omega);omega
theorem Zme {v:Nat} (h:k < n):Qd n (Z5 f k v) + f k=Qd n f + v:=by
 induction n with
 | zero=>omega
 | succ n ih=>
   rw [WZ,WZ];by_cases e:k=n
   ·subst e;rw [Zt,ZaF (f:=Z5 f k v) (g:=f) fun j hj=>ZC (by omega)];omega
   ·have:=ih (by omega);rw [ZC (by omega)];omega
theorem Zbr (h:k < n) (hg:∀ j,j < n ->j ≠ k ->g j=f j):Qd n g + f k=Qd n f + g k:=by
 rw [ZaF (f:=g) (g:=Z5 f k (g k)) fun j hj=>by
  by_cases e:j=k
  ·subst e;rw [Zt]
  ·rw [ZC e,hg j hj e]]
 exact Zme h
theorem ZgL (n c:Nat):Qd n (fun _=>c)=n * c:=by
 induction n with
 | zero=>simp [Qd]
 | succ n ih=>rw [WZ,ih,Nat.succ_mul]
end
def ew (x:Zd):Nat:=if x.kW=1 then 1 else if x.kW=2 then 2 else if x.kW=5 then 1 else 0
def sw (x:Int):Nat:=if x=1 then 11 else if x=3 then 0 else 2
def fl (σ:TS) (i:Nat):List Zd:= (σ.sn i).drop (σ.ld i)
def lw (σ:TS) (i:Nat):Nat:= (σ.sn i).length + ((fl σ i).map ew).sum
def Pot (s:Zc) (σ:TS):Nat:=σ.ev.length + Qd (mm s * mm s) (lw σ) + Qd (mm s) (fun m=>(σ.be m).length) + Qd (nn s) (fun q=>2 * (σ.wa q).length) + Qd (nn s) (fun p=>sw (σ.st p))
structure Wf (s:Zc) (B:Nat) (σ:TS):Prop where
 pot:Pot s σ <=B
 ld:∀ i,i < mm s * mm s ->σ.ld i <= (σ.sn i).length
 ws:∀ q,q < nn s ->∀ x ∈ σ.wa q,∃ k:Nat,x= (k:Int)∧k < nn s
section
variable {s:Zc} {σ:TS} {B a b p q m:Nat}
theorem Wf.few (h:Wf s B σ) (hB:B <=800000):Few s 800000 σ:=by
 have hp:=h.pot;unfold Pot at hp;refine⟨by omega,fun i hi=>?_,fun m hm=>?_,fun q hq=>?_,h.ld,h.ws⟩
 ·have:=Uz (f:=lw σ) hi;unfold lw at this;unfold lw at hp;omega
 ·have:=Uz (f:=fun m=>(σ.be m).length) hm;omega
 ·have:=Uz (f:=fun q=>2 * (σ.wa q).length) hq;omega
theorem Zu6 (d p q n:Int):Pot s (tell d p q n σ)=Pot s σ + 1:=by
 show(σ.ev ++ [_]).length + Qd (mm s * mm s) (lw σ) + Qd (mm s) (fun m=>(σ.be m).length) + Qd (nn s) (fun q=>2 * (σ.wa q).length) + Qd (nn s) (fun p=>sw (σ.st p))=_;rw [List.length_append,List.length_singleton];unfold Pot;omega
theorem Zrb (hl:σ.ld (li s a b) <= (σ.sn (li s a b)).length) (x:Zd):fl (send s a b x σ) (li s a b)=fl σ (li s a b) ++ [x]:=by
 show(Z5 σ.sn (li s a b) _ (li s a b)).drop (σ.ld (li s a b))=_;rw [Zt,List.drop_append_of_le_length hl];rfl
theorem ZhR {i:Nat} (hi:i ≠ li s a b) (x:Zd):fl (send s a b x σ) i=fl σ i:=by
 show(Z5 σ.sn (li s a b) _ i).drop (σ.ld i)=_;rw [ZC hi];rfl
theorem Zcc (x:Zd):(send s a b x σ).sn (li s a b)=σ.sn (li s a b) ++ [x]:=Zt _ _ _
theorem J4 {i:Nat} (hi:i ≠ li s a b) (x:Zd):(send s a b x σ).sn i=σ.sn i:=ZC hi
theorem Zu7 (ha:a < mm s) (hb:b < mm s) (hl:∀ i,i < mm s * mm s ->σ.ld i <= (σ.sn i).length) (x:Zd):Pot s (send s a b x σ)=Pot s σ + 1 + ew x:=by
 have hi:=Wy ha hb;have h:=Zbr (f:=lw σ) (g:=lw (send s a b x σ)) hi fun j _ hj=>by unfold lw;rw [J4 hj,ZhR hj]
 have e:lw (send s a b x σ) (li s a b)=lw σ (li s a b) + 1 + ew x:=by
  unfold lw;rw [Zcc,Zrb (hl _ hi),List.length_append,List.map_append,List.sum_append];simp;omega
 show σ.ev.length + Qd (mm s * mm s) (lw (send s a b x σ)) + Qd (mm s) (fun m=>(σ.be m).length) + Qd (nn s) (fun q=>2 * (σ.wa q).length) + Qd (nn s) (fun p=>sw (σ.st p))=_;unfold Pot;omega
theorem ZoB (hm:m < mm s) (l:List Zd):Pot s {σ with be:=Z5 σ.be m l} + (σ.be m).length=Pot s σ + l.length:=by
 have h:=Zbr (f:=fun m=>(σ.be m).length) (g:=fun j=>(Z5 σ.be m l j).length) hm fun j _ hj=>by rw [ZC hj]
 rw [Zt] at h;show σ.ev.length + Qd (mm s * mm s) (lw σ) + Qd (mm s) (fun j=>(Z5 σ.be m l j).length) + Qd (nn s) (fun q=>2 * (σ.wa q).length) + Qd (nn s) (fun p=>sw (σ.st p)) + _=_;unfold Pot;omega
theorem Zu5 (hm:m < mm s) (x:Zd):Pot s (wait m x σ)=Pot s σ + 1:=by
 have:=ZoB (σ:=σ) hm (σ.be m ++ [x]);rw [List.length_append,List.length_singleton] at this;unfold wait;omega
theorem ZEG (hq:q < nn s) (l:List Int):Pot s {σ with wa:=Z5 σ.wa q l} + 2 * (σ.wa q).length=Pot s σ + 2 * l.length:=by
 have h:=Zbr (f:=fun q=>2 * (σ.wa q).length) (g:=fun j=>2 * (Z5 σ.wa q l j).length) hq fun j _ hj=>by rw [ZC hj]
 rw [Zt] at h;show σ.ev.length + Qd (mm s * mm s) (lw σ) + Qd (mm s) (fun m=>(σ.be m).length) + Qd (nn s) (fun j=>2 * (Z5 σ.wa q l j).length) + Qd (nn s) (fun p=>sw (σ.st p)) + _=_;unfold Pot;omega
theorem ZEH (hp:p < nn s) (v:Int):Pot s {σ with st:=Z5 σ.st p v} + sw (σ.st p)=Pot s σ + sw v:=by
 have h:=Zbr (f:=fun p=>sw (σ.st p)) (g:=fun j=>sw (Z5 σ.st p v j)) hp fun j _ hj=>by rw [ZC hj]
 rw [Zt] at h;show σ.ev.length + Qd (mm s * mm s) (lw σ) + Qd (mm s) (fun m=>(σ.be m).length) + Qd (nn s) (fun q=>2 * (σ.wa q).length) + Qd (nn s) (fun j=>sw (Z5 σ.st p v j)) + _=_;unfold Pot;omega
theorem ZAi (p q n:Int) (l:List Int):ew ⟨5,p,q,n,l⟩=1:=rfl
theorem Wf.tell (h:Wf s B σ) (d p q n:Int):Wf s (B + 1) (tell d p q n σ):= ⟨by rw [Zu6];have:=h.pot;omega,h.ld,h.ws⟩
theorem Wf.send (h:Wf s B σ) (ha:a < mm s) (hb:b < mm s) (x:Zd):Wf s (B + 1 + ew x) (send s a b x σ):=by
 refine⟨by rw [Zu7 ha hb h.ld];have:=h.pot;omega,fun i hi=>?_,h.ws⟩;show σ.ld i <=_;by_cases e:i=li s a b
 ·subst e;rw [Zcc,List.length_append];have:=h.ld _ hi;omega
 ·rw [J4 e];exact h.ld i hi
theorem Wf.wait (h:Wf s B σ) (hm:m < mm s) (x:Zd):Wf s (B + 1) (wait m x σ):= ⟨by rw [Zu5 hm];have:=h.pot;omega,h.ld,h.ws⟩
theorem Wf.up (h:Wf s B σ) {B':Nat} (hb:B <=B'):Wf s B' σ:= ⟨Nat.le_trans h.pot hb,h.ld,h.ws⟩
theorem Wf.Y7 (hS:X0 s) (h:Wf s B σ) (hp:p < nn s) (hq:q < nn s):Wf s (B + 2) (Y7 s p q σ):=by
 unfold Proofs.YtcnahmgekicbdaaGreat.Y7;by_cases e:pl s p=pl s q
 ·rw [if_pos e];exact(h.wait (hS.pl hp).2 _).up (by omega)
 ·rw [if_neg e];exact(h.send (hS.pl hq).2 (hS.pl hp).2 _).up (by rw [ZAi];omega)
theorem Wf.wa (h:Wf s B σ) (hq:q < nn s) {l:List Int} (hl:∀ x ∈ l,∃ k:Nat,x= (k:Int)∧k < nn s) {B':Nat} (hB:B + 2 * l.length <=B' + 2 * (σ.wa q).length):Wf s B' {σ with wa:=Z5 σ.wa q l}:=by
 refine⟨?_,h.ld,fun j hj x hx=>?_⟩
 ·have:=ZEG (σ:=σ) hq l;have:=h.pot;omega
 ·have hx:x ∈ Z5 σ.wa q l j:=hx;by_cases e:j=q
  ·subst e;rw [Zt] at hx;exact hl x hx
  ·rw [ZC e] at hx;exact h.ws j hj x hx
theorem Wf.st (h:Wf s B σ) (hp:p < nn s) (v:Int) {B':Nat} (hB:B + sw v <=B' + sw (σ.st p)):Wf s B' {σ with st:=Z5 σ.st p v}:=
 ⟨by have:=ZEH (σ:=σ) hp v;have:=h.pot;omega,h.ld,h.ws⟩
theorem Wf.note (hS:X0 s) (h:Wf s B σ) (hp:p < nn s) (hq:q < nn s):Wf s (B + 2) (note s p q σ):=by
 unfold Proofs.YtcnahmgekicbdaaGreat.note;by_cases e:σ.st q=3
 ·rw [if_pos e];exact h.Y7 hS hp hq
 ·rw [if_neg e]
  exact h.wa hq (fun x hx=>by
   rcases List.mem_append.1 hx with hx | hx
   ·exact h.ws q hq x hx
   ·rw [List.mem_singleton.1 hx];exact⟨p,rfl,hp⟩) (by rw [List.length_append,List.length_singleton];omega)
theorem Wf.see (h:Wf s B σ) (p q:Nat) (n:Int):Wf s (B + 1) (see p q n σ):=by
 unfold Proofs.YtcnahmgekicbdaaGreat.see;by_cases e:σ.st p=1
 ·rw [if_pos e];exact h.tell _ _ _ _
 ·rw [if_neg e];exact h.up (by omega)
end
end
section
structure Kn (s:Zc) (σ:TS):Prop where
 srt:∀ q,q < nn s ->(σ.kn q).Pairwise (· < ·)
 rng:∀ q,q < nn s ->∀ x ∈ σ.kn q,∃ k:Nat,x= (k:Int)∧k < nn s∧inn s (k:Int)= (q:Int)∧σ.st k=3
noncomputable section
variable (s:Zc)
def ZcN (σ:TS) (p K:Nat) (i:Nat):Int:=if i / mm s=pl s p∧i % mm s < K∧i % mm s ≠ pl s p then((σ.sn i).length:Int) else σ.ma p i
def JJ (p:Nat) (σ:TS):TS:= {σ with st:=Z5 σ.st p 3,ev:=σ.ev ++ [⟨6,(p:Int),0,0⟩],wa:=Z5 σ.wa p []}
def Zu (p:Nat) (l:List Int) (σ:TS):TS:=l.foldl (fun σ x=>Y7 s x.toNat p σ) σ
def ZMm (p:Nat) (σ:TS):TS:= {σ with ma:=Z5 σ.ma p (ZcN s σ p (mm s))}
def Yk (p:Nat) (σ:TS):TS:=ZMm s p (Zu s p (σ.wa p) (JJ p σ))
def YJ (k:Nat) (l:List Int) (σ:TS):TS:= {σ with kn:=Z5 σ.kn (inn s (k:Int)).toNat (ins (k:Int) (σ.kn (inn s (k:Int)).toNat)),ma:=Z5 σ.ma (inn s (k:Int)).toNat (mx (σ.ma (inn s (k:Int)).toNat) l)}
def K6 (die:Nat ->TS ->TS) (k:Nat) (l:List Int) (σ:TS):TS:=
 ifc ((YJ s k l σ).st (inn s (k:Int)).toNat=2∧Alo s (YJ s k l σ) (inn s (k:Int)).toNat) (die (inn s (k:Int)).toNat (YJ s k l σ)) (YJ s k l σ)
def Zly (die:Nat ->TS ->TS) (p:Nat) (σ:TS):TS:=
 if inn s (p:Int) < 0 then σ
 else if pl s (inn s (p:Int)).toNat=pl s p then K6 s die p (Wx s σ p) σ
 else send s (pl s p) (pl s (inn s (p:Int)).toNat) ⟨4,(p:Int),0,0,Wx s σ p⟩ σ
def Zid:Nat ->Nat ->TS ->TS
 | 0,_,σ=>σ
 | d + 1,p,σ=>Zly s (Zid d) p (Yk s p σ)
end
section
variable {s:Zc} {σ:TS} {F B p q:Nat}
theorem ZkK:ZB.mk (Zh.mk (tab (nn s) σ.st) (tab (nn s) fun p=>tab (mm s * mm s) (σ.ma p)) (tab (nn s) σ.kn) (tab (nn s) σ.wa) (tab (mm s) σ.be) (tab (mm s * mm s) (KH σ)) σ.sd) (Zc.mk s.qG s.Ze) σ.ev=hal s σ:=rfl
theorem ZcA (p q:Nat) (σ:TS):(Y7 s p q σ).st=σ.st∧(Y7 s p q σ).kn=σ.kn∧(Y7 s p q σ).ma=σ.ma∧(Y7 s p q σ).ld=σ.ld∧(Y7 s p q σ).sd=σ.sd∧(Y7 s p q σ).ev=σ.ev∧(Y7 s p q σ).wa=σ.wa:=by
 unfold Y7;split <;> exact⟨rfl,rfl,rfl,rfl,rfl,rfl,rfl⟩
theorem ZbW (p:Nat):∀ (l:List Int) (σ:TS),(Zu s p l σ).st=σ.st∧(Zu s p l σ).kn=σ.kn∧(Zu s p l σ).ma=σ.ma∧(Zu s p l σ).ld=σ.ld∧(Zu s p l σ).sd=σ.sd∧(Zu s p l σ).ev=σ.ev∧(Zu s p l σ).wa=σ.wa:=by
 intro l
 induction l with
 | nil=>intro σ;exact⟨rfl,rfl,rfl,rfl,rfl,rfl,rfl⟩
 | cons x l ih=>
   intro σ;have h1:=ih (Y7 s x.toNat p σ);have h2:=ZcA (s:=s) x.toNat p σ;have e:Zu s p (x::l) σ=Zu s p l (Y7 s x.toNat p σ):=rfl;rw [e];exact⟨h1.1.trans h2.1,h1.2.1.trans h2.2.1,h1.2.2.1.trans h2.2.2.1,h1.2.2.2.1.trans h2.2.2.2.1,h1.2.2.2.2.1.trans h2.2.2.2.2.1,h1.2.2.2.2.2.1.trans h2.2.2.2.2.2.1,h1.2.2.2.2.2.2.trans h2.2.2.2.2.2.2⟩
theorem ZpH (p k:Nat) (l:List Int) (hk:k < l.length) (σ:TS):Zu s p (l.take (k + 1)) σ=Y7 s (l.getD k 0).toNat p (Zu s p (l.take k) σ):=by
 unfold Zu;rw [List.take_succ_eq_append_getElem hk,List.foldl_append,ZhM hk];rfl
theorem ZgI (hS:X0 s) (hp:p < nn s):∀ (l:List Int) (B:Nat) (σ:TS),Wf s B σ ->(∀ x ∈ l,∃ k:Nat,x= (k:Int)∧k < nn s) ->Wf s (B + 2 * l.length) (Zu s p l σ):=by
 intro l
 induction l with
 | nil=>intro B σ h _;exact h
 | cons x l ih=>
   intro B σ h hx;obtain⟨k,e,hk⟩:=hx x (by simp);have h1:=ih (B + 2) (Y7 s x.toNat p σ) (by rw [e,Int.toNat_natCast];exact h.Y7 hS hk hp) (fun y hy=>hx y (by simp [hy]));exact h1.up (by rw [List.length_cons];omega)
theorem Zuc {x:Int} (h:x ≠ 3):2 <=sw x:=by
 unfold sw;by_cases e:x=1
 ·rw [if_pos e];omega
 ·rw [if_neg e,if_neg h];omega
theorem Zkd (h:Wf s B σ) (hp:p < nn s) (h3:σ.st p ≠ 3):2 <=B∧Wf s (B - 1 - 2 * (σ.wa p).length) (JJ p σ)∧2 * (σ.wa p).length + 2 <=B:=by
 have h2:=Zuc h3
 have ZXx:2 + 2 * (σ.wa p).length <=Pot s σ:=by
  have a1:=Uz (f:=fun p=>sw (σ.st p)) hp;have a2:=Uz (f:=fun q=>2 * (σ.wa q).length) hp;unfold Pot;omega
 have hb:=h.pot;have w1:=h.st hp (3:Int) (B':=B - 2) (by rw [show sw (3:Int)=0 from rfl];omega);have w2:=w1.tell 6 (p:Int) 0 0
 have w3:=w2.wa (l:= []) hp (by simp) (B':=B - 1 - 2 * (σ.wa p).length) (by
  show _ <=_ + 2 * (σ.wa p).length;simp;omega)
 exact⟨by omega,w3,by omega⟩
theorem Wf.ma (h:Wf s B σ) (f:Nat ->Nat ->Int):Wf s B {σ with ma:=f}:= ⟨h.pot,h.ld,h.ws⟩
theorem Zae {k:Nat} {l:List Int} (h:Wf s B σ):Wf s B (YJ s k l σ):= ⟨h.pot,h.ld,h.ws⟩
theorem Zqc (hS:X0 s) (h:Wf s B σ) (hp:p < nn s) (h3:σ.st p ≠ 3):Wf s (B - 1) (Yk s p σ):=by
 obtain⟨h1,h2,h4⟩:=Zkd h hp h3;have:=ZgI hS hp (σ.wa p) _ _ h2 (h.ws p hp);exact(this.up (by omega)).ma _
theorem QG (p:Nat) (σ:TS):(Yk s p σ).st=Z5 σ.st p 3∧(Yk s p σ).kn=σ.kn∧(Yk s p σ).ld=σ.ld∧(Yk s p σ).sd=σ.sd∧(Yk s p σ).ev=σ.ev ++ [⟨6,(p:Int),0,0⟩]∧(Yk s p σ).wa=Z5 σ.wa p []:=by
 have h:=ZbW (s:=s) p (σ.wa p) (JJ p σ);exact⟨h.1,h.2.1,h.2.2.2.1,h.2.2.2.2.1,h.2.2.2.2.2.1,h.2.2.2.2.2.2⟩
theorem ZqP (h:Kn s σ) (p:Nat):Kn s (Yk s p σ):=by
 have e:=QG (s:=s) p σ;refine⟨fun q hq=>by rw [e.2.1];exact h.srt q hq,fun q hq x hx=>?_⟩;rw [e.2.1] at hx;obtain⟨k,h1,h2,h3,h4⟩:=h.rng q hq x hx;refine⟨k,h1,h2,h3,?_⟩;rw [e.1];by_cases z:k=p
 ·subst z;exact Zt _ _ _
 ·rw [ZC z];exact h4
theorem Kn.len (hS:X0 s) (h:Kn s σ) (hq:q < nn s):(σ.kn q).length <=8:=by
 have:=ZAU (σ.kn q) 0 (nn s) (h.srt q hq) fun x hx=>by
  obtain⟨k,e,hk,_⟩:=h.rng q hq x hx;omega
 have h8:=hS.p2;unfold nn at this;omega
theorem QD (hS:X0 s) (hp:p < nn s) (h0:¬ inn s (p:Int) < 0):inn s (p:Int)= ((inn s (p:Int)).toNat:Int)∧(inn s (p:Int)).toNat < nn s:=by
 obtain⟨k,e,hk⟩:=KO (hS.inn.rng p hp) h0;rw [e,Int.toNat_natCast];exact⟨rfl,hk⟩
theorem UZ (hS:X0 s) (h:Kn s σ) (hp:p < nn s) (h0:¬ inn s (p:Int) < 0) (h3:σ.st p=3) (hn:(p:Int) ∉ σ.kn (inn s (p:Int)).toNat) (l:List Int):Kn s (YJ s p l σ):=by
 obtain⟨e,hq⟩:=QD hS hp h0;refine⟨fun q hq'=>?_,fun q hq' x hx=>?_⟩
 ·show(Z5 σ.kn _ _ q).Pairwise _;by_cases z:q= (inn s (p:Int)).toNat
  ·subst z;rw [Zt];exact ZoR (h.srt _ hq) hn
  ·rw [ZC z];exact h.srt q hq'
 ·have hx:x ∈ Z5 σ.kn _ _ q:=hx;by_cases z:q= (inn s (p:Int)).toNat
  ·subst z;rw [Zt] at hx;rcases U4.1 hx with w | w
   ·exact⟨p,w,hp,e,h3⟩
   ·exact h.rng _ hq x w
  ·rw [ZC z] at hx;exact h.rng q hq' x hx
theorem Wl {M a b i:Nat} (hb:b < M):i=a * M + b↔i / M=a∧i % M=b:=by
 have hM:0 < M:=by omega
 constructor
 ·intro e;subst e;have e1:(a * M + b) / M=a:=by rw [Nat.mul_comm,Nat.mul_add_div hM,Nat.div_eq_of_lt hb,Nat.add_zero]
  exact⟨e1,by rw [Nat.mul_comm,Nat.mul_add_mod,Nat.mod_eq_of_lt hb]⟩
 ·rintro⟨h1,h2⟩;have:=Nat.div_add_mod i M;rw [h1,h2,Nat.mul_comm] at this;exact this.symm
theorem Zr5 (σ:TS) (p i:Nat):ZcN s σ p 0 i=σ.ma p i:=by unfold ZcN;rw [if_neg];rintro⟨_,h,_⟩;omega
theorem Zr6 {k:Nat} (hk:k < mm s) (hne:k ≠ pl s p) (i:Nat):ZcN s σ p (k + 1) i=Z5 (ZcN s σ p k) (li s (pl s p) k) ((σ.sn (li s (pl s p) k)).length:Int) i:=by
 unfold Z5;by_cases e:i=li s (pl s p) k
 ·rw [if_pos e];obtain⟨e1,e2⟩:= (Wl hk).1 e;unfold ZcN;rw [if_pos ⟨e1,by omega,by omega⟩,e]
 ·rw [if_neg e];unfold ZcN;by_cases c:i / mm s=pl s p∧i % mm s < k∧i % mm s ≠ pl s p
  ·rw [if_pos c,if_pos ⟨c.1,by omega,c.2.2⟩]
  ·rw [if_neg c,if_neg];rintro⟨c1,c2,c3⟩;refine c ⟨c1,?_,c3⟩;have:i % mm s ≠ k:=fun z=>e ((Wl hk).2 ⟨c1,z⟩)
   omega
theorem Zr7 {k:Nat} (hne:k=pl s p) (i:Nat):ZcN s σ p (k + 1) i=ZcN s σ p k i:=by
 unfold ZcN;by_cases c:i / mm s=pl s p∧i % mm s < k∧i % mm s ≠ pl s p
 ·rw [if_pos c,if_pos ⟨c.1,by omega,c.2.2⟩]
 ·rw [if_neg c,if_neg];rintro⟨c1,c2,c3⟩;exact c ⟨c1,by omega,c3⟩
def ZcO (s:Zc) (f:Nat ->Nat ->Int):List (List Int):=tab (nn s) fun j=>tab (mm s * mm s) (f j)
theorem ZjA {f:Nat ->Nat ->Int} (hp:p < nn s):ZK (ZcO s f) (p:Int)=some (tab (mm s * mm s) (f p)):=Yu hp
theorem ZeQ {f:Nat ->Nat ->Int} {g:Nat ->Int}:YP (ZcO s f) (p:Int) (tab (mm s * mm s) g)=ZcO s (Z5 f p g):=by
 unfold ZcO;rw [Qn];refine UU fun j _=>?_
 by_cases e:j=p
 ·subst e;rw [Zt,Zt]
 ·rw [ZC e,ZC e]
theorem Zde {f g:Nat ->Nat ->Int} (h:∀ j,j < nn s ->∀ i,i < mm s * mm s ->f j i=g j i):ZcO s f=ZcO s g:=UU fun j hj=>UU fun i hi=>h j hj i hi
theorem Zun (h:Wf s B σ) (hB:B <=800000) {i:Nat} (hi:i < mm s * mm s):Yz ((KH σ i).ZM + ((KH σ i).kG.length:Int))= ((σ.sn i).length:Int):=by
 have h1:=h.ld i hi;have h2:= (h.few hB).sn i hi;show Yz ((σ.ld i:Int) + (((σ.sn i).drop (σ.ld i)).length:Int))=_;rw [List.length_drop,KX (by omega) (by omega)];omega
theorem ZoK {β:Type} (hF:1000 <=F) (hS:X0 s) (h:Wf s B σ) (hB:B <=800000) (hp:p < nn s) {r:Option β} {body:Int×List (List Int) ->(Int×List (List Int) ->Option β) ->Option β}
 (hb:∀ (v:List (List Int)) (k:Nat),k < mm s ->∀ next,body ((k:Int),v) next=bif((k:Int) != (pl s p:Int)) then((ZK v (p:Int)).bind fun x=>(ZK x (Yz (Yz ((pl s p:Int) * s.qG) + (k:Int)))).bind fun _=>next (Yz ((k:Int) + 1),YP v (p:Int) (YP x (Yz (Yz ((pl s p:Int) * s.qG) + (k:Int))) ((σ.sn (li s (pl s p) k)).length:Int)))) else next (Yz ((k:Int) + 1),v))
 (he:∀ next,body ((mm s:Int),ZcO s (ZMm s p σ).ma) next=r):loop F body (0,ZcO s σ.ma)=r:=by
 obtain⟨_,_,h4⟩:=hS.mm;have hpl:= (hS.pl hp).2
 refine XI (fun k=>((k:Int),ZcO s (Z5 σ.ma p (ZcN s σ p k)))) (by
  have:ZcO s (Z5 σ.ma p (ZcN s σ p 0))=ZcO s σ.ma:=Zde fun j _ i _=>by
   by_cases e:j=p
   ·subst e;rw [Zt,Zr5]
   ·rw [ZC e]
  rw [this];rfl) (n:=mm s) (by omega) (fun k hk next=>?_) (fun next=>?_)
 ·rw [hb _ _ hk]
  have e1:(((k:Int)) != ((pl s p:Int)))=decide (k ≠ pl s p):=by
   rw [Zcz];by_cases z:k=pl s p
   ·subst z;simp
   ·rw [decide_eq_true z,decide_eq_true (by omega)]
  rw [e1];by_cases z:k ≠ pl s p
  ·rw [decide_eq_true z,Cq1,ZjA hp,Zt];simp only [Bq0];rw [ZbH hS hpl hk,Yu (Wy hpl hk)];simp only [Bq0];rw [Qn,ZeQ,Qt (by omega)];congr 2;refine Zde fun j _ i hi=>?_
   by_cases e:j=p
   ·subst e;rw [Zt,Zt,Zr6 hk z]
   ·rw [ZC e,ZC e,ZC e]
  ·have z:=Classical.not_not.1 z;rw [decide_eq_false (by simpa using z),Cq0,Qt (by omega)];congr 2;refine Zde fun j _ i hi=>?_
   by_cases e:j=p
   ·subst e;rw [Zt,Zt,Zr7 z]
   ·rw [ZC e,ZC e]
 ·exact he next
end
end
section
section
variable {s:Zc} {σ:TS} {F B p q:Nat} {die:Nat ->TS ->TS}
theorem Zhq (hS:X0 s):mm s * mm s <=16:=Nat.mul_le_mul hS.mm.2.2 hS.mm.2.2
theorem Zkz (hS:X0 s):decide (((mm s:Nat):Int) < s.qG)=false:=by rw [hS.mm.1];exact Y9 _
theorem ZeR (hS:X0 s) {k:Nat} (hk:k < mm s):decide ((k:Int) < s.qG)=true:=by rw [hS.mm.1];exact Y0 hk
theorem ZrN (hF:100000 <=F) (hS:X0 s) (hp:p < nn s) (hw:Wf s B σ) (hB:B <=700000) (hk:Kn s σ) (h3:σ.st p=3) (hn:¬ inn s (p:Int) < 0 ->(p:Int) ∉ σ.kn (inn s (p:Int)).toNat) (UO:ZB×Int ->Option ZB) (nx:Int×List (List Int) ->Option ZB)
 (hx:¬ inn s (p:Int) < 0 ->(YJ s p (Wx s σ p) σ).st (inn s (p:Int)).toNat=2 ->UO (hal s (YJ s p (Wx s σ p) σ),((inn s (p:Int)).toNat:Int))=some (hal s (die (inn s (p:Int)).toNat (YJ s p (Wx s σ p) σ)))):
 ZhU F (p:Int) UO (tab (nn s) σ.st) (tab (nn s) σ.kn) (tab (nn s) σ.wa) (tab (mm s) σ.be) (tab (mm s * mm s) (KH σ)) σ.sd s.qG s.Ze σ.ev (pl s p:Int) ((mm s:Int),ZcO s σ.ma) nx=some (hal s (Zly s die p σ)):=by
 have h16:=Zhq hS;unfold ZhU;dsimp only;rw [Zkz hS,Cq0,XE hp];simp only [Bq0];rw [QR];unfold Zly;by_cases h0:inn s (p:Int) < 0
 ·rw [decide_eq_true h0,Cq1,if_pos h0];rfl
 ·rw [decide_eq_false h0,Cq0,if_neg h0];obtain⟨eq,hq⟩:=QD hS hp h0;have hn:=hn h0;have hx:=hx h0;obtain⟨q,hqe⟩:∃ q,q= (inn s (p:Int)).toNat:= ⟨_,rfl⟩
  rw [← hqe] at eq hq hn hx ⊢;rw [eq,show ZcO s σ.ma=tab (nn s) fun p=>tab (mm s * mm s) (σ.ma p) from rfl,ZkK,UI hS hq];simp only [Bq0];rw [Zee,Yu hp];simp only [Bq0];by_cases e:pl s q=pl s p
  ·rw [decide_eq_true e,Cq1,if_pos e,Yu hq];simp only [Bq0];have hl:=hk.len hS hq;rw [Zjj (by omega) (by omega) (hk.srt q hq) hn];simp only [Bq0,Bool.not_false,Cq1];rw [insert_eq (by omega)];simp only [Bq0];rw [Qn];unfold ZhS;rw [QR,eq,Yu hq];simp only [Bq0];rw [Zd1 (by omega) (by omega) Qg];simp only [Bq0];rw [Yu hq];simp only [Bq0]
   have e3:YP (tab (nn s) fun p=>tab (mm s * mm s) (σ.ma p)) (q:Int) (tab (mm s * mm s) (mx (σ.ma q) (tab (mm s * mm s) (σ.ma p))))=tab (nn s) fun j=>tab (mm s * mm s) ((YJ s p (Wx s σ p) σ).ma j):=by
    have:=ZeQ (s:=s) (p:=q) (f:=σ.ma) (g:=mx (σ.ma q) (tab (mm s * mm s) (σ.ma p)));unfold ZcO at this;rw [this];show _=tab (nn s) fun j=>tab (mm s * mm s) (Z5 σ.ma (inn s (p:Int)).toNat _ j)
    rw [← hqe];rfl
   have e4:tab (nn s) (Z5 σ.kn q (ins (p:Int) (σ.kn q)))=tab (nn s) (YJ s p (Wx s σ p) σ).kn:=by
    show _=tab (nn s) (Z5 σ.kn (inn s (p:Int)).toNat _);rw [← hqe]
   rw [e3,e4];have e5:ZB.mk (Zh.mk (tab (nn s) σ.st) (tab (nn s) fun j=>tab (mm s * mm s) ((YJ s p (Wx s σ p) σ).ma j)) (tab (nn s) (YJ s p (Wx s σ p) σ).kn) (tab (nn s) σ.wa) (tab (mm s) σ.be) (tab (mm s * mm s) (KH σ)) σ.sd) (Zc.mk s.qG s.Ze) σ.ev=hal s (YJ s p (Wx s σ p) σ):=rfl;rw [e5];have hk3:=UZ hS hk hp h0 h3 (by rw [← hqe];exact hn) (Wx s σ p);rw [Y4];unfold K6;rw [← hqe];have e6:(YJ s p (Wx s σ p) σ).st q=σ.st q:=rfl;by_cases h2:σ.st q=2
   ·rw [decide_eq_true h2,U5,Zdt (by omega) hS hq (by have:=hk3.len hS hq;omega)];by_cases hA:Alo s (YJ s p (Wx s σ p) σ) q
    ·rw [Z6 hA];simp only [Bq0,Bool.and_self,Cq1];rw [hx (by rw [e6];exact h2),Z6 ⟨by rw [e6];exact h2,hA⟩];rfl
    ·rw [ZU hA];simp only [Bq0,Bool.and_false,Cq0];rw [ZU fun z=>hA z.2]
     rfl
   ·rw [decide_eq_false h2,Zaq];simp only [Bq0,Bool.false_and,Cq0];rw [ZU fun z=>h2 (by rw [← e6];exact z.1)]
    rfl
  ·rw [decide_eq_false e,Cq0,if_neg e];unfold ZfR;rw [show app 8 ([]:List Int) (tab (mm s * mm s) (σ.ma p))=some (Wx s σ p) from ZmH hS hp];simp only [Bq0];rw [Zag hS (hw.few (by omega)) (hS.pl hp).2 (hS.pl hq).2];rfl
theorem Znu (hF:1000000 <=F) (hS:X0 s):∀ (d p:Nat) (σ:TS) (F':Nat),d < F' ->p < nn s ->up s d (p:Int) < 0 ->Wf s B σ ->B <=700000 ->Kn s σ ->σ.st p ≠ 3 ->loop F' (ZjK F) (hal s σ,(p:Int))=some (hal s (Zid s d p σ)):=by
 intro d
 induction d generalizing B with
 | zero=>intro p σ F' _ _ hu _ _ _ _;exact absurd hu (by show ¬ ((p:Int)) < 0;omega)
 | succ d ih=>
   intro p σ F' hd hp hu hw hB hk h3;cases F' with
   | zero=>omega
   | succ F'=>
     obtain⟨b1,w0,b2⟩:=Zkd hw hp h3;have wA:=Zqc hS hw hp h3;have kA:=ZqP hk p;have sA:=QG (s:=s) p σ;have w1:=hw.st hp (3:Int) (B':=B) (by rw [show sw (3:Int)=0 from rfl];omega);have sB:=ZbW (s:=s) p (σ.wa p) (JJ p σ);rw [Uk];unfold ZjK;dsimp only;rw [show(hal s σ).Za.qV=tab (nn s) σ.st from rfl,Yu hp];simp only [Bq0];rw [Qn,show ZB.mk (Zh.mk (tab (nn s) (Z5 σ.st p 3)) (hal s σ).Za.qX (hal s σ).Za.qZ (hal s σ).Za.Zm (hal s σ).Za.Zu (hal s σ).Za.kQ (hal s σ).Za.kK) (hal s σ).qK (hal s σ).kU=hal s {σ with st:=Z5 σ.st p 3} from rfl,WY (w1.few (by omega))];simp only [Bq0];rw [show(hal s (tell 6 (p:Int) 0 0 {σ with st:=Z5 σ.st p 3})).Za.Zm=tab (nn s) σ.wa from rfl,Yu hp];simp only [Bq0];rw [Qn];refine XI (fun k=>((k:Int),tab (nn s) (Zu s p ((σ.wa p).take k) (JJ p σ)).st,(tab (nn s) fun j=>tab (mm s * mm s) ((Zu s p ((σ.wa p).take k) (JJ p σ)).ma j)),tab (nn s) (Zu s p ((σ.wa p).take k) (JJ p σ)).kn,tab (nn s) (Zu s p ((σ.wa p).take k) (JJ p σ)).wa,tab (mm s) (Zu s p ((σ.wa p).take k) (JJ p σ)).be,tab (mm s * mm s) (KH (Zu s p ((σ.wa p).take k) (JJ p σ))),(Zu s p ((σ.wa p).take k) (JJ p σ)).sd,s.qG,s.Ze,(Zu s p ((σ.wa p).take k) (JJ p σ)).ev)) rfl (n:= (σ.wa p).length) (by omega) (fun k hk' next=>?_) (fun next=>?_)
     ·unfold Zk3;dsimp only;rw [Y0 hk',Cq1,Qx 0 hk'];simp only [Bq0];obtain⟨j,ej,hj⟩:=hw.ws p hp _ (XG (d:=0) hk');have wk:=ZgI hS hp ((σ.wa p).take k) _ _ w0 (fun x hx=>hw.ws p hp x (List.mem_of_mem_take hx));have hlen:((σ.wa p).take k).length <= (σ.wa p).length:=by rw [List.length_take];omega
      rw [ZkK,ej,Zj0 hS (wk.few (by omega)) hj hp];simp only [Bq0];rw [ZpH p k _ hk',ej,Int.toNat_natCast,Qt (by omega)];rfl
     ·unfold Zk3;dsimp only;rw [Y9,Cq0,List.take_length,ZkK,UI hS hp];simp only [Bq0];have wB:=ZgI hS hp (σ.wa p) _ _ w0 (hw.ws p hp);refine ZoK (by omega) hS wB (by omega) hp (fun v k hk' next=>?_) (fun next=>?_)
      ·unfold ZhU ZhT;dsimp only;rw [ZeR hS hk',Cq1];by_cases z:k=pl s p
       ·subst z;rw [show(((pl s p:Nat):Int) != ((pl s p:Nat):Int))=false by simp,Cq0,Cq0]
       ·have:(((k:Int)) != ((pl s p:Int)))=true:=by rw [Zcz];exact decide_eq_true (by omega)
        rw [this,Cq1,Cq1,ZbH hS (hS.pl hp).2 hk',Yu (Wy (hS.pl hp).2 hk')];simp only [Bq0];rw [Zun wB (by omega) (Wy (hS.pl hp).2 hk')]
      ·have hpA:(Yk s p σ).st p=3:=by rw [sA.1,Zt]
       have hnot:¬ inn s (p:Int) < 0 ->(p:Int) ∉ (Yk s p σ).kn (inn s (p:Int)).toNat:=fun h0 hm=>by
        obtain⟨eq,hq⟩:=QD hS hp h0;rw [sA.2.1] at hm;obtain⟨k,e1,e2,e3,e4⟩:=hk.rng _ hq _ hm;have:k=p:=by omega
        subst this;exact h3 e4
       have ht:=ZrN (F:=F) (die:=Zid s d) (by omega) hS hp wA (by omega) kA hpA hnot (fun x=>loop F' (ZjK F) x) next fun h0 h2=>by
        obtain⟨eq,hq⟩:=QD hS hp h0;refine ih (B:=B - 1) _ _ F' (by omega) hq ?_ ((Zae wA).up (Nat.le_refl _)) (by omega) (UZ hS kA hp h0 hpA (hnot h0) _) (by rw [h2];decide);rw [← eq];have hu:(if((p:Int)) < 0 then(p:Int) else up s d (inn s (p:Int))) < 0:=hu
        rwa [if_neg (by omega)] at hu
       exact ht
end
end
section
theorem ZyU {α:Type} {l:List α} {c:Nat} (h:c <=l.length):slL l 0 (c:Int)=some (l.take c):=by
 unfold slL;rw [decide_eq_true (show(0:Int) <=0 by omega),decide_eq_true (show(0:Int) <= (c:Int) by omega),decide_eq_true (show(c:Int) <= (l.length:Int) by omega)];simp
theorem Zqg {α:Type} {l:List α} {c:Nat} (h:c <=l.length):slL l (c:Int) (l.length:Int)=some (l.drop c):=by
 unfold slL;rw [decide_eq_true (show(0:Int) <= (c:Int) by omega),decide_eq_true (show(c:Int) <= (l.length:Int) by omega),decide_eq_true (show(l.length:Int) <= (l.length:Int) by omega)];simp
section
variable {s:Zc} {σ:TS} {F B p q:Nat} {die:Nat ->TS ->TS}
end
end
section
noncomputable section
variable (s:Zc)
def JX (p:Nat) (σ:TS):TS:= {σ with st:=Z5 σ.st p 2,ev:=σ.ev ++ [⟨5,(p:Int),0,0⟩]}
def ZfN (fall:Nat ->TS ->TS) (p:Nat) (σ:TS) (k:Nat):TS:=
 if pl s k=pl s p then(if σ.st k=1 then fall k σ else σ)
 else if(k:Int) ∈ σ.kn p then σ else send s (pl s p) (pl s k) ⟨3,(k:Int),0,0,[]⟩ σ
def Zk0 (p:Nat) (σ:TS):TS:=ifc (σ.st p=2∧Alo s σ p) (Zid s (nn s) p σ) σ
def ZmN (p k:Nat):List Nat:= (List.range k).filter fun q:Nat=>inn s (q:Int)== (p:Int)
def fk (fall:Nat ->TS ->TS) (p k:Nat) (σ:TS):TS:= (ZmN s p k).foldl (ZfN s fall p) σ
def JC:Nat ->Nat ->TS ->TS
 | 0,_,σ=>σ
 | d + 1,p,σ=>Zk0 s p (fk s (JC d) p (nn s) (JX p σ))
end
section
variable {s:Zc} {σ:TS} {F B p q d:Nat} {fall:Nat ->TS ->TS}
theorem Zcm (p k:Nat):ZmN s p (k + 1)=ZmN s p k ++ (if inn s (k:Int)= (p:Int) then [k] else []):=by
 unfold ZmN;rw [List.range_succ,List.filter_append,List.filter_cons,List.filter_nil,Y4];by_cases h:inn s (k:Int)= (p:Int) <;> simp [h]
theorem ZhC (p k:Nat):(ZmN s p k).length <=k:=by
 unfold ZmN;have:=List.length_filter_le (fun q:Nat=>inn s (q:Int)== (p:Int)) (List.range k)
 rwa [List.length_range] at this
theorem ZwX {k:Nat} (h:inn s (k:Int)= (p:Int)):fk s fall p (k + 1) σ=ZfN s fall p (fk s fall p k σ) k:=by
 unfold fk;rw [Zcm,if_pos h,List.foldl_append];rfl
theorem ZCg {k:Nat} (h:inn s (k:Int) ≠ (p:Int)):fk s fall p (k + 1) σ=fk s fall p k σ:=by
 unfold fk;rw [Zcm,if_neg h,List.append_nil]
structure Gd (s:Zc) (B:Nat) (σ:TS):Prop where
 wf:Wf s B σ
 kn:Kn s σ
theorem Gd.up (h:Gd s B σ) {B':Nat} (hb:B <=B'):Gd s B' σ:= ⟨h.wf.up hb,h.kn⟩
theorem ZJx (h:Kn s σ) {v:Int} (h3:σ.st p ≠ 3) {e:List Zk}:Kn s {σ with st:=Z5 σ.st p v,ev:=e}:=by
 refine⟨h.srt,fun q hq x hx=>?_⟩;obtain⟨k,h1,h2,h4,h5⟩:=h.rng q hq x hx;refine⟨k,h1,h2,h4,?_⟩;show Z5 σ.st p v k=3;rw [ZC (fun z=>by subst z;exact h3 h5)];exact h5
theorem ZqO (h:Kn s σ) (a b:Nat) (x:Zd):Kn s (send s a b x σ):= ⟨h.srt,h.rng⟩
theorem ZmZ (h:Gd s B σ) (hp:p < nn s) (h1:σ.st p=1):11 <=B∧Gd s (B - 8) (JX p σ):=by
 have hb:=h.wf.pot
 have h11:11 <=Pot s σ:=by
  have:=Uz (f:=fun p=>sw (σ.st p)) hp;have e:sw (σ.st p)=11:=by rw [h1];rfl
  unfold Pot;omega
 have w1:=h.wf.st hp (2:Int) (B':=B - 9) (by rw [h1];show B + 2 <=B - 9 + 11;omega);exact⟨by omega,(w1.tell 5 (p:Int) 0 0).up (by omega),ZJx h.kn (by rw [h1];decide)⟩
theorem Zt8 (hp:p < nn s) (hu:up s (d + 1) (p:Int) < 0):up s d (inn s (p:Int)) < 0:=by
 have hu:(if((p:Int)) < 0 then(p:Int) else up s d (inn s (p:Int))) < 0:=hu
 rwa [if_neg (by omega)] at hu
theorem Zxs (hS:X0 s):∀ (d p:Nat) (σ:TS) (B:Nat),p < nn s ->up s d (p:Int) < 0 ->Gd s B σ ->σ.st p ≠ 3 ->Gd s B (Zid s d p σ):=by
 intro d
 induction d with
 | zero=>intro p σ B hp hu _ _;exact absurd hu (by show ¬ ((p:Int)) < 0;omega)
 | succ d ih=>
   intro p σ B hp hu h h3;have wA:=Zqc hS h.wf hp h3;have kA:=ZqP h.kn p;have sA:=QG (s:=s) p σ;have b1:= (Zkd h.wf hp h3).1;have hpA:(Yk s p σ).st p=3:=by rw [sA.1,Zt]
   show Gd s B (Zly s (Zid s d) p (Yk s p σ));unfold Zly;by_cases h0:inn s (p:Int) < 0
   ·rw [if_pos h0];exact⟨wA.up (by omega),kA⟩
   ·rw [if_neg h0];obtain⟨eq,hq⟩:=QD hS hp h0
    have hnot:(p:Int) ∉ (Yk s p σ).kn (inn s (p:Int)).toNat:=fun hm=>by
     rw [sA.2.1] at hm;obtain⟨k,e1,e2,e3,e4⟩:=h.kn.rng _ hq _ hm;have:k=p:=by omega
     subst this;exact h3 e4
    have k3:=UZ hS kA hp h0 hpA hnot (Wx s (Yk s p σ) p);by_cases e:pl s (inn s (p:Int)).toNat=pl s p
    ·rw [if_pos e];unfold K6;by_cases c:(YJ s p (Wx s (Yk s p σ) p) (Yk s p σ)).st (inn s (p:Int)).toNat=2∧Alo s (YJ s p (Wx s (Yk s p σ) p) (Yk s p σ)) (inn s (p:Int)).toNat
     ·rw [Z6 c];refine(ih _ _ (B - 1) hq ?_ ⟨Zae wA,k3⟩ (by rw [c.1];decide)).up (by omega);rw [← eq];exact Zt8 hp hu
     ·rw [ZU c];exact⟨(Zae wA).up (by omega),k3⟩
    ·rw [if_neg e];exact⟨(wA.send (hS.pl hp).2 (hS.pl hq).2 _).up (by show B - 1 + 1 + 0 <=B;omega),ZqO kA _ _ _⟩
theorem ZyT (hS:X0 s) (ih:∀ (k:Nat) (σ:TS) (B:Nat),k < nn s ->Zbl s d k ->Gd s B σ ->σ.st k=1 ->Gd s B (fall k σ)) {k:Nat} (hk:k < nn s) (hp:p < nn s) (hs:Zbl s d k) (h:Gd s B σ):Gd s (B + 1) (ZfN s fall p σ k):=by
 unfold ZfN;by_cases e:pl s k=pl s p
 ·rw [if_pos e];by_cases e1:σ.st k=1
  ·rw [if_pos e1];exact(ih k σ B hk hs h e1).up (by omega)
  ·rw [if_neg e1];exact h.up (by omega)
 ·rw [if_neg e];by_cases e1:(k:Int) ∈ σ.kn p
  ·rw [if_pos e1];exact h.up (by omega)
  ·rw [if_neg e1];exact⟨(h.wf.send (hS.pl hp).2 (hS.pl hk).2 _).up (by show B + 1 + 0 <=B + 1;omega),ZqO h.kn _ _ _⟩
theorem ZCh (hS:X0 s) (ih:∀ (k:Nat) (σ:TS) (B:Nat),k < nn s ->Zbl s d k ->Gd s B σ ->σ.st k=1 ->Gd s B (fall k σ)) (hp:p < nn s) (hs:Zbl s (d + 1) p) (h:Gd s B σ):∀ k,k <=nn s ->Gd s (B + (ZmN s p k).length) (fk s fall p k σ):=by
 intro k
 induction k with
 | zero=>intro _;exact h
 | succ k ihk=>
   intro hk;have h1:=ihk (by omega);by_cases e:inn s (k:Int)= (p:Int)
   ·rw [ZwX e,Zcm,if_pos e,List.length_append,List.length_singleton];exact ZyT hS ih (by omega) hp (hs.kid e) h1
   ·rw [ZCg e,Zcm,if_neg e,List.append_nil];exact h1
theorem Zb7 (hS:X0 s) (hp:p < nn s):up s (nn s) (p:Int) < 0:=hS.inn.acy p hp
theorem Zk1 (hS:X0 s):∀ (d p:Nat) (σ:TS) (B:Nat),p < nn s ->Zbl s d p ->Gd s B σ ->σ.st p=1 ->Gd s B (JC s d p σ):=by
 intro d
 induction d with
 | zero=>intro p σ B hp hs _ _;exact absurd rfl (hs p hp 0 (Nat.le_refl _))
 | succ d ih=>
   intro p σ B hp hs h h1;obtain⟨b,g0⟩:=ZmZ h hp h1;have g1:=ZCh hS ih hp hs g0 (nn s) (Nat.le_refl _);have hl:=ZhC (s:=s) p (nn s);have h8:nn s <=8:=hS.p2;have g2:=g1.up (B':=B) (by omega);show Gd s B (Zk0 s p (fk s (JC s d) p (nn s) (JX p σ)));unfold Zk0;by_cases c:(fk s (JC s d) p (nn s) (JX p σ)).st p=2∧Alo s (fk s (JC s d) p (nn s) (JX p σ)) p
   ·rw [Z6 c];exact Zxs hS _ _ _ _ hp (Zb7 hS hp) g2 (by rw [c.1];decide)
   ·rw [ZU c];exact g2
def Wm (s:Zc) (σ:TS):List Int×List (List Int)×List (List Int)×List (List Int)×List (List Zd)×List Zl×Int×Int×List ZJ×List Zk:=
 (tab (nn s) σ.st,(tab (nn s) fun j=>tab (mm s * mm s) (σ.ma j)),tab (nn s) σ.kn,tab (nn s) σ.wa,tab (mm s) σ.be,tab (mm s * mm s) (KH σ),σ.sd,s.qG,s.Ze,σ.ev)
theorem Zsv (hF:1000000 <=F) (hS:X0 s) (hp:p < nn s) (h:Gd s B σ) (hB:B <=700000):Zdn F (p:Int) (Wm s σ)=some (hal s (Zk0 s p σ)):=by
 unfold Zdn Wm;dsimp only;rw [Yu hp];simp only [Bq0];rw [Y4,ZkK];unfold Zk0;by_cases h2:σ.st p=2
 ·rw [decide_eq_true h2,U5,Zdt (by omega) hS hp (by have:=h.kn.len hS hp;omega)];by_cases hA:Alo s σ p
  ·rw [Z6 hA,Z6 ⟨h2,hA⟩];simp only [Bq0,Bool.and_self,Cq1];unfold Zw1;have h8:nn s <=8:=hS.p2;rw [Znu hF hS _ _ _ F (by omega) hp (Zb7 hS hp) h.wf hB h.kn (by rw [h2];decide)];rfl
  ·rw [ZU hA,ZU fun z=>hA z.2];simp only [Bq0,Bool.and_false,Cq0]
 ·rw [decide_eq_false h2,Zaq,ZU fun z=>h2 z.1];simp only [Bq0,Bool.false_and,Cq0]
theorem Zgm (k:Int) (nx:Int×List Int×List (List Int)×List (List Int)×List (List Int)×List (List Zd)×List Zl×Int×Int×List ZJ×List Zk ->Option ZB):Zdm F (p:Int) k nx (Wm s σ)=nx (Yz (k + 1),Wm s σ):=rfl
theorem ZjI (hF:1000000 <=F) (hS:X0 s):∀ (d p:Nat) (σ:TS) (F' B:Nat),d < F' ->p < nn s ->Zbl s d p ->Gd s B σ ->B <=700000 ->σ.st p=1 ->loop F' (ZjL F) (hal s σ,(p:Int))=some (hal s (JC s d p σ)):=by
 intro d
 induction d with
 | zero=>intro p σ F' B _ hp hs _ _ _;exact absurd rfl (hs p hp 0 (Nat.le_refl _))
 | succ d ih=>
   intro p σ F' B hd hp hs h hB h1;cases F' with
   | zero=>omega
   | succ F'=>
     obtain⟨b,g0⟩:=ZmZ h hp h1;have gk:=ZCh hS (fun k σ B hk hs h e=>Zk1 hS d k σ B hk hs h e) hp hs g0;have h8:nn s <=8:=hS.p2;have w1:=h.wf.st hp (2:Int) (B':=B) (by rw [h1];show B + 2 <=B + 11;omega);rw [Uk];generalize hnx:loop F' (ZjL F)=nx;unfold ZjL Zlb;dsimp only;rw [show(hal s σ).Za.qV=tab (nn s) σ.st from rfl,Yu hp];simp only [Bq0];rw [Qn,show ZB.mk (Zh.mk (tab (nn s) (Z5 σ.st p 2)) (hal s σ).Za.qX (hal s σ).Za.qZ (hal s σ).Za.Zm (hal s σ).Za.Zu (hal s σ).Za.kQ (hal s σ).Za.kK) (hal s σ).qK (hal s σ).kU=hal s {σ with st:=Z5 σ.st p 2} from rfl,WY (w1.few (by omega))];simp only [Bq0];refine XI (fun k=>((k:Int),Wm s (fk s (JC s d) p k (JX p σ)))) rfl (n:=nn s) (by omega) (fun k hk next=>?_) (fun next=>?_)
     ·have gk':=gk k (by omega);have hl:=ZhC (s:=s) p k;have hB':B - 8 + (ZmN s p k).length <=700000:=by omega
      obtain⟨σk,hσ⟩:∃ σk,σk=fk s (JC s d) p k (JX p σ):= ⟨_,rfl⟩
      rw [← hσ] at gk' ⊢;have fw:=gk'.wf.few (by omega);unfold ZhZ;rw [show(Wm s σk)= (tab (nn s) σk.st,(tab (nn s) fun j=>tab (mm s * mm s) (σk.ma j)),tab (nn s) σk.kn,tab (nn s) σk.wa,tab (mm s) σk.be,tab (mm s * mm s) (KH σk),σk.sd,s.qG,s.Ze,σk.ev) from rfl];dsimp only;rw [show(hal s (tell 5 (p:Int) 0 0 {σ with st:=Z5 σ.st p 2})).qK.Ze=s.Ze from rfl,show((s.Ze.length:Nat):Int)= ((nn s:Nat):Int) from rfl,Y0 hk,Cq1,XE hk];simp only [Bq0];rw [QR,Y4];by_cases e:inn s (k:Int)= (p:Int)
      ·rw [decide_eq_true e,Cq1,ZkK,UI hS hk,UI hS hp];simp only [Bq0];rw [ZwX e,← hσ,Zee];unfold ZfN;by_cases e1:pl s k=pl s p
       ·rw [decide_eq_true e1,Cq1,if_pos e1,Yu hk];simp only [Bq0];rw [Y4];by_cases e2:σk.st k=1
        ·rw [decide_eq_true e2,Cq1,if_pos e2,← hnx,ih k σk F' _ (by omega) hk (hs.kid e) gk' hB' e2];simp only [Bq0];exact(Zgm (s:=s) (σ:=JC s d k σk) (F:=F) (p:=p) (k:Int) next).trans (by rw [Qt (by omega)])
        ·rw [decide_eq_false e2,Cq0,if_neg e2];exact(Zgm (s:=s) (σ:=σk) (F:=F) (p:=p) (k:Int) next).trans (by rw [Qt (by omega)])
       ·rw [decide_eq_false e1,Cq0,if_neg e1,Yu hp];simp only [Bq0];rw [contains_eq (by omega) (by have:=gk'.kn.len hS hp;omega)];simp only [Bq0];by_cases e2:(k:Int) ∈ σk.kn p
        ·rw [decide_eq_true e2,Bool.not_true,Cq0,if_pos e2];exact(Zgm (s:=s) (σ:=σk) (F:=F) (p:=p) (k:Int) next).trans (by rw [Qt (by omega)])
        ·rw [decide_eq_false e2,Bool.not_false,Cq1,if_neg e2];rw [Zag hS fw (hS.pl hp).2 (hS.pl hk).2];simp only [Bq0];exact(Zgm (s:=s) (σ:=send s (pl s p) (pl s k) ⟨3,(k:Int),0,0,[]⟩ σk) (F:=F) (p:=p) (k:Int) next).trans (by rw [Qt (by omega)])
      ·rw [decide_eq_false e,Cq0,ZCg e,← hσ,Qt (by omega)]
       rfl
     ·have gk':=gk (nn s) (Nat.le_refl _);have hl:=ZhC (s:=s) p (nn s);refine(?_:ZhZ F (p:Int) _ _ _ next=Zdn F (p:Int) (Wm s (fk s (JC s d) p (nn s) (JX p σ)))).trans (Zsv hF hS hp gk' (by omega));unfold ZhZ Wm;dsimp only;rw [show(hal s (tell 5 (p:Int) 0 0 {σ with st:=Z5 σ.st p 2})).qK.Ze=s.Ze from rfl,show((s.Ze.length:Nat):Int)= ((nn s:Nat):Int) from rfl,Y9,Cq0]
end
end
section
section
variable {s:Zc} {σ:TS} {F B p q d:Nat} {fall:Nat ->TS ->TS}
end
end
section
def drop1 (i:Nat) (σ:TS):TS:= {σ with ld:=Z5 σ.ld i (σ.ld i + 1)}
noncomputable def Zdh (s:Zc) (k:Nat) (l:List Int) (σ:TS):TS:=K6 s (Zid s (nn s)) k l σ
noncomputable def ZjC (s:Zc) (b:Nat) (x:Zd) (σ:TS):TS:=
 if x.kW=1 then see x.kX.toNat x.kV.toNat x.n σ
 else if x.kW=2 then note s x.kV.toNat x.kX.toNat σ
 else if x.kW=3 then(if σ.st x.kV.toNat=1 then JC s (nn s) x.kV.toNat σ else σ)
 else if x.kW=4 then Zdh s x.kV.toNat x.qX σ
 else wait b x σ
def hd (σ:TS) (i:Nat):Zd:= (σ.sn i).getD (σ.ld i) default
noncomputable def ZfM (s:Zc) (a b:Nat) (σ:TS):TS:=ZjC s b (hd σ (li s a b)) (drop1 (li s a b) σ)
def Zyd (s:Zc) (b:Nat) (x:Zd):Prop:=∃ p:Nat,x.kV= (p:Int)∧p < nn s∧
 ((x.kW=1∧∃ q:Nat,x.kX= (q:Int)∧q < nn s)∨(x.kW=2∧∃ q:Nat,x.kX= (q:Int)∧q < nn s)∨x.kW=3∨(x.kW=4∧0 <=inn s (p:Int)∧x.qX.length=mm s * mm s)∨(x.kW=5∧pl s p=b∧x.qX.length=mm s * mm s∧∃ q:Nat,x.kX= (q:Int)∧q < nn s))
def Ztl (s:Zc) (x:Zd) (σ:TS):Prop:=x.kW=4 ->σ.st x.kV.toNat=3∧x.kV ∉ σ.kn (inn s x.kV).toNat
section
variable {s:Zc} {σ:TS} {F B a b p q:Nat} {x:Zd} {l:List Int}
theorem ZkX (h:σ.ld p < (σ.sn p).length):fl σ p=hd σ p::(σ.sn p).drop (σ.ld p + 1):=by
 unfold fl hd;rw [List.drop_eq_getElem_cons h,ZhM h]
theorem Zu8 (hp:p < mm s * mm s) (h:σ.ld p < (σ.sn p).length):Pot s (drop1 p σ) + ew (hd σ p)=Pot s σ:=by
 have e:=Zbr (f:=lw σ) (g:=lw (drop1 p σ)) hp fun j _ hj=>by
  unfold lw fl;show _ + (((σ.sn j).drop (Z5 σ.ld p _ j)).map ew).sum=_;rw [ZC hj];rfl
 have e1:lw (drop1 p σ) p + ew (hd σ p)=lw σ p:=by
  show(σ.sn p).length + (((σ.sn p).drop (Z5 σ.ld p _ p)).map ew).sum + _= (σ.sn p).length + ((fl σ p).map ew).sum;rw [Zt,ZkX h,List.map_cons,List.sum_cons];omega
 show σ.ev.length + Qd (mm s * mm s) (lw (drop1 p σ)) + Qd (mm s) (fun m=>(σ.be m).length) + Qd (nn s) (fun q=>2 * (σ.wa q).length) + Qd (nn s) (fun p=>sw (σ.st p)) + _=_;unfold Pot;omega
theorem Zq7 (h:Gd s B σ) (hp:p < mm s * mm s) (hl:σ.ld p < (σ.sn p).length):ew (hd σ p) <=B∧Gd s (B - ew (hd σ p)) (drop1 p σ):=by
 have:=Zu8 (s:=s) hp hl;have:=h.wf.pot;refine⟨by omega,⟨by omega,fun i hi=>?_,h.wf.ws⟩,⟨h.kn.srt,h.kn.rng⟩⟩;show Z5 σ.ld p _ i <=_;by_cases e:i=p
 ·subst e;rw [Zt];exact hl
 ·rw [ZC e];exact h.wf.ld i hi
theorem Zvz (hS:X0 s) (h:Gd s B σ) (hp:p < nn s) (h0:¬ inn s (p:Int) < 0) (h3:σ.st p=3) (hn:(p:Int) ∉ σ.kn (inn s (p:Int)).toNat):Gd s B (Zdh s p l σ):=by
 obtain⟨eq,hq⟩:=QD hS hp h0;have k3:=UZ hS h.kn hp h0 h3 hn l;unfold Zdh K6;by_cases c:(YJ s p l σ).st (inn s (p:Int)).toNat=2∧Alo s (YJ s p l σ) (inn s (p:Int)).toNat
 ·rw [Z6 c];exact Zxs hS _ _ _ _ hq (Zb7 hS hq) ⟨Zae h.wf,k3⟩ (by rw [c.1];decide)
 ·rw [ZU c];exact⟨Zae h.wf,k3⟩
theorem Zuo (h:Gd s B σ) (p q:Nat) (n:Int):Gd s (B + 1) (see p q n σ):=by
 refine⟨h.wf.see p q n,?_⟩;unfold see;split <;> exact⟨h.kn.srt,h.kn.rng⟩
theorem ZAO (hS:X0 s) (h:Gd s B σ) (hp:p < nn s) (hq:q < nn s):Gd s (B + 2) (Y7 s p q σ):=by
 have e:=ZcA (s:=s) p q σ;exact⟨h.wf.Y7 hS hp hq,⟨fun j hj=>by rw [e.2.1];exact h.kn.srt j hj,fun j hj y hy=>by rw [e.2.1] at hy;rw [e.1];exact h.kn.rng j hj y hy⟩⟩
theorem ZqG (hS:X0 s) (h:Gd s B σ) (hp:p < nn s) (hq:q < nn s):Gd s (B + 2) (note s p q σ):=by
 refine⟨h.wf.note hS hp hq,?_⟩;unfold note;split
 ·exact(ZAO hS h hp hq).kn
 ·exact⟨h.kn.srt,h.kn.rng⟩
theorem ZyG (h:Gd s B σ) (ha:a < mm s) (x:Zd):Gd s (B + 1) (wait a x σ):= ⟨h.wf.wait ha x,⟨h.kn.srt,h.kn.rng⟩⟩
theorem Zhy (hp:x.kV= (p:Int)) (hd:Ztl s x σ) (h4:x.kW=4):σ.st p=3∧(p:Int) ∉ σ.kn (inn s (p:Int)).toNat:=by
 have:=hd h4;rw [hp,Int.toNat_natCast] at this;exact this
theorem ZvB (hS:X0 s) (h:Gd s B σ) (hb:b < mm s) (hx:Zyd s b x) (hd:Ztl s x σ):Gd s (B + ew x) (ZjC s b x σ):=by
 obtain⟨p,hp,hpn,c⟩:=hx;unfold ZjC;rw [hp,Int.toNat_natCast];rcases c with⟨k,q,hq,Ku⟩ | ⟨k,q,hq,Ku⟩ | k | ⟨k,h0,hl⟩ | ⟨k,e,hl,q,hq,Ku⟩
 ·rw [if_pos k,hq,Int.toNat_natCast];exact(Zuo h q p x.n).up (by unfold ew;rw [if_pos k];omega)
 ·rw [if_neg (by omega),if_pos k,hq,Int.toNat_natCast];exact(ZqG hS h hpn Ku).up (by unfold ew;rw [if_neg (by omega),if_pos k];omega)
 ·rw [if_neg (by omega),if_neg (by omega),if_pos k];split
  ·exact(Zk1 hS _ _ _ _ hpn (Zbl.all hS.inn) h (by assumption)).up (by omega)
  ·exact h.up (by omega)
 ·rw [if_neg (by omega),if_neg (by omega),if_neg (by omega),if_pos k];have:=Zhy hp hd k;exact(Zvz hS h hpn (by omega) this.1 this.2).up (by omega)
 ·rw [if_neg (by omega),if_neg (by omega),if_neg (by omega),if_neg (by omega)];exact(ZyG h hb x).up (by unfold ew;rw [if_neg (by omega),if_neg (by omega),if_pos k];omega)
theorem ZmM (hS:X0 s) (h:Gd s B σ) (ha:a < mm s) (hb:b < mm s) (hl:σ.ld (li s a b) < (σ.sn (li s a b)).length) (hx:Zyd s b (hd σ (li s a b))) (hd:Ztl s (hd σ (li s a b)) σ):Gd s B (ZfM s a b σ):=by
 obtain⟨h1,h2⟩:=Zq7 h (Wy ha hb) hl;exact(ZvB hS h2 hb hx hd).up (by omega)
theorem ZCx {xs ys:List Zd} (h:xs.length + ys.length <=1000000):app 56 xs ys=some (xs ++ ys):=ZpO h (by decide)
theorem ZoM (h:Gd s B σ) (hB:B <=700000) (hp:p < mm s * mm s) (hl:σ.ld p < (σ.sn p).length):
 YP (YP (tab (mm s * mm s) (KH σ)) (p:Int) ⟨(KH σ p).ZM,(fl σ p).drop 1⟩) (p:Int) ⟨Yz ((KH σ p).ZM + 1),(fl σ p).drop 1⟩=tab (mm s * mm s) (KH (drop1 p σ)):=by
 have hs:= (h.wf.few (by omega)).sn p hp;rw [Qn,Qn,Zsm];refine UU fun j hj=>?_
 by_cases e:j=p
 ·subst e;rw [Zt];show _= (⟨((Z5 σ.ld j _ j:Nat):Int),(σ.sn j).drop (Z5 σ.ld j _ j)⟩:Zl);rw [Zt,show(KH σ j).ZM= (σ.ld j:Int) from rfl,Qt (by omega)];unfold fl;rw [List.drop_drop]
 ·rw [ZC e];show _= (⟨((Z5 σ.ld p _ j:Nat):Int),(σ.sn j).drop (Z5 σ.ld p _ j)⟩:Zl);rw [ZC e];rfl
theorem ZDe (hl:σ.ld p < (σ.sn p).length):ZK (KH σ p).kG 0=some (hd σ p):=by
 show ZK (fl σ p) 0=_;rw [ZkX hl];rfl
theorem ZDd (h:Gd s B σ) (hB:B <=700000) (hp:p < mm s * mm s) (hl:σ.ld p < (σ.sn p).length):slL (KH σ p).kG 1 (((KH σ p).kG.length:Nat):Int)=some ((fl σ p).drop 1)∧((fl σ p).drop 1).length <=800000:=by
 have hs:= (h.wf.few (by omega)).sn p hp;refine⟨?_,by unfold fl;rw [List.length_drop,List.length_drop];omega⟩;show slL (fl σ p) ((1:Nat):Int) (((fl σ p).length:Nat):Int)=_;exact Zqg (by unfold fl;rw [List.length_drop];omega)
theorem Zm9 (hF:1000000 <=F) (hS:X0 s) (h:Gd s B σ) (hB:B <=700000) (hp:p < nn s) (h0:¬ inn s (p:Int) < 0) (h3:σ.st p=3) (hn:(p:Int) ∉ σ.kn (inn s (p:Int)).toNat) (hx:x.kV= (p:Int)) (hm:x.qX.length=mm s * mm s):
 Zng F (hal s σ) x=some (hal s (Zdh s p x.qX σ)):=by
 obtain⟨eq,hq⟩:=QD hS hp h0;have k3:=UZ hS h.kn hp h0 h3 hn x.qX;have w3:Wf s B (YJ s p x.qX σ):=Zae h.wf;have h16:=Zhq hS;unfold Zng;rw [hx];show(ZK s.Ze (p:Int)).bind _=_;rw [XE hp];simp only [Bq0];obtain⟨q,hqe⟩:∃ q,q= (inn s (p:Int)).toNat:= ⟨_,rfl⟩
 rw [← hqe] at eq hq hn;rw [QR,eq];have hl:=h.kn.len hS hq;rw [show(hal s σ).Za.qZ=tab (nn s) σ.kn from rfl,Yu hq];simp only [Bq0];rw [Zjj (by omega) (by omega) (h.kn.srt q hq) hn];simp only [Bq0,Bool.not_false,Cq1];rw [insert_eq (by omega)];simp only [Bq0];rw [Qn];unfold Zd7;rw [QR,eq,show(hal s σ).Za.qX=ZcO s σ.ma from rfl,ZjA hq];simp only [Bq0];rw [Zd1 (by omega) (by omega) hm];simp only [Bq0]
 have e4:tab (nn s) (Z5 σ.kn q (ins (p:Int) (σ.kn q)))=tab (nn s) (YJ s p x.qX σ).kn:=by
  show _=tab (nn s) (Z5 σ.kn (inn s (p:Int)).toNat _);rw [← hqe]
 have e3:ZcO s (Z5 σ.ma q (mx (σ.ma q) x.qX))=tab (nn s) fun j=>tab (mm s * mm s) ((YJ s p x.qX σ).ma j):=by
  show _=tab (nn s) fun j=>tab (mm s * mm s) (Z5 σ.ma (inn s (p:Int)).toNat _ j)
  rw [← hqe];rfl
 rw [ZeQ,e3,e4,show(hal s σ).Za.qV=tab (nn s) σ.st from rfl,Yu hq];simp only [Bq0];have e5:ZB.mk (Zh.mk (tab (nn s) σ.st) (tab (nn s) fun j=>tab (mm s * mm s) ((YJ s p x.qX σ).ma j)) (tab (nn s) (YJ s p x.qX σ).kn) (hal s σ).Za.Zm (hal s σ).Za.Zu (hal s σ).Za.kQ (hal s σ).Za.kK) (hal s σ).qK (hal s σ).kU=hal s (YJ s p x.qX σ):=rfl;rw [e5,Y4];unfold Zdh K6;rw [← hqe];have e6:(YJ s p x.qX σ).st q=σ.st q:=rfl;have h8:nn s <=8:=hS.p2;by_cases h2:σ.st q=2
 ·rw [decide_eq_true h2,U5,Zdt (by omega) hS hq (by have:=k3.len hS hq;omega)];by_cases hA:Alo s (YJ s p x.qX σ) q
  ·rw [Z6 hA];simp only [Bq0,Bool.and_self,Cq1];unfold Zw1;rw [Znu hF hS _ _ _ F (by omega) hq (Zb7 hS hq) w3 hB k3 (by rw [e6,h2];decide),Z6 ⟨by rw [e6];exact h2,hA⟩];rfl
  ·rw [ZU hA];simp only [Bq0,Bool.and_false,Cq0];rw [ZU fun z=>hA z.2];rfl
 ·rw [decide_eq_false h2,Zaq];simp only [Bq0,Bool.false_and,Cq0];rw [ZU fun z=>h2 (by rw [← e6];exact z.1)];rfl
theorem Zsg (hF:1000000 <=F) (hS:X0 s) (h:Gd s B σ) (hB:B <=600000) (ha:a < mm s) (hb:b < mm s) (hl:σ.ld (li s a b) < (σ.sn (li s a b)).length) (hx:Zyd s b (hd σ (li s a b))) (hd:Ztl s (hd σ (li s a b)) σ):Zw5 F (hal s σ) (a:Int) (b:Int)=some (hal s (ZfM s a b σ)):=by
 have hi:=Wy ha hb;obtain⟨_,g'⟩:=Zq7 h hi hl;have fw:=g'.wf.few (by omega);obtain⟨t1,t2⟩:=ZDd h (by omega) hi hl;unfold Zw5;show(ZK (tab (mm s * mm s) (KH σ)) (Yz (Yz ((a:Int) * s.qG) + (b:Int)))).bind _=_;rw [ZbH hS ha hb,Yu hi];simp only [Bq0];rw [ZDe hl];simp only [Bq0];rw [t1];simp only [Bq0];unfold Zrl;rw [ZCx (by rw [List.length_nil];omega)];simp only [Bq0,List.nil_append]
 have el:∀ (β:Type) (f:List Zl ->β),f (YP (YP (hal s σ).Za.kQ (Yz ((Yz ((a:Int) * (hal s σ).qK.qG)) + (b:Int))) (Zl.mk (KH σ (li s a b)).ZM ((fl σ (li s a b)).drop 1))) (Yz ((Yz ((a:Int) * (hal s σ).qK.qG)) + (b:Int))) (Zl.mk (Yz ((KH σ (li s a b)).ZM + 1)) ((fl σ (li s a b)).drop 1)))=f (tab (mm s * mm s) (KH (drop1 (li s a b) σ))):=fun β f=>by
  rw [show(hal s σ).qK.qG=s.qG from rfl,ZbH hS ha hb,show(hal s σ).Za.kQ=tab (mm s * mm s) (KH σ) from rfl,ZoM h (by omega) hi hl]
 have el:=el _ id;simp only [id] at el;rw [el];have e5:ZB.mk (Zh.mk (hal s σ).Za.qV (hal s σ).Za.qX (hal s σ).Za.qZ (hal s σ).Za.Zm (hal s σ).Za.Zu (tab (mm s * mm s) (KH (drop1 (li s a b) σ))) (hal s σ).Za.kK) (hal s σ).qK (hal s σ).kU=hal s (drop1 (li s a b) σ):=rfl;rw [e5];unfold ZfM ZjC;obtain⟨y,hy⟩:∃ y,y=Proofs.YtcnahmgekicbdaaGreat.hd σ (li s a b):= ⟨_,rfl⟩
 rw [← hy] at hx hd ⊢;obtain⟨p,hp,hpn,c⟩:=hx;simp only [Y4];rcases c with⟨k,q,hq,Ku⟩ | ⟨k,q,hq,Ku⟩ | k | ⟨k,h0,hm⟩ | ⟨k,e,hm,q,hq,Ku⟩
 ·rw [decide_eq_true k,Cq1,if_pos k,Zmj fw hq Ku,hp,hq,Int.toNat_natCast,Int.toNat_natCast]
  rfl
 ·rw [decide_eq_false (by omega),Cq0,decide_eq_true k,Cq1,if_neg (by omega),if_pos k,Zjz hS fw hp hq hpn Ku,hp,hq,Int.toNat_natCast,Int.toNat_natCast]
  rfl
 ·rw [decide_eq_false (by omega),Cq0,decide_eq_false (by omega),Cq0,decide_eq_true k,Cq1,if_neg (by omega),if_neg (by omega),if_pos k,hp,Int.toNat_natCast];show(ZK (tab (nn s) σ.st) (p:Int)).bind _=_;rw [Yu hpn];simp only [Bq0];by_cases e:σ.st p=1
  ·rw [decide_eq_true e,Cq1,if_pos (show(drop1 (li s a b) σ).st p=1 from e)];unfold Zw7;have h8:nn s <=8:=hS.p2;rw [ZjI hF hS (nn s) _ _ F _ (by omega) hpn (Zbl.all hS.inn) g' (by omega) e];rfl
  ·rw [decide_eq_false e,Cq0,if_neg (show ¬ (drop1 (li s a b) σ).st p=1 from e)];rfl
 ·have hD:=Zhy hp hd k;rw [decide_eq_false (by omega),Cq0,decide_eq_false (by omega),Cq0,decide_eq_false (by omega),Cq0,decide_eq_true k,Cq1,if_neg (by omega),if_neg (by omega),if_neg (by omega),if_pos k,Zm9 hF hS g' (by omega) hpn (by omega) hD.1 hD.2 hp hm,hp,Int.toNat_natCast];rfl
 ·rw [decide_eq_false (by omega),Cq0,decide_eq_false (by omega),Cq0,decide_eq_false (by omega),Cq0,decide_eq_false (by omega),Cq0,decide_eq_true k,Cq1,if_neg (by omega),if_neg (by omega),if_neg (by omega),if_neg (by omega)];unfold Zrk;rw [hp,UI hS hpn,e];simp only [Bq0];rw [Zjd fw hb];rfl
end
end
section
section
variable {s:Zc} {σ:TS} {F B a b p q:Nat} {x:Zd} {l:List Int}
end
end
section
noncomputable section
def dep (s:Zc) (q:Nat):Nat:=@dite _ (∃ m,m <=nn s∧up s (m + 1) (q:Int) < 0∧∀ k,k < m ->¬ up s (k + 1) (q:Int) < 0) (Classical.propDecidable _) (fun h=>Classical.choose h) (fun _=>0)
def rdy (s:Zc) (ld:Nat ->Nat) (w:Nat) (x:Zd):Prop:=∀ b:Nat,b < mm s ->b ≠ w ->x.qX.getD (li s b w) 0 <= (ld (li s b w):Int)
def Zdc (s:Zc) (x:Zd):Nat:=dep s x.kX.toNat
def UC (s:Zc) (ld:Nat ->Nat) (w:Nat) (l:List Zd):Nat ->Option Nat
 | 0=>none
 | k + 1=>ifc (rdy s ld w (l.getD k default)∧∀ j,UC s ld w l k=some j ->Zdc s (l.getD j default) < Zdc s (l.getD k default)) (some k) (UC s ld w l k)
def Zbi {α:Type} (l:List α) (i:Nat):List α:=l.take i ++ l.drop (i + 1)
def rung (s:Zc) (w i:Nat) (σ:TS):TS:=
 if σ.st ((σ.be w).getD i default).kV.toNat=1 then tell 4 ((σ.be w).getD i default).kV ((σ.be w).getD i default).kX 0 {σ with be:=Z5 σ.be w (Zbi (σ.be w) i)} else{σ with be:=Z5 σ.be w (Zbi (σ.be w) i)}
def Zbw (s:Zc) (w:Nat):Nat ->TS ->TS
 | 0,σ=>σ
 | n + 1,σ=>match UC s σ.ld w (σ.be w) (σ.be w).length with
   | none=>σ
   | some i=>Zbw s w n (rung s w i σ)
end
def BeS (s:Zc) (x:Zd):Prop:= (∃ p:Nat,x.kV= (p:Int)∧p < nn s)∧(∃ q:Nat,x.kX= (q:Int)∧q < nn s)∧x.qX.length=mm s * mm s
section
variable {s:Zc} {σ:TS} {F B a b p q w:Nat} {x:Zd} {l:List Zd}
theorem Zxt (hS:X0 s) (hq:q < nn s):dep s q <=nn s∧up s (dep s q + 1) (q:Int) < 0∧∀ k,k < dep s q ->¬ up s (k + 1) (q:Int) < 0:=by
 have h:∃ m,m <=nn s∧up s (m + 1) (q:Int) < 0∧∀ k,k < m ->¬ up s (k + 1) (q:Int) < 0:=
  Kv (c:=fun k=>up s (k + 1) (q:Int) < 0) (n:=nn s) (Jt (hS.inn.acy q hq) (by unfold nn;omega))
 unfold dep;rw [dif_pos h];exact Classical.choose_spec h
theorem Zie {β:Type} (hF:1000 <=F) (hS:X0 s) (hq:q < nn s) {r:Int ->Option β} {body:Int×Int ->(Int×Int ->Option β) ->Option β}
 (hb:∀ v n next,body (v,n) next=bif decide (v >=0) then(ZK s.Ze v).bind fun x=>next (x.Ul,Yz (n + 1)) else r n):loop F body (inn s (q:Int),0)=r (dep s q:Int):=by
 obtain⟨h1,h2,h3⟩:=Zxt hS hq;have h8:nn s <=8:=hS.p2;refine XI (fun k=>(up s (k + 1) (q:Int),(k:Int))) (by show(up s (0 + 1) (q:Int),((0:Nat):Int))=_;rw [up1];rfl) (n:=dep s q) (by omega) (fun k hk next=>?_) (fun next=>?_)
 ·have h:=h3 k hk;obtain⟨j,e,hj⟩:=KO (hS.inn.up (q:= (q:Int)) ⟨by omega,by unfold nn at hq;omega⟩ (k + 1)) h;rw [hb,Jk s (k + 1),if_neg h,e,ZaO,Cq1,XE hj];simp only [Bq0];rw [QR,Qt (by omega)]
 ·rw [hb,decide_eq_false (by omega),Cq0]
theorem Zoo (hF:1000 <=F) (hS:X0 s) (hw:w < mm s) (hx:x.qX.length=mm s * mm s):Znf F (hal s σ) (w:Int) x=ifc (rdy s σ.ld w x) (some true) (some false):=by
 have h4:=hS.mm.2.2;unfold Znf
 exact KR (body:=Zd6 (hal s σ) (w:Int) x) (r1:=some false) (r2:=some true) (s0:= (0:Int)) (fun k=>(k:Int)) rfl (fun k:Nat=>k ≠ w ->x.qX.getD (li s k w) 0 <= (σ.ld (li s k w):Int)) (n:=mm s) (F:=F) (by omega) (fun k hk next=>by
  unfold Zd6;rw [show(hal s σ).qK.qG=s.qG from rfl,ZeR hS hk,Cq1];by_cases e:k=w
  ·subst e;rw [show(((k:Int)) != ((k:Int)))=false by simp,Cq0,Z6 (fun z=>absurd rfl z),Qt (by omega)]
  ·have e1:(((k:Int)) != ((w:Int)))=true:=by rw [Zcz];exact decide_eq_true (by omega)
   have hi:=Wy hk hw;rw [e1,Cq1,ZbH hS hk hw,show(hal s σ).Za.kQ=tab (mm s * mm s) (KH σ) from rfl,Yu hi];simp only [Bq0];rw [Qx 0 (by rw [hx];exact hi)];simp only [Bq0];rw [show(KH σ (li s k w)).ZM= (σ.ld (li s k w):Int) from rfl];by_cases c:x.qX.getD (li s k w) 0 <= (σ.ld (li s k w):Int)
   ·rw [decide_eq_false (by omega),Cq0,Z6 (fun _=>c),Qt (by omega)]
   ·rw [decide_eq_true (by omega),Cq1,ZU (fun z=>c (z e))]) (fun next=>by
  unfold Zd6;rw [show(hal s σ).qK.qG=s.qG from rfl,Zkz hS,Cq0])
theorem Zcf {ld:Nat ->Nat}:∀ k j,UC s ld w l k=some j ->j < k:=by
 intro k
 induction k with
 | zero=>intro j h;cases h
 | succ k ih=>
   intro j h;rw [UC] at h;by_cases c:rdy s ld w (l.getD k default)∧∀ j,UC s ld w l k=some j ->Zdc s (l.getD j default) < Zdc s (l.getD k default)
   ·rw [Z6 c] at h;cases h;omega
   ·rw [ZU c] at h;have:=ih j h;omega
def pI (o:Option Nat):Int:=match o with | none=>-1 | some j=>(j:Int)
noncomputable def pD (s:Zc) (l:List Zd) (o:Option Nat):Int:=match o with | none=>0 | some j=>(Zdc s (l.getD j default):Int)
theorem Zjw (hF:1000000 <=F) (hS:X0 s) (hw:w < mm s) (hl:l.length <=700000) (hx:∀ x ∈ l,BeS s x):
 ZhY F (w:Int) (tab (nn s) σ.st) (tab (nn s) fun p=>tab (mm s * mm s) (σ.ma p)) (tab (nn s) σ.kn) (tab (nn s) σ.wa) (tab (mm s) σ.be) (tab (mm s * mm s) (KH σ)) σ.sd s.qG s.Ze σ.ev l=some (pI (UC s σ.ld w l l.length)):=by
 unfold ZhY;refine XI (fun k=>(pI (UC s σ.ld w l k),pD s l (UC s σ.ld w l k),(k:Int))) rfl (n:=l.length) (by omega) (fun k hk next=>?_) (fun next=>?_)
 ·unfold Zk9;dsimp only;rw [Y0 hk,Cq1,Qx default hk];simp only [Bq0];obtain⟨x,ex⟩:∃ x,x=l.getD k default:= ⟨_,rfl⟩
  obtain⟨_,⟨q,hq,Ku⟩,hm⟩:=hx _ (XG (d:=default) hk);rw [← ex] at hq hm ⊢;rw [ZkK,Zoo (by omega) hS hw hm,hq];have ed:Zdc s x=dep s q:=by unfold Zdc;rw [hq,Int.toNat_natCast]
  rw [UC,← ex];have j0:∀ (a b:Int),ZbP (k:Int) next (a,b)=next (a,b,((k + 1:Nat):Int)):=fun a b=>by unfold ZbP;dsimp only;rw [Qt (by omega)]
  by_cases r:rdy s σ.ld w x
  ·rw [Z6 r];simp only [Bq0,Bool.true_and];cases hpk:UC s σ.ld w l k with
   | none=>
     rw [show decide (pI none < 0)=true from rfl,Bool.not_true,Cq0,Cq1];unfold Zk6;simp only [Bq0];rw [XE Ku];simp only [Bq0];rw [QR,Zie (r:=fun n=>Ze5 (k:Int) next n) (by omega) hS Ku (fun v n nx=>by unfold Zpg;dsimp only;rw [Bool.not_true,Cq0]),Z6 ⟨r,fun j z=>by cases z⟩];unfold Ze5;rw [j0];show _=next ((k:Int),(Zdc s (l.getD k default):Int),_);rw [← ex,ed]
   | some j=>
     rw [show decide (pI (some j) < 0)=false from decide_eq_false (by simp [pI]),Bool.not_false,Cq1];unfold Zk8;simp only [Bq0];rw [XE Ku];simp only [Bq0];rw [QR,Zie (r:=fun n=>Ze7 F s.Ze (pI (some j)) (pD s l (some j)) (k:Int) next x true n) (by omega) hS Ku (fun v n nx=>by unfold Zph;dsimp only;rw [Bool.not_true,Cq0])];unfold Ze7;rw [Bool.true_and];by_cases c:Zdc s (l.getD j default) < Zdc s x
     ·rw [decide_eq_true (show(dep s q:Int) > pD s l (some j) by show(dep s q:Int) > (Zdc s (l.getD j default):Int);omega),Cq1];unfold Zk7;simp only [Bq0];rw [hq,XE Ku];simp only [Bq0];rw [QR,Zie (r:=fun n=>Ze6 (k:Int) next n) (by omega) hS Ku (fun v n nx=>by unfold Zpi;dsimp only;rw [Bool.not_true,Cq0]),Z6 ⟨r,fun j' z=>by cases z;exact c⟩];unfold Ze6;rw [j0];show _=next ((k:Int),(Zdc s (l.getD k default):Int),_);rw [← ex,ed]
     ·rw [decide_eq_false (show ¬ (dep s q:Int) > pD s l (some j) by show ¬ (dep s q:Int) > (Zdc s (l.getD j default):Int);omega),Cq0,ZU (fun z=>c (z.2 j rfl)),j0]
  ·rw [ZU r,ZU (fun z=>r z.1)];simp only [Bq0,Bool.false_and,Cq0];rw [j0]
 ·unfold Zk9;dsimp only;rw [Y9,Cq0]
end
end
section
noncomputable def rings (s:Zc):Nat ->TS ->TS
 | 0,σ=>σ
 | k + 1,σ=>Zbw s k ((rings s k σ).be k).length (rings s k σ)
def BeA (s:Zc) (σ:TS):Prop:=∀ w,w < mm s ->∀ x ∈ σ.be w,BeS s x
section
variable {s:Zc} {σ:TS} {F B a b p q w i n:Nat} {x:Zd} {l:List Zd}
theorem Zih {α:Type} {l:List α} {i:Nat} (h:i < l.length):(Zbi l i).length + 1=l.length:=by
 unfold Zbi;rw [List.length_append,List.length_take,List.length_drop];omega
theorem ZbT {α:Type} {l:List α} {i:Nat} {x:α} (h:x ∈ Zbi l i):x ∈ l:=by
 unfold Zbi at h;rcases List.mem_append.1 h with h | h
 ·exact List.mem_of_mem_take h
 ·exact List.mem_of_mem_drop h
theorem Q9 (s:Zc) (w i:Nat) (σ:TS):(rung s w i σ).be=Z5 σ.be w (Zbi (σ.be w) i)∧(rung s w i σ).ld=σ.ld∧(rung s w i σ).st=σ.st∧(rung s w i σ).kn=σ.kn∧(rung s w i σ).ma=σ.ma∧(rung s w i σ).sn=σ.sn∧(rung s w i σ).wa=σ.wa∧(rung s w i σ).sd=σ.sd:=by
 unfold rung;split <;> exact⟨rfl,rfl,rfl,rfl,rfl,rfl,rfl,rfl⟩
theorem Zql (h:Gd s B σ) (hw:w < mm s) (hi:i < (σ.be w).length):Gd s B (rung s w i σ):=by
 have hb:=h.wf.pot;have h1:(σ.be w).length <=Pot s σ:=by have:=Uz (f:=fun m=>(σ.be m).length) hw;unfold Pot;omega
 have hp:=ZoB (s:=s) (σ:=σ) hw (Zbi (σ.be w) i);have hc:=Zih hi;have w1:Wf s (B - 1) {σ with be:=Z5 σ.be w (Zbi (σ.be w) i)}:= ⟨by omega,h.wf.ld,h.wf.ws⟩
 unfold rung;split
 ·exact⟨(w1.tell _ _ _ _).up (by omega),⟨h.kn.srt,h.kn.rng⟩⟩
 ·exact⟨w1.up (by omega),⟨h.kn.srt,h.kn.rng⟩⟩
theorem Zmo (h:BeA s σ):BeA s (rung s w i σ):=fun v hv x hx=>by
 rw [(Q9 s w i σ).1] at hx;by_cases e:v=w
 ·subst e;rw [Zt] at hx;exact h v hv x (ZbT hx)
 ·rw [ZC e] at hx;exact h v hv x hx
theorem ZyY (hw:w < mm s):∀ (n:Nat) (σ:TS),Gd s B σ ->BeA s σ ->Gd s B (Zbw s w n σ)∧BeA s (Zbw s w n σ):=by
 intro n
 induction n with
 | zero=>intro σ h hb;exact⟨h,hb⟩
 | succ n ih=>
   intro σ h hb;rw [Zbw];cases hpk:UC s σ.ld w (σ.be w) (σ.be w).length with
   | none=>exact⟨h,hb⟩
   | some i=>exact ih _ (Zql h hw (Zcf _ _ hpk)) (Zmo hb)
theorem Zg4 (h:Gd s B σ) (hb:BeA s σ):∀ k,k <=mm s ->Gd s B (rings s k σ)∧BeA s (rings s k σ):=by
 intro k
 induction k with
 | zero=>intro _;exact⟨h,hb⟩
 | succ k ih=>
   intro hk;obtain⟨h1,h2⟩:=ih (by omega);exact ZyY (by omega) _ _ h1 h2
theorem del_eq (hi:i < l.length) (hl:l.length <=700000):Zne l (i:Int) (Yz ((i:Int) + 1))=some (Zbi l i):=by
 unfold Zne;rw [Qt (by omega)]
 have e1:slL l (i:Int) ((i + 1:Nat):Int)=some ((l.take (i + 1)).drop i):=by
  unfold slL;rw [decide_eq_true (show(0:Int) <= (i:Int) by omega),decide_eq_true (show(i:Int) <= ((i + 1:Nat):Int) by omega),decide_eq_true (show((i + 1:Nat):Int) <= (l.length:Int) by omega)]
  rfl
 rw [e1];simp only [Bq0];rw [Y4,decide_eq_false (by omega),Cq0,ZyU (by omega)];simp only [Bq0];rw [Zqg (by omega)];simp only [Bq0];rw [ZCx (by rw [List.length_take,List.length_drop];omega)];rfl
theorem ZrS (hF:1000000 <=F) (hS:X0 s) (hB:B <=600000) (hw:w < mm s):∀ (n F':Nat) (σ:TS),n < F' ->(σ.be w).length <=n ->Gd s B σ ->BeA s σ ->loop F' (Zdl F (w:Int)) (Wm s σ)=some (hal s (Zbw s w n σ)):=by
 intro n
 induction n with
 | zero=>
   intro F' σ hn hl h hb;cases F' with
   | zero=>omega
   | succ F'=>
     rw [Uk];unfold Zdl Wm;dsimp only;rw [Yu hw];simp only [Bq0];rw [Zjw hF hS hw (by omega) (hb w hw)];have:(σ.be w).length=0:=by omega
     simp only [Bq0];rw [this,show decide (pI (UC s σ.ld w (σ.be w) 0) < 0)=true from rfl,Cq1];rfl
 | succ n ih=>
   intro F' σ hn hl h hb;cases F' with
   | zero=>omega
   | succ F'=>
     rw [Uk];generalize hnx:loop F' (Zdl F (w:Int))=nx;have hlen:= (h.wf.few (by omega)).be w hw;unfold Zdl;rw [show Wm s σ= (tab (nn s) σ.st,(tab (nn s) fun j=>tab (mm s * mm s) (σ.ma j)),tab (nn s) σ.kn,tab (nn s) σ.wa,tab (mm s) σ.be,tab (mm s * mm s) (KH σ),σ.sd,s.qG,s.Ze,σ.ev) from rfl];dsimp only;have hl7:(σ.be w).length <=600000:=by have:=h.wf.pot;have:=Uz (f:=fun m=>(σ.be m).length) hw;unfold Pot at *;omega
     rw [Yu hw];simp only [Bq0];rw [Zjw hF hS hw (by omega) (hb w hw),Zbw];simp only [Bq0];cases hpk:UC s σ.ld w (σ.be w) (σ.be w).length with
     | none=>rw [show decide (pI none < 0)=true from rfl,Cq1];rfl
     | some i=>
       have hi:=Zcf _ _ hpk;rw [decide_eq_false (show ¬ pI (some i) < 0 by simp [pI]),Cq0,show pI (some i)= (i:Int) from rfl,Qx default hi];simp only [Bq0];rw [del_eq hi (by omega)];simp only [Bq0];obtain⟨⟨p,hp,hpn⟩,_,_⟩:=hb w hw _ (XG (d:=default) hi);rw [hp,Yu hpn];simp only [Bq0];have gr:=Zql h hw hi;have br:=Zmo (w:=w) (i:=i) hb;have lr:((rung s w i σ).be w).length <=n:=by rw [(Q9 s w i σ).1,Zt];have:=Zih hi;omega
       have hih:=ih F' (rung s w i σ) (by omega) lr gr br;rw [hnx] at hih;refine Eq.trans ?_ hih;unfold rung;rw [hp,Int.toNat_natCast,Y4,Qn];by_cases e:σ.st p=1
       ·rw [decide_eq_true e,Cq1,if_pos e,show ZB.mk (Zh.mk (tab (nn s) σ.st) (tab (nn s) fun j=>tab (mm s * mm s) (σ.ma j)) (tab (nn s) σ.kn) (tab (nn s) σ.wa) (tab (mm s) (Z5 σ.be w (Zbi (σ.be w) i))) (tab (mm s * mm s) (KH σ)) σ.sd) (Zc.mk s.qG s.Ze) σ.ev=hal s {σ with be:=Z5 σ.be w (Zbi (σ.be w) i)} from rfl];have hpb:=ZoB (s:=s) (σ:=σ) hw (Zbi (σ.be w) i);have:=Zih hi;have:=h.wf.pot;have w1:Wf s B {σ with be:=Z5 σ.be w (Zbi (σ.be w) i)}:= ⟨by omega,h.wf.ld,h.wf.ws⟩
        rw [WY (w1.few (by omega))]
        rfl
       ·rw [decide_eq_false e,Cq0,if_neg e];rfl
end
end
section
noncomputable section
variable (s:Zc)
def Uw (p:Nat) (σ:TS):TS:=
 if inn s (p:Int) < 0 then Yk s p σ
 else if pl s (inn s (p:Int)).toNat=pl s p then YJ s p (Wx s (Yk s p σ) p) (Yk s p σ)
 else send s (pl s p) (pl s (inn s (p:Int)).toNat) ⟨4,(p:Int),0,0,Wx s (Yk s p σ) p⟩ (Yk s p σ)
def kK (p q:Nat) (σ:TS):TS:=tell 1 p q σ.sd {σ with sd:=σ.sd + 1}
inductive Act:TS ->TS ->Prop
 | fall {σ:TS} {p:Nat} (hp:p < nn s) (h:σ.st p=1):Act σ (JX p σ)
 | Ww {σ:TS} {p k:Nat} (hp:p < nn s) (hk:k < nn s) (hi:inn s (k:Int)= (p:Int)) (h:σ.st p ≠ 1) (hr:pl s k ≠ pl s p) (hn:(k:Int) ∉ σ.kn p):Act σ (send s (pl s p) (pl s k) ⟨3,(k:Int),0,0,[]⟩ σ)
 | die {σ:TS} {p:Nat} (hp:p < nn s) (h:σ.st p=2) (ha:Alo s σ p):Act σ (Uw s p σ)
 | ZcM {σ:TS} {p q:Nat} (hp:p < nn s) (hq:q < nn s) (h:σ.st p=1) (e:pl s p=pl s q):Act σ (see q p σ.sd (kK p q σ))
 | ZcL {σ:TS} {p q:Nat} (hp:p < nn s) (hq:q < nn s) (h:σ.st p=1) (e:pl s p ≠ pl s q):Act σ (send s (pl s p) (pl s q) ⟨1,(p:Int),(q:Int),σ.sd,[]⟩ (kK p q σ))
 | ZcI {σ:TS} {p q:Nat} (hp:p < nn s) (hq:q < nn s) (h:σ.st p=1) (e:pl s p=pl s q):Act σ (note s p q (tell 3 p q 0 σ))
 | ZcH {σ:TS} {p q:Nat} (hp:p < nn s) (hq:q < nn s) (h:σ.st p=1) (e:pl s p ≠ pl s q):Act σ (send s (pl s p) (pl s q) ⟨2,(p:Int),(q:Int),0,[]⟩ (tell 3 p q 0 σ))
 | ZcP {σ:TS} {a b p q:Nat} (ha:a < mm s) (hb:b < mm s) (hl:σ.ld (li s a b) < (σ.sn (li s a b)).length) (hk:(hd σ (li s a b)).kW=1) (hp:(hd σ (li s a b)).kV= (p:Int)) (hq:(hd σ (li s a b)).kX= (q:Int)) (hpn:p < nn s) (Ku:q < nn s):Act σ (see q p (hd σ (li s a b)).n (drop1 (li s a b) σ))
 | ZcS {σ:TS} {a b p q:Nat} (ha:a < mm s) (hb:b < mm s) (hl:σ.ld (li s a b) < (σ.sn (li s a b)).length) (hk:(hd σ (li s a b)).kW=2) (hp:(hd σ (li s a b)).kV= (p:Int)) (hq:(hd σ (li s a b)).kX= (q:Int)) (hpn:p < nn s) (Ku:q < nn s):Act σ (note s p q (drop1 (li s a b) σ))
 | ZcQ {σ:TS} {a b p:Nat} (ha:a < mm s) (hb:b < mm s) (hl:σ.ld (li s a b) < (σ.sn (li s a b)).length) (hk:(hd σ (li s a b)).kW=3) (hp:(hd σ (li s a b)).kV= (p:Int)) (hpn:p < nn s):Act σ (drop1 (li s a b) σ)
 | Zbf {σ:TS} {a b p:Nat} (ha:a < mm s) (hb:b < mm s) (hl:σ.ld (li s a b) < (σ.sn (li s a b)).length) (hk:(hd σ (li s a b)).kW=4) (hp:(hd σ (li s a b)).kV= (p:Int)) (hpn:p < nn s) (h0:0 <=inn s (p:Int)) (hm:(hd σ (li s a b)).qX.length=mm s * mm s) (h3:σ.st p=3) (hn:(p:Int) ∉ σ.kn (inn s (p:Int)).toNat):Act σ (YJ s p (hd σ (li s a b)).qX (drop1 (li s a b) σ))
 | ZcR {σ:TS} {a b:Nat} (ha:a < mm s) (hb:b < mm s) (hl:σ.ld (li s a b) < (σ.sn (li s a b)).length) (hk:(hd σ (li s a b)).kW=5):Act σ (wait b (hd σ (li s a b)) (drop1 (li s a b) σ))
 | ring {σ:TS} {w i:Nat} (hw:w < mm s) (h:UC s σ.ld w (σ.be w) (σ.be w).length=some i):Act σ (rung s w i σ)
inductive Ji:TS ->TS ->Prop
 | refl {σ:TS}:Ji σ σ
 | tail {σ τ υ:TS}:Ji σ τ ->Act s τ υ ->Ji σ υ
def Zge (x:Z8) (σ:TS):Prop:=
 (x.act=1∧∃ p q:Nat,x.a= (p:Int)∧x.b= (q:Int)∧p < nn s∧q < nn s∧σ.st p=1)∨
 (x.act=2∧∃ p q:Nat,x.a= (p:Int)∧x.b= (q:Int)∧p < nn s∧q < nn s∧σ.st p=1)∨
 (x.act=3∧∃ p:Nat,x.a= (p:Int)∧p < nn s∧σ.st p=1)∨
 (x.act=4∧∃ a b:Nat,x.a= (a:Int)∧x.b= (b:Int)∧a < mm s∧b < mm s∧σ.ld (li s a b) < (σ.sn (li s a b)).length)
def ZfU (x:Z8) (σ:TS):TS:=
 if x.act=1 then(if pl s x.a.toNat=pl s x.b.toNat then see x.b.toNat x.a.toNat σ.sd (kK x.a.toNat x.b.toNat σ) else send s (pl s x.a.toNat) (pl s x.b.toNat) ⟨1,x.a,x.b,σ.sd,[]⟩ (kK x.a.toNat x.b.toNat σ))
 else if x.act=2 then(if pl s x.a.toNat=pl s x.b.toNat then note s x.a.toNat x.b.toNat (tell 3 x.a x.b 0 σ) else send s (pl s x.a.toNat) (pl s x.b.toNat) ⟨2,x.a,x.b,0,[]⟩ (tell 3 x.a x.b 0 σ))
 else if x.act=3 then JC s (nn s) x.a.toNat σ
 else ZfM s x.a.toNat x.b.toNat σ
def stepW (x:Z8) (σ:TS):TS:=rings s (mm s) (ZfU s x σ)
end
section
variable {s:Zc} {σ τ υ:TS} {F B a b p q w i n d:Nat} {x:Zd}
theorem Ji.trans (h:Ji s σ τ) (h':Ji s τ υ):Ji s σ υ:=by
 induction h' with
 | refl=>exact h
 | tail _ a ih=>exact .tail ih a
theorem Ji.one (h:Act s σ τ):Ji s σ τ:= .tail .refl h
theorem Ji.keep {P:TS ->Prop} (hP:∀ σ τ,P σ ->Act s σ τ ->P τ) (h:Ji s σ τ) (h0:P σ):P τ:=by
 induction h with
 | refl=>exact h0
 | tail _ a ih=>exact hP _ _ ih a
theorem Wo {α:Type} (f:TS ->α ->TS) (Q:TS ->Prop):∀ (l:List α) (σ:TS),Q σ ->(∀ σ x,x ∈ l ->Q σ ->Q (f σ x)) ->Q (l.foldl f σ):=by
 intro l
 induction l with
 | nil=>intro σ h _;exact h
 | cons x l ih=>intro σ h hf;exact ih _ (hf σ x (by simp) h) fun σ y hy=>hf σ y (by simp [hy])
theorem Qo (p q:Nat) (n:Int) (σ:TS):(see p q n σ).st=σ.st∧(see p q n σ).kn=σ.kn∧(see p q n σ).ma=σ.ma∧(see p q n σ).ld=σ.ld∧(see p q n σ).sn=σ.sn∧(see p q n σ).be=σ.be∧(see p q n σ).wa=σ.wa∧(see p q n σ).sd=σ.sd:=by
 unfold see;split <;> exact⟨rfl,rfl,rfl,rfl,rfl,rfl,rfl,rfl⟩
theorem XR (p q:Nat) (σ:TS):(note s p q σ).st=σ.st∧(note s p q σ).kn=σ.kn∧(note s p q σ).ma=σ.ma∧(note s p q σ).ld=σ.ld∧(note s p q σ).sd=σ.sd∧(note s p q σ).ev=σ.ev:=by
 unfold note;split
 ·have:=ZcA (s:=s) p q σ;exact⟨this.1,this.2.1,this.2.2.1,this.2.2.2.1,this.2.2.2.2.1,this.2.2.2.2.2.1⟩
 ·exact⟨rfl,rfl,rfl,rfl,rfl,rfl⟩
theorem ZAs (p:Nat) (σ:TS):(Uw s p σ).st=Z5 σ.st p 3:=by
 have e:= (QG (s:=s) p σ).1;unfold Uw;split
 ·exact e
 ·split
  ·exact e
  ·exact e
theorem Zm0 {f:Nat ->Int} {k j:Nat} {v:Int} (hv:v ≠ 1) (h:f j ≠ 1):Z5 f k v j ≠ 1:=by
 unfold Z5;by_cases e:j=k
 ·rw [if_pos e];exact hv
 ·rw [if_neg e];exact h
theorem ZHa (h:Act s σ τ) (hp:σ.st p ≠ 1):τ.st p ≠ 1:=by
 cases h with
 | fall hq h=>exact Zm0 (by decide) hp
 | Ww=>exact hp
 | die hq h ha=>rw [ZAs];exact Zm0 (by decide) hp
 | ZcM=>rw [(Qo _ _ _ _).1];exact hp
 | ZcL=>exact hp
 | ZcI=>rw [(XR _ _ _).1];exact hp
 | ZcH=>exact hp
 | ZcP=>rw [(Qo _ _ _ _).1];exact hp
 | ZcS=>rw [(XR _ _ _).1];exact hp
 | ZcQ=>exact hp
 | Zbf=>exact hp
 | ZcR=>exact hp
 | ring=>rw [(Q9 _ _ _ _).2.2.1];exact hp
theorem ZA0 (h:Ji s σ τ) (hp:σ.st p ≠ 1):τ.st p ≠ 1:=h.keep (P:=fun σ=>σ.st p ≠ 1) (fun _ _ h a=>ZHa a h) hp
theorem Znv (hS:X0 s):∀ (d p:Nat) (σ:TS),p < nn s ->up s d (p:Int) < 0 ->σ.st p=2 ->Alo s σ p ->Ji s σ (Zid s d p σ):=by
 intro d
 induction d with
 | zero=>intro p σ hp hu _ _;exact absurd hu (by show ¬ ((p:Int)) < 0;omega)
 | succ d ih=>
   intro p σ hp hu h2 hA;have h1:Ji s σ (Uw s p σ):= .one (.die hp h2 hA);show Ji s σ (Zly s (Zid s d) p (Yk s p σ));unfold Zly;unfold Uw at h1;by_cases h0:inn s (p:Int) < 0
   ·rw [if_pos h0] at h1 ⊢;exact h1
   ·rw [if_neg h0] at h1 ⊢;obtain⟨eq,hq⟩:=QD hS hp h0;by_cases e:pl s (inn s (p:Int)).toNat=pl s p
    ·rw [if_pos e] at h1 ⊢;unfold K6;by_cases c:(YJ s p (Wx s (Yk s p σ) p) (Yk s p σ)).st (inn s (p:Int)).toNat=2∧Alo s (YJ s p (Wx s (Yk s p σ) p) (Yk s p σ)) (inn s (p:Int)).toNat
     ·rw [Z6 c];exact h1.trans (ih _ _ hq (by rw [← eq];exact Zt8 hp hu) c.1 c.2)
     ·rw [ZU c];exact h1
    ·rw [if_neg e] at h1 ⊢;exact h1
theorem ZjJ (hS:X0 s):∀ (d p:Nat) (σ:TS),p < nn s ->Zbl s d p ->σ.st p=1 ->Ji s σ (JC s d p σ):=by
 intro d
 induction d with
 | zero=>intro p σ hp hs _;exact absurd rfl (hs p hp 0 (Nat.le_refl _))
 | succ d ih=>
   intro p σ hp hs h1;have h0:Ji s σ (JX p σ):= .one (.fall hp h1);have hne:(JX p σ).st p ≠ 1:=by show Z5 σ.st p 2 p ≠ 1;rw [Zt];decide
   have hk:Ji s σ (fk s (JC s d) p (nn s) (JX p σ))∧(fk s (JC s d) p (nn s) (JX p σ)).st p ≠ 1:=by
    refine Wo _ (fun τ=>Ji s σ τ∧τ.st p ≠ 1) _ _ ⟨h0,hne⟩ (fun τ k hk ⟨ha,hτ⟩=>?_);obtain⟨hkn,hki⟩:=ZvE.1 (show k ∈ ZEW s p from hk)
    have:Ji s τ (ZfN s (JC s d) p τ k):=by
     unfold ZfN;by_cases e:pl s k=pl s p
     ·rw [if_pos e];by_cases e1:τ.st k=1
      ·rw [if_pos e1];exact ih k τ hkn (hs.kid hki) e1
      ·rw [if_neg e1];exact .refl
     ·rw [if_neg e];by_cases e1:(k:Int) ∈ τ.kn p
      ·rw [if_pos e1];exact .refl
      ·rw [if_neg e1];exact .one (.Ww hp hkn hki hτ e e1)
    exact⟨ha.trans this,ZA0 this hτ⟩
   show Ji s σ (Zk0 s p (fk s (JC s d) p (nn s) (JX p σ)));unfold Zk0;by_cases c:(fk s (JC s d) p (nn s) (JX p σ)).st p=2∧Alo s (fk s (JC s d) p (nn s) (JX p σ)) p
   ·rw [Z6 c];exact hk.1.trans (Znv hS _ _ _ hp (Zb7 hS hp) c.1 c.2)
   ·rw [ZU c];exact hk.1
theorem ZrT (hw:w < mm s):∀ (n:Nat) (σ:TS),Ji s σ (Zbw s w n σ):=by
 intro n
 induction n with
 | zero=>intro σ;exact .refl
 | succ n ih=>
   intro σ;rw [Zbw];cases hpk:UC s σ.ld w (σ.be w) (σ.be w).length with
   | none=>exact .refl
   | some i=>exact(Ji.one (.ring hw hpk)).trans (ih _)
theorem Zdb:∀ k,k <=mm s ->Ji s σ (rings s k σ):=by
 intro k
 induction k with
 | zero=>intro _;exact .refl
 | succ k ih=>intro hk;exact(ih (by omega)).trans (ZrT (by omega) _ _)
theorem Zsh (hS:X0 s) (ha:a < mm s) (hb:b < mm s) (hl:σ.ld (li s a b) < (σ.sn (li s a b)).length) (hx:Zyd s b (hd σ (li s a b))) (hD:Ztl s (hd σ (li s a b)) σ):Ji s σ (ZfM s a b σ):=by
 obtain⟨p,hp,hpn,c⟩:=hx;unfold ZfM ZjC;rcases c with⟨k,q,hq,Ku⟩ | ⟨k,q,hq,Ku⟩ | k | ⟨k,h0,hm⟩ | ⟨k,e,hm,q,hq,Ku⟩
 ·rw [if_pos k,hp,hq,Int.toNat_natCast,Int.toNat_natCast];exact .one (.ZcP ha hb hl k hp hq hpn Ku)
 ·rw [if_neg (by omega),if_pos k,hp,hq,Int.toNat_natCast,Int.toNat_natCast];exact .one (.ZcS ha hb hl k hp hq hpn Ku)
 ·rw [if_neg (by omega),if_neg (by omega),if_pos k,hp,Int.toNat_natCast];have h1:Ji s σ (drop1 (li s a b) σ):= .one (.ZcQ ha hb hl k hp hpn);by_cases e:(drop1 (li s a b) σ).st p=1
  ·rw [if_pos e];exact h1.trans (ZjJ hS _ _ _ hpn (Zbl.all hS.inn) e)
  ·rw [if_neg e];exact h1
 ·rw [if_neg (by omega),if_neg (by omega),if_neg (by omega),if_pos k,hp,Int.toNat_natCast];obtain⟨h3,hn⟩:=Zhy hp hD k;obtain⟨eq,hq⟩:=QD hS hpn (by omega);have h1:Ji s σ (YJ s p (hd σ (li s a b)).qX (drop1 (li s a b) σ)):= .one (.Zbf ha hb hl k hp hpn h0 hm h3 hn);unfold Zdh K6;by_cases c:(YJ s p (hd σ (li s a b)).qX (drop1 (li s a b) σ)).st (inn s (p:Int)).toNat=2∧Alo s (YJ s p (hd σ (li s a b)).qX (drop1 (li s a b) σ)) (inn s (p:Int)).toNat
  ·rw [Z6 c];exact h1.trans (Znv hS _ _ _ hq (Zb7 hS hq) c.1 c.2)
  ·rw [ZU c];exact h1
 ·rw [if_neg (by omega),if_neg (by omega),if_neg (by omega),if_neg (by omega)];exact .one (.ZcR ha hb hl k)
end
end
section
def Zye (s:Zc) (a b:Nat) (x:Zd):Prop:=∃ p:Nat,x.kV= (p:Int)∧p < nn s∧x.qX.length <=16∧
 ((x.kW=1∧pl s p=a∧∃ q:Nat,x.kX= (q:Int)∧q < nn s∧pl s q=b)∨(x.kW=2∧pl s p=a∧∃ q:Nat,x.kX= (q:Int)∧q < nn s∧pl s q=b)∨(x.kW=3∧pl s p=b∧0 <=inn s (p:Int)∧pl s (inn s (p:Int)).toNat=a)∨(x.kW=4∧0 <=inn s (p:Int)∧x.qX.length=mm s * mm s∧pl s p=a∧pl s (inn s (p:Int)).toNat=b)∨(x.kW=5∧pl s p=b∧x.qX.length=mm s * mm s∧∃ q:Nat,x.kX= (q:Int)∧q < nn s∧pl s q=a))
theorem Zye.s {s:Zc} {a b:Nat} {x:Zd} (h:Zye s a b x):Zyd s b x:=by
 obtain⟨p,hp,hpn,_,c⟩:=h;refine⟨p,hp,hpn,?_⟩;rcases c with⟨k,_,q,hq,Ku,_⟩ | ⟨k,_,q,hq,Ku,_⟩ | ⟨k,_⟩ | ⟨k,h0,hm,_⟩ | ⟨k,e,hm,q,hq,Ku,_⟩
 ·exact .inl ⟨k,q,hq,Ku⟩
 ·exact .inr (.inl ⟨k,q,hq,Ku⟩)
 ·exact .inr (.inr (.inl k))
 ·exact .inr (.inr (.inr (.inl ⟨k,h0,hm⟩)))
 ·exact .inr (.inr (.inr (.inr ⟨k,e,hm,q,hq,Ku⟩)))
structure P1 (s:Zc) (σ:TS):Prop where
 lets:∀ a b,a < mm s ->b < mm s ->∀ x ∈ σ.sn (li s a b),Zye s a b x
 self:∀ a,a < mm s ->σ.sn (li s a a)= []
 bea:∀ w,w < mm s ->∀ x ∈ σ.be w,BeS s x∧x.kW=5
 ws:∀ q,q < nn s ->∀ x ∈ σ.wa q,∃ k:Nat,x= (k:Int)∧k < nn s
section
variable {s:Zc} {σ τ υ:TS} {F B a b p q w i n d:Nat} {x:Zd}
theorem ZoN {a b a' b':Nat} (hb:b < mm s) (hb':b' < mm s) (h:li s a b=li s a' b'):a=a'∧b=b':=by
 obtain⟨e1,e2⟩:= (Wl hb).1 (show li s a b=a * mm s + b from rfl);obtain⟨e3,e4⟩:= (Wl hb').1 (show li s a' b'=a' * mm s + b' from rfl);rw [h] at e1 e2;exact⟨by omega,by omega⟩
theorem P1.congr (h:P1 s σ) (h1:τ.sn=σ.sn) (h2:τ.be=σ.be) (h3:τ.wa=σ.wa):P1 s τ:= ⟨by rw [h1];exact h.lets,by rw [h1];exact h.self,by rw [h2];exact h.bea,by rw [h3];exact h.ws⟩
theorem P1.send (h:P1 s σ) (ha:a < mm s) (hb:b < mm s) (hne:a ≠ b) (hx:Zye s a b x):P1 s (Proofs.YtcnahmgekicbdaaGreat.send s a b x σ):=by
 refine⟨fun a' b' ha' hb' y hy=>?_,fun a' ha'=>?_,h.bea,h.ws⟩
 ·by_cases e:li s a' b'=li s a b
  ·obtain⟨rfl,rfl⟩:=ZoN hb' hb e;rw [Zcc] at hy;rcases List.mem_append.1 hy with hy | hy
   ·exact h.lets _ _ ha' hb' y hy
   ·rw [List.mem_singleton.1 hy];exact hx
  ·rw [J4 e] at hy;exact h.lets _ _ ha' hb' y hy
 ·rw [J4 (fun e=>hne (by obtain⟨e1,e2⟩:=ZoN ha' hb e;omega))];exact h.self a' ha'
theorem P1.wait (h:P1 s σ) (hx:BeS s x∧x.kW=5):P1 s (Proofs.YtcnahmgekicbdaaGreat.wait a x σ):=by
 refine⟨h.lets,h.self,fun w hw y hy=>?_,h.ws⟩;have hy:y ∈ Z5 σ.be a (σ.be a ++ [x]) w:=hy;by_cases e:w=a
 ·subst e;rw [Zt] at hy;rcases List.mem_append.1 hy with hy | hy
  ·exact h.bea w hw y hy
  ·rw [List.mem_singleton.1 hy];exact hx
 ·rw [ZC e] at hy;exact h.bea w hw y hy
theorem P1.Y7 (hS:X0 s) (h:P1 s σ) (hp:p < nn s) (hq:q < nn s):P1 s (Proofs.YtcnahmgekicbdaaGreat.Y7 s p q σ):=by
 unfold Proofs.YtcnahmgekicbdaaGreat.Y7;by_cases e:pl s p=pl s q
 ·rw [if_pos e];exact h.wait ⟨⟨⟨p,rfl,hp⟩,⟨q,rfl,hq⟩,Qg⟩,rfl⟩
 ·rw [if_neg e];exact h.send (hS.pl hq).2 (hS.pl hp).2 (fun z=>e z.symm) ⟨p,rfl,hp,(by show(tab _ _).length <=16;rw [Qg];exact Zhq hS),.inr (.inr (.inr (.inr ⟨rfl,rfl,Qg,q,rfl,hq,rfl⟩)))⟩
theorem P1.see (h:P1 s σ) (p q:Nat) (n:Int):P1 s (Proofs.YtcnahmgekicbdaaGreat.see p q n σ):=by
 have e:=Qo p q n σ;exact h.congr e.2.2.2.2.1 e.2.2.2.2.2.1 e.2.2.2.2.2.2.1
theorem P1.note (hS:X0 s) (h:P1 s σ) (hp:p < nn s) (hq:q < nn s):P1 s (Proofs.YtcnahmgekicbdaaGreat.note s p q σ):=by
 unfold Proofs.YtcnahmgekicbdaaGreat.note;by_cases e:σ.st q=3
 ·rw [if_pos e];exact h.Y7 hS hp hq
 ·rw [if_neg e];refine⟨h.lets,h.self,h.bea,fun j hj y hy=>?_⟩;have hy:y ∈ Z5 σ.wa q (σ.wa q ++ [(p:Int)]) j:=hy;by_cases e1:j=q
  ·subst e1;rw [Zt] at hy;rcases List.mem_append.1 hy with hy | hy
   ·exact h.ws j hj y hy
   ·rw [List.mem_singleton.1 hy];exact⟨p,rfl,hp⟩
  ·rw [ZC e1] at hy;exact h.ws j hj y hy
theorem P1.JJ (h:P1 s σ) (p:Nat):P1 s (Proofs.YtcnahmgekicbdaaGreat.JJ p σ):=by
 refine⟨h.lets,h.self,h.bea,fun j hj y hy=>?_⟩;have hy:y ∈ Z5 σ.wa p [] j:=hy;by_cases e1:j=p
 ·subst e1;rw [Zt] at hy;cases hy
 ·rw [ZC e1] at hy;exact h.ws j hj y hy
theorem P1.Zu (hS:X0 s) (h:P1 s σ) (hp:p < nn s) (l:List Int) (hl:∀ x ∈ l,∃ k:Nat,x= (k:Int)∧k < nn s):P1 s (Proofs.YtcnahmgekicbdaaGreat.Zu s p l σ):=
 Wo _ (P1 s) l σ h fun τ x hx hτ=>by
  obtain⟨k,e,hk⟩:=hl x hx;rw [e,Int.toNat_natCast];exact hτ.Y7 hS hk hp
theorem P1.Yk (hS:X0 s) (h:P1 s σ) (hp:p < nn s):P1 s (Proofs.YtcnahmgekicbdaaGreat.Yk s p σ):= ((h.JJ p).Zu hS hp _ (h.ws p hp)).congr rfl rfl rfl
theorem P1.Uw (hS:X0 s) (h:P1 s σ) (hp:p < nn s):P1 s (Proofs.YtcnahmgekicbdaaGreat.Uw s p σ):=by
 have hA:=h.Yk hS hp;unfold Proofs.YtcnahmgekicbdaaGreat.Uw;by_cases h0:inn s (p:Int) < 0
 ·rw [if_pos h0];exact hA
 ·rw [if_neg h0];obtain⟨eq,hq⟩:=QD hS hp h0;by_cases e:pl s (inn s (p:Int)).toNat=pl s p
  ·rw [if_pos e];exact hA.congr rfl rfl rfl
  ·rw [if_neg e];exact hA.send (hS.pl hp).2 (hS.pl hq).2 (fun z=>e z.symm) ⟨p,rfl,hp,(by show(tab _ _).length <=16;rw [Qg];exact Zhq hS),.inr (.inr (.inr (.inl ⟨rfl,by omega,Qg,rfl,rfl⟩)))⟩
theorem ZbL (h:σ.ld i < (σ.sn i).length):hd σ i ∈ σ.sn i:=XG h
theorem P1.act (hS:X0 s) (h:P1 s σ) (ac:Act s σ τ):P1 s τ:=by
 cases ac with
 | fall=>exact h.congr rfl rfl rfl
 | @Ww p k hp hk hi h1 hr hn=>
   exact h.send (hS.pl hp).2 (hS.pl hk).2 (fun z=>hr z.symm) ⟨k,rfl,hk,(by show 0 <=16;omega),.inr (.inr (.inl ⟨rfl,rfl,by omega,by rw [hi,Int.toNat_natCast]⟩))⟩
 | die hp=>exact h.Uw hS hp
 | ZcM hp hq h1 e=>exact(h.congr (τ:=kK _ _ σ) rfl rfl rfl).see _ _ _
 | @ZcL p q hp hq h1 e=>exact(h.congr (τ:=kK _ _ σ) rfl rfl rfl).send (hS.pl hp).2 (hS.pl hq).2 e ⟨p,rfl,hp,(by show 0 <=16;omega),.inl ⟨rfl,rfl,q,rfl,hq,rfl⟩⟩
 | ZcI hp hq h1 e=>exact(h.congr (τ:=tell _ _ _ _ σ) rfl rfl rfl).note hS hp hq
 | @ZcH p q hp hq h1 e=>exact(h.congr (τ:=tell _ _ _ _ σ) rfl rfl rfl).send (hS.pl hp).2 (hS.pl hq).2 e ⟨p,rfl,hp,(by show 0 <=16;omega),.inr (.inl ⟨rfl,rfl,q,rfl,hq,rfl⟩)⟩
 | ZcP=>exact(h.congr (τ:=drop1 _ σ) rfl rfl rfl).see _ _ _
 | ZcS ha hb hl hk hp hq hpn Ku=>exact(h.congr (τ:=drop1 _ σ) rfl rfl rfl).note hS hpn Ku
 | ZcQ=>exact h.congr rfl rfl rfl
 | Zbf=>exact h.congr rfl rfl rfl
 | @ZcR a b ha hb hl hk=>
   have hm:=ZbL hl;obtain⟨p,hp,hpn,_,c⟩:=h.lets a b ha hb _ hm;refine(h.congr (τ:=drop1 _ σ) rfl rfl rfl).wait ⟨?_,hk⟩;rcases c with⟨k,_⟩ | ⟨k,_⟩ | ⟨k,_⟩ | ⟨k,_⟩ | ⟨k,e,hm,q,hq,Ku,_⟩
   ·omega
   ·omega
   ·omega
   ·omega
   ·exact⟨⟨p,hp,hpn⟩,⟨q,hq,Ku⟩,hm⟩
 | @ring w i hw hpk=>
   have e:=Q9 s w i σ;refine⟨by rw [e.2.2.2.2.2.1];exact h.lets,by rw [e.2.2.2.2.2.1];exact h.self,fun v hv y hy=>?_,by rw [e.2.2.2.2.2.2.1];exact h.ws⟩;rw [e.1] at hy;by_cases z:v=w
   ·subst z;rw [Zt] at hy;exact h.bea v hv y (ZbT hy)
   ·rw [ZC z] at hy;exact h.bea v hv y hy
def SnM (σ τ:TS):Prop:=∀ i,(σ.sn i).length <= (τ.sn i).length
theorem SnM.refl' (h:τ.sn=σ.sn):SnM σ τ:=fun i=>by rw [h];exact Nat.le_refl _
theorem SnM.trans (h:SnM σ τ) (h':SnM τ υ):SnM σ υ:=fun i=>Nat.le_trans (h i) (h' i)
theorem SnM.send (x:Zd):SnM σ (Proofs.YtcnahmgekicbdaaGreat.send s a b x σ):=fun i=>by
 by_cases e:i=li s a b
 ·subst e;rw [Zcc,List.length_append];omega
 ·rw [J4 e];exact Nat.le_refl _
theorem SnM.Y7 (p q:Nat):SnM σ (Proofs.YtcnahmgekicbdaaGreat.Y7 s p q σ):=by
 unfold Proofs.YtcnahmgekicbdaaGreat.Y7;split
 ·exact .refl' rfl
 ·exact .send _
theorem SnM.Zu (p:Nat) (l:List Int):SnM σ (Proofs.YtcnahmgekicbdaaGreat.Zu s p l σ):=Wo _ (SnM σ) l σ (.refl' rfl) fun τ x _ h=>h.trans (.Y7 _ _)
theorem SnM.note (p q:Nat):SnM σ (Proofs.YtcnahmgekicbdaaGreat.note s p q σ):=by
 unfold Proofs.YtcnahmgekicbdaaGreat.note;split
 ·exact .Y7 _ _
 ·exact .refl' rfl
theorem SnM.Yk (p:Nat):SnM σ (Proofs.YtcnahmgekicbdaaGreat.Yk s p σ):= (SnM.Zu (σ:=Proofs.YtcnahmgekicbdaaGreat.JJ p σ) p (σ.wa p)).trans (.refl' rfl)
structure P2 (s:Zc) (σ:TS):Prop where
 ld:∀ i,σ.ld i <= (σ.sn i).length
 kn:Kn s σ
theorem P2.of (h:P2 s σ) (h1:τ.ld=σ.ld) (h2:SnM σ τ) (h3:τ.kn=σ.kn) (h4:∀ k,σ.st k=3 ->τ.st k=3):P2 s τ:=
 ⟨fun i=>by rw [h1];exact Nat.le_trans (h.ld i) (h2 i),fun q hq=>by rw [h3];exact h.kn.srt q hq,fun q hq x hx=>by
   rw [h3] at hx;obtain⟨k,a,b,c,d⟩:=h.kn.rng q hq x hx;exact⟨k,a,b,c,h4 k d⟩⟩
theorem P2.drop (h:P2 s σ) (hl:σ.ld i < (σ.sn i).length):P2 s (drop1 i σ):= ⟨fun j=>by
 show Z5 σ.ld i (σ.ld i + 1) j <= (σ.sn j).length;by_cases e:j=i
 ·subst e;rw [Zt];exact hl
 ·rw [ZC e];exact h.ld j,⟨h.kn.srt,h.kn.rng⟩⟩
theorem ZF6 {f:Nat ->Int} {k j:Nat} (h:f j=3):Z5 f k 3 j=3:=by
 unfold Z5;by_cases e:j=k
 ·rw [if_pos e]
 ·rw [if_neg e];exact h
theorem P2.Yk (h:P2 s σ) (p:Nat):P2 s (Proofs.YtcnahmgekicbdaaGreat.Yk s p σ):=by
 have sA:=QG (s:=s) p σ;exact h.of sA.2.2.1 (.Yk p) sA.2.1 fun k hk=>by rw [sA.1];exact ZF6 hk
theorem P2.not_mem (h:P2 s σ) {q:Nat} (hq:q < nn s) (h2:σ.st p ≠ 3):(p:Int) ∉ σ.kn q:=fun hm=>by
 obtain⟨k,e1,_,_,e4⟩:=h.kn.rng q hq _ hm;have:k=p:=by omega
 subst this;exact h2 e4
theorem P2.act (hS:X0 s) (h:P2 s σ) (ac:Act s σ τ):P2 s τ:=by
 cases ac with
 | @fall p hp h1=>
   refine h.of rfl (.refl' rfl) rfl fun k hk=>?_
   show Z5 σ.st p 2 k=3;rw [ZC (fun z=>by subst z;rw [h1] at hk;cases hk)];exact hk
 | Ww=>exact h.of rfl (.send _) rfl fun _ z=>z
 | @die p hp h2 hA=>
   have hD:=h.Yk p;have sA:=QG (s:=s) p σ;unfold Uw;by_cases h0:inn s (p:Int) < 0
   ·rw [if_pos h0];exact hD
   ·rw [if_neg h0];obtain⟨eq,hq⟩:=QD hS hp h0;by_cases e:pl s (inn s (p:Int)).toNat=pl s p
    ·rw [if_pos e];exact⟨hD.ld,UZ hS hD.kn hp h0 (by rw [sA.1,Zt]) (by rw [sA.2.1];exact h.not_mem hq (by rw [h2];decide)) _⟩
    ·rw [if_neg e];exact hD.of rfl (.send _) rfl fun _ z=>z
 | @ZcM p q=>have e:=Qo q p σ.sd (kK p q σ);exact h.of e.2.2.2.1 (.refl' e.2.2.2.2.1) e.2.1 fun k z=>by rw [e.1];exact z
 | @ZcL p q=>exact h.of rfl (SnM.trans (.refl' (τ:=kK p q σ) rfl) (.send _)) rfl fun _ z=>z
 | @ZcI p q=>have e:=XR (s:=s) p q (tell 3 p q 0 σ);exact h.of e.2.2.2.1 (SnM.trans (.refl' (τ:=tell 3 p q 0 σ) rfl) (.note _ _)) e.2.1 fun k z=>by rw [e.1];exact z
 | @ZcH p q=>exact h.of rfl (SnM.trans (.refl' (τ:=tell 3 p q 0 σ) rfl) (.send _)) rfl fun _ z=>z
 | @ZcP a b p q ha hb hl=>have e:=Qo q p (hd σ (li s a b)).n (drop1 (li s a b) σ);exact(h.drop hl).of e.2.2.2.1 (.refl' e.2.2.2.2.1) e.2.1 fun k z=>by rw [e.1];exact z
 | @ZcS a b p q ha hb hl=>have e:=XR (s:=s) p q (drop1 (li s a b) σ);exact(h.drop hl).of e.2.2.2.1 (.note _ _) e.2.1 fun k z=>by rw [e.1];exact z
 | ZcQ ha hb hl=>exact h.drop hl
 | Zbf ha hb hl hk hp hpn h0 hm h3 hn=>exact⟨(h.drop hl).ld,UZ hS (h.drop hl).kn hpn (by omega) h3 hn _⟩
 | ZcR ha hb hl=>exact(h.drop hl).of rfl (.refl' rfl) rfl fun _ z=>z
 | @ring w i=>have e:=Q9 s w i σ;exact h.of e.2.1 (.refl' e.2.2.2.2.2.1) e.2.2.2.1 fun k z=>by rw [e.2.2.1];exact z
structure KI (s:Zc) (σ:TS):Prop where
 k1:∀ (i j:Nat) (x:Zd),(σ.sn i)[j]? =some x ->x.kW=4 ->∃ k:Nat,x.kV= (k:Int)∧k < nn s∧σ.st k=3∧((k:Int) ∈ σ.kn (inn s (k:Int)).toNat↔j < σ.ld i)
 k2:∀ (i i' j j':Nat) (x x':Zd),(σ.sn i)[j]? =some x ->(σ.sn i')[j']? =some x' ->x.kW=4 ->x'.kW=4 ->x.kV=x'.kV ->i=i'∧j=j'
 k3:∀ p,p < nn s ->σ.st p=3 ->0 <=inn s (p:Int) ->(p:Int) ∈ σ.kn (inn s (p:Int)).toNat∨∃ (i j:Nat) (x:Zd),(σ.sn i)[j]? =some x∧x.kW=4∧x.kV= (p:Int)
 k4:∀ p,p < nn s ->σ.st p=3 ->Alo s σ p
def S4 (σ τ:TS):Prop:=∀ (i j:Nat) (x:Zd),x.kW=4 ->((τ.sn i)[j]? =some x↔(σ.sn i)[j]? =some x)
theorem S4.refl' (h:τ.sn=σ.sn):S4 σ τ:=fun i j x _=>by rw [h]
theorem S4.trans (h:S4 σ τ) (h':S4 τ υ):S4 σ υ:=fun i j x hx=>(h' i j x hx).trans (h i j x hx)
theorem XT {x y:Zd} {j:Nat}:((send s a b x σ).sn i)[j]? =some y↔(σ.sn i)[j]? =some y∨(i=li s a b∧j= (σ.sn i).length∧y=x):=by
 by_cases e:i=li s a b
 ·subst e;rw [Zcc];rcases Nat.lt_trichotomy j (σ.sn (li s a b)).length with h | h | h
  ·rw [List.getElem?_append_left h];exact⟨.inl,fun z=>z.elim id fun w=>absurd w.2.1 (by omega)⟩
  ·subst h;rw [List.getElem?_append_right (Nat.le_refl _),Nat.sub_self]
   constructor
   ·intro z;simp at z;exact .inr ⟨rfl,rfl,z.symm⟩
   ·rintro(z | ⟨_,_,z⟩)
    ·rw [List.getElem?_eq_none (Nat.le_refl _)] at z;cases z
    ·simp [z]
  ·constructor
   ·intro z;have:= (Li0 z).1;rw [List.length_append,List.length_singleton] at this;omega
   ·rintro(z | ⟨_,z,_⟩)
    ·have:= (Li0 z).1;omega
    ·omega
 ·rw [J4 e];exact⟨.inl,fun z=>z.elim id fun w=>absurd w.1 e⟩
theorem S4.send (hx:x.kW ≠ 4):S4 σ (Proofs.YtcnahmgekicbdaaGreat.send s a b x σ):=fun i j y hy=>by
 rw [XT];exact⟨fun z=>z.elim id fun w=>absurd (w.2.2 ▸ hy) hx,.inl⟩
theorem S4.Y7 (p q:Nat):S4 σ (Proofs.YtcnahmgekicbdaaGreat.Y7 s p q σ):=by
 unfold Proofs.YtcnahmgekicbdaaGreat.Y7;split
 ·exact .refl' rfl
 ·exact .send (by show(5:Int) ≠ 4;decide)
theorem S4.Zu (p:Nat) (l:List Int):S4 σ (Proofs.YtcnahmgekicbdaaGreat.Zu s p l σ):=Wo _ (S4 σ) l σ (.refl' rfl) fun τ x _ h=>h.trans (.Y7 _ _)
theorem S4.note (p q:Nat):S4 σ (Proofs.YtcnahmgekicbdaaGreat.note s p q σ):=by
 unfold Proofs.YtcnahmgekicbdaaGreat.note;split
 ·exact .Y7 _ _
 ·exact .refl' rfl
theorem S4.Yk (p:Nat):S4 σ (Proofs.YtcnahmgekicbdaaGreat.Yk s p σ):= (S4.Zu (σ:=Proofs.YtcnahmgekicbdaaGreat.JJ p σ) p (σ.wa p)).trans (.refl' rfl)
theorem KI.same (h:KI s σ) (h1:∀ p,τ.st p=3↔σ.st p=3) (h2:τ.kn=σ.kn) (h3:τ.ld=σ.ld) (h4:S4 σ τ):KI s τ:=by
 refine⟨fun i j x hx hk=>?_,fun i i' j j' x x' hx hx' hk hk' e=>h.k2 i i' j j' x x' ((h4 i j x hk).1 hx) ((h4 i' j' x' hk').1 hx') hk hk' e,fun p hp h3' h0=>?_,fun p hp h3'=>?_⟩
 ·obtain⟨k,e1,e2,e3,e4⟩:=h.k1 i j x ((h4 i j x hk).1 hx) hk;exact⟨k,e1,e2,(h1 k).2 e3,by rw [h2,h3];exact e4⟩
 ·rw [h2];exact(h.k3 p hp ((h1 p).1 h3') h0).imp id fun⟨i,j,x,a,b,c⟩=>⟨i,j,x,(h4 i j x b).2 a,b,c⟩
 ·intro k hk e;rw [h2];exact h.k4 p hp ((h1 p).1 h3') k hk e
theorem KI.drop (h:KI s σ) (hl:σ.ld i < (σ.sn i).length) (hk:(hd σ i).kW ≠ 4):KI s (drop1 i σ):=by
 refine⟨fun i' j x hx hk'=>?_,h.k2,h.k3,h.k4⟩;obtain⟨k,e1,e2,e3,e4⟩:=h.k1 i' j x hx hk';refine⟨k,e1,e2,e3,e4.trans ?_⟩;show j < σ.ld i'↔j < Z5 σ.ld i (σ.ld i + 1) i';by_cases e:i'=i
 ·subst e;rw [Zt]
  have:j ≠ σ.ld i':=fun z=>hk (by
   subst z;have hx:(σ.sn i')[σ.ld i']? =some x:=hx;unfold hd;rw [List.getD_eq_getElem?_getD,hx];exact hk')
  omega
 ·rw [ZC e]
theorem ZLZ {f:Nat ->Int} {k j:Nat} {v:Int} (hv:v ≠ 3) (h:f k ≠ 3):Z5 f k v j=3↔f j=3:=by
 unfold Z5;by_cases e:j=k
 ·subst e;rw [if_pos rfl];exact⟨fun z=>absurd z hv,fun z=>absurd z h⟩
 ·rw [if_neg e]
theorem KI.die (hS:X0 s) (hP:P2 s σ) (h:KI s σ) (hp:p < nn s) (h2:σ.st p=2) (hA:Alo s σ p):KI s (Uw s p σ):=by
 have sA:=QG (s:=s) p σ;have h4:=S4.Yk (s:=s) (σ:=σ) p
 have no4:∀ (i j:Nat) (x:Zd),(σ.sn i)[j]? =some x ->x.kW=4 ->x.kV ≠ (p:Int):=fun i j x hx hk e=>by
  obtain⟨k,e1,_,e3,_⟩:=h.k1 i j x hx hk;have:k=p:=by omega
  subst this;rw [h2] at e3;cases e3
 have st3:∀ k,σ.st k=3 ->Z5 σ.st p 3 k=3:=fun k hk=>by
  unfold Z5;by_cases e:k=p
  ·rw [if_pos e]
  ·rw [if_neg e];exact hk
 have ZrP:∀ k,Z5 σ.st p 3 k=3 ->k=p∨σ.st k=3:=fun k hk=>by
  by_cases e:k=p
  ·exact .inl e
  ·rw [ZC e] at hk;exact .inr hk
 unfold Uw;by_cases h0:inn s (p:Int) < 0
 ·rw [if_pos h0];refine⟨fun i j x hx hk=>?_,fun i i' j j' x x' hx hx' hk hk' e=>h.k2 i i' j j' x x' ((h4 i j x hk).1 hx) ((h4 i' j' x' hk').1 hx') hk hk' e,fun k hk h3' h0'=>?_,fun k hk h3'=>?_⟩
  ·obtain⟨k,e1,e2,e3,e4⟩:=h.k1 i j x ((h4 i j x hk).1 hx) hk;exact⟨k,e1,e2,by rw [sA.1];exact st3 k e3,by rw [sA.2.1,sA.2.2.1];exact e4⟩
  ·rw [sA.1] at h3';rcases ZrP k h3' with e | e
   ·subst e;omega
   ·rw [sA.2.1];exact(h.k3 k hk e h0').imp id fun⟨i,j,x,a,b,c⟩=>⟨i,j,x,(h4 i j x b).2 a,b,c⟩
  ·rw [sA.1] at h3';intro j hj e;rw [sA.2.1];rcases ZrP k h3' with z | z
   ·subst z;exact hA j hj e
   ·exact h.k4 k hk z j hj e
 ·rw [if_neg h0];obtain⟨eq,hq⟩:=QD hS hp h0;by_cases e:pl s (inn s (p:Int)).toNat=pl s p
  ·rw [if_pos e]
   have kne:∀ (k q':Nat),k ≠ p ->(((k:Int)) ∈ Z5 (Yk s p σ).kn (inn s (p:Int)).toNat (ins (p:Int) ((Yk s p σ).kn (inn s (p:Int)).toNat)) q'↔(k:Int) ∈ σ.kn q'):=fun k q' hne=>by
    rw [sA.2.1];by_cases z:q'= (inn s (p:Int)).toNat
    ·subst z;rw [Zt,U4];exact⟨fun w=>w.elim (fun w=>absurd (by omega) hne) id,.inr⟩
    ·rw [ZC z]
   refine⟨fun i j x hx hk=>?_,fun i i' j j' x x' hx hx' hk hk' e=>h.k2 i i' j j' x x' ((h4 i j x hk).1 hx) ((h4 i' j' x' hk').1 hx') hk hk' e,fun k hk h3' h0'=>?_,fun k hk h3'=>?_⟩
   ·have hx':= (h4 i j x hk).1 hx;obtain⟨k,e1,e2,e3,e4⟩:=h.k1 i j x hx' hk;have hne:k ≠ p:=fun z=>no4 i j x hx' hk (by rw [e1,z])
    refine⟨k,e1,e2,by show(Yk s p σ).st k=3;rw [sA.1];exact st3 k e3,?_⟩;refine(kne k _ hne).trans ?_;show _↔j < (Yk s p σ).ld i;rw [sA.2.2.1];exact e4
   ·have h3':(Yk s p σ).st k=3:=h3';rw [sA.1] at h3';rcases ZrP k h3' with z | z
    ·subst z;left;show _ ∈ Z5 _ _ _ _;rw [Zt];exact U4.2 (.inl rfl)
    ·have hne:k ≠ p:=fun w=>by subst w;rw [h2] at z;cases z
     refine(h.k3 k hk z h0').imp (fun w=>(kne k _ hne).2 w) fun⟨i,j,x,a,b,c⟩=>⟨i,j,x,(h4 i j x b).2 a,b,c⟩
   ·have h3':(Yk s p σ).st k=3:=h3';rw [sA.1] at h3';intro j hj ej
    have hold:(j:Int) ∈ σ.kn k:=by
     rcases ZrP k h3' with z | z
     ·subst z;exact hA j hj ej
     ·exact h.k4 k hk z j hj ej
    show _ ∈ Z5 _ _ _ _;rw [sA.2.1];by_cases z:k= (inn s (p:Int)).toNat
    ·subst z;rw [Zt];exact U4.2 (.inr hold)
    ·rw [ZC z];exact hold
  ·rw [if_neg e];obtain⟨y,hy⟩:∃ y:Zd,y= ⟨4,(p:Int),0,0,Wx s (Yk s p σ) p⟩:= ⟨_,rfl⟩
   rw [← hy];have yk:y.kW=4:=by rw [hy]
   have yp:y.kV= (p:Int):=by rw [hy]
   refine⟨fun i j x hx hk=>?_,fun i i' j j' x x' hx hx' hk hk' e=>?_,fun k hk h3' h0'=>?_,fun k hk h3'=>?_⟩
   ·rcases XT.1 hx with hx | ⟨e1,e2,e3⟩
    ·obtain⟨k,e1,e2,e3,e4⟩:=h.k1 i j x ((h4 i j x hk).1 hx) hk
     exact⟨k,e1,e2,by show(Yk s p σ).st k=3;rw [sA.1];exact st3 k e3,by
      show _ ∈ (Yk s p σ).kn _↔_ < (Yk s p σ).ld i;rw [sA.2.1,sA.2.2.1];exact e4⟩
    ·refine⟨p,by rw [e3];exact yp,hp,by show(Yk s p σ).st p=3;rw [sA.1,Zt],?_⟩;show _ ∈ (Yk s p σ).kn _↔_ < (Yk s p σ).ld i;rw [sA.2.1,e2,e1];have:= (hP.Yk p).ld (li s (pl s p) (pl s (inn s (p:Int)).toNat));exact⟨fun w=>absurd w (hP.not_mem hq (by rw [h2];decide)),fun w=>by omega⟩
   ·rcases XT.1 hx with hx | ⟨a1,a2,a3⟩ <;> rcases XT.1 hx' with hx' | ⟨b1,b2,b3⟩
    ·exact h.k2 i i' j j' x x' ((h4 i j x hk).1 hx) ((h4 i' j' x' hk').1 hx') hk hk' e
    ·exact absurd (by rw [e,b3,yp]) (no4 i j x ((h4 i j x hk).1 hx) hk)
    ·exact absurd (by rw [← e,a3,yp]) (no4 i' j' x' ((h4 i' j' x' hk').1 hx') hk')
    ·have:i=i':=by rw [a1,b1]
     subst this;exact⟨rfl,by rw [a2,b2]⟩
   ·have h3':(Yk s p σ).st k=3:=h3';rw [sA.1] at h3';rcases ZrP k h3' with z | z
    ·subst z;exact .inr ⟨_,_,y,XT.2 (.inr ⟨rfl,rfl,rfl⟩),yk,yp⟩
    ·refine(h.k3 k hk z h0').imp (fun w=>by show _ ∈ (Yk s p σ).kn _;rw [sA.2.1];exact w) fun⟨i,j,x,a,b,c⟩=>⟨i,j,x,XT.2 (.inl ((h4 i j x b).2 a)),b,c⟩
   ·have h3':(Yk s p σ).st k=3:=h3';rw [sA.1] at h3';intro j hj ej;show _ ∈ (Yk s p σ).kn k;rw [sA.2.1];rcases ZrP k h3' with z | z
    ·subst z;exact hA j hj ej
    ·exact h.k4 k hk z j hj ej
theorem KI.Zbf (hS:X0 s) (h:KI s σ) (hl:σ.ld i < (σ.sn i).length) (hk:(hd σ i).kW=4) (hp:(hd σ i).kV= (p:Int)) (hpn:p < nn s) (l:List Int):KI s (YJ s p l (drop1 i σ)):=by
 have hh:(σ.sn i)[σ.ld i]? =some (hd σ i):=by
  unfold hd;rw [List.getD_eq_getElem?_getD,List.getElem?_eq_getElem hl];rfl
 have kne:∀ (k q':Nat),k ≠ p ->(((k:Int)) ∈ Z5 σ.kn (inn s (p:Int)).toNat (ins (p:Int) (σ.kn (inn s (p:Int)).toNat)) q'↔(k:Int) ∈ σ.kn q'):=fun k q' hne=>by
  by_cases z:q'= (inn s (p:Int)).toNat
  ·subst z;rw [Zt,U4];exact⟨fun w=>w.elim (fun w=>absurd (by omega) hne) id,.inr⟩
  ·rw [ZC z]
 have kup:∀ (k q':Nat),(k:Int) ∈ σ.kn q' ->((k:Int)) ∈ Z5 σ.kn (inn s (p:Int)).toNat (ins (p:Int) (σ.kn (inn s (p:Int)).toNat)) q':=fun k q' hm=>by
  by_cases e:k=p
  ·by_cases z:q'= (inn s (p:Int)).toNat
   ·subst z;rw [Zt];exact U4.2 (.inr hm)
   ·rw [ZC z];exact hm
  ·exact(kne k q' e).2 hm
 refine⟨fun i' j x hx hk'=>?_,h.k2,fun k hk' h3 h0=>(h.k3 k hk' h3 h0).imp (fun w=>kup k _ w) id,fun k hk' h3 j hj e=>kup j k (h.k4 k hk' h3 j hj e)⟩;obtain⟨k,e1,e2,e3,e4⟩:=h.k1 i' j x hx hk';refine⟨k,e1,e2,e3,?_⟩;show(k:Int) ∈ Z5 σ.kn (inn s (p:Int)).toNat (ins (p:Int) (σ.kn (inn s (p:Int)).toNat)) (inn s (k:Int)).toNat↔j < Z5 σ.ld i (σ.ld i + 1) i';by_cases z:k=p
 ·subst z;obtain⟨a,c⟩:=h.k2 i' i j _ x _ hx hh hk' hk (by rw [e1,hp]);subst a c;rw [Zt,Zt];exact⟨fun _=>by omega,fun _=>U4.2 (.inl rfl)⟩
 ·rw [kne k _ z];by_cases e:i'=i
  ·subst e;rw [Zt]
   have:j ≠ σ.ld i':=fun w=>by
    subst w;have hx:(σ.sn i')[σ.ld i']? =some x:=hx;rw [hh] at hx;cases hx;rw [hp] at e1;omega
   exact e4.trans (by omega)
  ·rw [ZC e];exact e4
theorem KI.act (hS:X0 s) (hP:P2 s σ) (h:KI s σ) (ac:Act s σ τ):KI s τ:=by
 cases ac with
 | @fall p hp h1=>exact h.same (fun k=>ZLZ (by decide) (by rw [h1];decide)) rfl rfl (.refl' rfl)
 | Ww=>exact h.same (fun _=>Iff.rfl) rfl rfl (.send (by show(3:Int) ≠ 4;decide))
 | die hp h2 hA=>exact h.die hS hP hp h2 hA
 | @ZcM p q=>have e:=Qo q p σ.sd (kK p q σ);exact h.same (fun k=>by rw [e.1];exact Iff.rfl) e.2.1 e.2.2.2.1 (.refl' e.2.2.2.2.1)
 | @ZcL p q=>exact h.same (fun _=>Iff.rfl) rfl rfl (S4.trans (.refl' (τ:=kK p q σ) rfl) (.send (by show(1:Int) ≠ 4;decide)))
 | @ZcI p q=>have e:=XR (s:=s) p q (tell 3 p q 0 σ);exact h.same (fun k=>by rw [e.1];exact Iff.rfl) e.2.1 e.2.2.2.1 (S4.trans (.refl' (τ:=tell 3 p q 0 σ) rfl) (.note _ _))
 | @ZcH p q=>exact h.same (fun _=>Iff.rfl) rfl rfl (S4.trans (.refl' (τ:=tell 3 p q 0 σ) rfl) (.send (by show(2:Int) ≠ 4;decide)))
 | @ZcP a b p q ha hb hl hk=>have e:=Qo q p (hd σ (li s a b)).n (drop1 (li s a b) σ);exact(h.drop hl (by rw [hk];decide)).same (fun k=>by rw [e.1]) e.2.1 e.2.2.2.1 (.refl' e.2.2.2.2.1)
 | @ZcS a b p q ha hb hl hk=>have e:=XR (s:=s) p q (drop1 (li s a b) σ);exact(h.drop hl (by rw [hk];decide)).same (fun k=>by rw [e.1]) e.2.1 e.2.2.2.1 (.note _ _)
 | ZcQ ha hb hl hk=>exact h.drop hl (by rw [hk];decide)
 | Zbf ha hb hl hk hp hpn=>exact h.Zbf hS hl hk hp hpn _
 | ZcR ha hb hl hk=>exact(h.drop hl (by rw [hk];decide)).same (fun _=>Iff.rfl) rfl rfl (.refl' rfl)
 | @ring w i=>have e:=Q9 s w i σ;exact h.same (fun k=>by rw [e.2.2.1]) e.2.2.2.1 e.2.1 (.refl' e.2.2.2.2.2.1)
end
end
section
def SD (σ:TS):Prop:=0 <=σ.sd∧σ.sd <= (σ.ev.length:Int)
structure Ok (s:Zc) (B:Nat) (σ:TS):Prop where
 gd:Gd s B σ
 p1:P1 s σ
 p2:P2 s σ
 ki:KI s σ
 sd:SD σ
section
variable {s:Zc} {σ τ υ:TS} {F B a b p q w i n d:Nat} {x:Z8}
theorem SD.of (h:SD σ) (h1:τ.sd=σ.sd) (h2:σ.ev.length <=τ.ev.length):SD τ:= ⟨by rw [h1];exact h.1,by rw [h1];have:=h.2;omega⟩
theorem Zup (p q:Nat) (n:Int) (σ:TS):σ.ev.length <= (see p q n σ).ev.length:=by
 unfold see;split
 ·show _ <= (σ.ev ++ [_]).length;rw [List.length_append];omega
 ·exact Nat.le_refl _
theorem SD.act (h:SD σ) (ac:Act s σ τ):SD τ:=by
 cases ac with
 | fall=>exact h.of rfl (by show _ <= (σ.ev ++ [_]).length;rw [List.length_append];omega)
 | Ww=>exact h
 | @die p hp h2 hA=>
   have sA:=QG (s:=s) p σ;have:SD (Yk s p σ):=h.of sA.2.2.2.1 (by rw [sA.2.2.2.2.1,List.length_append];omega);unfold Uw;split
   ·exact this
   ·split
    ·exact this
    ·exact this
 | @ZcM p q hp hq=>
   have e:=Qo q p σ.sd (kK p q σ);have e2:=Zup q p σ.sd (kK p q σ);have e3:(kK p q σ).ev.length=σ.ev.length + 1:=by show(σ.ev ++ [_]).length=_;simp
   refine⟨?_,?_⟩
   ·rw [e.2.2.2.2.2.2.2];show 0 <=σ.sd + 1;have:=h.1;omega
   ·rw [e.2.2.2.2.2.2.2];show σ.sd + 1 <=_;have:=h.2;omega
 | @ZcL p q=>
   have e3:(kK p q σ).ev.length=σ.ev.length + 1:=by show(σ.ev ++ [_]).length=_;simp
   exact⟨by show 0 <=σ.sd + 1;have:=h.1;omega,by show σ.sd + 1 <= ((kK p q σ).ev.length:Int);have:=h.2;omega⟩
 | @ZcI p q=>
   have e:=XR (s:=s) p q (tell 3 p q 0 σ);exact h.of e.2.2.2.2.1 (by rw [e.2.2.2.2.2];show _ <= (σ.ev ++ [_]).length;rw [List.length_append];omega)
 | ZcH=>exact h.of rfl (by show _ <= (σ.ev ++ [_]).length;rw [List.length_append];omega)
 | @ZcP a b p q=>exact h.of (Qo q p (hd σ (li s a b)).n (drop1 (li s a b) σ)).2.2.2.2.2.2.2 (Zup q p (hd σ (li s a b)).n (drop1 (li s a b) σ))
 | @ZcS a b p q=>have e:=XR (s:=s) p q (drop1 (li s a b) σ);exact h.of e.2.2.2.2.1 (by rw [e.2.2.2.2.2];exact Nat.le_refl _)
 | ZcQ=>exact h
 | Zbf=>exact h
 | ZcR=>exact h
 | @ring w i=>
   refine h.of (Q9 s w i σ).2.2.2.2.2.2.2 ?_;unfold rung;split
   ·show _ <= (σ.ev ++ [_]).length;rw [List.length_append];omega
   ·exact Nat.le_refl _
theorem Ok.acts (hS:X0 s) (h:Ok s B σ) (ha:Ji s σ τ) {B':Nat} (g:Gd s B' τ):Ok s B' τ:=by
 have:=ha.keep (P:=fun σ=>P1 s σ∧P2 s σ∧KI s σ∧SD σ) (fun _ _ ⟨a,b,c,d⟩ ac=>⟨a.act hS ac,b.act hS ac,c.act hS b ac,d.act ac⟩) ⟨h.p1,h.p2,h.ki,h.sd⟩;exact⟨g,this.1,this.2.1,this.2.2.1,this.2.2.2⟩
theorem Ok.head (h:Ok s B σ) (ha:a < mm s) (hb:b < mm s) (hl:σ.ld (li s a b) < (σ.sn (li s a b)).length):Zye s a b (hd σ (li s a b))∧Ztl s (hd σ (li s a b)) σ:=by
 have hx:=h.p1.lets a b ha hb _ (ZbL hl);refine⟨hx,fun hk=>?_⟩
 have hh:(σ.sn (li s a b))[σ.ld (li s a b)]? =some (hd σ (li s a b)):=by
  unfold hd;rw [List.getD_eq_getElem?_getD,List.getElem?_eq_getElem hl];rfl
 obtain⟨k,e1,e2,e3,e4⟩:=h.ki.k1 _ _ _ hh hk;rw [e1,Int.toNat_natCast];exact⟨e3,fun m=>absurd (e4.1 m) (Nat.lt_irrefl _)⟩
theorem Zkk (h:Gd s B σ) (p q:Nat):Gd s (B + 1) (kK p q σ):=
 ⟨(Wf.tell (σ:= {σ with sd:=σ.sd + 1}) ⟨h.wf.pot,h.wf.ld,h.wf.ws⟩ 1 p q σ.sd),⟨h.kn.srt,h.kn.rng⟩⟩
theorem Zke (h:Gd s B σ) (d p q n:Int):Gd s (B + 1) (tell d p q n σ):= ⟨h.wf.tell d p q n,⟨h.kn.srt,h.kn.rng⟩⟩
theorem Zqi (h:Gd s B σ) (ha:a < mm s) (hb:b < mm s) (x:Zd):Gd s (B + 1 + ew x) (send s a b x σ):= ⟨h.wf.send ha hb x,⟨h.kn.srt,h.kn.rng⟩⟩
theorem Zgz (hS:X0 s) (h:Ok s B σ) (hx:Zge s x σ):Gd s (B + 4) (ZfU s x σ)∧Ji s σ (ZfU s x σ):=by
 unfold ZfU;rcases hx with⟨k,p,q,ep,eq,hp,hq,h1⟩ | ⟨k,p,q,ep,eq,hp,hq,h1⟩ | ⟨k,p,ep,hp,h1⟩ | ⟨k,a,b,ea,eb,ha,hb,hl⟩
 ·rw [if_pos k,ep,eq,Int.toNat_natCast,Int.toNat_natCast];by_cases e:pl s p=pl s q
  ·rw [if_pos e];exact⟨(Zuo (Zkk h.gd p q) q p σ.sd).up (by omega),.one (.ZcM hp hq h1 e)⟩
  ·rw [if_neg e];exact⟨(Zqi (Zkk h.gd p q) (hS.pl hp).2 (hS.pl hq).2 _).up (by show B + 1 + 1 + 1 <=B + 4;omega),.one (.ZcL hp hq h1 e)⟩
 ·rw [if_neg (by omega),if_pos k,ep,eq,Int.toNat_natCast,Int.toNat_natCast];by_cases e:pl s p=pl s q
  ·rw [if_pos e];exact⟨(ZqG hS (Zke h.gd 3 p q 0) hp hq).up (by omega),.one (.ZcI hp hq h1 e)⟩
  ·rw [if_neg e];exact⟨(Zqi (Zke h.gd 3 p q 0) (hS.pl hp).2 (hS.pl hq).2 _).up (by show B + 1 + 1 + 2 <=B + 4;omega),.one (.ZcH hp hq h1 e)⟩
 ·rw [if_neg (by omega),if_neg (by omega),if_pos k,ep,Int.toNat_natCast];exact⟨(Zk1 hS _ _ _ _ hp (Zbl.all hS.inn) h.gd h1).up (by omega),ZjJ hS _ _ _ hp (Zbl.all hS.inn) h1⟩
 ·rw [if_neg (by omega),if_neg (by omega),if_neg (by omega),ea,eb,Int.toNat_natCast,Int.toNat_natCast];obtain⟨hf,hD⟩:=h.head ha hb hl;exact⟨(ZmM hS h.gd ha hb hl hf.s hD).up (by omega),Zsh hS ha hb hl hf.s hD⟩
theorem ZsG (hS:X0 s) (h:Ok s B σ) (k:x.act=4) (hx:Zge s x σ):Gd s B (ZfU s x σ):=by
 unfold ZfU;rcases hx with⟨k',_⟩ | ⟨k',_⟩ | ⟨k',_⟩ | ⟨_,a,b,ea,eb,ha,hb,hl⟩
 ·omega
 ·omega
 ·omega
 ·rw [if_neg (by omega),if_neg (by omega),if_neg (by omega),ea,eb,Int.toNat_natCast,Int.toNat_natCast];obtain⟨hf,hD⟩:=h.head ha hb hl;exact ZmM hS h.gd ha hb hl hf.s hD
theorem P1.ZGY (h:P1 s σ):BeA s σ:=fun w hw x hx=>(h.bea w hw x hx).1
theorem step_ok (hS:X0 s) (h:Ok s B σ) (hx:Zge s x σ):Ok s (B + 4) (stepW s x σ):=by
 obtain⟨g,ac⟩:=Zgz hS h hx;have o1:=h.acts hS ac g;exact o1.acts hS (Zdb (mm s) (Nat.le_refl _)) (Zg4 g o1.p1.ZGY (mm s) (Nat.le_refl _)).1
theorem Zud (hS:X0 s) (h:Ok s B σ) (k:x.act=4) (hx:Zge s x σ):Ok s B (stepW s x σ):=by
 have g:=ZsG hS h k hx;have o1:=h.acts hS (Zgz hS h hx).2 g;exact o1.acts hS (Zdb (mm s) (Nat.le_refl _)) (Zg4 g o1.p1.ZGY (mm s) (Nat.le_refl _)).1
theorem Zjg (hS:X0 s) (h:Ok s B σ) (hx:Zge s x σ):Ji s σ (stepW s x σ):= (Zgz hS h hx).2.trans (Zdb (mm s) (Nat.le_refl _))
theorem Zom (hF:1000000 <=F) (hS:X0 s) (hB:B <=600000) (h:Gd s B σ) (hb:BeA s σ):ZaQ F (Wm s σ)=some (hal s (rings s (mm s) σ)):=by
 have h4:=hS.mm.2.2;unfold ZaQ;rw [show Wm s σ= (tab (nn s) σ.st,(tab (nn s) fun j=>tab (mm s * mm s) (σ.ma j)),tab (nn s) σ.kn,tab (nn s) σ.wa,tab (mm s) σ.be,tab (mm s * mm s) (KH σ),σ.sd,s.qG,s.Ze,σ.ev) from rfl];dsimp only;refine XI (fun k=>((k:Int),Wm s (rings s k σ))) rfl (n:=mm s) (by omega) (fun k hk next=>?_) (fun next=>?_)
 ·obtain⟨g1,g2⟩:=Zg4 h hb k (by omega);have hl7:((rings s k σ).be k).length <=600000:=by have:=g1.wf.pot;have:=Uz (f:=fun m=>((rings s k σ).be m).length) hk;unfold Pot at *;omega
  unfold Zle;rw [show Wm s (rings s k σ)= (tab (nn s) (rings s k σ).st,(tab (nn s) fun j=>tab (mm s * mm s) ((rings s k σ).ma j)),tab (nn s) (rings s k σ).kn,tab (nn s) (rings s k σ).wa,tab (mm s) (rings s k σ).be,tab (mm s * mm s) (KH (rings s k σ)),(rings s k σ).sd,s.qG,s.Ze,(rings s k σ).ev) from rfl];dsimp only;rw [ZeR hS hk,Cq1,ZkK];unfold Zz6;rw [show loop F (Zdl F (k:Int)) ((hal s (rings s k σ)).Za.qV,(hal s (rings s k σ)).Za.qX,(hal s (rings s k σ)).Za.qZ,(hal s (rings s k σ)).Za.Zm,(hal s (rings s k σ)).Za.Zu,(hal s (rings s k σ)).Za.kQ,(hal s (rings s k σ)).Za.kK,(hal s (rings s k σ)).qK.qG,(hal s (rings s k σ)).qK.Ze,(hal s (rings s k σ)).kU)=some (hal s (rings s (k + 1) σ)) from ZrS hF hS hB hk _ F (rings s k σ) (by omega) (Nat.le_refl _) g1 g2];simp only [Bq0];rw [Qt (by omega)];rfl
 ·unfold Zle Wm;dsimp only;rw [Zkz hS,Cq0];rfl
theorem Zjf (hF:1000000 <=F) (hS:X0 s) (hB:B <=500000) (h:Ok s B σ) (hx:Zge s x σ):ZsA F (hal s σ) x=some (hal s (stepW s x σ)):=by
 obtain⟨g,ac⟩:=Zgz hS h hx;have o1:=h.acts hS ac g;have fin:=Zom (F:=F) hF hS (by omega) g o1.p1.ZGY;unfold stepW;have fw:=h.gd.wf.few (by omega);have hsd:=h.sd;have hev:=fw.ev;unfold ZsA;simp only [Y4];unfold ZfU at fin ⊢;rcases hx with⟨k,p,q,ep,eq,hp,hq,h1⟩ | ⟨k,p,q,ep,eq,hp,hq,h1⟩ | ⟨k,p,ep,hp,h1⟩ | ⟨k,a,b,ea,eb,ha,hb,hl⟩
 ·rw [if_pos k,ep,eq,Int.toNat_natCast,Int.toNat_natCast] at fin ⊢;have es:Yz (σ.sd + 1)=σ.sd + 1:=KX (by have:=hsd.1;omega) (by have:=hsd.2;omega);rw [decide_eq_true k,Cq1,show(hal s σ).Za.kK=σ.sd from rfl,WY fw];simp only [Bq0]
  have e5:ZB.mk (Zh.mk (hal s (tell 1 p q σ.sd σ)).Za.qV (hal s (tell 1 p q σ.sd σ)).Za.qX (hal s (tell 1 p q σ.sd σ)).Za.qZ (hal s (tell 1 p q σ.sd σ)).Za.Zm (hal s (tell 1 p q σ.sd σ)).Za.Zu (hal s (tell 1 p q σ.sd σ)).Za.kQ (Yz ((hal s (tell 1 p q σ.sd σ)).Za.kK + 1))) (hal s (tell 1 p q σ.sd σ)).qK (hal s (tell 1 p q σ.sd σ)).kU=hal s (kK p q σ):=by
   rw [show(hal s (tell 1 p q σ.sd σ)).Za.kK=σ.sd from rfl,es];rfl
  have gs:=Zkk h.gd p q;rw [e5,UI hS hp,UI hS hq];simp only [Bq0];rw [show decide (((pl s p:Nat):Int)= ((pl s q:Nat):Int))=decide (pl s p=pl s q) by rw [← Y4];exact Zee _ _];by_cases e:pl s p=pl s q
  ·rw [if_pos e] at fin ⊢;rw [decide_eq_true e,Cq1,Zmj (gs.wf.few (by omega)) rfl hq];exact fin
  ·rw [if_neg e] at fin ⊢;rw [decide_eq_false e,Cq0,Zag hS (gs.wf.few (by omega)) (hS.pl hp).2 (hS.pl hq).2];exact fin
 ·rw [if_neg (by omega),if_pos k,ep,eq,Int.toNat_natCast,Int.toNat_natCast] at fin ⊢;rw [decide_eq_false (by omega),Cq0,decide_eq_true k,Cq1,WY fw];simp only [Bq0];have gs:=Zke h.gd 3 p q 0;rw [UI hS hp,UI hS hq];simp only [Bq0];rw [show decide (((pl s p:Nat):Int)= ((pl s q:Nat):Int))=decide (pl s p=pl s q) by rw [← Y4];exact Zee _ _];by_cases e:pl s p=pl s q
  ·rw [if_pos e] at fin ⊢;rw [decide_eq_true e,Cq1,Zjz hS (gs.wf.few (by omega)) rfl rfl hp hq];exact fin
  ·rw [if_neg e] at fin ⊢;rw [decide_eq_false e,Cq0,Zag hS (gs.wf.few (by omega)) (hS.pl hp).2 (hS.pl hq).2];exact fin
 ·rw [if_neg (by omega),if_neg (by omega),if_pos k,ep,Int.toNat_natCast] at fin ⊢;rw [decide_eq_false (by omega),Cq0,decide_eq_false (by omega),Cq0,decide_eq_true k,Cq1];unfold Zw7;have h8:nn s <=8:=hS.p2;rw [ZjI hF hS (nn s) _ _ F _ (by omega) hp (Zbl.all hS.inn) h.gd (by omega) h1];exact fin
 ·rw [if_neg (by omega),if_neg (by omega),if_neg (by omega),ea,eb,Int.toNat_natCast,Int.toNat_natCast] at fin ⊢;obtain⟨hf,hD⟩:=h.head ha hb hl;rw [decide_eq_false (by omega),Cq0,decide_eq_false (by omega),Cq0,decide_eq_false (by omega),Cq0,decide_eq_true k,Cq1,Zsg hF hS h.gd (by omega) ha hb hl hf.s hD];exact fin
end
end
section
section
variable {s:Zc} {σ τ υ:TS} {F B a b p q w i n d:Nat} {x:Z8}
theorem Zkr {z:Int} (h:¬ ∃ k:Nat,z= (k:Int)∧k < nn s):(decide (z >=0) && decide (z < (s.Ze.length:Int)))=false:=Bool.eq_false_iff.2 fun e=>h ((Zjv s z).1 e)
theorem ZOw (h:σ.ld i <= (σ.sn i).length):decide (((KH σ i).kG.length:Int) > 0)=decide (σ.ld i < (σ.sn i).length):=by
 have e:(KH σ i).kG.length= (σ.sn i).length - σ.ld i:=by show((σ.sn i).drop (σ.ld i)).length=_;rw [List.length_drop]
 rw [e];congr 1;rw [eq_iff_iff];omega
theorem ZdX (hS:X0 s) {z:Int}:(0 <=z∧z < s.qG)↔∃ k:Nat,z= (k:Int)∧k < mm s:=by
 rw [hS.mm.1]
 constructor
 ·rintro⟨h1,h2⟩;exact⟨z.toNat,by omega,by omega⟩
 ·rintro⟨k,rfl,h⟩;omega
theorem ZlQ (hS:X0 s) (h:Ok s B σ):Zxa (hal s σ) x=ifc (Zge s x σ) (some true) (some false):=by
 unfold Zxa Zh0;rw [show(hal s σ).qK=s from rfl];simp only [Bq0]
 obtain⟨L,v,eL,hL⟩:∃ (L:Bool) (v:Int),((gd (decide (x.a >=0) && decide (x.a < (s.Ze.length:Int))) (ZK (hal s σ).Za.qV x.a) default)=some v∧(((decide (x.a >=0) && decide (x.a < (s.Ze.length:Int))) && (v==1))=L))∧(L=true↔∃ p:Nat,x.a= (p:Int)∧p < nn s∧σ.st p=1):=by
  by_cases hp:∃ p:Nat,x.a= (p:Int)∧p < nn s
  ·obtain⟨p,ep,hp⟩:=hp;refine⟨decide (σ.st p=1),σ.st p,⟨?_,?_⟩,?_⟩
   ·rw [ep,Zgi hp,U5];exact Yu hp
   ·rw [ep,Zgi hp,Bool.true_and,Y4]
   ·rw [decide_eq_true_eq]
    constructor
    ·exact fun z=>⟨p,ep,hp,z⟩
    ·rintro⟨p',e,_,z⟩;have:p'=p:=by omega
     subst this;exact z
  ·refine⟨false,default,⟨by rw [Zkr hp];rfl,by rw [Zkr hp];rfl⟩,?_⟩
   constructor
   ·intro z;cases z
   ·rintro⟨p,e,h1,_⟩;exact absurd ⟨p,e,h1⟩ hp
 rw [eL.1];simp only [Bq0]
 have j:∀ v13:Bool,(v13=true↔x.act=1∨x.act=2) ->Ze9 (hal s σ) x (decide (x.a >=0) && decide (x.a < (s.Ze.length:Int))) v v13=ifc (Zge s x σ) (some true) (some false):=fun v13 hv=>by
  unfold Ze9;rw [eL.2];by_cases k12:x.act=1∨x.act=2
  ·rw [hv.2 k12,Cq1];unfold Zh0;rw [show(hal s σ).qK=s from rfl];cases hLb:L with
   | false=>
     rw [Zaq];simp only [Bq0,Bool.false_and];have:¬ ∃ p:Nat,x.a= (p:Int)∧p < nn s∧σ.st p=1:=fun z=>by have:=hL.2 z;rw [hLb] at this;cases this
     rw [ZU];rintro(⟨_,p,q,e1,_,h1,_,z⟩ | ⟨_,p,q,e1,_,h1,_,z⟩ | ⟨_,p,e1,h1,z⟩ | ⟨k',_⟩)
     ·exact this ⟨p,e1,h1,z⟩
     ·exact this ⟨p,e1,h1,z⟩
     ·exact this ⟨p,e1,h1,z⟩
     ·omega
   | true=>
     rw [U5];simp only [Bq0,Bool.true_and];obtain⟨p,ep,hp,h1⟩:=hL.1 hLb;by_cases hq:∃ q:Nat,x.b= (q:Int)∧q < nn s
     ·obtain⟨q,eq,hq⟩:=hq;rw [eq,Zgi hq,Z6];rcases k12 with k | k
      ·exact .inl ⟨k,p,q,ep,eq,hp,hq,h1⟩
      ·exact .inr (.inl ⟨k,p,q,ep,eq,hp,hq,h1⟩)
     ·rw [Zkr hq,ZU];rintro(⟨_,p',q,_,e1,_,z,_⟩ | ⟨_,p',q,_,e1,_,z,_⟩ | ⟨k',_⟩ | ⟨k',_⟩)
      ·exact hq ⟨q,e1,z⟩
      ·exact hq ⟨q,e1,z⟩
      ·omega
      ·omega
  ·have:v13=false:=Bool.eq_false_iff.2 fun z=>k12 (hv.1 z)
   rw [this,Cq0,Y4,Y4];by_cases k3:x.act=3
   ·rw [decide_eq_true k3,Cq1];cases hLb:L with
    | false=>
      have:¬ ∃ p:Nat,x.a= (p:Int)∧p < nn s∧σ.st p=1:=fun z=>by have:=hL.2 z;rw [hLb] at this;cases this
      rw [ZU];rintro(⟨k',_⟩ | ⟨k',_⟩ | ⟨_,p,e1,h1,z⟩ | ⟨k',_⟩)
      ·omega
      ·omega
      ·exact this ⟨p,e1,h1,z⟩
      ·omega
    | true=>
      obtain⟨p,ep,hp,h1⟩:=hL.1 hLb;rw [Z6 (.inr (.inr (.inl ⟨k3,p,ep,hp,h1⟩)))]
   ·rw [decide_eq_false k3,Cq0];by_cases k4:x.act=4
    ·rw [decide_eq_true k4,Cq1,show(hal s σ).qK.qG=s.qG from rfl];by_cases hr:((0 <=x.a∧x.a < s.qG)∧(0 <=x.b∧x.b < s.qG))∧x.a ≠ x.b
     ·have:((decide ((if x.b < x.a then x.b else x.a) >=0)) && (decide ((if x.b > x.a then x.b else x.a) < s.qG)) && (x.a !=x.b))=true:=by
       rw [Zcz,decide_eq_true hr.2,decide_eq_true (by split <;> omega),decide_eq_true (by split <;> omega)];rfl
      rw [this,Cq1];obtain⟨a,ea,ha⟩:= (ZdX hS).1 hr.1.1;obtain⟨b,eb,hb⟩:= (ZdX hS).1 hr.1.2;have hi:=Wy ha hb;rw [ea,eb,ZbH hS ha hb,show(hal s σ).Za.kQ=tab (mm s * mm s) (KH σ) from rfl,Yu hi];simp only [Bq0];rw [ZOw (h.p2.ld _)];by_cases hl:σ.ld (li s a b) < (σ.sn (li s a b)).length
      ·rw [decide_eq_true hl,Z6 (.inr (.inr (.inr ⟨k4,a,b,ea,eb,ha,hb,hl⟩)))]
      ·rw [decide_eq_false hl,ZU];rintro(⟨k',_⟩ | ⟨k',_⟩ | ⟨k',_⟩ | ⟨_,a',b',e1,e2,_,_,h'⟩)
       ·omega
       ·omega
       ·omega
       ·have:a'=a:=by omega
        have:b'=b:=by omega
        subst a' b';exact hl h'
     ·have:((decide ((if x.b < x.a then x.b else x.a) >=0)) && (decide ((if x.b > x.a then x.b else x.a) < s.qG)) && (x.a !=x.b))=false:=by
       rw [Bool.eq_false_iff];intro z;rw [Ba0,Ba0,decide_eq_true_eq,decide_eq_true_eq,Zcz,decide_eq_true_eq] at z;obtain⟨⟨z1,z2⟩,z3⟩:=z;split at z1 <;> split at z2 <;> (apply hr;omega)
      rw [this,Cq0,ZU];rintro(⟨k',_⟩ | ⟨k',_⟩ | ⟨k',_⟩ | ⟨_,a',b',e1,e2,h1,h2,h'⟩)
      ·omega
      ·omega
      ·omega
      ·refine hr ⟨⟨(ZdX hS).2 ⟨a',e1,h1⟩,(ZdX hS).2 ⟨b',e2,h2⟩⟩,fun z=>?_⟩;have:a'=b':=by omega
       subst this;rw [h.p1.self a' h1] at h';simp at h'
    ·rw [decide_eq_false k4,Cq0,ZU];rintro(⟨k',_⟩ | ⟨k',_⟩ | ⟨k',_⟩ | ⟨k',_⟩)
     ·omega
     ·omega
     ·omega
     ·omega
 rw [Y4];by_cases k1:x.act=1
 ·rw [decide_eq_true k1,Cq1];exact j true ⟨fun _=>.inl k1,fun _=>rfl⟩
 ·rw [decide_eq_false k1,Cq0,Y4];exact j _ ⟨fun z=>.inr (of_decide_eq_true z),fun z=>decide_eq_true (z.resolve_left k1)⟩
end
end
section
def ts0:TS:= ⟨fun _=>1,fun _ _=>0,fun _=>[],fun _=>[],fun _=>[],fun _=>[],fun _=>0,0,[]⟩
noncomputable def QY (s:Zc) (l:List Z8):Nat ->TS×List Int
 | 0=>(ts0,[])
 | k + 1=>ifc (Zge s (l.getD k default) (QY s l k).1) (stepW s (l.getD k default) (QY s l k).1,(QY s l k).2 ++ [(k:Int)]) (QY s l k)
section
variable {s:Zc} {σ τ υ:TS} {F B a b p q w i n d k:Nat} {l:List Z8}
theorem ZBC (hS:X0 s):Yz (s.qG * s.qG)= ((mm s * mm s:Nat):Int):=by
 obtain⟨e,h1,h4⟩:=hS.mm;have h16:=Zhq hS;rw [e,← Int.natCast_mul];exact KX (by omega) (by omega)
theorem Zkx {α:Type} (z:α) {Q0 n:Nat} (h:Q0 * n <=100000):mkL z Q0 (n:Int) (n:Int)=some (tab n fun _=>z):=by
 unfold mkL;rw [decide_eq_true (show(0:Int) <= (n:Int) by omega),decide_eq_true (show(n:Int) <= (n:Int) by omega),Int.toNat_natCast,Nm0 h,ZyR];rfl
theorem ZpI (hF:1000 <=F) (hS:X0 s):Zxd F s=some (hal s ts0):=by
 have h8:nn s <=8:=hS.p2;obtain⟨em,h1,h4⟩:=hS.mm;have h16:=Zhq hS;unfold Zxd;refine XI (fun k=>((k:Int),tab k (fun _=>(1:Int)),tab k (fun _=>tab (mm s * mm s) fun _=>(0:Int)),tab k (fun _=>([]:List Int)),tab k (fun _=>([]:List Int)))) rfl (n:=nn s) (by omega) (fun k hk next=>?_) (fun next=>?_)
 ·unfold Zlg;dsimp only;rw [show((s.Ze.length:Nat):Int)= ((nn s:Nat):Int) from rfl,Y0 hk,Cq1,app1 (by rw [Qg];omega) (by decide)];simp only [Bq0];rw [ZBC hS,Zkx _ (by omega)];simp only [Bq0];rw [app1 (by rw [Qg];omega) (by decide)];simp only [Bq0];rw [app1 (by rw [Qg];omega) (by decide)];simp only [Bq0];rw [Qt (by omega),ZgK,ZgK,ZgK]
 ·unfold Zlg;dsimp only;rw [show((s.Ze.length:Nat):Int)= ((nn s:Nat):Int) from rfl,Y9,Cq0,ZBC hS];have e1:mkL ([]:List Zd) 24 s.qG s.qG=some (tab (mm s) fun _=>[]):=by rw [em];exact Zkx _ (by omega)
  rw [e1];simp only [Bq0];rw [Zkx _ (by omega)];rfl
theorem ZeE {n:Nat} {f:Nat ->Nat} (h:∀ k,k < n ->f k=0):Qd n f=0:=by rw [ZaF (g:=fun _=>0) h,ZgL];simp
theorem ZOr (s:Zc):Pot s ts0=11 * nn s:=by
 have e1:Qd (mm s * mm s) (lw ts0)=0:=ZeE fun k _=>rfl
 have e2:Qd (mm s) (fun m=>(ts0.be m).length)=0:=ZeE fun k _=>rfl
 have e3:Qd (nn s) (fun q=>2 * (ts0.wa q).length)=0:=ZeE fun k _=>rfl
 have e4:Qd (nn s) (fun p=>sw (ts0.st p))=nn s * 11:= (ZaF (g:=fun _=>11) fun k _=>rfl).trans (ZgL _ _);unfold Pot;rw [e1,e2,e3,e4];show 0 + 0 + 0 + 0 + nn s * 11=_;omega
theorem ok0 (hS:X0 s):Ok s 88 ts0:=by
 have h8:nn s <=8:=hS.p2;have nil:∀ {α:Type} (x:α),¬ x ∈ ([]:List α):=fun x h=>by cases h
 have no3:∀ p,¬ ts0.st p=3:=fun p h=>absurd h (by show ¬ ((1:Int)=3);decide)
 have kn:Kn s ts0:= ⟨fun q _=>List.Pairwise.nil,fun q _ x hx=>absurd hx (nil x)⟩
 have k1:KI s ts0:= ⟨fun i j x hx _=>by simp [ts0] at hx,fun i i' j j' x x' hx _ _ _ _=>by simp [ts0] at hx,fun p _ h=>absurd h (no3 p),fun p _ h=>absurd h (no3 p)⟩
 have w:Wf s 88 ts0:= ⟨by rw [ZOr];omega,fun i _=>Nat.le_refl _,fun q _ x hx=>absurd hx (nil x)⟩
 exact⟨⟨w,kn⟩,⟨fun a b _ _ x hx=>absurd hx (nil x),fun a _=>rfl,fun w _ x hx=>absurd hx (nil x),fun q _ x hx=>absurd hx (nil x)⟩,⟨fun i=>Nat.le_refl _,kn⟩,k1,⟨Int.le_refl _,Int.le_refl _⟩⟩
theorem Zkp (hS:X0 s):∀ k,Ok s (88 + 4 * k) (QY s l k).1∧(QY s l k).2.length <=k∧Ji s ts0 (QY s l k).1:=by
 intro k
 induction k with
 | zero=>exact⟨ok0 hS,Nat.le_refl _,.refl⟩
 | succ k ih=>
   obtain⟨h1,h2,h3⟩:=ih;rw [QY];by_cases hA:Zge s (l.getD k default) (QY s l k).1
   ·rw [Z6 hA];refine⟨?_,by rw [List.length_append,List.length_singleton];omega,h3.trans (Zjg hS h1 hA)⟩;have:=step_ok hS h1 hA;exact⟨this.gd.up (by omega),this.p1,this.p2,this.ki,this.sd⟩
   ·rw [ZU hA];exact⟨⟨h1.gd.up (by omega),h1.p1,h1.p2,h1.ki,h1.sd⟩,by omega,h3⟩
theorem Zr2 (hF:1000000 <=F) (hS:X0 s) (hl:l.length <=100):Zxc F (hal s ts0) l=some (hal s (QY s l l.length).1,(QY s l l.length).2):=by
 unfold Zxc;refine XI (fun k=>((QY s l k).2,(k:Int),Wm s (QY s l k).1)) rfl (n:=l.length) (by omega) (fun k hk next=>?_) (fun next=>?_)
 ·obtain⟨h1,h2,_⟩:=Zkp (l:=l) hS k;rw [QY];obtain⟨σ,hσ⟩:∃ σ,σ= (QY s l k).1:= ⟨_,rfl⟩
  obtain⟨dn,hd⟩:∃ dn,dn= (QY s l k).2:= ⟨_,rfl⟩
  rw [← hd] at h2;rw [← hσ] at h1 ⊢;unfold Zlf;rw [show Wm s σ= (tab (nn s) σ.st,(tab (nn s) fun j=>tab (mm s * mm s) (σ.ma j)),tab (nn s) σ.kn,tab (nn s) σ.wa,tab (mm s) σ.be,tab (mm s * mm s) (KH σ),σ.sd,s.qG,s.Ze,σ.ev) from rfl];dsimp only;rw [Y0 hk,Cq1,Qx default hk];simp only [Bq0];rw [ZkK,ZlQ hS h1];by_cases hA:Zge s (l.getD k default) σ
  ·rw [Z6 hA,Z6 hA];simp only [Bq0,Cq1];rw [Zjf hF hS (by omega) h1 hA];simp only [Bq0];rw [← hd,ZsW (by rw [List.length_singleton];omega)];simp only [Bq0];unfold Zfa;dsimp only;rw [Qt (by omega)];rfl
  ·rw [ZU hA,ZU hA];simp only [Bq0,Cq0];unfold Zfa;dsimp only;rw [Qt (by omega),← hσ];rfl
 ·unfold Zlf Wm;dsimp only;rw [Y9,Cq0];rfl
end
end
section
section
variable {s:Zc} {σ τ υ:TS} {F B a b p q w i n d k:Nat}
end
end
section
def opn (s:Zc) (σ:TS) (k:Nat):List Nat:= (List.range k).filter fun i=>decide (σ.ld i < (σ.sn i).length)
def opens (s:Zc) (σ:TS):List Nat:=opn s σ (mm s * mm s)
def Zhk (ls:List Nat) (picks:List Int) (r:Nat):Nat:=if r < picks.length then ls.getD ((picks.getD r 0).toNat % ls.length) 0 else ls.getD 0 0
def ZhB (s:Zc) (i:Nat):Z8:= ⟨4,((i / mm s:Nat):Int),((i % mm s:Nat):Int)⟩
noncomputable def drK (s:Zc) (picks:List Int) (σ:TS):Nat ->TS
 | 0=>σ
 | r + 1=>if opens s (drK s picks σ r)= [] then drK s picks σ r else stepW s (ZhB s (Zhk (opens s (drK s picks σ r)) picks r)) (drK s picks σ r)
section
variable {s:Zc} {σ τ υ:TS} {F B a b p q w i n d k r:Nat} {l:List Z8} {picks:List Int}
theorem Zrt:∀ (d p:Nat) (σ:TS),(Zid s d p σ).ld=σ.ld:=by
 intro d
 induction d with
 | zero=>intro p σ;rfl
 | succ d ih=>
   intro p σ;have e:= (QG (s:=s) p σ).2.2.1;show(Zly s (Zid s d) p (Yk s p σ)).ld=_;unfold Zly;split
   ·exact e
   ·split
    ·unfold K6;by_cases c:(YJ s p (Wx s (Yk s p σ) p) (Yk s p σ)).st (inn s (p:Int)).toNat=2∧Alo s (YJ s p (Wx s (Yk s p σ) p) (Yk s p σ)) (inn s (p:Int)).toNat
     ·rw [Z6 c,ih];exact e
     ·rw [ZU c];exact e
    ·exact e
theorem ZwZ:∀ (d p:Nat) (σ:TS),(JC s d p σ).ld=σ.ld:=by
 intro d
 induction d with
 | zero=>intro p σ;rfl
 | succ d ih=>
   intro p σ
   have h:(fk s (JC s d) p (nn s) (JX p σ)).ld=σ.ld:=by
    refine Wo _ (fun τ=>τ.ld=σ.ld) _ _ rfl fun τ x _ h=>?_
    unfold ZfN;split
    ·split
     ·rw [ih];exact h
     ·exact h
    ·split
     ·exact h
     ·exact h
   show(Zk0 s p _).ld=_;unfold Zk0;by_cases c:(fk s (JC s d) p (nn s) (JX p σ)).st p=2∧Alo s (fk s (JC s d) p (nn s) (JX p σ)) p
   ·rw [Z6 c,Zrt];exact h
   ·rw [ZU c];exact h
theorem ZvC:(ZfM s a b σ).ld=Z5 σ.ld (li s a b) (σ.ld (li s a b) + 1):=by
 unfold ZfM ZjC;split
 ·rw [(Qo _ _ _ _).2.2.2.1];rfl
 ·split
  ·rw [(XR _ _ _).2.2.2.1];rfl
  ·split
   ·split
    ·rw [ZwZ];rfl
    ·rfl
   ·split
    ·unfold Zdh K6;by_cases c:(YJ s (hd σ (li s a b)).kV.toNat (hd σ (li s a b)).qX (drop1 (li s a b) σ)).st (inn s ((hd σ (li s a b)).kV.toNat:Int)).toNat=2∧Alo s (YJ s (hd σ (li s a b)).kV.toNat (hd σ (li s a b)).qX (drop1 (li s a b) σ)) (inn s ((hd σ (li s a b)).kV.toNat:Int)).toNat
     ·rw [Z6 c,Zrt];rfl
     ·rw [ZU c];rfl
    ·rfl
theorem Zux (w:Nat):∀ (n:Nat) (σ:TS),(Zbw s w n σ).ld=σ.ld:=by
 intro n
 induction n with
 | zero=>intro σ;rfl
 | succ n ih=>
   intro σ;rw [Zbw];split
   ·rfl
   ·rw [ih,(Q9 _ _ _ _).2.1]
theorem Zuw:∀ k,(rings s k σ).ld=σ.ld:=by
 intro k
 induction k with
 | zero=>rfl
 | succ k ih=>rw [rings,Zux,ih]
theorem Zve:opn s σ (k + 1)=opn s σ k ++ (if σ.ld k < (σ.sn k).length then [k] else []):=by
 unfold opn;rw [List.range_succ,List.filter_append];congr 1;by_cases h:σ.ld k < (σ.sn k).length
 ·rw [if_pos h];simp [h]
 ·rw [if_neg h];simp [h]
theorem Zy5:(opn s σ k).length <=k:=by
 have:=List.length_filter_le (fun i=>decide (σ.ld i < (σ.sn i).length)) (List.range k);rw [List.length_range] at this;exact this
theorem ZeM:i ∈ opens s σ↔i < mm s * mm s∧σ.ld i < (σ.sn i).length:=by unfold opens opn;simp
theorem ZeL {ls:List Nat} (h:ls ≠ []):Zhk ls picks r ∈ ls:=by
 have hl:0 < ls.length:=List.length_pos_iff.2 h;unfold Zhk;split
 ·exact XG (Nat.mod_lt _ hl)
 ·exact XG hl
theorem ZhA (hS:X0 s) (h:i ∈ opens s σ):Zge s (ZhB s i) σ:=by
 obtain⟨h1,h2⟩:=ZeM.1 h;have hm:=hS.mm.2.1;obtain⟨_,h1',_⟩:=hS.mm;refine .inr (.inr (.inr ⟨rfl,i / mm s,i % mm s,rfl,rfl,Nat.div_lt_of_lt_mul h1,Nat.mod_lt _ (by omega),?_⟩));have:li s (i / mm s) (i % mm s)=i:=by unfold li;rw [Nat.mul_comm];exact Nat.div_add_mod _ _
 rw [this];exact h2
theorem ZvD (hS:X0 s):(stepW s (ZhB s i) σ).ld=Z5 σ.ld i (σ.ld i + 1):=by
 have:li s (i / mm s) (i % mm s)=i:=by unfold li;rw [Nat.mul_comm];exact Nat.div_add_mod _ _
 unfold stepW;rw [Zuw];unfold ZfU ZhB;rw [if_neg (show ¬ ((4:Int)=1) by decide),if_neg (show ¬ ((4:Int)=2) by decide),if_neg (show ¬ ((4:Int)=3) by decide),Int.toNat_natCast,Int.toNat_natCast,ZvC,this]
def lds (s:Zc) (σ:TS):Nat:=Qd (mm s * mm s) σ.ld
theorem Zlx (hS:X0 s) (h:Ok s B σ):∀ r,Ok s B (drK s picks σ r)∧Ji s σ (drK s picks σ r):=by
 intro r
 induction r with
 | zero=>exact⟨h,.refl⟩
 | succ r ih=>
   rw [drK];by_cases e:opens s (drK s picks σ r)= []
   ·rw [if_pos e];exact ih
   ·rw [if_neg e];have hA:=ZhA (σ:=drK s picks σ r) hS (ZeL (picks:=picks) (r:=r) e);exact⟨Zud hS ih.1 rfl hA,ih.2.trans (Zjg hS ih.1 hA)⟩
theorem ZES (h:Ok s B σ):lds s σ <=B:=by
 have h1:lds s σ <=Qd (mm s * mm s) (lw σ):=ZyS fun k hk=>Nat.le_trans (h.gd.wf.ld k hk) (by unfold lw;omega)
 have:=h.gd.wf.pot;unfold Pot at this;omega
theorem Zrs (hS:X0 s):∀ r,(∀ j,j < r ->opens s (drK s picks σ j) ≠ []) ->lds s (drK s picks σ r)=lds s σ + r:=by
 intro r
 induction r with
 | zero=>intro _;rfl
 | succ r ih=>
   intro hj;have e:=ih fun j hjr=>hj j (by omega)
   have hn:=hj r (by omega);rw [drK,if_neg hn];obtain⟨h1,_⟩:=ZeM.1 (ZeL (picks:=picks) (r:=r) hn);unfold lds at *;rw [ZvD hS];have:=Zme (f:= (drK s picks σ r).ld) (v:= (drK s picks σ r).ld (Zhk (opens s (drK s picks σ r)) picks r) + 1) h1;omega
theorem ZGz (hS:X0 s) (h:Ok s B σ) (picks:List Int):∃ n,n <=B∧opens s (drK s picks σ n)= []∧∀ j,j < n ->opens s (drK s picks σ j) ≠ []:=by
 by_cases hz:∃ n,n < B + 1∧opens s (drK s picks σ n)= []
 ·obtain⟨n,hn,e⟩:=hz;obtain⟨m,hm,c,hlt⟩:=Kv (c:=fun i=>opens s (drK s picks σ i)= []) e;exact⟨m,by omega,c,hlt⟩
 ·have hall:∀ j,j < B + 1 ->opens s (drK s picks σ j) ≠ []:=fun j hj q=>hz ⟨j,hj,q⟩
  have:=Zrs (picks:=picks) (σ:=σ) hS (B + 1) hall;have:=ZES (Zlx (picks:=picks) hS h (B + 1)).1;omega
theorem Zy0 {a b:Nat} (hb:0 < b) (ha:a <=1000000):ZrX (a:Int) (b:Int)=some ((a / b:Nat):Int):=by
 unfold ZrX;rw [beq_eq_false_iff_ne.2 (by omega),Cq0,← Int.ofNat_tdiv];have:=Nat.div_le_self a b;generalize a / b=q at *;exact congrArg some (KX (by omega) (by omega))
theorem Zqm {a b:Nat} (hb:0 < b):Zmr (a:Int) (b:Int)=some ((a % b:Nat):Int):=by
 unfold Zmr;rw [beq_eq_false_iff_ne.2 (by omega),Cq0];rfl
theorem ZhL {l:List Nat} (h:k < l.length):ZK (l.map Int.ofNat) (k:Int)=some ((l.getD k 0:Nat):Int):=by
 rw [Qx 0 (by rw [List.length_map];exact h)];simp [List.getD_eq_getElem?_getD,h]
theorem Zvf (hk:k < mm s * mm s) {β:Type} (next:List Int×Int ->Option β) {l1:List Int×Int ->Option β} (h16:mm s * mm s <=16) (hs:(σ.sn k).length <=800000)
 (e1:∀ v,l1 v=next v):
 ((ZK (tab (mm s * mm s) (KH σ)) (k:Int)).bind fun x=>(bif decide ((x.kG.length:Int) > 0) then(app 8 ((opn s σ k).map Int.ofNat) [(k:Int)]).bind fun z=>l1 (z,Yz ((k:Int) + 1)) else l1 ((opn s σ k).map Int.ofNat,Yz ((k:Int) + 1))))=next ((opn s σ (k + 1)).map Int.ofNat,((k + 1:Nat):Int)):=by
 have hl:=Zy5 (s:=s) (σ:=σ) (k:=k);rw [Yu hk];simp only [Bq0];rw [show(KH σ k).kG= (σ.sn k).drop (σ.ld k) from rfl,List.length_drop,Zve];by_cases c:σ.ld k < (σ.sn k).length
 ·rw [decide_eq_true (by omega),Cq1,ZsW (by rw [List.length_map,List.length_singleton];omega),if_pos c];simp only [Bq0];rw [e1,Qt (by omega),List.map_append];rfl
 ·rw [decide_eq_false (by omega),Cq0,if_neg c,e1,Qt (by omega),List.append_nil]
theorem ZgX (hF:1000000 <=F) (hS:X0 s) (h:Ok s B σ) (hB:B <=500000) (hr:r <=500000) (hp:∀ x ∈ picks,0 <=x) (hpl:picks.length <=100) (next:_ ->Option (Zh×(List Zk)×Int×Int)):
 Zfe F s picks ((r:Int),Wm s σ) next=if opens s σ= [] then some (vw s σ,σ.ev,(r:Int),0) else next (((r + 1:Nat):Int),Wm s (stepW s (ZhB s (Zhk (opens s σ) picks r)) σ)):=by
 have h16:=Zhq hS;obtain⟨em,h1,h4⟩:=hS.mm;have fw:=h.gd.wf.few (by omega);unfold Zfe Wm;dsimp only;refine XI (fun k=>((opn s σ k).map Int.ofNat,(k:Int))) rfl (n:=mm s * mm s) (by omega) (fun k hk nx=>?_) (fun nx=>?_)
 ·unfold Zln;dsimp only;rw [Qg,Y0 hk,Cq1];exact Zvf hk nx h16 (fw.sn k hk) (l1:=fun v=>nx v) fun v=>rfl
 ·unfold Zln;dsimp only;rw [Qg,Y9,Cq0,List.length_map];show(bif((((opens s σ).length:Nat):Int)==0) then _ else(ZK ((opens s σ).map Int.ofNat) 0).bind _)=_;by_cases e:opens s σ= []
  ·rw [if_pos e,e];rfl
  ·have hl:0 < (opens s σ).length:=List.length_pos_iff.2 e;rw [if_neg e,beq_eq_false_iff_ne.2 (by omega),Cq0,show(0:Int)= ((0:Nat):Int) from rfl,ZhL hl];simp only [Bq0];have hm:=ZeL (picks:=picks) (r:=r) e
   have go:∀ v:Nat,v ∈ opens s σ ->Zfd F s (r:Int) (tab (nn s) σ.st) (tab (nn s) fun j=>tab (mm s * mm s) (σ.ma j)) (tab (nn s) σ.kn) (tab (nn s) σ.wa) (tab (mm s) σ.be) (tab (mm s * mm s) (KH σ)) σ.sd s.qG s.Ze σ.ev next (v:Int)=next (((r + 1:Nat):Int),Wm s (stepW s (ZhB s v) σ)):=fun v hv=>by
    have hv1:= (ZeM.1 hv).1;unfold Zfd;rw [em,Zy0 (by omega) (by omega),Zqm (by omega)];simp only [Bq0];rw [← em,ZkK,show Z8.mk 4 ((v / mm s:Nat):Int) ((v % mm s:Nat):Int)=ZhB s v from rfl,Zjf hF hS hB h (ZhA hS hv)];simp only [Bq0];rw [Qt (by omega)];rfl
   by_cases c:r < picks.length
   ·rw [Y0 c,Cq1,Qx 0 c];simp only [Bq0];have h0:=hp _ (XG (d:=0) c);obtain⟨y,hy⟩:∃ y:Nat,picks.getD r 0= (y:Int):= ⟨(picks.getD r 0).toNat,by omega⟩
    show(Zmr (picks.getD r 0) (((opens s σ).length:Nat):Int)).bind _=_;unfold Zhk at hm ⊢;rw [if_pos c] at hm ⊢;rw [hy] at hm ⊢;rw [Int.toNat_natCast] at hm ⊢;rw [Zqm hl];simp only [Bq0];show(ZK ((opens s σ).map Int.ofNat) _).bind _=_;rw [ZhL (Nat.mod_lt _ hl)];simp only [Bq0];exact go _ hm
   ·rw [show decide ((r:Int) < (picks.length:Int))=false from decide_eq_false (by omega),Cq0];unfold Zhk at hm ⊢;rw [if_neg c] at hm ⊢;exact go _ hm
end
end
section
section
variable {s:Zc} {σ τ υ:TS} {F B a b p q w i n d k r:Nat} {l:List Z8} {picks:List Int}
theorem ZNX {k:Nat} (h:k < 9223372036854775807):Yz ((k:Int) + 1)= ((k + 1:Nat):Int):=KX (by omega) (by omega)
theorem Zr3 (hF:picks.length < F) (hl:picks.length <=9223372036854775807):Zpm F picks=ifc (∀ k,k < picks.length ->0 <=picks.getD k 0) (some (decide ((picks.length:Int) <=100))) (some false):=by
 unfold Zpm;refine KR (fun k=>(k:Int)) rfl (fun k=>0 <=picks.getD k 0) (n:=picks.length) (by omega) (fun k hk next=>?_) (fun next=>?_)
 ·unfold Zlk;rw [Y0 hk,Cq1,Qx 0 hk];simp only [Bq0];by_cases c:0 <=picks.getD k 0
  ·rw [Z6 c,decide_eq_false (by omega),Cq0,ZNX (by omega)]
  ·rw [ZU c,decide_eq_true (by omega),Cq1]
 ·unfold Zlk;rw [Y9,Cq0]
theorem ZnQ:(∀ k,k < picks.length ->0 <=picks.getD k 0)↔∀ x ∈ picks,0 <=x:=by
 constructor
 ·intro h x hx;obtain⟨k,hk,e⟩:=List.getElem_of_mem hx;have:=h k hk;rw [List.getD_eq_getElem?_getD,List.getElem?_eq_getElem hk] at this;rw [← e];exact this
 ·intro h k hk;exact h _ (XG hk)
noncomputable def WS (s:Zc) (l:List Z8) (picks:List Int) (n:Nat):TS:=drK s picks (QY s l l.length).1 n
theorem Zps (hF:1000000 <=F) (hS:X0 s) (hl:l.length <=100) (hp:∀ x ∈ picks,0 <=x) (hpl:picks.length <=100) {n:Nat} (hn:n <=500000) (he:opens s (WS s l picks n)= []) (hj:∀ j,j < n ->opens s (WS s l picks j) ≠ []):
 Zxj F s l picks=some (vw s (WS s l picks n),(WS s l picks n).ev,(n:Int),0):=by
 obtain⟨ok,dl,_⟩:=Zkp (l:=l) hS l.length;unfold Zxj;rw [Zij (by omega),Z6 hS];simp only [Bq0,ZdS,Bool.false_or];rw [decide_eq_false (by omega),decide_eq_false (by omega)];simp only [Bool.or_self,Bool.not_false,Cq1];refine XI (fun k=>(k:Int)) rfl (n:=picks.length) (by omega) (fun k hk next=>?_) (fun next=>?_)
 ·unfold Zlm Zz8;rw [Y0 hk,Cq1,Qx 0 hk];simp only [Bq0];rw [decide_eq_false (by have:=hp _ (XG (d:=0) hk);omega),Cq0,Qt (by omega)]
 ·unfold Zlm;rw [Y9,Cq0];unfold Zh4;rw [show decide ((-1:Int) >=0)=false from rfl,Cq0,ZpI (by omega) hS];simp only [Bq0];rw [Zr2 hF hS hl];simp only [Bq0];refine XI (fun k=>((k:Int),Wm s (WS s l picks k))) rfl (n:=n) (by omega) (fun k hk next=>?_) (fun next=>?_)
  ·have o:= (Zlx (picks:=picks) hS ok k).1;show Zfe F s picks ((k:Int),Wm s (drK s picks (QY s l l.length).1 k)) next=_;rw [ZgX hF hS o (by omega) (by omega) hp hpl,if_neg (show ¬ opens s (drK s picks (QY s l l.length).1 k)= [] from hj k hk)];have:=hj k hk;unfold WS at *;rw [drK,if_neg this]
  ·have o:= (Zlx (picks:=picks) hS ok n).1;show Zfe F s picks ((n:Int),Wm s (drK s picks (QY s l l.length).1 n)) next=_;rw [ZgX hF hS o (by omega) (by omega) hp hpl,if_pos (show opens s (drK s picks (QY s l l.length).1 n)= [] from he)];rfl
theorem ZAn (hS:X0 s) (hl:l.length <=100) (picks:List Int):∃ n,n <=488∧opens s (WS s l picks n)= []∧(∀ j,j < n ->opens s (WS s l picks j) ≠ [])∧Ok s 488 (WS s l picks n)∧Ji s ts0 (WS s l picks n)∧Ji s (QY s l l.length).1 (WS s l picks n)∧lds s (WS s l picks n)=lds s (QY s l l.length).1 + n:=by
 obtain⟨ok,dl,ac⟩:=Zkp (l:=l) hS l.length;have ok:Ok s 488 (QY s l l.length).1:= ⟨ok.gd.up (by omega),ok.p1,ok.p2,ok.ki,ok.sd⟩
 obtain⟨n,h1,h2,h3⟩:=ZGz hS ok picks;obtain⟨o,a⟩:=Zlx (picks:=picks) hS ok n;exact⟨n,h1,h2,h3,o,ac.trans a,a,Zrs hS n h3⟩
end
end
section
def ZNd (s:Zc) (e:Zk):Prop:= (∃ p:Nat,e.kV= (p:Int)∧p < nn s)∧(∃ q:Nat,e.kX= (q:Int)∧q < nn s)
def EvR (s:Zc) (σ:TS):Prop:=∀ e ∈ σ.ev,ZNd s e
section
variable {s:Zc} {σ τ υ:TS} {F B a b p q w i n d k r:Nat} {l:List Z8} {picks:List Int} {x:Zd}
theorem EvR.add (h:EvR s σ) {e:Zk} (he:ZNd s e) (ht:τ.ev=σ.ev ++ [e]):EvR s τ:=fun y hy=>by
 rw [ht] at hy;rcases List.mem_append.1 hy with hy | hy
 ·exact h y hy
 ·rw [List.mem_singleton.1 hy];exact he
theorem EvR.congr (h:EvR s σ) (ht:τ.ev=σ.ev):EvR s τ:=fun y hy=>h y (by rwa [ht] at hy)
theorem EvR.see (h:EvR s σ) (hp:p < nn s) (hq:q < nn s) (n:Int):EvR s (Proofs.YtcnahmgekicbdaaGreat.see p q n σ):=by
 unfold Proofs.YtcnahmgekicbdaaGreat.see;split
 ·exact h.add ⟨⟨p,rfl,hp⟩,⟨q,rfl,hq⟩⟩ rfl
 ·exact h
theorem EvR.act (hS:X0 s) (h1:P1 s σ) (h:EvR s σ) (ac:Act s σ τ):EvR s τ:=by
 cases ac with
 | @fall p hp=>exact h.add ⟨⟨p,rfl,hp⟩,⟨0,rfl,by omega⟩⟩ rfl
 | Ww=>exact h
 | @die p hp h2 hA=>
   have:EvR s (Yk s p σ):=h.add ⟨⟨p,rfl,hp⟩,⟨0,rfl,by omega⟩⟩ (QG (s:=s) p σ).2.2.2.2.1;unfold Uw;split
   ·exact this
   ·split
    ·exact this
    ·exact this
 | @ZcM p q hp hq=>exact EvR.see (h.add (τ:=kK p q σ) (e:= ⟨1,p,q,σ.sd⟩) ⟨⟨p,rfl,hp⟩,⟨q,rfl,hq⟩⟩ rfl) hq hp _
 | @ZcL p q hp hq=>exact h.add (τ:=kK p q σ) (e:= ⟨1,p,q,σ.sd⟩) ⟨⟨p,rfl,hp⟩,⟨q,rfl,hq⟩⟩ rfl
 | @ZcI p q hp hq=>exact(h.add (τ:=tell 3 p q 0 σ) (e:= ⟨3,p,q,0⟩) ⟨⟨p,rfl,hp⟩,⟨q,rfl,hq⟩⟩ rfl).congr (XR (s:=s) p q (tell 3 p q 0 σ)).2.2.2.2.2
 | @ZcH p q hp hq=>exact h.add (τ:=tell 3 p q 0 σ) (e:= ⟨3,p,q,0⟩) ⟨⟨p,rfl,hp⟩,⟨q,rfl,hq⟩⟩ rfl
 | ZcP ha hb hl hk hp hq hpn Ku=>exact EvR.see (σ:=drop1 _ σ) h Ku hpn _
 | @ZcS a b p q ha hb hl hk hp hq hpn Ku=>exact h.congr (XR (s:=s) p q (drop1 (li s a b) σ)).2.2.2.2.2
 | ZcQ=>exact h
 | Zbf=>exact h
 | ZcR=>exact h
 | @ring w i hw hpk=>
   have hm:=h1.bea w hw;unfold rung;split
   ·rename_i hst;have hi:i < (σ.be w).length:=Zcf _ _ hpk;obtain⟨⟨⟨p,e1,h1'⟩,⟨q,e2,h2'⟩,_⟩,_⟩:=hm _ (XG (d:=default) hi);exact h.add (τ:=tell 4 _ _ 0 _) (e:= ⟨4,((σ.be w).getD i default).kV,((σ.be w).getD i default).kX,0⟩) ⟨⟨p,e1,h1'⟩,⟨q,e2,h2'⟩⟩ rfl
   ·exact h
theorem Zxm (hS:X0 s) (h:Ji s ts0 σ):EvR s σ:=by
 have h0:=ok0 hS;exact(h.keep (P:=fun σ=>P1 s σ∧EvR s σ) (fun _ _ ⟨a,b⟩ ac=>⟨a.act hS ac,b.act hS a ac⟩) ⟨h0.p1,fun e he=>absurd he (by simp [ts0])⟩).2
def Giv (s:Zc) (l:List Z8) (picks:List Int):Prop:=X0 s∧l.length <=100∧(∀ x ∈ picks,0 <=x)∧picks.length <=100
theorem Zr4 (hF:picks.length < F) (hl:picks.length <=9223372036854775807):Zpm F picks=ifc ((∀ x ∈ picks,0 <=x)∧picks.length <=100) (some true) (some false):=by
 rw [Zr3 hF hl];by_cases c:∀ k,k < picks.length ->0 <=picks.getD k 0
 ·rw [Z6 c];by_cases c2:picks.length <=100
  ·rw [Z6 ⟨ZnQ.1 c,c2⟩,decide_eq_true (by omega)]
  ·rw [ZU fun q=>c2 q.2,decide_eq_false (by omega)]
 ·rw [ZU c,ZU fun q=>c (ZnQ.2 q.1)]
theorem ZwI (hF:1000000 <=F) {pp:List (List Int)} (hpp:pp.length <=100) (hl:∀ x ∈ pp,x.length < F∧x.length <=9223372036854775807):∃ g:Bool,Zxi F s l pp=some g∧(g=true ->∀ x ∈ pp,Giv s l x):=by
 have h:=KR (body:=Zh3 F s l pp) (r1:=some false) (r2:= (Zxl s).bind fun x18=>(gd x18 (Zpn F s) default).bind fun x19=>some ((x18 && x19) && (decide ((l.length:Int) <=100)))) (s0:= (0:Int)) (fun k=>(k:Int)) rfl (fun k=>(∀ x ∈ pp.getD k [],0 <=x)∧(pp.getD k []).length <=100) (n:=pp.length) (F:=F) (by omega) (fun k hk next=>by
  unfold Zh3;rw [Y0 hk,Cq1,Qx [] hk];simp only [Bq0];rw [Zr4 (hl _ (XG hk)).1 (hl _ (XG hk)).2];by_cases c:(∀ x ∈ pp.getD k [],0 <=x)∧(pp.getD k []).length <=100
  ·rw [Z6 c,Z6 c];simp only [Bq0,Bool.not_true,Cq0];rw [Qt (by omega)]
  ·rw [ZU c,ZU c];rfl) (fun next=>by
  unfold Zh3;rw [Y9,Cq0])
 unfold Zxi;rw [h];by_cases c:∀ k,k < pp.length ->(∀ x ∈ pp.getD k [],0 <=x)∧(pp.getD k []).length <=100
 ·rw [Z6 c];unfold Zxl;simp only [Bq0];cases h30:decide ((s.Ze.length:Int) <=30) with
  | false=>exact⟨_,rfl,fun q=>by cases q⟩
  | true=>
    simp only [U5,Bool.true_and];rw [ZrR (by omega)];by_cases hS:X0 s
    ·rw [Z6 hS];refine⟨_,rfl,fun q x hx=>?_⟩;simp only [Bool.true_and,decide_eq_true_eq] at q;obtain⟨k,hk,e⟩:=List.getElem_of_mem hx;have:=c k hk;rw [List.getD_eq_getElem?_getD,List.getElem?_eq_getElem hk] at this;have e':(some pp[k]).getD []=x:=e;rw [e'] at this;exact⟨hS,by omega,this.1,this.2⟩
    ·rw [ZU hS];exact⟨_,rfl,fun q=>by cases q⟩
 ·rw [ZU c];exact⟨_,rfl,fun q=>by cases q⟩
theorem ZmD (hp:p < nn s):Zpl s (p:Int)=some true:=by
 unfold Zpl;rw [decide_eq_true (by omega),show decide ((p:Int) < (s.Ze.length:Int))=true from decide_eq_true (by show(p:Int) < ((nn s:Nat):Int);omega)];rfl
theorem Zpr (hF:1000000 <=F) (hg:Giv s l picks):∃ n,n <=488∧opens s (WS s l picks n)= []∧Ok s 488 (WS s l picks n)∧Ji s ts0 (WS s l picks n)∧Ji s (QY s l l.length).1 (WS s l picks n)∧lds s (WS s l picks n)=lds s (QY s l l.length).1 + n∧
 Zxh F s l picks=some (vw s (WS s l picks n),(WS s l picks n).ev,(n:Int),true):=by
 obtain⟨hS,hl,hp,hpl⟩:=hg;obtain⟨n,hn,he,hj,ok,ac,ac2,e2⟩:=ZAn hS hl picks;refine⟨n,hn,he,ok,ac,ac2,e2,?_⟩;have hr:=Zxm hS ac;have hev:(WS s l picks n).ev.length <=488:=by have:=ok.gd.wf.pot;unfold Pot at this;omega
 unfold Zxh;rw [Zps hF hS hl hp hpl (by omega) he hj];simp only [Bq0,ZdS,Bool.false_or];rw [show(vw s (WS s l picks n)).qV=tab (nn s) (WS s l picks n).st from rfl,Qg,show((nn s:Nat):Int)= ((s.Ze.length:Nat):Int) from rfl,ZdS,decide_eq_false (by omega)];simp only [Bool.or_self,Cq0];refine XI (fun k=>(k:Int)) rfl (n:= (WS s l picks n).ev.length) (by omega) (fun k hk next=>?_) (fun next=>?_)
 ·unfold Zlj;dsimp only;rw [Y0 hk,Cq1,Qx default hk];simp only [Bq0];obtain⟨⟨p,e1,h1⟩,⟨q,e2,h2⟩⟩:=hr _ (XG (d:=default) hk);rw [e1,e2,ZmD h1];simp only [Bq0,Bool.not_true,Bool.not_false,U5];rw [ZmD h2];simp only [Bq0,Bool.not_true,Bool.or_self,Cq0];rw [Qt (by omega)]
 ·unfold Zlj;dsimp only;rw [Y9,Cq0]
end
end
section
def kc (k:Int) (p q:Nat) (l:List Zd):Nat:=l.countP fun x=>((x.kW==k) && (x.kV== (p:Int))) && (x.kX== (q:Int))
def asks (s:Zc) (σ:TS) (p q:Nat):Nat:=kc 2 p q (fl σ (li s (pl s p) (pl s q)))
def bb (s:Zc) (σ:TS) (p q:Nat):Nat:=kc 5 p q (σ.be (pl s p)) + kc 5 p q (fl σ (li s (pl s q) (pl s p)))
def wat (σ:TS) (p q:Nat):Nat:= (σ.wa q).count (p:Int)
def ec (σ:TS) (d:Int) (p q:Nat):Nat:=c3 σ.ev d p q
structure Bal (s:Zc) (σ:TS):Prop where
 le:∀ p q,p < nn s ->q < nn s ->ec σ 4 p q + bb s σ p q + wat σ p q + asks s σ p q <=ec σ 3 p q
 eq:∀ p q,p < nn s ->q < nn s ->σ.st p=1 ->ec σ 4 p q + bb s σ p q + wat σ p q + asks s σ p q=ec σ 3 p q
 dead:∀ p q,p < nn s ->q < nn s ->0 < ec σ 4 p q + bb s σ p q ->σ.st q=3
 wz:∀ p q,p < nn s ->q < nn s ->σ.st q=3 ->wat σ p q=0
section
variable {s:Zc} {σ τ υ:TS} {F B a b p q w i j n d r p0 q0:Nat} {x:Zd} {k:Int}
def one (c:Prop) [Decidable c]:Nat:=if c then 1 else 0
theorem Jv {c:Prop} [Decidable c] (h:c):one c=1:=if_pos h
theorem YO {c:Prop} [Decidable c] (h:¬ c):one c=0:=if_neg h
theorem ZeU (l m:List Zd):kc k p q (l ++ m)=kc k p q l + kc k p q m:=by unfold kc;rw [List.countP_append]
theorem Zcp (l:List Zd):kc k p q (x::l)=kc k p q l + one (x.kW=k∧x.kV= (p:Int)∧x.kX= (q:Int)):=by
 unfold kc;rw [List.countP_cons];congr 1;by_cases c:x.kW=k∧x.kV= (p:Int)∧x.kX= (q:Int)
 ·rw [Jv c,c.1,c.2.1,c.2.2];simp
 ·rw [YO c,if_neg];simp only [Ba0,beq_iff_eq];exact fun z=>c ⟨z.1.1,z.1.2,z.2⟩
theorem ZkB:kc k p q []=0:=rfl
theorem ZvF {l:List Zd} (hi:i < l.length):kc k p q l=kc k p q (Zbi l i) + one ((l.getD i default).kW=k∧(l.getD i default).kV= (p:Int)∧(l.getD i default).kX= (q:Int)):=by
 have e:l=l.take i ++ l.getD i default::l.drop (i + 1):=by
  rw [List.getD_eq_getElem?_getD,List.getElem?_eq_getElem hi];simp
 unfold Zbi
 conv=>lhs;rw [e]
 rw [ZeU,Zcp,ZeU];omega
theorem Zcn (hl:σ.ld (li s a b) <= (σ.sn (li s a b)).length) (j:Nat):kc k p q (fl (send s a b x σ) j)=kc k p q (fl σ j) + (if j=li s a b then one (x.kW=k∧x.kV= (p:Int)∧x.kX= (q:Int)) else 0):=by
 by_cases e:j=li s a b
 ·subst e;rw [if_pos rfl,Zrb hl,ZeU,Zcp,ZkB,Nat.zero_add]
 ·rw [if_neg e,ZhR e];rfl
theorem Zco (hl:σ.ld i < (σ.sn i).length) (j:Nat):kc k p q (fl σ j)=kc k p q (fl (drop1 i σ) j) + (if j=i then one ((hd σ i).kW=k∧(hd σ i).kV= (p:Int)∧(hd σ i).kX= (q:Int)) else 0):=by
 by_cases e:j=i
 ·subst e;rw [if_pos rfl,ZkX hl,Zcp];congr 2;show _= (σ.sn j).drop (Z5 σ.ld j (σ.ld j + 1) j);rw [Zt]
 ·rw [if_neg e,Nat.add_zero];congr 1;show _= (σ.sn j).drop (Z5 σ.ld i (σ.ld i + 1) j);rw [ZC e];rfl
theorem Zab (l:List Zk) (e:Zk) (d p q:Int):c3 (l ++ [e]) d p q=c3 l d p q + one (e.kZ=d∧e.kV=p∧e.kX=q):=by
 unfold c3;rw [List.countP_append,List.countP_cons,List.countP_nil,Nat.zero_add];congr 1;by_cases c:e.kZ=d∧e.kV=p∧e.kX=q
 ·rw [Jv c,c.1,c.2.1,c.2.2];simp
 ·rw [YO c,if_neg];simp only [Ba0,beq_iff_eq];exact fun z=>c ⟨z.1.1,z.1.2,z.2⟩
theorem Zef (d':Int) (p' q' n:Int):ec (tell d' p' q' n σ) k p q=ec σ k p q + one (d'=k∧p'= (p:Int)∧q'= (q:Int)):=Zab _ _ _ _ _
theorem Zxq {e:Zk} (h:τ.ev=σ.ev ++ [e]):ec τ k p q=ec σ k p q + one (e.kZ=k∧e.kV= (p:Int)∧e.kX= (q:Int)):=by unfold ec;rw [h];exact Zab _ _ _ _ _
theorem ZjV (h:τ.ev=σ.ev):ec τ k p q=ec σ k p q:=by unfold ec;rw [h]
theorem ZrA (h1:τ.sn=σ.sn) (h2:τ.ld=σ.ld):asks s τ p q=asks s σ p q:=by unfold asks fl;rw [h1,h2]
theorem ZMI (h1:τ.sn=σ.sn) (h2:τ.ld=σ.ld) (h3:τ.be=σ.be):bb s τ p q=bb s σ p q:=by unfold bb fl;rw [h1,h2,h3]
theorem Zod (h:τ.wa=σ.wa):wat τ p q=wat σ p q:=by unfold wat;rw [h]
structure Un (s:Zc) (σ τ:TS):Prop where
 a:∀ p q,asks s τ p q=asks s σ p q
 b:∀ p q,bb s τ p q=bb s σ p q
 w:∀ p q,wat τ p q=wat σ p q
 e3:∀ p q,ec τ 3 p q=ec σ 3 p q
 e4:∀ p q,ec τ 4 p q=ec σ 4 p q
theorem Un.trans (h:Un s σ τ) (h':Un s τ υ):Un s σ υ:= ⟨fun p q=>(h'.a p q).trans (h.a p q),fun p q=>(h'.b p q).trans (h.b p q),fun p q=>(h'.w p q).trans (h.w p q),fun p q=>(h'.e3 p q).trans (h.e3 p q),fun p q=>(h'.e4 p q).trans (h.e4 p q)⟩
theorem Bal.un (h:Bal s σ) (u:Un s σ τ) (s1:∀ p,p < nn s ->τ.st p=1 ->σ.st p=1) (s3:∀ p,p < nn s ->(σ.st p=3↔τ.st p=3)):Bal s τ:=
 ⟨fun p q hp hq=>by rw [u.e4,u.b,u.w,u.a,u.e3];exact h.le p q hp hq,fun p q hp hq z=>by rw [u.e4,u.b,u.w,u.a,u.e3];exact h.eq p q hp hq (s1 p hp z),fun p q hp hq z=>by rw [u.e4,u.b] at z;exact(s3 q hq).1 (h.dead p q hp hq z),fun p q hp hq z=>by rw [u.w];exact h.wz p q hp hq ((s3 q hq).2 z)⟩
theorem Un.send (hl:σ.ld (li s a b) <= (σ.sn (li s a b)).length) (h2:x.kW ≠ 2) (h5:x.kW ≠ 5):Un s σ (Proofs.YtcnahmgekicbdaaGreat.send s a b x σ):=by
 refine⟨fun p q=>?_,fun p q=>?_,fun p q=>rfl,fun p q=>rfl,fun p q=>rfl⟩
 ·unfold asks;rw [Zcn hl,YO (fun z=>h2 z.1)];split <;> rfl
 ·unfold bb;rw [Zcn hl,YO (fun z=>h5 z.1)];show kc 5 p q (σ.be (pl s p)) + _=_;split <;> rfl
theorem Un.drop (hl:σ.ld i < (σ.sn i).length) (h2:(hd σ i).kW ≠ 2) (h5:(hd σ i).kW ≠ 5):Un s σ (drop1 i σ):=by
 refine⟨fun p q=>?_,fun p q=>?_,fun p q=>rfl,fun p q=>rfl,fun p q=>rfl⟩
 ·have:=Zco (k:=2) (p:=p) (q:=q) hl (li s (pl s p) (pl s q));rw [YO (fun z=>h2 z.1)] at this;unfold asks;rw [this];split <;> rfl
 ·have:=Zco (k:=5) (p:=p) (q:=q) hl (li s (pl s q) (pl s p));rw [YO (fun z=>h5 z.1)] at this;unfold bb;rw [this];show kc 5 p q (σ.be (pl s p)) + _=_;split <;> rfl
theorem Un.tell (d' p' q' n:Int) (h3:d' ≠ 3) (h4:d' ≠ 4):Un s σ (Proofs.YtcnahmgekicbdaaGreat.tell d' p' q' n σ):=
 ⟨fun _ _=>rfl,fun _ _=>rfl,fun _ _=>rfl,fun p q=>by rw [Zef,YO (fun z=>h3 z.1)];rfl,fun p q=>by rw [Zef,YO (fun z=>h4 z.1)];rfl⟩
theorem Un.see (p q:Nat) (n:Int):Un s σ (Proofs.YtcnahmgekicbdaaGreat.see p q n σ):=by
 unfold Proofs.YtcnahmgekicbdaaGreat.see;split
 ·exact Un.tell _ _ _ _ (by decide) (by decide)
 ·exact⟨fun _ _=>rfl,fun _ _=>rfl,fun _ _=>rfl,fun _ _=>rfl,fun _ _=>rfl⟩
theorem Zry (hS:X0 s) (hl:∀ i,σ.ld i <= (σ.sn i).length) (hp0:p0 < nn s) (hq0:q0 < nn s) (hp:p < nn s) (hq:q < nn s):
 bb s (Y7 s p0 q0 σ) p q=bb s σ p q + one (p0=p∧q0=q)∧asks s (Y7 s p0 q0 σ) p q=asks s σ p q:=by
 unfold Y7;by_cases e:pl s p0=pl s q0
 ·rw [if_pos e];refine⟨?_,rfl⟩;unfold bb;show kc 5 p q (Z5 σ.be (pl s p0) (σ.be (pl s p0) ++ [_]) (pl s p)) + kc 5 p q (fl σ (li s (pl s q) (pl s p)))=_;by_cases e2:pl s p=pl s p0
  ·rw [e2,Zt,ZeU,Zcp,ZkB,Nat.zero_add];by_cases c:p0=p∧q0=q
   ·rw [Jv c,Jv ⟨rfl,by show((p0:Int))=p;omega,by show((q0:Int))=q;omega⟩];omega
   ·rw [YO c,YO (fun z=>c ⟨by have:((p0:Int))=p:=z.2.1;omega,by have:((q0:Int))=q:=z.2.2;omega⟩)];omega
  ·rw [ZC e2,YO (fun z=>e2 (by rw [z.1]))];omega
 ·rw [if_neg e];refine⟨?_,?_⟩
  ·unfold bb;rw [Zcn (hl _)];show kc 5 p q (σ.be (pl s p)) + (_ + _)=_;by_cases c:p0=p∧q0=q
   ·obtain⟨rfl,rfl⟩:=c;rw [if_pos rfl,Jv ⟨rfl,rfl,rfl⟩,Jv ⟨rfl,rfl⟩];omega
   ·rw [YO c,YO (fun z=>c ⟨by have:((p0:Int))=p:=z.2.1;omega,by have:((q0:Int))=q:=z.2.2;omega⟩)];split <;> omega
  ·unfold asks;rw [Zcn (hl _),YO (fun z=>by have:(5:Int)=2:=z.1;omega)];split <;> rfl
theorem ZAN (hl:∀ i,σ.ld i <= (σ.sn i).length) (p q:Nat):∀ i,(Y7 s p q σ).ld i <= ((Y7 s p q σ).sn i).length:=fun i=>by
 rw [(ZcA (s:=s) p q σ).2.2.2.1];exact Nat.le_trans (hl i) (SnM.Y7 p q i)
theorem ZxG (hS:X0 s) (hq0:q0 < nn s) (hp:p < nn s) (hq:q < nn s):∀ (l:List Int) (σ:TS),(∀ i,σ.ld i <= (σ.sn i).length) ->(∀ x ∈ l,∃ k:Nat,x= (k:Int)∧k < nn s) ->
 bb s (Zu s q0 l σ) p q=bb s σ p q + (if q0=q then l.count (p:Int) else 0)∧asks s (Zu s q0 l σ) p q=asks s σ p q:=by
 intro l
 induction l with
 | nil=>intro σ _ _;exact⟨by show bb s σ p q=_;split <;> rfl,rfl⟩
 | cons x l ih=>
   intro σ hl hx;obtain⟨k,rfl,hk⟩:=hx x (by simp);have h1:=ih (Y7 s k q0 σ) (ZAN hl k q0) fun y hy=>hx y (by simp [hy])
   have h2:=Zry (p:=p) (q:=q) hS hl hk hq0 hp hq;show bb s (Zu s q0 l (Y7 s ((k:Int)).toNat q0 σ)) p q=_∧asks s (Zu s q0 l (Y7 s ((k:Int)).toNat q0 σ)) p q=_;rw [Int.toNat_natCast,h1.1,h1.2,h2.1,h2.2];refine⟨?_,rfl⟩;rw [List.count_cons];by_cases e:q0=q
   ·rw [if_pos e,if_pos e];by_cases c:k=p
    ·rw [Jv ⟨c,e⟩,if_pos (by simp [c])];omega
    ·rw [YO (fun z=>c z.1),if_neg (by simp;omega)];omega
   ·rw [if_neg e,if_neg e,YO (fun z=>e z.2)]
theorem ZqF (hS:X0 s) (hl:∀ i,σ.ld i <= (σ.sn i).length) (hp0:p0 < nn s) (hq0:q0 < nn s) (hp:p < nn s) (hq:q < nn s):
 asks s (note s p0 q0 σ) p q=asks s σ p q∧(σ.st q0=3 ->bb s (note s p0 q0 σ) p q=bb s σ p q + one (p0=p∧q0=q)∧wat (note s p0 q0 σ) p q=wat σ p q)∧
 (σ.st q0 ≠ 3 ->bb s (note s p0 q0 σ) p q=bb s σ p q∧wat (note s p0 q0 σ) p q=wat σ p q + one (p0=p∧q0=q)):=by
 unfold note;by_cases e:σ.st q0=3
 ·rw [if_pos e];have h:=Zry (p:=p) (q:=q) hS hl hp0 hq0 hp hq;exact⟨h.2,fun _=>⟨h.1,Zod (ZcA (s:=s) p0 q0 σ).2.2.2.2.2.2⟩,fun z=>absurd e z⟩
 ·rw [if_neg e];refine⟨rfl,fun z=>absurd z e,fun _=>⟨rfl,?_⟩⟩;unfold wat;show(Z5 σ.wa q0 (σ.wa q0 ++ [(p0:Int)]) q).count (p:Int)=_;by_cases c:q=q0
  ·subst c;rw [Zt,List.count_append,List.count_singleton];by_cases c2:p0=p
   ·rw [Jv ⟨c2,rfl⟩,if_pos (by simp [c2])]
   ·rw [YO (fun z=>c2 z.1),if_neg (by simp;omega)]
  ·rw [ZC c,YO (fun z=>c z.2.symm)];rfl
end
end
section
def P3 (s:Zc) (σ:TS):Prop:=∀ w,w < mm s ->∀ x ∈ σ.be w,∃ p:Nat,x.kV= (p:Int)∧p < nn s∧pl s p=w
section
variable {s:Zc} {σ τ υ:TS} {F B a b p q w i j n d r p0 q0:Nat} {x:Zd} {k:Int}
theorem P3.congr (h:P3 s σ) (e:τ.be=σ.be):P3 s τ:=fun w hw x hx=>h w hw x (by rwa [e] at hx)
theorem P3.wait (h:P3 s σ) (hx:x.kV= (p:Int)) (hp:p < nn s) (hm:pl s p=a):P3 s (Proofs.YtcnahmgekicbdaaGreat.wait a x σ):=fun w hw y hy=>by
 have hy:y ∈ Z5 σ.be a (σ.be a ++ [x]) w:=hy;by_cases e:w=a
 ·subst e;rw [Zt] at hy;rcases List.mem_append.1 hy with hy | hy
  ·exact h w hw y hy
  ·rw [List.mem_singleton.1 hy];exact⟨p,hx,hp,hm⟩
 ·rw [ZC e] at hy;exact h w hw y hy
theorem P3.Y7 (h:P3 s σ) (hp:p < nn s) (q:Nat):P3 s (Proofs.YtcnahmgekicbdaaGreat.Y7 s p q σ):=by
 unfold Proofs.YtcnahmgekicbdaaGreat.Y7;split
 ·exact h.wait rfl hp rfl
 ·exact h.congr rfl
theorem P3.note (h:P3 s σ) (hp:p < nn s) (q:Nat):P3 s (Proofs.YtcnahmgekicbdaaGreat.note s p q σ):=by
 unfold Proofs.YtcnahmgekicbdaaGreat.note;split
 ·exact h.Y7 hp q
 ·exact h.congr rfl
theorem P3.act (h1:P1 s σ) (h:P3 s σ) (ac:Act s σ τ):P3 s τ:=by
 cases ac with
 | fall=>exact h.congr rfl
 | Ww=>exact h.congr rfl
 | @die p hp h2 hA=>
   have hA:P3 s (Yk s p σ):=by
    have:P3 s (Zu s p (σ.wa p) (JJ p σ)):=Wo _ (P3 s) (σ.wa p) (JJ p σ) (h.congr rfl) fun τ x hx hτ=>by
     obtain⟨k,rfl,hk⟩:=h1.ws p hp x hx;exact hτ.Y7 (by rw [Int.toNat_natCast];exact hk) p
    exact this.congr rfl
   unfold Uw;split
   ·exact hA
   ·split
    ·exact hA.congr rfl
    ·exact hA.congr rfl
 | @ZcM p q=>exact h.congr (Qo q p σ.sd (kK p q σ)).2.2.2.2.2.1
 | ZcL=>exact h.congr rfl
 | @ZcI p q hp=>exact(h.congr (τ:=tell 3 p q 0 σ) rfl).note hp q
 | ZcH=>exact h.congr rfl
 | @ZcP a b p q=>exact(h.congr (τ:=drop1 (li s a b) σ) rfl).congr (Qo _ _ _ _).2.2.2.2.2.1
 | @ZcS a b p q ha hb hl hk hp hq hpn Ku=>exact(h.congr (τ:=drop1 (li s a b) σ) rfl).note hpn q
 | ZcQ=>exact h.congr rfl
 | Zbf=>exact h.congr rfl
 | @ZcR a b ha hb hl hk=>
   obtain⟨p,hp,hpn,_,c⟩:=h1.lets a b ha hb _ (ZbL hl);refine(h.congr (τ:=drop1 (li s a b) σ) rfl).wait hp hpn ?_;rcases c with⟨k,_⟩ | ⟨k,_⟩ | ⟨k,_⟩ | ⟨k,_⟩ | ⟨k,e,_⟩
   ·omega
   ·omega
   ·omega
   ·omega
   ·exact e
 | @ring w i hw hpk=>
   have e:=Q9 s w i σ;intro v hv y hy;rw [e.1] at hy;by_cases z:v=w
   ·subst z;rw [Zt] at hy;exact h v hv y (ZbT hy)
   ·rw [ZC z] at hy;exact h v hv y hy
theorem ZjY {d:Int} (h:x.kW=d) (hp:x.kV= (p0:Int)) (hq:x.kX= (q0:Int)):one (x.kW=d∧x.kV= (p:Int)∧x.kX= (q:Int))=one (p0=p∧q0=q):=by
 rw [hp,hq];by_cases c:p0=p∧q0=q
 ·rw [Jv c,Jv ⟨h,by omega,by omega⟩]
 ·rw [YO c,YO (fun z=>c ⟨by have:=z.2.1;omega,by have:=z.2.2;omega⟩)]
theorem Zib (n:Int):ec (tell k p0 q0 n σ) k p q=ec σ k p q + one (p0=p∧q0=q):=by
 rw [Zef];congr 1;by_cases c:p0=p∧q0=q
 ·rw [Jv c,Jv ⟨rfl,by omega,by omega⟩]
 ·rw [YO c,YO (fun z=>c ⟨by have:=z.2.1;omega,by have:=z.2.2;omega⟩)]
theorem ZjU (d':Int) (n:Int) (h:d' ≠ k):ec (tell d' p0 q0 n σ) k p q=ec σ k p q:=by
 rw [Zef,YO (fun z=>h z.1)];rfl
theorem Un.of (h1:τ.sn=σ.sn) (h2:τ.ld=σ.ld) (h3:τ.be=σ.be) (h4:τ.wa=σ.wa) (h5:τ.ev=σ.ev):Un s σ τ:=
 ⟨fun _ _=>ZrA h1 h2,fun _ _=>ZMI h1 h2 h3,fun _ _=>Zod h4,fun _ _=>ZjV h5,fun _ _=>ZjV h5⟩
theorem Bal.Yk (hS:X0 s) (h1:P1 s σ) (h2:P2 s σ) (h:Bal s σ) (hp0:p0 < nn s):Bal s (Proofs.YtcnahmgekicbdaaGreat.Yk s p0 σ):=by
 have sA:=QG (s:=s) p0 σ
 have bA:∀ p q,p < nn s ->q < nn s ->bb s (Proofs.YtcnahmgekicbdaaGreat.Yk s p0 σ) p q=bb s σ p q + (if p0=q then(σ.wa p0).count (p:Int) else 0)∧asks s (Proofs.YtcnahmgekicbdaaGreat.Yk s p0 σ) p q=asks s σ p q:=fun p q hp hq=>
  ZxG hS hp0 hp hq (σ.wa p0) (JJ p0 σ) h2.ld (h1.ws p0 hp0)
 have wA:∀ p q,wat (Proofs.YtcnahmgekicbdaaGreat.Yk s p0 σ) p q=if p0=q then 0 else wat σ p q:=fun p q=>by
  unfold wat;rw [sA.2.2.2.2.2];by_cases e:p0=q
  ·subst e;rw [Zt,if_pos rfl];rfl
  ·rw [ZC (fun z=>e z.symm),if_neg e]
 have e3:∀ p q,ec (Proofs.YtcnahmgekicbdaaGreat.Yk s p0 σ) 3 p q=ec σ 3 p q:=fun p q=>by rw [Zxq sA.2.2.2.2.1,YO (fun z=>by have:(6:Int)=3:=z.1;omega)];rfl
 have e4:∀ p q,ec (Proofs.YtcnahmgekicbdaaGreat.Yk s p0 σ) 4 p q=ec σ 4 p q:=fun p q=>by rw [Zxq sA.2.2.2.2.1,YO (fun z=>by have:(6:Int)=4:=z.1;omega)];rfl
 have tot:∀ p q,p < nn s ->q < nn s ->ec (Proofs.YtcnahmgekicbdaaGreat.Yk s p0 σ) 4 p q + bb s (Proofs.YtcnahmgekicbdaaGreat.Yk s p0 σ) p q + wat (Proofs.YtcnahmgekicbdaaGreat.Yk s p0 σ) p q + asks s (Proofs.YtcnahmgekicbdaaGreat.Yk s p0 σ) p q=ec σ 4 p q + bb s σ p q + wat σ p q + asks s σ p q:=fun p q hp hq=>by
  obtain⟨b1,b2⟩:=bA p q hp hq;rw [b1,b2,wA,e4];by_cases e:p0=q
  ·rw [if_pos e,if_pos e,e];unfold wat;omega
  ·rw [if_neg e,if_neg e];omega
 refine⟨fun p q hp hq=>by rw [tot p q hp hq,e3];exact h.le p q hp hq,fun p q hp hq z=>?_,fun p q hp hq z=>?_,fun p q hp hq z=>?_⟩
 ·rw [tot p q hp hq,e3];rw [sA.1] at z;refine h.eq p q hp hq ?_;by_cases e:p=p0
  ·subst e;rw [Zt] at z;omega
  ·rwa [ZC e] at z
 ·rw [sA.1];by_cases e:q=p0
  ·subst e;rw [Zt]
  ·rw [ZC e];rw [e4,(bA p q hp hq).1,if_neg (fun z=>e z.symm)] at z;exact h.dead p q hp hq z
 ·rw [wA];by_cases e:p0=q
  ·rw [if_pos e]
  ·rw [if_neg e];rw [sA.1,ZC (fun z=>e z.symm)] at z;exact h.wz p q hp hq z
theorem Bal.act (hS:X0 s) (h1:P1 s σ) (h2:P2 s σ) (h3:P3 s σ) (h:Bal s σ) (ac:Act s σ τ):Bal s τ:=by
 have id1:∀ (ρ:TS),ρ.st=σ.st ->∀ p,p < nn s ->ρ.st p=1 ->σ.st p=1:=fun ρ e p _ z=>by rwa [e] at z
 have id3:∀ (ρ:TS),ρ.st=σ.st ->∀ p,p < nn s ->(σ.st p=3↔ρ.st p=3):=fun ρ e p _=>by rw [e]
 cases ac with
 | @fall p0 hp0 hst=>
   refine h.un ((Un.of (s:=s) (σ:=σ) (τ:= {σ with st:=Z5 σ.st p0 2}) rfl rfl rfl rfl rfl).trans (Un.tell (σ:= {σ with st:=Z5 σ.st p0 2}) 5 p0 0 0 (by decide) (by decide))) (fun p _ z=>?_) (fun p _=>?_)
   ·have z:Z5 σ.st p0 2 p=1:=z;by_cases e:p=p0
    ·subst e;exact hst
    ·rwa [ZC e] at z
   ·show _↔Z5 σ.st p0 2 p=3;by_cases e:p=p0
    ·subst e;rw [Zt,hst];decide
    ·rw [ZC e]
 | Ww=>exact h.un (Un.send (h2.ld _) (show(3:Int) ≠ 2 by decide) (show(3:Int) ≠ 5 by decide)) (id1 _ rfl) (id3 _ rfl)
 | @die p0 hp0 hst hA=>
   have hB:=Bal.Yk hS h1 h2 h hp0;unfold Uw;split
   ·exact hB
   ·split
    ·exact hB.un ⟨fun _ _=>rfl,fun _ _=>rfl,fun _ _=>rfl,fun _ _=>rfl,fun _ _=>rfl⟩ (fun _ _ z=>z) (fun _ _=>Iff.rfl)
    ·refine hB.un (Un.send ?_ (show(4:Int) ≠ 2 by decide) (show(4:Int) ≠ 5 by decide)) (fun _ _ z=>z) (fun _ _=>Iff.rfl);rw [(QG (s:=s) p0 σ).2.2.1];exact Nat.le_trans (h2.ld _) (SnM.Yk p0 _)
 | @ZcM p0 q0 hp hq=>exact h.un (((Un.of (s:=s) (σ:=σ) (τ:= {σ with sd:=σ.sd + 1}) rfl rfl rfl rfl rfl).trans (Un.tell (σ:= {σ with sd:=σ.sd + 1}) 1 p0 q0 σ.sd (by decide) (by decide))).trans (Un.see q0 p0 σ.sd)) (id1 _ (Qo q0 p0 σ.sd (kK p0 q0 σ)).1) (id3 _ (Qo q0 p0 σ.sd (kK p0 q0 σ)).1)
 | @ZcL p0 q0 hp hq=>exact h.un (((Un.of (s:=s) (σ:=σ) (τ:= {σ with sd:=σ.sd + 1}) rfl rfl rfl rfl rfl).trans (Un.tell (σ:= {σ with sd:=σ.sd + 1}) 1 p0 q0 σ.sd (by decide) (by decide))).trans (Un.send (x:= ⟨1,p0,q0,σ.sd,[]⟩) (h2.ld _) (show(1:Int) ≠ 2 by decide) (show(1:Int) ≠ 5 by decide))) (id1 _ rfl) (id3 _ rfl)
 | @ZcI p0 q0 hp0 hq0 hst e0=>
   have e:=XR (s:=s) p0 q0 (tell 3 p0 q0 0 σ);have e3:∀ p q,ec (note s p0 q0 (tell 3 p0 q0 0 σ)) 3 p q=ec σ 3 p q + one (p0=p∧q0=q):=fun p q=>by rw [ZjV e.2.2.2.2.2,Zib]
   have e4:∀ p q,ec (note s p0 q0 (tell 3 p0 q0 0 σ)) 4 p q=ec σ 4 p q:=fun p q=>by rw [ZjV e.2.2.2.2.2,ZjU _ _ (by decide)]
   have nt:=fun p q hp hq=>ZqF (p:=p) (q:=q) (σ:=tell 3 p0 q0 0 σ) hS h2.ld hp0 hq0 hp hq
   have ta:∀ p q,asks s (tell 3 p0 q0 0 σ) p q=asks s σ p q:=fun _ _=>rfl
   have tb:∀ p q,bb s (tell 3 p0 q0 0 σ) p q=bb s σ p q:=fun _ _=>rfl
   have tw:∀ p q,wat (tell 3 p0 q0 0 σ) p q=wat σ p q:=fun _ _=>rfl
   have ts:(tell 3 p0 q0 0 σ).st q0=σ.st q0:=rfl;refine⟨fun p q hp hq=>?_,fun p q hp hq z=>?_,fun p q hp hq z=>?_,fun p q hp hq z=>?_⟩
   ·have l:=h.le p q hp hq;obtain⟨n1,n2,n3⟩:=nt p q hp hq;rw [e3,e4,n1,ta];by_cases c:σ.st q0=3
    ·obtain⟨m1,m2⟩:=n2 c;rw [m1,m2,tb,tw];omega
    ·obtain⟨m1,m2⟩:=n3 c;rw [m1,m2,tb,tw];omega
   ·rw [e.1] at z;have l:=h.eq p q hp hq z;obtain⟨n1,n2,n3⟩:=nt p q hp hq;rw [e3,e4,n1,ta];by_cases c:σ.st q0=3
    ·obtain⟨m1,m2⟩:=n2 c;rw [m1,m2,tb,tw];omega
    ·obtain⟨m1,m2⟩:=n3 c;rw [m1,m2,tb,tw];omega
   ·rw [e.1];obtain⟨n1,n2,n3⟩:=nt p q hp hq;rw [e4] at z;by_cases c:σ.st q0=3
    ·obtain⟨m1,m2⟩:=n2 c;rw [m1,tb] at z;by_cases cc:p0=p∧q0=q
     ·rw [← cc.2];exact c
     ·rw [YO cc] at z;exact h.dead p q hp hq z
    ·obtain⟨m1,m2⟩:=n3 c;rw [m1,tb] at z;exact h.dead p q hp hq z
   ·rw [e.1] at z;obtain⟨n1,n2,n3⟩:=nt p q hp hq;have l:=h.wz p q hp hq z;by_cases c:σ.st q0=3
    ·obtain⟨m1,m2⟩:=n2 c;rw [m2,tw];exact l
    ·obtain⟨m1,m2⟩:=n3 c;rw [m2,tw,l,YO (fun cc=>c (by rw [cc.2];exact z))]
 | @ZcH p0 q0 hp0 hq0 hst e0=>
   have e3:∀ p q,ec (send s (pl s p0) (pl s q0) ⟨2,p0,q0,0,[]⟩ (tell 3 p0 q0 0 σ)) 3 p q=ec σ 3 p q + one (p0=p∧q0=q):=fun p q=>Zib 0
   have e4:∀ p q,ec (send s (pl s p0) (pl s q0) ⟨2,p0,q0,0,[]⟩ (tell 3 p0 q0 0 σ)) 4 p q=ec σ 4 p q:=fun p q=>ZjU _ _ (by decide)
   have ea:∀ p q,asks s (send s (pl s p0) (pl s q0) ⟨2,p0,q0,0,[]⟩ (tell 3 p0 q0 0 σ)) p q=asks s σ p q + one (p0=p∧q0=q):=fun p q=>by
    unfold asks;rw [Zcn (σ:=tell 3 p0 q0 0 σ) (h2.ld _),ZjY (x:= ⟨2,p0,q0,0,[]⟩) (d:=2) (p0:=p0) (q0:=q0) rfl rfl rfl];by_cases c:p0=p∧q0=q
    ·rw [if_pos (by rw [c.1,c.2])];rfl
    ·rw [YO c];split <;> rfl
   have eb:∀ p q,bb s (send s (pl s p0) (pl s q0) ⟨2,p0,q0,0,[]⟩ (tell 3 p0 q0 0 σ)) p q=bb s σ p q:=fun p q=>by
    unfold bb;rw [Zcn (σ:=tell 3 p0 q0 0 σ) (h2.ld _),YO (fun z=>by have:(2:Int)=5:=z.1;omega)];show kc 5 p q (σ.be (pl s p)) + _=_;split <;> rfl
   have ew:∀ p q,wat (send s (pl s p0) (pl s q0) ⟨2,p0,q0,0,[]⟩ (tell 3 p0 q0 0 σ)) p q=wat σ p q:=fun p q=>rfl
   refine⟨fun p q hp hq=>?_,fun p q hp hq z=>?_,fun p q hp hq z=>?_,fun p q hp hq z=>?_⟩
   ·have l:=h.le p q hp hq;rw [e3,e4,ea,eb,ew];omega
   ·have l:=h.eq p q hp hq z;rw [e3,e4,ea,eb,ew];omega
   ·rw [e4,eb] at z;exact h.dead p q hp hq z
   ·rw [ew];exact h.wz p q hp hq z
 | @ZcP a b p0 q0 ha hb hl hk hp hq hpn Ku=>exact h.un ((Un.drop hl (by omega) (by omega)).trans (Un.see q0 p0 _)) (id1 _ (Qo q0 p0 (hd σ (li s a b)).n (drop1 (li s a b) σ)).1) (id3 _ (Qo q0 p0 (hd σ (li s a b)).n (drop1 (li s a b) σ)).1)
 | @ZcS a b p0 q0 ha hb hl hk hpe hqe hp0 hq0=>
   have e:=XR (s:=s) p0 q0 (drop1 (li s a b) σ);have hlet:=h1.lets a b ha hb _ (ZbL hl)
   have hpq:pl s p0=a∧pl s q0=b:=by
    obtain⟨p',hp',_,_,c⟩:=hlet;have:p'=p0:=by omega
    subst this;rcases c with⟨k,_⟩ | ⟨k,e1,q',hq',_,e2⟩ | ⟨k,_⟩ | ⟨k,_⟩ | ⟨k,_⟩
    ·omega
    ·have:q'=q0:=by omega
     subst this;exact⟨e1,e2⟩
    ·omega
    ·omega
    ·omega
   have hd2:∀ i,(drop1 (li s a b) σ).ld i <= ((drop1 (li s a b) σ).sn i).length:= (h2.drop hl).ld;have e3:∀ p q,ec (note s p0 q0 (drop1 (li s a b) σ)) 3 p q=ec σ 3 p q:=fun p q=>by rw [ZjV e.2.2.2.2.2];rfl
   have e4:∀ p q,ec (note s p0 q0 (drop1 (li s a b) σ)) 4 p q=ec σ 4 p q:=fun p q=>by rw [ZjV e.2.2.2.2.2];rfl
   have nt:=fun p q hp hq=>ZqF (p:=p) (q:=q) (σ:=drop1 (li s a b) σ) hS hd2 hp0 hq0 hp hq
   have ta:∀ p q,asks s σ p q=asks s (drop1 (li s a b) σ) p q + one (p0=p∧q0=q):=fun p q=>by
    have:=Zco (k:=2) (p:=p) (q:=q) hl (li s (pl s p) (pl s q));rw [ZjY (d:=2) (p0:=p0) (q0:=q0) hk hpe hqe] at this;unfold asks;rw [this];by_cases c:p0=p∧q0=q
    ·rw [if_pos (by rw [← c.1,← c.2,hpq.1,hpq.2])]
    ·rw [YO c];split <;> rfl
   have tb:∀ p q,bb s (drop1 (li s a b) σ) p q=bb s σ p q:=fun p q=>by
    have:=Zco (k:=5) (p:=p) (q:=q) hl (li s (pl s q) (pl s p));rw [YO (fun z=>by have:=z.1;omega)] at this;unfold bb;rw [this];show kc 5 p q (σ.be (pl s p)) + _=_;split <;> rfl
   have tw:∀ p q,wat (drop1 (li s a b) σ) p q=wat σ p q:=fun _ _=>rfl
   have ts:(drop1 (li s a b) σ).st=σ.st:=rfl;refine⟨fun p q hp hq=>?_,fun p q hp hq z=>?_,fun p q hp hq z=>?_,fun p q hp hq z=>?_⟩
   ·have l:=h.le p q hp hq;obtain⟨n1,n2,n3⟩:=nt p q hp hq;rw [e3,e4,n1];rw [ta] at l;by_cases c:σ.st q0=3
    ·obtain⟨m1,m2⟩:=n2 c;rw [m1,m2,tb,tw];omega
    ·obtain⟨m1,m2⟩:=n3 c;rw [m1,m2,tb,tw];omega
   ·rw [e.1] at z;have l:=h.eq p q hp hq z;obtain⟨n1,n2,n3⟩:=nt p q hp hq;rw [e3,e4,n1];rw [ta] at l;by_cases c:σ.st q0=3
    ·obtain⟨m1,m2⟩:=n2 c;rw [m1,m2,tb,tw];omega
    ·obtain⟨m1,m2⟩:=n3 c;rw [m1,m2,tb,tw];omega
   ·rw [e.1];obtain⟨n1,n2,n3⟩:=nt p q hp hq;rw [e4] at z;by_cases c:σ.st q0=3
    ·obtain⟨m1,m2⟩:=n2 c;rw [m1,tb] at z;by_cases cc:p0=p∧q0=q
     ·rw [← cc.2];exact c
     ·rw [YO cc] at z;exact h.dead p q hp hq z
    ·obtain⟨m1,m2⟩:=n3 c;rw [m1,tb] at z;exact h.dead p q hp hq z
   ·rw [e.1] at z;obtain⟨n1,n2,n3⟩:=nt p q hp hq;have l:=h.wz p q hp hq z;by_cases c:σ.st q0=3
    ·obtain⟨m1,m2⟩:=n2 c;rw [m2,tw];exact l
    ·obtain⟨m1,m2⟩:=n3 c;rw [m2,tw,l,YO (fun cc=>c (by rw [cc.2];exact z))]
 | ZcQ ha hb hl hk=>exact h.un (Un.drop hl (by omega) (by omega)) (id1 _ rfl) (id3 _ rfl)
 | Zbf ha hb hl hk=>exact h.un ((Un.drop hl (by omega) (by omega)).trans ⟨fun _ _=>rfl,fun _ _=>rfl,fun _ _=>rfl,fun _ _=>rfl,fun _ _=>rfl⟩) (id1 _ rfl) (id3 _ rfl)
 | @ZcR a b ha hb hl hk=>
   obtain⟨p0,hpe,hp0,_,c⟩:=h1.lets a b ha hb _ (ZbL hl)
   obtain⟨q0,hqe,hq0,e1,e2⟩:∃ q0:Nat,(hd σ (li s a b)).kX= (q0:Int)∧q0 < nn s∧pl s p0=b∧pl s q0=a:=by
    rcases c with⟨k,_⟩ | ⟨k,_⟩ | ⟨k,_⟩ | ⟨k,_⟩ | ⟨k,e,_,q,h1,h2,h3⟩
    ·omega
    ·omega
    ·omega
    ·omega
    ·exact⟨q,h1,h2,e,h3⟩
   refine h.un ⟨fun p q=>?_,fun p q=>?_,fun _ _=>rfl,fun _ _=>rfl,fun _ _=>rfl⟩ (id1 _ rfl) (id3 _ rfl)
   ·have:=Zco (k:=2) (p:=p) (q:=q) hl (li s (pl s p) (pl s q));rw [YO (fun z=>by have:=z.1;omega)] at this;show asks s (drop1 (li s a b) σ) p q=_;unfold asks;rw [this];split <;> rfl
   ·have:=Zco (k:=5) (p:=p) (q:=q) hl (li s (pl s q) (pl s p));rw [ZjY (d:=5) (p0:=p0) (q0:=q0) hk hpe hqe] at this;unfold bb;rw [this];show kc 5 p q (Z5 σ.be b (σ.be b ++ [hd σ (li s a b)]) (pl s p)) + kc 5 p q (fl (drop1 (li s a b) σ) (li s (pl s q) (pl s p)))=_;by_cases c:p0=p∧q0=q
    ·rw [if_pos (by rw [← c.1,← c.2,e1,e2]),show pl s p=b by rw [← c.1,e1],Zt,ZeU,Zcp,ZkB,ZjY (d:=5) (p0:=p0) (q0:=q0) hk hpe hqe];omega
    ·rw [YO c]
     have:kc 5 p q (Z5 σ.be b (σ.be b ++ [hd σ (li s a b)]) (pl s p))=kc 5 p q (σ.be (pl s p)):=by
      by_cases z:pl s p=b
      ·rw [z,Zt,ZeU,Zcp,ZkB,ZjY (d:=5) (p0:=p0) (q0:=q0) hk hpe hqe,YO c];rfl
      ·rw [ZC z]
     rw [this];split <;> omega
 | @ring w i hw hpk=>
   have e:=Q9 s w i σ;have hi:i < (σ.be w).length:=Zcf _ _ hpk;obtain⟨x,hx⟩:∃ x,x= (σ.be w).getD i default:= ⟨_,rfl⟩
   have hm:x ∈ σ.be w:=by rw [hx];exact XG hi
   obtain⟨p0,hpe,hp0,hpw⟩:=h3 w hw x hm;obtain⟨⟨_,⟨q0,hqe,hq0⟩,_⟩,hk⟩:=h1.bea w hw x hm;have ea:∀ p q,asks s (rung s w i σ) p q=asks s σ p q:=fun p q=>ZrA e.2.2.2.2.2.1 e.2.1
   have ew:∀ p q,wat (rung s w i σ) p q=wat σ p q:=fun p q=>Zod e.2.2.2.2.2.2.1
   have eb:∀ p q,bb s σ p q=bb s (rung s w i σ) p q + one (p0=p∧q0=q):=fun p q=>by
    have hc:=ZvF (k:=5) (p:=p) (q:=q) hi;rw [← hx,ZjY (d:=5) (p0:=p0) (q0:=q0) hk hpe hqe] at hc;have hf:fl (rung s w i σ)=fl σ:=by unfold fl;rw [e.2.1,e.2.2.2.2.2.1]
    unfold bb;rw [hf,e.1];by_cases z:pl s p=w
    ·rw [z,Zt,hc];omega
    ·rw [ZC z,YO (fun c=>z (by rw [← c.1];exact hpw))];omega
   have e3:∀ p q,ec (rung s w i σ) 3 p q=ec σ 3 p q:=fun p q=>by
    unfold rung;split
    ·rw [Zef,YO (fun z=>by have:=z.1;omega)];rfl
    ·rfl
   have e4:∀ p q,ec (rung s w i σ) 4 p q=ec σ 4 p q + (if σ.st p0=1 then one (p0=p∧q0=q) else 0):=fun p q=>by
    unfold rung;rw [← hx,hpe,Int.toNat_natCast];split
    ·rw [hqe,Zib];rfl
    ·rfl
   refine⟨fun p q hp hq=>?_,fun p q hp hq z=>?_,fun p q hp hq z=>?_,fun p q hp hq z=>?_⟩
   ·have l:=h.le p q hp hq;rw [eb] at l;rw [e3,e4,ea,ew];split <;> omega
   ·rw [e.2.2.1] at z;have l:=h.eq p q hp hq z;rw [eb] at l;rw [e3,e4,ea,ew];by_cases c:p0=p∧q0=q
    ·rw [if_pos (by rw [c.1];exact z)];omega
    ·rw [YO c] at l ⊢;split <;> omega
   ·rw [e.2.2.1];refine h.dead p q hp hq ?_;rw [eb];rw [e4] at z;split at z <;> omega
   ·rw [ew];rw [e.2.2.1] at z;exact h.wz p q hp hq z
end
end
section
structure MB (s:Zc) (σ:TS):Prop where
 ma:∀ p i,i < mm s * mm s ->σ.ma p i <= ((σ.sn i).length:Int)
 le:∀ j,∀ x ∈ σ.sn j,∀ i,i < mm s * mm s ->x.qX.getD i 0 <= ((σ.sn i).length:Int)
 be:∀ m,∀ x ∈ σ.be m,∀ i,i < mm s * mm s ->x.qX.getD i 0 <= ((σ.sn i).length:Int)
section
variable {s:Zc} {σ τ υ:TS} {F B a b p q w i j n d r p0 q0:Nat} {x:Zd} {k:Int} {l:List Z8} {picks:List Int}
def MX (s:Zc) (σ:TS) (x:Zd):Prop:=∀ i,i < mm s * mm s ->x.qX.getD i 0 <= ((σ.sn i).length:Int)
theorem MB.congr (h:MB s σ) (h1:τ.sn=σ.sn) (h2:τ.be=σ.be) (h3:τ.ma=σ.ma):MB s τ:= ⟨by rw [h1,h3];exact h.ma,by rw [h1];exact h.le,by rw [h1,h2];exact h.be⟩
theorem MB.send (h:MB s σ) (hx:MX s σ x):MB s (Proofs.YtcnahmgekicbdaaGreat.send s a b x σ):=by
 have up:∀ i,(σ.sn i).length <= ((Proofs.YtcnahmgekicbdaaGreat.send s a b x σ).sn i).length:=SnM.send x;refine⟨fun p i hi=>Int.le_trans (h.ma p i hi) (by have:=up i;omega),fun j y hy i hi=>?_,fun m y hy i hi=>Int.le_trans (h.be m y hy i hi) (by have:=up i;omega)⟩;refine Int.le_trans ?_ (Int.ofNat_le.2 (up i));by_cases e:j=li s a b
 ·subst e;rw [Zcc] at hy;rcases List.mem_append.1 hy with hy | hy
  ·exact h.le _ y hy i hi
  ·rw [List.mem_singleton.1 hy];exact hx i hi
 ·rw [J4 e] at hy;exact h.le _ y hy i hi
theorem MB.wait (h:MB s σ) (hx:MX s σ x):MB s (Proofs.YtcnahmgekicbdaaGreat.wait a x σ):=by
 refine⟨h.ma,h.le,fun m y hy i hi=>?_⟩;have hy:y ∈ Z5 σ.be a (σ.be a ++ [x]) m:=hy;by_cases e:m=a
 ·subst e;rw [Zt] at hy;rcases List.mem_append.1 hy with hy | hy
  ·exact h.be _ y hy i hi
  ·rw [List.mem_singleton.1 hy];exact hx i hi
 ·rw [ZC e] at hy;exact h.be _ y hy i hi
theorem Zck (hi:i < mm s * mm s):(Wx s σ p).getD i 0=σ.ma p i:=by
 unfold Wx;have:=Yu (f:=σ.ma p) hi;rw [Qx 0 (by rw [Qg];exact hi)] at this;exact Oi0 this
theorem MB.Wx (h:MB s σ) (d p q n:Int) (p':Nat):MX s σ ⟨d,p,q,n,Proofs.YtcnahmgekicbdaaGreat.Wx s σ p'⟩:=fun i hi=>by
 show(Proofs.YtcnahmgekicbdaaGreat.Wx s σ p').getD i 0 <=_;rw [Zck hi];exact h.ma p' i hi
theorem MX.nil (d p q n:Int):MX s σ ⟨d,p,q,n,[]⟩:=fun i hi=>by show(0:Int) <=_;omega
theorem MB.Y7 (h:MB s σ) (p q:Nat):MB s (Proofs.YtcnahmgekicbdaaGreat.Y7 s p q σ):=by
 unfold Proofs.YtcnahmgekicbdaaGreat.Y7;split
 ·exact h.wait (h.Wx _ _ _ _ _)
 ·exact h.send (h.Wx _ _ _ _ _)
theorem MB.note (h:MB s σ) (p q:Nat):MB s (Proofs.YtcnahmgekicbdaaGreat.note s p q σ):=by
 unfold Proofs.YtcnahmgekicbdaaGreat.note;split
 ·exact h.Y7 _ _
 ·exact h.congr rfl rfl rfl
theorem MB.see (h:MB s σ) (p q:Nat) (n:Int):MB s (Proofs.YtcnahmgekicbdaaGreat.see p q n σ):=by
 have e:=Qo p q n σ;exact h.congr e.2.2.2.2.1 e.2.2.2.2.2.1 e.2.2.1
theorem MB.Yk (h:MB s σ) (p:Nat):MB s (Proofs.YtcnahmgekicbdaaGreat.Yk s p σ):=by
 have h1:MB s (Zu s p (σ.wa p) (JJ p σ)):=Wo _ (MB s) (σ.wa p) (JJ p σ) (h.congr rfl rfl rfl) fun τ x _ hτ=>hτ.Y7 _ _
 refine⟨fun p' i hi=>?_,h1.le,h1.be⟩;show Z5 (Zu s p (σ.wa p) (JJ p σ)).ma p (ZcN s (Zu s p (σ.wa p) (JJ p σ)) p (mm s)) p' i <=_;by_cases e:p'=p
 ·subst e;rw [Zt];unfold ZcN;split
  ·exact Int.le_refl _
  ·exact h1.ma _ i hi
 ·rw [ZC e];exact h1.ma _ i hi
theorem MB.learn (h:MB s σ) {l:List Int} (hl:∀ i,i < mm s * mm s ->l.getD i 0 <= ((σ.sn i).length:Int)) (p:Nat):MB s (YJ s p l σ):=by
 refine⟨fun p' i hi=>?_,h.le,h.be⟩;show Z5 σ.ma (inn s (p:Int)).toNat (mx (σ.ma (inn s (p:Int)).toNat) l) p' i <= ((σ.sn i).length:Int);by_cases e:p'= (inn s (p:Int)).toNat
 ·rw [e,Zt];have h1:=h.ma (inn s (p:Int)).toNat i hi;have h2:=hl i hi;unfold mx;split <;> omega
 ·rw [ZC e];exact h.ma _ i hi
theorem MB.act (h:MB s σ) (ac:Act s σ τ):MB s τ:=by
 cases ac with
 | fall=>exact h.congr rfl rfl rfl
 | Ww=>exact h.send (MX.nil _ _ _ _)
 | @die p hp h2 hA=>
   have hA:=h.Yk p;unfold Uw;split
   ·exact hA
   ·split
    ·exact hA.learn (fun i hi=>by rw [Zck hi];exact hA.ma p i hi) p
    ·exact hA.send (hA.Wx _ _ _ _ _)
 | @ZcM p q=>exact(h.congr (τ:=kK p q σ) rfl rfl rfl).see _ _ _
 | @ZcL p q=>exact(h.congr (τ:=kK p q σ) rfl rfl rfl).send (MX.nil _ _ _ _)
 | @ZcI p q hp=>exact(h.congr (τ:=tell 3 p q 0 σ) rfl rfl rfl).note _ _
 | @ZcH p q=>exact(h.congr (τ:=tell 3 p q 0 σ) rfl rfl rfl).send (MX.nil _ _ _ _)
 | @ZcP a b p q=>exact(h.congr (τ:=drop1 (li s a b) σ) rfl rfl rfl).see _ _ _
 | @ZcS a b p q=>exact(h.congr (τ:=drop1 (li s a b) σ) rfl rfl rfl).note _ _
 | ZcQ=>exact h.congr rfl rfl rfl
 | @Zbf a b p ha hb hl=>exact(h.congr (τ:=drop1 (li s a b) σ) rfl rfl rfl).learn (fun i hi=>h.le _ _ (ZbL hl) i hi) p
 | @ZcR a b ha hb hl=>exact(h.congr (τ:=drop1 (li s a b) σ) rfl rfl rfl).wait (fun i hi=>h.le _ _ (ZbL hl) i hi)
 | @ring w i hw hpk=>
   have e:=Q9 s w i σ;refine⟨by rw [e.2.2.2.2.1,e.2.2.2.2.2.1];exact h.ma,by rw [e.2.2.2.2.2.1];exact h.le,fun m y hy j hj=>?_⟩;rw [e.2.2.2.2.2.1];rw [e.1] at hy;by_cases z:m=w
   ·subst z;rw [Zt] at hy;exact h.be _ y (ZbT hy) j hj
   ·rw [ZC z] at hy;exact h.be _ y hy j hj
end
end
section
structure EvS (s:Zc) (σ:TS):Prop where
 rg:∀ p,p < nn s ->σ.st p=1∨σ.st p=2∨σ.st p=3
 e5:∀ p,p < nn s ->c3 σ.ev 5 p 0=one (σ.st p ≠ 1)
 e6:∀ p,p < nn s ->c3 σ.ev 6 p 0=one (σ.st p=3)
 z5:∀ e ∈ σ.ev,e.kZ=5∨e.kZ=6 ->e.kX=0
section
variable {s:Zc} {σ τ υ:TS} {F B a b p q w i j n d r p0 q0:Nat} {x:Zd} {k:Int} {l:List Z8} {picks:List Int} {e:Zk}
theorem EvS.congr (h:EvS s σ) (h1:τ.st=σ.st) (h2:τ.ev=σ.ev):EvS s τ:= ⟨by rw [h1];exact h.rg,by rw [h1,h2];exact h.e5,by rw [h1,h2];exact h.e6,by rw [h2];exact h.z5⟩
theorem EvS.add (h:EvS s σ) (h1:τ.st=σ.st) (h2:τ.ev=σ.ev ++ [e]) (d5:e.kZ ≠ 5) (d6:e.kZ ≠ 6):EvS s τ:=by
 refine⟨by rw [h1];exact h.rg,fun p hp=>?_,fun p hp=>?_,fun y hy z=>?_⟩
 ·rw [h1,h2,Zab,YO (fun z=>d5 z.1)];exact h.e5 p hp
 ·rw [h1,h2,Zab,YO (fun z=>d6 z.1)];exact h.e6 p hp
 ·rw [h2] at hy;rcases List.mem_append.1 hy with hy | hy
  ·exact h.z5 y hy z
  ·rw [List.mem_singleton.1 hy] at z;rcases z with z | z
   ·exact absurd z d5
   ·exact absurd z d6
theorem EvS.see (h:EvS s σ) (p q:Nat) (n:Int):EvS s (Proofs.YtcnahmgekicbdaaGreat.see p q n σ):=by
 unfold Proofs.YtcnahmgekicbdaaGreat.see;split
 ·exact h.add (e:= ⟨2,p,q,n⟩) rfl rfl (by show(2:Int) ≠ 5;decide) (by show(2:Int) ≠ 6;decide)
 ·exact h
theorem EvS.act (h:EvS s σ) (ac:Act s σ τ):EvS s τ:=by
 cases ac with
 | @fall p0 hp0 hst=>
   have ev:(JX p0 σ).ev=σ.ev ++ [⟨5,(p0:Int),0,0⟩]:=rfl;have st:(JX p0 σ).st=Z5 σ.st p0 2:=rfl;refine⟨fun p hp=>?_,fun p hp=>?_,fun p hp=>?_,fun y hy z=>?_⟩
   ·rw [st];by_cases c:p=p0
    ·subst c;rw [Zt];exact .inr (.inl rfl)
    ·rw [ZC c];exact h.rg p hp
   ·rw [ev,st,Zab,h.e5 p hp];by_cases c:p=p0
    ·subst c;rw [Zt,YO (fun z=>z hst),Jv ⟨rfl,rfl,rfl⟩,Jv (by decide)]
    ·rw [ZC c,YO (c:= (5:Int)=5∧(p0:Int)=p∧(0:Int)=0) (fun z=>c (by have:=z.2.1;omega))];rfl
   ·rw [ev,st,Zab,h.e6 p hp,YO (c:= (5:Int)=6∧(p0:Int)=p∧(0:Int)=0) (fun z=>by have:=z.1;omega)];by_cases c:p=p0
    ·subst c;rw [Zt,YO (by rw [hst];decide),YO (by decide)]
    ·rw [ZC c];rfl
   ·rw [ev] at hy;rcases List.mem_append.1 hy with hy | hy
    ·exact h.z5 y hy z
    ·rw [List.mem_singleton.1 hy]
 | Ww=>exact h.congr rfl rfl
 | @die p0 hp0 hst hA=>
   have sA:=QG (s:=s) p0 σ
   have hA:EvS s (Yk s p0 σ):=by
    refine⟨fun p hp=>?_,fun p hp=>?_,fun p hp=>?_,fun y hy z=>?_⟩
    ·rw [sA.1];by_cases c:p=p0
     ·subst c;rw [Zt];exact .inr (.inr rfl)
     ·rw [ZC c];exact h.rg p hp
    ·rw [sA.2.2.2.2.1,sA.1,Zab,h.e5 p hp,YO (c:= (6:Int)=5∧(p0:Int)=p∧(0:Int)=0) (fun z=>by have:=z.1;omega)];by_cases c:p=p0
     ·subst c;rw [Zt,Jv (by rw [hst];decide),Jv (by decide)]
     ·rw [ZC c];rfl
    ·rw [sA.2.2.2.2.1,sA.1,Zab,h.e6 p hp];by_cases c:p=p0
     ·subst c;rw [Zt,YO (by rw [hst];decide),Jv ⟨rfl,rfl,rfl⟩,Jv rfl]
     ·rw [ZC c,YO (c:= (6:Int)=6∧(p0:Int)=p∧(0:Int)=0) (fun z=>c (by have:=z.2.1;omega))];rfl
    ·rw [sA.2.2.2.2.1] at hy;rcases List.mem_append.1 hy with hy | hy
     ·exact h.z5 y hy z
     ·rw [List.mem_singleton.1 hy]
   unfold Uw;split
   ·exact hA
   ·split
    ·exact hA.congr rfl rfl
    ·exact hA.congr rfl rfl
 | @ZcM p q=>exact(h.add (τ:=kK p q σ) (e:= ⟨1,p,q,σ.sd⟩) rfl rfl (by show(1:Int) ≠ 5;decide) (by show(1:Int) ≠ 6;decide)).see _ _ _
 | @ZcL p q=>exact h.add (e:= ⟨1,p,q,σ.sd⟩) rfl rfl (by show(1:Int) ≠ 5;decide) (by show(1:Int) ≠ 6;decide)
 | @ZcI p q=>have z:=XR (s:=s) p q (tell 3 p q 0 σ);exact(h.add (τ:=tell 3 p q 0 σ) (e:= ⟨3,p,q,0⟩) rfl rfl (by show(3:Int) ≠ 5;decide) (by show(3:Int) ≠ 6;decide)).congr z.1 z.2.2.2.2.2
 | @ZcH p q=>exact h.add (e:= ⟨3,p,q,0⟩) rfl rfl (by show(3:Int) ≠ 5;decide) (by show(3:Int) ≠ 6;decide)
 | ZcP=>exact EvS.see (σ:=drop1 _ σ) (h.congr rfl rfl) _ _ _
 | @ZcS a b p q=>have z:=XR (s:=s) p q (drop1 (li s a b) σ);exact h.congr z.1 z.2.2.2.2.2
 | ZcQ=>exact h.congr rfl rfl
 | Zbf=>exact h.congr rfl rfl
 | ZcR=>exact h.congr rfl rfl
 | @ring w i=>
   unfold rung;split
   ·exact h.add (e:= ⟨4,_,_,0⟩) rfl rfl (by show(4:Int) ≠ 5;decide) (by show(4:Int) ≠ 6;decide)
   ·exact h.congr rfl rfl
theorem Zgx (hS:X0 s) (kn:Kn s σ) (ki:KI s σ) (hq:q < nn s) (h3:σ.st q=3):∀ (j p:Nat),p < nn s ->up s j (p:Int)= (q:Int) ->σ.st p=3:=by
 intro j
 induction j with
 | zero=>intro p hp e;have:p=q:=by have:(p:Int)=q:=e;omega
         rw [this];exact h3
 | succ j ih=>
   intro p hp e;have e':(if(p:Int) < 0 then(p:Int) else up s j (inn s (p:Int)))= (q:Int):=e;rw [if_neg (by omega)] at e';by_cases h0:inn s (p:Int) < 0
   ·rw [ZgJ h0] at e';omega
   ·obtain⟨eq,hq'⟩:=QD hS hp h0;rw [eq] at e';have h3':=ih _ hq' e';have hk:=ki.k4 _ hq' h3' p hp eq;obtain⟨k,ek,_,_,hd⟩:=kn.rng _ hq' _ hk;have:p=k:=by omega
    rw [this];exact hd
end
end
section
def S1 (σ τ:TS):Prop:=∀ (i j:Nat) (x:Zd),x.kW=1 ->((τ.sn i)[j]? =some x↔(σ.sn i)[j]? =some x)
structure Num (σ:TS):Prop where
 n0:0 <=σ.sd
 n1:∀ e ∈ σ.ev,e.kZ=1∨e.kZ=2 ->0 <=e.n∧e.n < σ.sd
 n5:∀ (i j:Nat) (x:Zd),(σ.sn i)[j]? =some x ->x.kW=1 ->0 <=x.n∧x.n < σ.sd∧∃ e ∈ σ.ev,e.kZ=1∧e.kV=x.kV∧e.kX=x.kX∧e.n=x.n
 n6:∀ (i j:Nat) (x:Zd) (i' j':Nat) (x':Zd),(σ.sn i)[j]? =some x ->(σ.sn i')[j']? =some x' ->x.kW=1 ->x'.kW=1 ->x.n=x'.n ->i=i'∧j=j'
 n3:∀ e ∈ σ.ev,e.kZ=2 ->∀ (i j:Nat) (x:Zd),(σ.sn i)[j]? =some x ->x.kW=1 ->x.n=e.n ->j < σ.ld i
section
variable {s:Zc} {σ τ υ:TS} {F B a b p q w i j n d r p0 q0:Nat} {x:Zd} {k:Int} {e:Zk}
theorem S1.refl' (h:τ.sn=σ.sn):S1 σ τ:=fun i j x _=>by rw [h]
theorem S1.trans (h:S1 σ τ) (h':S1 τ υ):S1 σ υ:=fun i j x hx=>(h' i j x hx).trans (h i j x hx)
theorem S1.send (hx:x.kW ≠ 1):S1 σ (Proofs.YtcnahmgekicbdaaGreat.send s a b x σ):=fun i j y hy=>by
 rw [XT];exact⟨fun z=>z.elim id fun w=>absurd (w.2.2 ▸ hy) hx,.inl⟩
theorem S1.Y7 (p q:Nat):S1 σ (Proofs.YtcnahmgekicbdaaGreat.Y7 s p q σ):=by
 unfold Proofs.YtcnahmgekicbdaaGreat.Y7;split
 ·exact .refl' rfl
 ·exact .send (by show(5:Int) ≠ 1;decide)
theorem S1.Zu (p:Nat) (l:List Int):S1 σ (Proofs.YtcnahmgekicbdaaGreat.Zu s p l σ):=Wo _ (S1 σ) l σ (.refl' rfl) fun τ x _ h=>h.trans (.Y7 _ _)
theorem S1.note (p q:Nat):S1 σ (Proofs.YtcnahmgekicbdaaGreat.note s p q σ):=by
 unfold Proofs.YtcnahmgekicbdaaGreat.note;split
 ·exact .Y7 _ _
 ·exact .refl' rfl
theorem S1.Yk (p:Nat):S1 σ (Proofs.YtcnahmgekicbdaaGreat.Yk s p σ):= (S1.Zu (σ:=Proofs.YtcnahmgekicbdaaGreat.JJ p σ) p (σ.wa p)).trans (.refl' rfl)
theorem S1.Uw (p:Nat):S1 σ (Proofs.YtcnahmgekicbdaaGreat.Uw s p σ):=by
 unfold Proofs.YtcnahmgekicbdaaGreat.Uw;split
 ·exact S1.Yk p
 ·split
  ·exact(S1.Yk p).trans (.refl' rfl)
  ·exact(S1.Yk p).trans (.send (by show(4:Int) ≠ 1;decide))
theorem Num.same (h:Num σ) (h1:S1 σ τ) (h2:τ.sd=σ.sd) (h3:∀ i,σ.ld i <=τ.ld i) (h4:∀ e ∈ σ.ev,e ∈ τ.ev) (h5:∀ e ∈ τ.ev,e.kZ=1∨e.kZ=2 ->e ∈ σ.ev):Num τ:=
 ⟨by rw [h2];exact h.n0,fun e he z=>by rw [h2];exact h.n1 e (h5 e he z) z,fun i j x hx hk=>by
   obtain⟨a,b,e,he,c⟩:=h.n5 i j x ((h1 i j x hk).1 hx) hk;exact⟨a,by rw [h2];exact b,e,h4 e he,c⟩,fun i j x i' j' x' hx hx' hk hk'=>h.n6 i j x i' j' x' ((h1 i j x hk).1 hx) ((h1 i' j' x' hk').1 hx') hk hk',fun e he z i j x hx hk hn=>Nat.lt_of_lt_of_le (h.n3 e (h5 e he (.inr z)) z i j x ((h1 i j x hk).1 hx) hk hn) (h3 i)⟩
theorem Num.ev (h:Num σ) (h1:S1 σ τ) (h2:τ.sd=σ.sd) (h3:∀ i,σ.ld i <=τ.ld i) (h4:τ.ev=σ.ev ++ [e]) (d1:e.kZ ≠ 1) (d2:e.kZ ≠ 2):Num τ:=
 h.same h1 h2 h3 (fun y hy=>by rw [h4];exact List.mem_append.2 (.inl hy)) fun y hy z=>by
   rw [h4] at hy;rcases List.mem_append.1 hy with hy | hy
   ·exact hy
   ·rw [List.mem_singleton.1 hy] at z;exact z.elim (fun z=>absurd z d1) fun z=>absurd z d2
theorem Num.eq (h:Num σ) (h1:S1 σ τ) (h2:τ.sd=σ.sd) (h3:∀ i,σ.ld i <=τ.ld i) (h4:τ.ev=σ.ev):Num τ:=
 h.same h1 h2 h3 (fun y hy=>by rw [h4];exact hy) fun y hy _=>by rw [h4] at hy;exact hy
theorem Num.see (h:Num σ) (hn:0 <=k∧k < σ.sd) (hl:∀ (i j:Nat) (x:Zd),(σ.sn i)[j]? =some x ->x.kW=1 ->x.n=k ->j < σ.ld i) (p q:Nat):Num (Proofs.YtcnahmgekicbdaaGreat.see p q k σ):=by
 unfold Proofs.YtcnahmgekicbdaaGreat.see;split
 ·refine⟨h.n0,fun e he z=>?_,fun i j x hx hk=>?_,h.n6,fun e he z i j x hx hk hn'=>?_⟩
  ·have he:e ∈ σ.ev ++ [⟨2,p,q,k⟩]:=he;rcases List.mem_append.1 he with he | he
   ·exact h.n1 e he z
   ·rw [List.mem_singleton.1 he];exact hn
  ·obtain⟨a,b,e,he,c⟩:=h.n5 i j x hx hk;exact⟨a,b,e,List.mem_append.2 (.inl he),c⟩
  ·have he:e ∈ σ.ev ++ [⟨2,p,q,k⟩]:=he;rcases List.mem_append.1 he with he | he
   ·exact h.n3 e he z i j x hx hk hn'
   ·rw [List.mem_singleton.1 he] at hn';exact hl i j x hx hk hn'
 ·exact h
theorem Num.kK (h:Num σ) (p q:Nat):Num (Proofs.YtcnahmgekicbdaaGreat.kK p q σ)∧∀ (i j:Nat) (x:Zd),(σ.sn i)[j]? =some x ->x.kW=1 ->x.n ≠ σ.sd:=by
 have h0:=h.n0;have key:∀ (i j:Nat) (x:Zd),(σ.sn i)[j]? =some x ->x.kW=1 ->x.n ≠ σ.sd:=fun i j x hx hk e=>by have:= (h.n5 i j x hx hk).2.1;omega
 have ev:(Proofs.YtcnahmgekicbdaaGreat.kK p q σ).ev=σ.ev ++ [⟨1,p,q,σ.sd⟩]:=rfl;have sd:(Proofs.YtcnahmgekicbdaaGreat.kK p q σ).sd=σ.sd + 1:=rfl;refine⟨⟨by rw [sd];omega,fun e he z=>?_,fun i j x hx hk=>?_,h.n6,fun e he z i j x hx hk hn=>?_⟩,key⟩
 ·rw [ev] at he;rw [sd];rcases List.mem_append.1 he with he | he
  ·have:=h.n1 e he z;omega
  ·rw [List.mem_singleton.1 he];show 0 <=σ.sd∧σ.sd < σ.sd + 1;omega
 ·obtain⟨a,b,e,he,c⟩:=h.n5 i j x hx hk;exact⟨a,by rw [sd];omega,e,by rw [ev];exact List.mem_append.2 (.inl he),c⟩
 ·rw [ev] at he;rcases List.mem_append.1 he with he | he
  ·exact h.n3 e he z i j x hx hk hn
  ·rw [List.mem_singleton.1 he] at z;exact absurd z (by show ¬ (1:Int)=2;decide)
theorem U3 (i:Nat):∀ j,σ.ld j <= (drop1 i σ).ld j:=fun j=>by
 show _ <=Z5 σ.ld i (σ.ld i + 1) j;by_cases e:j=i
 ·subst e;rw [Zt];omega
 ·rw [ZC e];exact Nat.le_refl _
theorem ZkJ (hl:σ.ld i < (σ.sn i).length):(σ.sn i)[σ.ld i]? =some (hd σ i):=by
 unfold hd;rw [List.getD_eq_getElem?_getD,List.getElem?_eq_getElem hl];rfl
theorem Num.act (h:Num σ) (ac:Act s σ τ):Num τ:=by
 have r0:∀ i,σ.ld i <=σ.ld i:=fun _=>Nat.le_refl _
 cases ac with
 | @fall p=>exact h.ev (e:= ⟨5,p,0,0⟩) (.refl' rfl) rfl r0 rfl (by show(5:Int) ≠ 1;decide) (by show(5:Int) ≠ 2;decide)
 | Ww=>exact h.eq (.send (by show(3:Int) ≠ 1;decide)) rfl r0 rfl
 | @die p hp h2 hA=>
   have sA:=QG (s:=s) p σ
   have e1:(Proofs.YtcnahmgekicbdaaGreat.Uw s p σ).sd=σ.sd∧(Proofs.YtcnahmgekicbdaaGreat.Uw s p σ).ld=σ.ld∧(Proofs.YtcnahmgekicbdaaGreat.Uw s p σ).ev=σ.ev ++ [⟨6,(p:Int),0,0⟩]:=by
    unfold Proofs.YtcnahmgekicbdaaGreat.Uw;split
    ·exact⟨sA.2.2.2.1,sA.2.2.1,sA.2.2.2.2.1⟩
    ·split
     ·exact⟨sA.2.2.2.1,sA.2.2.1,sA.2.2.2.2.1⟩
     ·exact⟨sA.2.2.2.1,sA.2.2.1,sA.2.2.2.2.1⟩
   exact h.ev (.Uw p) e1.1 (by rw [e1.2.1];exact r0) e1.2.2 (by show(6:Int) ≠ 1;decide) (by show(6:Int) ≠ 2;decide)
 | @ZcM p q=>
   obtain⟨h1,h2⟩:=h.kK p q;exact h1.see ⟨h.n0,by show σ.sd < σ.sd + 1;omega⟩ (fun i j x hx hk hn=>absurd hn (h2 i j x hx hk)) _ _
 | @ZcL p q hp hq hst e0=>
   obtain⟨h1,h2⟩:=h.kK p q;have h0:=h.n0;refine⟨h1.n0,h1.n1,fun i j x hx hk=>?_,fun i j x i' j' x' hx hx' hk hk' hn=>?_,fun e he z i j x hx hk hn=>?_⟩
   ·rcases XT.1 hx with hx | ⟨_,_,rfl⟩
    ·exact h1.n5 i j x hx hk
    ·exact⟨h0,by show σ.sd < σ.sd + 1;omega,⟨1,p,q,σ.sd⟩,List.mem_append.2 (.inr (by simp)),rfl,rfl,rfl,rfl⟩
   ·rcases XT.1 hx with hx | ⟨a1,a2,rfl⟩
    ·rcases XT.1 hx' with hx' | ⟨b1,b2,rfl⟩
     ·exact h1.n6 i j x i' j' x' hx hx' hk hk' hn
     ·exact absurd hn (h2 i j x hx hk)
    ·rcases XT.1 hx' with hx' | ⟨b1,b2,rfl⟩
     ·exact absurd hn.symm (h2 i' j' x' hx' hk')
     ·subst a1;subst b1;exact⟨rfl,by omega⟩
   ·rcases XT.1 hx with hx | ⟨_,_,rfl⟩
    ·exact h1.n3 e he z i j x hx hk hn
    ·exfalso;have he:e ∈ σ.ev ++ [⟨1,p,q,σ.sd⟩]:=he;rcases List.mem_append.1 he with he | he
     ·have:= (h.n1 e he (.inr z)).2;have hn:σ.sd=e.n:=hn;omega
     ·rw [List.mem_singleton.1 he] at z;exact absurd z (by show ¬ (1:Int)=2;decide)
 | @ZcI p q=>
   have z:=XR (s:=s) p q (tell 3 p q 0 σ);exact h.ev (e:= ⟨3,p,q,0⟩) ((S1.refl' (σ:=σ) (τ:=tell 3 p q 0 σ) rfl).trans (.note p q)) z.2.2.2.2.1 (by rw [z.2.2.2.1];exact r0) z.2.2.2.2.2 (by show(3:Int) ≠ 1;decide) (by show(3:Int) ≠ 2;decide)
 | @ZcH p q=>exact h.ev (e:= ⟨3,p,q,0⟩) ((S1.refl' (σ:=σ) (τ:=tell 3 p q 0 σ) rfl).trans (.send (by show(2:Int) ≠ 1;decide))) rfl r0 rfl (by show(3:Int) ≠ 1;decide) (by show(3:Int) ≠ 2;decide)
 | @ZcP a b p q ha hb hl hk=>
   have h1:Num (drop1 (li s a b) σ):=h.eq (.refl' rfl) rfl (U3 _) rfl;have hg:=ZkJ hl;obtain⟨n1,n2,_⟩:=h.n5 _ _ _ hg hk;refine h1.see ⟨n1,n2⟩ (fun i j x hx hk' hn=>?_) _ _;obtain⟨rfl,rfl⟩:=h.n6 _ _ _ _ _ _ hx hg hk' hk hn;show _ < Z5 σ.ld (li s a b) (σ.ld (li s a b) + 1) (li s a b);rw [Zt];omega
 | @ZcS a b p q=>
   have z:=XR (s:=s) p q (drop1 (li s a b) σ);exact h.eq ((S1.refl' (σ:=σ) (τ:=drop1 (li s a b) σ) rfl).trans (.note p q)) z.2.2.2.2.1 (by rw [z.2.2.2.1];exact U3 _) z.2.2.2.2.2
 | ZcQ=>exact h.eq (.refl' rfl) rfl (U3 _) rfl
 | Zbf=>exact h.eq (.refl' rfl) rfl (U3 _) rfl
 | ZcR=>exact h.eq (.refl' rfl) rfl (U3 _) rfl
 | @ring w i=>
   have z:=Q9 s w i σ;have hs:S1 σ (rung s w i σ):= .refl' z.2.2.2.2.2.1;unfold rung at hs ⊢;split at hs
   ·rename_i hst;rw [if_pos hst];exact h.ev (e:= ⟨4,_,_,0⟩) hs rfl r0 rfl (by show(4:Int) ≠ 1;decide) (by show(4:Int) ≠ 2;decide)
   ·rename_i hst;rw [if_neg hst];exact h.eq hs rfl r0 rfl
end
end
end Go.Proofs.YtcnahmgekicbdaaGreat
end
