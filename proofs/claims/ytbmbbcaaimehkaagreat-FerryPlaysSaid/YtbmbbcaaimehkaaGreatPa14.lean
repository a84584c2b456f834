/- Plays Part 14 of the proof. -/
import Derived.Test.YtbmbbcaaimehkaaGreatPa13
set_option linter.all false
set_option maxHeartbeats 2000000
section
namespace Go.Proofs.YtbmbbcaaimehkaaGreat
open Go.Lf
section
variable {F:Nat} {w:Zb}
theorem Zlh (w:Zb) (f:Int ->Bool) (d v k:Nat):(kids w d v (k + 1)).any f= ((kids w d v k).any f || (if inn w (k:Int)= (v:Int) then(desc w d k).any f else false)):=by
 rw [Zgp,List.any_append];by_cases e:inn w (k:Int)= (v:Int)
 ·rw [if_pos e,if_pos e]
 ·rw [if_neg e,if_neg e];rfl
theorem oldest (hF:1000 <=F) (hM:F <=1000000) (h:Wd w) (sm:UW 900 w):∀ d v (x:Int) F',d < F' ->v < w.Zx.length ->ZfR w d v ->loop F' (Zc5 F w) ((v:Int),x,false)=some (if(desc w d v).any (old w) then(false,3,true) else(true,x,false)):=by
 have h8:=h.shr.Kv.p2;intro d
 induction d with
 | zero=>intro v x F' _ hv hs;exact absurd rfl (hs v hv 0 (Nat.le_refl _))
 | succ d ih=>
   intro v x F' hF' hv hs;have ed:(desc w (d + 1) v).any (old w)= (old w (v:Int) || (kids w d v w.Zx.length).any (old w)):=rfl;rw [ed];cases F' with
   | zero=>omega
   | succ F'=>
     rw [Zdw];unfold Zc5;dsimp only;rw [Cq0,ZaU hF hM h sm hv];simp only [Bq0];have eo:old w (v:Int)=decide ((sp w v).age >=30):=rfl;by_cases ho:(sp w v).age >=30
     ·rw [eo,decide_eq_true ho,Cq1,Bool.not_false,Cq1,Bool.true_or];rfl
     ·rw [eo,decide_eq_false ho,Cq0,Bool.not_true,Cq0,Bool.false_or]
      change loop F (Zeu w (v:Int) (loop F' (Zc5 F w))) (0,x,false)=_
      have step:∀ k,k < w.Zx.length ->∀ nx,Zeu w (v:Int) (loop F' (Zc5 F w)) ((k:Int),x,false) nx=bif(if inn w (k:Int)= (v:Int) then(desc w d k).any (old w) else false) then some (false,3,true) else nx (((k + 1:Nat):Int),x,false):=fun k hk nx=>by
       unfold Zeu;dsimp only;rw [ZG hk,Cq1,Xi hk];simp only [Bq0];by_cases e:inn w (k:Int)= (v:Int)
       ·rw [Z6,decide_eq_true e,Cq1,if_pos e,ih k x F' (by omega) hk (hs.kid e)];simp only [Bq0];cases (desc w d k).any (old w) with
        | true=>rfl
        | false=>
          simp only [Bool.false_eq_true,if_false,Bool.not_true,Cq0];rw [Yw (by omega)]
       ·rw [Z6,decide_eq_false e,Cq0,if_neg e,Cq0,Yw (by omega)]
      have:=ZpU (F:=F) (body:=Zeu w (v:Int) (loop F' (Zc5 F w))) (r1:=some (false,3,true)) (r2:=some (true,x,false)) (fun k=>((k:Int),x,false)) (fun k=>if inn w (k:Int)= (v:Int) then(desc w d k).any (old w) else false) (n:=w.Zx.length) (by omega) step (fun next=>by unfold Zeu;dsimp only;rw [ZQ];rfl);refine this.trans ?_
      have e2:∀ n,(List.range n).any (fun k:Nat=>if inn w (k:Int)= (v:Int) then(desc w d k).any (old w) else false)= (kids w d v n).any (old w):=by
       intro n
       induction n with
       | zero=>rfl
       | succ n ihn=>rw [List.range_succ,List.any_append,ihn,Zlh];simp
      rw [e2];cases (kids w d v w.Zx.length).any (old w) <;> rfl
theorem ZCo {α:Type} {l l':List α} (h:l.Perm l') (f:α ->Bool):l.any f=l'.any f:=by
 rw [Bool.eq_iff_iff,List.any_eq_true,List.any_eq_true];exact⟨fun⟨x,a,b⟩=>⟨x,h.mem_iff.1 a,b⟩,fun⟨x,a,b⟩=>⟨x,h.mem_iff.2 a,b⟩⟩
theorem Zpz (hF:1000 <=F) (hM:F <=1000000) (h:Wd w) (sm:UW 900 w) {s:ZF} (ha:Ask w s):Zs4 F w s=some (Zex w s):=by
 have e:∀ k:Int,(s.act==k)=decide (s.act=k):=fun k=>Z6 _ _
 have h8:=h.shr.Kv.p2;unfold Zs4 Zex;by_cases h1:s.act=1
 ·rw [e,decide_eq_true h1,Cq1];have hA:Alw w s:= ⟨fun z=>by omega,fun z=>by omega,fun z=>by omega⟩
  unfold lim;rw [if_pos h1,if_pos hA];by_cases q:w.said >=40
  ·rw [decide_eq_true q];rfl
  ·rw [decide_eq_false q];rfl
 rw [e 1,decide_eq_false h1,Cq0];by_cases h2:s.act=2
 ·have hin:J9 s.a w.Zx.length:=by
   rcases ha with q | q | q | q | q
   ·omega
   ·exact q.2.1
   ·omega
   ·omega
   ·omega
  obtain⟨p,ep,hp⟩:=hin.nat;rw [e,decide_eq_true h2,Cq1,ep,oldest hF hM h sm w.Zx.length p 0 F (by omega) hp (ZfR.all h.shr.inn),ZCo (ZdH h.shr.inn hp)];unfold lim;rw [if_neg h1,if_pos h2,ep,Int.toNat_natCast];cases (Yg w p).any (old w) with
  | true=>rfl
  | false=>
    simp only [Bool.false_eq_true,if_false,Bq0];unfold Zoa;dsimp only;rw [Cq0,ep,ZaU hF hM h sm hp];simp only [Bq0]
    have hA:Alw w s↔(sp w p).here=true∧(sp w p).machine ≠ s.b:=by
     unfold Alw;rw [ep,Int.toNat_natCast];exact⟨fun q=>q.1 h2,fun q=>⟨fun _=>q,fun z=>by omega,fun z=>by omega⟩⟩
    cases hh:(sp w p).here with
    | true=>
      by_cases q:(sp w p).machine=s.b
      ·rw [Z6,decide_eq_true q,if_neg (fun z=>(hA.1 z).2 q)];rfl
      ·rw [Z6,decide_eq_false q,if_pos (hA.2 ⟨hh,q⟩)];rfl
    | false=>
      rw [if_neg (fun z=>by have:= (hA.1 z).1;rw [hh] at this;cases this)];rfl
 have hl:lim w s=false:=by unfold lim;rw [if_neg h1,if_neg h2]
 rw [e 2,decide_eq_false h2,Cq0,hl];simp only [Bool.false_eq_true,if_false];by_cases h3:s.act=3
 ·have hin:J9 s.a w.Zx.length∧J9 s.b w.Zx.length:=by
   rcases ha with q | q | q | q | q
   ·omega
   ·omega
   ·exact q.2
   ·omega
   ·omega
  obtain⟨p,ep,hp⟩:=hin.1.nat;obtain⟨r,er,hr⟩:=hin.2.nat
  have hA:Alw w s↔s.b ∉ Yg w p∧inn w (p:Int)=-1∧(sp w p).here=true∧(sp w r).here=true∧(sp w p).machine= (sp w r).machine:=by
   unfold Alw;rw [ep,er,Int.toNat_natCast,Int.toNat_natCast];exact⟨fun q=>q.2.1 h3,fun q=>⟨fun z=>by omega,fun _=>q,fun z=>by omega⟩⟩
  rw [e,decide_eq_true h3,Cq1,ep,er,ZaU hF hM h sm hp,ZaU hF hM h sm hr];simp only [Bq0];rw [Xi hp];simp only [Bq0];by_cases g:inn w (p:Int)=-1∧(sp w p).here=true∧(sp w r).here=true∧(sp w p).machine= (sp w r).machine
  ·obtain⟨g1,g2,g3,g4⟩:=g;rw [g1,g2,g3,g4,Qx,Qx];simp only [Bool.not_true,Bool.or_self,Bool.not_false,Cq1];unfold Zn8;simp only [Bq0]
   have hg:loop F (Zkd F w) (s.a,[])=some (true,desc w w.Zx.length p):=by
    rw [ep];have hdl:=Zkw h.shr.inn hp;exact gather hF h8 (B:=fun v next=>Zs3 w v next) (R:=Zkd F w) (fun v l next=>rfl) (fun v next k l nx=>rfl) w.Zx.length p [] F (by omega) hp (ZfR.all h.shr.inn) (by simp;omega)
   unfold Zn7;rw [hg];simp only [Bq0];unfold Zn9;simp only [Bq0];have hdl:=Zkw h.shr.inn hp;obtain⟨b,eb,ib⟩:=ZaP (F:=F) hF (l:=desc w w.Zx.length p) (by omega) s.b;rw [er] at eb;rw [eb];simp only [Bq0];have hm:s.b ∈ desc w w.Zx.length p↔s.b ∈ Yg w p:= (ZdH h.shr.inn hp).mem_iff;cases b with
   | true=>rw [if_neg (fun z=>(hA.1 z).1 (hm.1 (ib.1 rfl)))];rfl
   | false=>
     rw [if_pos (hA.2 ⟨fun z=>(by have:=ib.2 (hm.2 z);cases this),g1,g2,g3,g4⟩)];rfl
  ·have:(((inn w (p:Int) != (-1)) || !(sp w p).here) || !(sp w r).here || ((sp w p).machine != (sp w r).machine))=true:=by
    rw [← Bool.not_eq_false];intro z;simp only [Bool.or_eq_false_iff,bne_eq_false_iff_eq,Bool.not_eq_false'] at z;exact g ⟨z.1.1.1,z.1.1.2,z.1.2,z.2⟩
   rw [this,Bool.not_true,Cq0,if_neg (fun z=>g (hA.1 z).2)]
 rw [e 3,decide_eq_false h3,Cq0];by_cases h4:s.act=4
 ·have hin:J9 s.a w.Zx.length:=by
   rcases ha with q | q | q | q | q
   ·omega
   ·omega
   ·omega
   ·exact q.2
   ·omega
  obtain⟨p,ep,hp⟩:=hin.nat
  have hA:Alw w s↔(sp w p).here=true∧inn w (p:Int) ≠ -1:=by
   unfold Alw;rw [ep,Int.toNat_natCast];exact⟨fun q=>q.2.2 h4,fun q=>⟨fun z=>by omega,fun z=>by omega,fun _=>q⟩⟩
  rw [e,decide_eq_true h4,Cq1,ep,ZaU hF hM h sm hp];simp only [Bq0];cases hh:(sp w p).here with
  | true=>
    simp only [Bool.not_true,Bool.not_false,YN,Bool.false_or];rw [Xi hp];simp only [Bq0];by_cases q:inn w (p:Int)=-1
    ·rw [Z6,decide_eq_true q,if_neg (fun z=>(hA.1 z).2 q)];rfl
    ·rw [Z6,decide_eq_false q,if_pos (hA.2 ⟨hh,q⟩)];rfl
  | false=>
    rw [if_neg (fun z=>by have:= (hA.1 z).1;rw [hh] at this;cases this)];rfl
 rw [e 4,decide_eq_false h4,Cq0,if_pos (show Alw w s from⟨fun z=>absurd z h2,fun z=>absurd z h3,fun z=>absurd z h4⟩)]
end
end Go.Proofs.YtbmbbcaaimehkaaGreat
end
section
namespace Go.Proofs.YtbmbbcaaimehkaaGreat
open Go.Lf
def X9 (w:Zb) (p:Nat):List Int:=w.qK.getD p []
def Zhy (to:Int) (y:Zq):Zf:= ⟨1,to,y,[],[],0,0,0⟩
def Zuc (to p at_ age:Int):Zf:= ⟨3,to,⟨0,0,0,0,0⟩,[],[],p,at_,age⟩
def Zum (to:Int) (qV Yd:List Int):Zf:= ⟨2,to,⟨0,0,0,0,0⟩,qV,Yd,0,0,0⟩
def Zee (x:Zq) (e:Zz):Zq:= ⟨x.msg,x.place,x.from_,e.age,x.hops + 1⟩
def told (m:Int) (x:Zq) (e:Zz) (now:Bool):List Zf:=if now=false∧x.from_ ≠ m∧x.from_ ≠ e.ZX then [Zuc x.from_ x.place e.ZX e.age] else []
def QC (w:Zb) (m:Nat) (x:Zq) (now:Bool):Zb×List Zj:=
 if(E w m x.place.toNat).here=true then({w with qK:=Yl w.qK x.place (X9 w x.place.toNat ++ [x.msg])},[⟨1,x.place,(m:Int),x.msg,x.hops⟩])
 else if now=false∧(E w m x.place.toNat).age <=x.age then({w with qJ:=Yl w.qJ (m:Int) (ZH w m ++ [x])},[])
 else({w with qG:=w.qG ++ Zhy (E w m x.place.toNat).ZX (Zee x (E w m x.place.toNat))::told (m:Int) x (E w m x.place.toNat) now},[])
section
variable {F:Nat} {w:Zb}
theorem ZkD (s:Wp w) {p:Nat} (hp:p < w.Zx.length):ZL w.qK (p:Int)=some (X9 w p):=YM [] (by rw [s.bx];exact hp)
theorem Za8 (s:Wp w) {m:Nat} (hm:m < w.qQ.length):ZL w.qJ (m:Int)=some (ZH w m):=YM [] (by rw [s.hd];exact hm)
theorem Zix (s:Wp w) (sm:UW 900 w) {p:Nat} (hp:p < w.Zx.length):(X9 w p).length < 900:=sm.box _ (YP (by rw [s.bx];exact hp))
theorem Zjq (s:Wp w) (sm:UW 900 w) {m:Nat} (hm:m < w.qQ.length):(ZH w m).length < 900:=sm.hel _ (YP (by rw [s.hd];exact hm))
theorem Zym (s:Wp w) (sm:UW 900 w) {m:Nat} {x:Zq} {p:Nat} (hx:x.place= (p:Int)) (hp:p < w.Zx.length) {ev:List Zj} (he:ev.length <=800000):
 ZhG ⟨w,ev⟩ (m:Int) x=some ⟨{w with qK:=Yl w.qK x.place (X9 w p ++ [x.msg])},ev ++ [⟨1,x.place,(m:Int),x.msg,x.hops⟩]⟩:=by
 have h1:=Zix s sm hp;unfold ZhG;rw [hx,ZkD s hp];simp only [Bq0];rw [app1 (by omega) (by omega)];simp only [Bq0];rw [app1 (by omega) (by omega)]
 rfl
theorem ZiS (s:Wp w) (sm:UW 900 w) {m:Nat} (hm:m < w.qQ.length) {x:Zq} (hp:x.place.toNat < w.Zx.length) (h0:0 <=x.place) (hh:0 <=x.hops) (hh2:x.hops <=1000) (now:Bool) {ev:List Zj} (he:ev.length <=800000):
 ZqD ⟨w,ev⟩ (m:Int) x now=some ⟨(QC w m x now).1,ev ++ (QC w m x now).2⟩:=by
 obtain⟨p,hx⟩:∃ p:Nat,x.place= (p:Int):= ⟨x.place.toNat,by omega⟩
 have h1:=Zjq s sm hm;have h2:=sm.qG;rw [hx,Int.toNat_natCast] at hp;unfold ZqD QC;dsimp only;rw [s.row hm];simp only [Bq0];rw [hx,s.ent hm hp];simp only [Bq0];rw [Int.toNat_natCast];cases hE:(E w m p).here with
 | true=>
   rw [Cq1,Zym s sm hx hp he,if_pos rfl,hx];rfl
 | false=>
   rw [Cq0,if_neg (by simp)];by_cases hc:now=false∧(E w m p).age <=x.age
   ·rw [if_pos hc,hc.1,decide_eq_false (show ¬ (E w m p).age > x.age by have:=hc.2;omega),Bool.or_self,Cq0,Za8 s hm];simp only [Bq0];rw [app1 (by omega) (by omega)];simp only [Bq0,List.append_nil]
   ·have e:(decide ((E w m p).age > x.age) || now)=true:=by
     rw [← Bool.not_eq_false];intro z;simp only [Bool.or_eq_false_iff,decide_eq_false_iff_not] at z;exact hc ⟨z.2,by omega⟩
    rw [if_neg hc,e,Cq1,app1 (by omega) (by omega)];simp only [Bq0];rw [Kb (by omega) (by omega)];unfold told Zhy Zee Zuc;rw [hx];by_cases ht:now=false∧x.from_ ≠ (m:Int)∧x.from_ ≠ (E w m p).ZX
    ·rw [if_pos ht,ht.1,Jf,Jf,decide_eq_true ht.2.1,decide_eq_true ht.2.2];simp only [Bool.not_false,Bool.and_self,Cq1];rw [app1 (by rw [List.length_append,List.length_singleton];omega) (by omega)];simp only [Bq0,List.append_nil,List.append_assoc]
     rfl
    ·have e2:(((!now) && (x.from_ != (m:Int))) && (x.from_ != (E w m p).ZX))=false:=by
      rw [← Bool.not_eq_true];intro z;simp only [Ba0,Bool.not_eq_true',bne_iff_ne] at z;exact ht ⟨z.1.1,z.1.2,z.2⟩
     rw [e2,Cq0,if_neg ht,List.append_nil]
end
end Go.Proofs.YtbmbbcaaimehkaaGreat
end
section
namespace Go.Proofs.YtbmbbcaaimehkaaGreat
open Go.Lf
theorem Xt {α:Type} (l:List α) (k:Int) (x:α):(Yl l k x).length=l.length:=by simp [Yl]
theorem Jj {α:Type} {l:List α} {k j:Nat} {x d:α} (h:k < l.length):(Yl l (k:Int) x).getD j d=if j=k then x else l.getD j d:=by
 unfold Yl;rw [Int.toNat_natCast,List.getD_eq_getElem?_getD,List.getElem?_set,List.getD_eq_getElem?_getD];by_cases e:k=j
 ·subst e;simp [h]
 ·rw [if_neg e,if_neg (fun q=>e q.symm)]
theorem KU {α:Type} {l:List α} {k:Nat} {x:α} (h:k < l.length):ZL (Yl l (k:Int) x) (k:Int)=some x:=by
 rw [YM x (by rw [Xt];exact h),Jj h,if_pos rfl]
theorem Zga {α:Type} (l:List α) (k:Int) (x y:α):Yl (Yl l k x) k y=Yl l k y:=by simp [Yl]
theorem ZlT {α:Type} {l:List α} {k:Nat} (d:α) (h:k < l.length):Yl l (k:Int) (l.getD k d)=l:=by
 unfold Yl;rw [Int.toNat_natCast];apply List.ext_getElem?;intro i;rw [List.getElem?_set];by_cases e:k=i
 ·subst e;rw [if_pos rfl,if_pos h,List.getD_eq_getElem?_getD,List.getElem?_eq_getElem h];rfl
 ·rw [if_neg e]
def setW (w:Zb) (m p:Nat) (e:Zz):Zb:= {w with qQ:=Yl w.qQ (m:Int) (Yl (row w m) (p:Int) e)}
theorem Wp.setW {w:Zb} (s:Wp w) {m p:Nat} (hm:m < w.qQ.length) (e:Zz):Wp (setW w m p e):=by
 refine⟨by show 1 <= (Yl _ _ _).length;rw [Xt];exact s.m1,by show(Yl _ _ _).length <=5;rw [Xt];exact s.m2,s.p1,s.p2,s.bx,by show w.qJ.length= (Yl _ _ _).length;rw [Xt];exact s.hd,fun l hl=>?_⟩;have hl':l ∈ Yl w.qQ (m:Int) (Yl (Proofs.YtbmbbcaaimehkaaGreat.row w m) (p:Int) e):=hl;unfold Yl at hl';rcases List.mem_or_eq_of_mem_set hl' with q | q
 ·exact s.rw_ _ q
 ·rw [q];simp only [List.length_set];exact s.len hm
theorem Ze0 (w:Zb) (m p:Nat) (e:Zz):(setW w m p e).qQ.length=w.qQ.length:=Xt _ _ _
theorem ZoW {w:Zb} (s:Wp w) {m p:Nat} (hm:m < w.qQ.length) (hp:p < w.Zx.length) (e:Zz) (m' p':Nat):E (setW w m p e) m' p'=if m'=m∧p'=p then e else E w m' p':=by
 have hr:row (setW w m p e) m'=if m'=m then Yl (row w m) (p:Int) e else row w m':=Jj hm
 unfold E;rw [hr];by_cases h:m'=m
 ·subst h;rw [if_pos rfl,Jj (by rw [s.len hm];exact hp)];by_cases h2:p'=p
  ·rw [if_pos h2,if_pos ⟨rfl,h2⟩]
  ·rw [if_neg h2,if_neg (fun q=>h2 q.2)]
 ·rw [if_neg h,if_neg (fun q=>h q.1)]
structure MvL (w:Zb) (x:Zf) (m:Nat):Prop where
 ZX:x.ZX= (m:Int)
 hm:m < w.qQ.length
 len:x.Yd.length=x.qV.length
 few:x.qV.length <=8
 rng:∀ i,i < x.qV.length ->J9 (x.qV.getD i 0) w.Zx.length
def Uk (x:Zf) (i:Nat):Nat:= (x.qV.getD i 0).toNat
theorem MvL.Uk {w:Zb} {x:Zf} {m:Nat} (v:MvL w x m) {i:Nat} (hi:i < x.qV.length):x.qV.getD i 0= (Proofs.YtbmbbcaaimehkaaGreat.Uk x i:Int)∧Proofs.YtbmbbcaaimehkaaGreat.Uk x i < w.Zx.length:=by
 have:=v.rng i hi;unfold J9 at this;unfold Proofs.YtbmbbcaaimehkaaGreat.Uk;omega
def Xq (w:Zb) (x:Zf):Nat ->Zb
 | 0=>w
 | k + 1=>setW (Xq w x k) x.ZX.toNat (Uk x k) ⟨true,x.ZX,x.Yd.getD k 0⟩
theorem XJ (w:Zb) (x:Zf):∀ k,(Xq w x k).Zx=w.Zx∧(Xq w x k).qK=w.qK∧(Xq w x k).qJ=w.qJ∧(Xq w x k).qG=w.qG∧(Xq w x k).said=w.said∧(Xq w x k).qQ.length=w.qQ.length:=by
 intro k
 induction k with
 | zero=>exact⟨rfl,rfl,rfl,rfl,rfl,rfl⟩
 | succ k ih=>exact⟨ih.1,ih.2.1,ih.2.2.1,ih.2.2.2.1,ih.2.2.2.2.1,(Ze0 _ _ _ _).trans ih.2.2.2.2.2⟩
theorem Zbf {w:Zb} (s:Wp w) {x:Zf} {m:Nat} (v:MvL w x m):∀ k,Wp (Xq w x k):=by
 intro k
 induction k with
 | zero=>exact s
 | succ k ih=>exact ih.setW (by rw [(XJ w x k).2.2.2.2.2,v.ZX,Int.toNat_natCast];exact v.hm) _
theorem Ztm {w:Zb} (s:Wp w) {x:Zf} {m:Nat} (v:MvL w x m):∀ k,k <=x.qV.length ->∀ i,i < k ->(E (Xq w x k) m (Uk x i)).here=true:=by
 intro k
 induction k with
 | zero=>intro _ i hi;omega
 | succ k ih=>
   intro hk i hi;have hp:= (v.Uk (i:=k) (by omega)).2;show(E (setW (Xq w x k) x.ZX.toNat (Uk x k) _) m (Uk x i)).here=true;rw [ZoW (Zbf s v k) (by rw [(XJ w x k).2.2.2.2.2,v.ZX,Int.toNat_natCast];exact v.hm) (by rw [(XJ w x k).1];exact hp)];by_cases e:m=x.ZX.toNat∧Uk x i=Uk x k
   ·rw [if_pos e]
   ·rw [if_neg e];refine ih (by omega) i ?_;rcases Nat.lt_or_ge i k with q | q
    ·exact q
    ·have:i=k:=by omega
     subst this;exact absurd ⟨by rw [v.ZX,Int.toNat_natCast],rfl⟩ e
def JV (p:Nat) (y:Zq):Bool:=y.place== (p:Int)
def ZsF (m:Nat) (y:Zq):Zj:= ⟨1,y.place,(m:Int),y.msg,y.hops⟩
def KA (w:Zb) (m p:Nat):Zb:=
 {w with qK:=Yl w.qK (p:Int) (X9 w p ++ ((ZH w m).filter (JV p)).map (fun y=>y.msg)),qJ:=Yl w.qJ (m:Int) ((ZH w m).filter fun y=>!JV p y)}
def Zjp (w:Zb) (m p:Nat):List Zj:= ⟨3,(p:Int),(m:Int),0,0⟩::((ZH w m).filter (JV p)).map (ZsF m)
def Yp (w:Zb) (x:Zf):Nat ->Zb×List Zj
 | 0=>(Xq w x x.qV.length,[])
 | k + 1=>(KA (Yp w x k).1 x.ZX.toNat (Uk x k),(Yp w x k).2 ++ Zjp (Yp w x k).1 x.ZX.toNat (Uk x k))
def ZaL (w:Zb) (x:Zf):Zb×List Zj:=Yp w x x.qV.length
theorem UF (w:Zb) (x:Zf):∀ k,(Yp w x k).1.Zx=w.Zx∧(Yp w x k).1.qG=w.qG∧(Yp w x k).1.said=w.said∧(Yp w x k).1.qQ= (Xq w x x.qV.length).qQ∧(Yp w x k).1.qK.length=w.qK.length∧(Yp w x k).1.qJ.length=w.qJ.length:=by
 intro k
 induction k with
 | zero=>
   have:=XJ w x x.qV.length;exact⟨this.1,this.2.2.2.1,this.2.2.2.2.1,rfl,by rw [show(Yp w x 0).1=Xq w x x.qV.length from rfl,this.2.1],by rw [show(Yp w x 0).1=Xq w x x.qV.length from rfl,this.2.2.1]⟩
 | succ k ih=>exact⟨ih.1,ih.2.1,ih.2.2.1,ih.2.2.2.1,(Xt _ _ _).trans ih.2.2.2.2.1,(Xt _ _ _).trans ih.2.2.2.2.2⟩
theorem Wl {w:Zb} (s:Wp w) {x:Zf} {m:Nat} (v:MvL w x m) (k:Nat):Wp (Yp w x k).1:=by
 have c:=Zbf s v x.qV.length;have h:=UF w x k;have h2:=XJ w x x.qV.length;exact⟨by rw [h.2.2.2.1];exact c.m1,by rw [h.2.2.2.1];exact c.m2,by rw [h.1];exact s.p1,by rw [h.1];exact s.p2,by rw [h.2.2.2.2.1,h.1];exact s.bx,by rw [h.2.2.2.2.2,h.2.2.2.1,h2.2.2.2.2.2];exact s.hd,by rw [h.2.2.2.1,h.1,← h2.1];exact c.rw_⟩
theorem ZDD {u:Zb} {ev:List Zj} {x:Zq} {b:List Int} (hb:ZL u.qK x.place=some b) (h1:b.length <=800000) (he:ev.length <=800000) (m:Int):
 ZhG ⟨u,ev⟩ m x=some ⟨{u with qK:=Yl u.qK x.place (b ++ [x.msg])},ev ++ [⟨1,x.place,m,x.msg,x.hops⟩]⟩:=by
 unfold ZhG;rw [hb];simp only [Bq0];rw [app1 (by omega) (by omega)];simp only [Bq0];rw [app1 (by omega) (by omega)]
 rfl
theorem ZaC {α:Type} {f:α ->Bool} {l:List α} {j:Nat} (h:j < l.length):(l.take (j + 1)).filter f= (l.take j).filter f ++ (if f l[j] then [l[j]] else []):=by
 rw [List.take_add_one,List.getElem?_eq_getElem h,List.filter_append];congr 1;show List.filter f [l[j]]=_;by_cases q:f l[j]=true
 ·rw [if_pos q,List.filter_cons,if_pos q];rfl
 ·rw [if_neg q,List.filter_cons,if_neg q];rfl
theorem Wv {α:Type} (f:α ->Bool) (l:List α) (j:Nat):((l.take j).filter f).length <=l.length:=Nat.le_trans (List.length_filter_le _ _) (by rw [List.length_take];omega)
section
variable {F:Nat}
theorem Zz5 (hF:1000 <=F) {u:Zb} (s:Wp u) {m p:Nat} (hm:m < u.qQ.length) (hp:p < u.Zx.length) (hl:(ZH u m).length <=900) (hb:(X9 u p).length <=100000) {x:Zf} (hx:x.ZX= (m:Int)) {ev:List Zj} (he:ev.length <=700000) (i:Int)
 (next:Int×(List Int)×(List (List Int))×(List (List Zz))×(List (List Zq))×(List Zf)×Int×(List Zj) ->Option Yb):
 loop F (ZjU x i next (p:Int) (ZH u m)) (0,u.Zx,u.qK,u.qQ,Yl u.qJ (m:Int) [],u.qG,u.said,ev)=
  next (Y2 (i + 1),(KA u m p).Zx,(KA u m p).qK,(KA u m p).qQ,(KA u m p).qJ,(KA u m p).qG,(KA u m p).said,ev ++ ((ZH u m).filter (JV p)).map (ZsF m)):=by
 have hbl:p < u.qK.length:=by rw [s.bx];exact hp
 have hhl:m < u.qJ.length:=by rw [s.hd];exact hm
 refine Ye (fun j=>((j:Int),u.Zx,Yl u.qK (p:Int) (X9 u p ++ (((ZH u m).take j).filter (JV p)).map (fun y=>y.msg)),u.qQ,Yl u.qJ (m:Int) (((ZH u m).take j).filter fun y=>!JV p y),u.qG,u.said,ev ++ (((ZH u m).take j).filter (JV p)).map (ZsF m))) ?_ (n:= (ZH u m).length) (by omega) (fun j hj nx=>?_) (fun nx=>?_)
 ·simp only [List.take_zero,List.filter_nil,List.map_nil,List.append_nil];unfold X9;rw [ZlT [] hbl];rfl
 ·have l1:=Wv (JV p) (ZH u m) j;have l2:=Wv (fun y=>!JV p y) (ZH u m) j;unfold ZjU ZjT;dsimp only;rw [ZG hj,Cq1,YW hj];simp only [Bq0];rw [ZaC hj,ZaC hj,Yw (by omega)];by_cases h:(ZH u m)[j].place= (p:Int)
  ·have e:JV p (ZH u m)[j]=true:=beq_iff_eq.2 h;rw [e,if_pos rfl,h,Qx,Cq0];simp only [Bool.not_true,Bool.false_eq_true,if_false,List.append_nil];rw [ZDD (b:=X9 u p ++ (((ZH u m).take j).filter (JV p)).map (fun y=>y.msg)) (by rw [h];exact KU hbl) (by rw [List.length_append,List.length_map];omega) (by rw [List.length_append,List.length_map];omega)];simp only [Bq0];rw [h,Zga,List.map_append,List.map_append,List.append_assoc,List.append_assoc];unfold ZsF;simp only [List.map_cons,List.map_nil,h,hx]
  ·have e:JV p (ZH u m)[j]=false:=beq_eq_false_iff_ne.2 h;rw [e,Jf,decide_eq_true h,Cq1,hx];simp only [Bool.not_false,if_true,Bool.false_eq_true,if_false,List.append_nil];rw [KU hhl];simp only [Bq0];rw [app1 (by omega) (by omega)];simp only [Bq0];rw [Zga]
 ·unfold ZjU;dsimp only;rw [ZQ,Cq0,List.take_of_length_le (Nat.le_refl _)]
  rfl
end
end Go.Proofs.YtbmbbcaaimehkaaGreat
end
section
namespace Go.Proofs.YtbmbbcaaimehkaaGreat
open Go.Lf
theorem ZcV {u:Zb} (s:Wp u) {m p:Nat} (hm:m < u.qQ.length) (m':Nat):ZH (KA u m p) m'=if m'=m then(ZH u m).filter (fun y=>!JV p y) else ZH u m':=
 Jj (by rw [s.hd];exact hm)
theorem Zts {u:Zb} (s:Wp u) {m p:Nat} (hp:p < u.Zx.length) (p':Nat):X9 (KA u m p) p'=if p'=p then X9 u p ++ ((ZH u m).filter (JV p)).map (fun y=>y.msg) else X9 u p':=
 Jj (by rw [s.bx];exact hp)
structure ZSm (w:Zb) (x:Zf) (k:Nat):Prop where
 hl:∀ m,m < w.qQ.length ->(ZH (Yp w x k).1 m).length <=900
 bx:∀ p,p < w.Zx.length ->(X9 (Yp w x k).1 p).length <=900 * (k + 1)
 ev:(Yp w x k).2.length <=901 * k
theorem ZGk {w:Zb} (s:Wp w) (sm:UW 900 w) {x:Zf} {m:Nat} (v:MvL w x m):∀ k,k <=x.qV.length ->ZSm w x k:=by
 intro k;have hin:=XJ w x x.qV.length
 induction k with
 | zero=>
   intro _;refine⟨fun m' hm'=>?_,fun p hp=>?_,Nat.zero_le _⟩
   ·have:ZH (Yp w x 0).1 m'=ZH w m':=by unfold ZH;rw [show(Yp w x 0).1=Xq w x x.qV.length from rfl,hin.2.2.1]
    rw [this];exact Nat.le_of_lt (Zjq s sm hm')
   ·have:X9 (Yp w x 0).1 p=X9 w p:=by unfold X9;rw [show(Yp w x 0).1=Xq w x x.qV.length from rfl,hin.2.1]
    rw [this];have:=Zix s sm hp;omega
 | succ k ih=>
   intro hk;have b:=ih (by omega);have hs:=Wl s v k;have hi:=UF w x k;have hM:(Yp w x k).1.qQ.length=w.qQ.length:=by rw [hi.2.2.2.1,hin.2.2.2.2.2]
   have hp:= (v.Uk (i:=k) (by omega)).2;have hm:x.ZX.toNat < (Yp w x k).1.qQ.length:=by rw [hM,v.ZX,Int.toNat_natCast];exact v.hm
   have hp':Uk x k < (Yp w x k).1.Zx.length:=by rw [hi.1];exact hp
   have hl0:=b.hl x.ZX.toNat (by rw [← hM];exact hm);refine⟨fun m' hm'=>?_,fun p hp1=>?_,?_⟩
   ·show(ZH (KA (Yp w x k).1 x.ZX.toNat (Uk x k)) m').length <=900;rw [ZcV hs hm];by_cases e:m'=x.ZX.toNat
    ·rw [if_pos e];exact Nat.le_trans (List.length_filter_le _ _) hl0
    ·rw [if_neg e];exact b.hl m' hm'
   ·show(X9 (KA (Yp w x k).1 x.ZX.toNat (Uk x k)) p).length <=900 * (k + 1 + 1);rw [Zts hs hp'];by_cases e:p=Uk x k
    ·rw [if_pos e,List.length_append,List.length_map];have h1:=b.bx (Uk x k) hp;have h2:=List.length_filter_le (JV (Uk x k)) (ZH (Yp w x k).1 x.ZX.toNat);omega
    ·rw [if_neg e];have:=b.bx p hp1;omega
   ·show((Yp w x k).2 ++ Zjp (Yp w x k).1 x.ZX.toNat (Uk x k)).length <=901 * (k + 1);have h1:=b.ev;have h2:=List.length_filter_le (JV (Uk x k)) (ZH (Yp w x k).1 x.ZX.toNat);rw [List.length_append];unfold Zjp;rw [List.length_cons,List.length_map];omega
theorem ZwR {F:Nat} (hF:1000 <=F) {w:Zb} (s:Wp w) {x:Zf} {m:Nat} (v:MvL w x m) {r:Option Yb} {l:List Zf} {ev:List Zj}
 (hr:loop F (ZgB F x) (0,w.Zx,w.qK,(Xq w x x.qV.length).qQ,w.qJ,l,w.said,ev)=r):loop F (ZjV F ⟨w,ev⟩ x l) (0,w.qQ)=r:=by
 have h8:=v.few;refine Ye (fun k=>((k:Int),(Xq w x k).qQ)) rfl (n:=x.qV.length) (by omega) (fun k hk next=>?_) (fun next=>?_)
 ·obtain⟨e,hp⟩:=v.Uk hk;have hs:=Zbf s v k;have hi:=XJ w x k;have hm:m < (Xq w x k).qQ.length:=by rw [hi.2.2.2.2.2];exact v.hm
  unfold ZjV;dsimp only;rw [ZG hk,Cq1,YM 0 hk];simp only [Bq0];rw [v.ZX,hs.row hm];simp only [Bq0];rw [YM 0 (by rw [v.len];exact hk)];simp only [Bq0];rw [e,hs.ent hm (by rw [hi.1];exact hp)];simp only [Bq0];rw [Yw (by omega)]
  have:Xq w x (k + 1)=setW (Xq w x k) m (Uk x k) ⟨true,(m:Int),x.Yd.getD k 0⟩:=by
   show setW (Xq w x k) x.ZX.toNat (Uk x k) ⟨true,x.ZX,x.Yd.getD k 0⟩=_;rw [v.ZX,Int.toNat_natCast]
  rw [this];rfl
 ·unfold ZjV;dsimp only;rw [ZQ,Cq0];exact hr
theorem Zsi {F:Nat} (hF:1000 <=F) {w:Zb} (s:Wp w) (sm:UW 900 w) {x:Zf} {m:Nat} (v:MvL w x m) {ev:List Zj} (he:ev.length <=600000):
 loop F (ZgB F x) (0,w.Zx,w.qK,(Xq w x x.qV.length).qQ,w.qJ,w.qG,w.said,ev)=some ⟨(ZaL w x).1,ev ++ (ZaL w x).2⟩:=by
 have h8:=v.few;have h0:=XJ w x x.qV.length;refine Ye (fun k=>((k:Int),(Yp w x k).1.Zx,(Yp w x k).1.qK,(Yp w x k).1.qQ,(Yp w x k).1.qJ,(Yp w x k).1.qG,(Yp w x k).1.said,ev ++ (Yp w x k).2)) ?_ (n:=x.qV.length) (by omega) (fun k hk next=>?_) (fun next=>?_)
 ·show((0:Int),(Xq w x x.qV.length).Zx,(Xq w x x.qV.length).qK,_,(Xq w x x.qV.length).qJ,(Xq w x x.qV.length).qG,(Xq w x x.qV.length).said,ev ++ [])=_;rw [h0.1,h0.2.1,h0.2.2.1,h0.2.2.2.1,h0.2.2.2.2.1,List.append_nil];rfl
 ·obtain⟨e,hp⟩:=v.Uk hk;have hs:=Wl s v k;have hi:=UF w x k;have b:=ZGk s sm v k (by omega);have hM:(Yp w x k).1.qQ.length=w.qQ.length:=by rw [hi.2.2.2.1,h0.2.2.2.2.2]
  have hm:m < (Yp w x k).1.qQ.length:=by rw [hM];exact v.hm
  have hb:=b.bx _ hp;have hl:=b.hl m v.hm;have hev:=b.ev;unfold ZgB;dsimp only;rw [ZG hk,Cq1,YM 0 hk];simp only [Bq0];rw [app1 (by rw [List.length_append];omega) (by omega)];simp only [Bq0];rw [v.ZX,Za8 hs hm];simp only [Bq0];rw [e,Zz5 hF hs hm (by rw [hi.1];exact hp) hl (by omega) v.ZX (by rw [List.length_append,List.length_append,List.length_singleton];omega),Yw (by omega)]
  have:Yp w x (k + 1)= (KA (Yp w x k).1 m (Uk x k),(Yp w x k).2 ++ Zjp (Yp w x k).1 m (Uk x k)):=by
   show(KA (Yp w x k).1 x.ZX.toNat (Uk x k),(Yp w x k).2 ++ Zjp (Yp w x k).1 x.ZX.toNat (Uk x k))=_;rw [v.ZX,Int.toNat_natCast]
  rw [this];unfold Zjp;simp only [List.append_assoc,List.singleton_append]
 ·unfold ZgB;dsimp only;rw [ZQ,Cq0];rfl
theorem ZEz {F:Nat} (hF:1000 <=F) {u:Zb} (s:Wp u) {m p:Nat} (hm:m < u.qQ.length) (hp:p < u.Zx.length) (hh:(E u m p).here=true) (hl:(ZH u m).length <=900) (hb:(X9 u p).length <=100000) {x:Zf} (hx:x.ZX= (m:Int)) {ev:List Zj} (he:ev.length <=100000) (i:Int)
 (next:(List Zj)×Int×(List (List Int))×(List (List Zq)) ->Option (Zb×(List Zj))):
 loop F (ZjY x u.qQ i u.qJ next (p:Int) (ZH u m)) (ev,[],0,u.qK)=
  next (ev ++ ((ZH u m).filter (JV p)).map (ZsF m),Y2 (i + 1),(KA u m p).qK,(KA u m p).qJ):=by
 have hbl:p < u.qK.length:=by rw [s.bx];exact hp
 have hhl:m < u.qJ.length:=by rw [s.hd];exact hm
 refine Ye (fun j=>(ev ++ (((ZH u m).take j).filter (JV p)).map (ZsF m),((ZH u m).take j).filter (fun y=>!JV p y),(j:Int),Yl u.qK (p:Int) (X9 u p ++ (((ZH u m).take j).filter (JV p)).map (fun y=>y.msg)))) ?_ (n:= (ZH u m).length) (by omega) (fun j hj nx=>?_) (fun nx=>?_)
 ·simp only [List.take_zero,List.filter_nil,List.map_nil,List.append_nil];unfold X9;rw [ZlT [] hbl];rfl
 ·have l1:=Wv (JV p) (ZH u m) j;have l2:=Wv (fun y=>!JV p y) (ZH u m) j;unfold ZjY ZnX ZjW;dsimp only;rw [ZG hj,Cq1,YW hj];simp only [Bq0];rw [ZaC hj,ZaC hj,Yw (by omega)];by_cases h:(ZH u m)[j].place= (p:Int)
  ·have e:JV p (ZH u m)[j]=true:=beq_iff_eq.2 h;rw [e,if_pos rfl,Z6,decide_eq_true h,Cq1,hx,s.row hm];simp only [Bq0];rw [h,s.ent hm hp];simp only [Bq0];rw [hh,Cq1,KU hbl];simp only [Bq0];rw [app1 (by rw [List.length_append,List.length_map];omega) (by omega)];simp only [Bq0];rw [app1 (by rw [List.length_append,List.length_map];omega) (by omega)];simp only [Bq0,Bool.not_true,Bool.false_eq_true,if_false,List.append_nil];rw [Zga,List.map_append,List.map_append,List.append_assoc,List.append_assoc];unfold ZsF;simp only [List.map_cons,List.map_nil,h]
  ·have e:JV p (ZH u m)[j]=false:=beq_eq_false_iff_ne.2 h;rw [e,Z6,decide_eq_false h,Cq0,app1 (by omega) (by omega)];simp only [Bq0,Bool.not_false,if_true,Bool.false_eq_true,if_false,List.append_nil]
 ·unfold ZjY;dsimp only;rw [ZQ,Cq0,List.take_of_length_le (Nat.le_refl _),hx,Za8 s hm]
  rfl
theorem ZRt {F:Nat} (hF:1000 <=F) {w:Zb} (s:Wp w) {x:Zf} {m:Nat} (v:MvL w x m) {r:Option (Zb×List Zj)} {l:List Zf} {w0:Zb} (hb:w0.qK=w.qK) (hd:w0.qJ=w.qJ)
 (hr:loop F (ZgD F w0 x l (Xq w x x.qV.length).qQ) ([],0,w.qK,w.qJ)=r):loop F (ZjZ F w0 x l) (0,w.qQ)=r:=by
 have h8:=v.few;refine Ye (fun k=>((k:Int),(Xq w x k).qQ)) rfl (n:=x.qV.length) (by omega) (fun k hk next=>?_) (fun next=>?_)
 ·obtain⟨e,hp⟩:=v.Uk hk;have hs:=Zbf s v k;have hi:=XJ w x k;have hm:m < (Xq w x k).qQ.length:=by rw [hi.2.2.2.2.2];exact v.hm
  unfold ZjZ;dsimp only;rw [ZG hk,Cq1,YM 0 hk];simp only [Bq0];rw [v.ZX,hs.row hm];simp only [Bq0];rw [YM 0 (by rw [v.len];exact hk)];simp only [Bq0];rw [e,hs.ent hm (by rw [hi.1];exact hp)];simp only [Bq0];rw [Yw (by omega)]
  have:Xq w x (k + 1)=setW (Xq w x k) m (Uk x k) ⟨true,(m:Int),x.Yd.getD k 0⟩:=by
   show setW (Xq w x k) x.ZX.toNat (Uk x k) ⟨true,x.ZX,x.Yd.getD k 0⟩=_;rw [v.ZX,Int.toNat_natCast]
  rw [this];rfl
 ·unfold ZjZ;dsimp only;rw [ZQ,Cq0,hb,hd];exact hr
theorem ZYz {u w:Zb} (h:u.qQ=w.qQ) (m p:Nat):E u m p=E w m p:=by unfold E row;rw [h]
theorem Zwj {F:Nat} (hF:1000 <=F) {w w0:Zb} (s:Wp w) (sm:UW 900 w) {x:Zf} {m:Nat} (v:MvL w x m) (hi0:w0.Zx=w.Zx) (hs0:w0.said=w.said):
 loop F (ZgD F w0 x w.qG (Xq w x x.qV.length).qQ) ([],0,w.qK,w.qJ)=some ((ZaL w x).1,(ZaL w x).2):=by
 have h8:=v.few;have h0:=XJ w x x.qV.length;refine Ye (fun k=>((Yp w x k).2,(k:Int),(Yp w x k).1.qK,(Yp w x k).1.qJ)) ?_ (n:=x.qV.length) (by omega) (fun k hk next=>?_) (fun next=>?_)
 ·show([],(0:Int),(Xq w x x.qV.length).qK,(Xq w x x.qV.length).qJ)=_;rw [h0.2.1,h0.2.2.1]
 ·obtain⟨e,hp⟩:=v.Uk hk;have hs:=Wl s v k;have hi:=UF w x k;have b:=ZGk s sm v k (by omega);have hM:(Yp w x k).1.qQ.length=w.qQ.length:=by rw [hi.2.2.2.1,h0.2.2.2.2.2]
  have hm:m < (Yp w x k).1.qQ.length:=by rw [hM];exact v.hm
  have hb:=b.bx _ hp;have hl:=b.hl m v.hm;have hev:=b.ev
  have hh:(E (Yp w x k).1 m (Uk x k)).here=true:=by
   rw [ZYz (w:=Xq w x x.qV.length) hi.2.2.2.1];exact Ztm s v _ (Nat.le_refl _) k hk
  unfold ZgD;dsimp only;rw [ZG hk,Cq1,YM 0 hk];simp only [Bq0];rw [app1 (by omega) (by omega)];simp only [Bq0];rw [v.ZX,Za8 hs hm];simp only [Bq0];rw [e,← hi.2.2.2.1,ZEz hF hs hm (by rw [hi.1];exact hp) hh hl (by omega) v.ZX (by rw [List.length_append,List.length_singleton];omega),Yw (by omega)]
  have:Yp w x (k + 1)= (KA (Yp w x k).1 m (Uk x k),(Yp w x k).2 ++ Zjp (Yp w x k).1 m (Uk x k)):=by
   show(KA (Yp w x k).1 x.ZX.toNat (Uk x k),(Yp w x k).2 ++ Zjp (Yp w x k).1 x.ZX.toNat (Uk x k))=_;rw [v.ZX,Int.toNat_natCast]
  rw [this];unfold Zjp;simp only [List.append_assoc,List.singleton_append]
 ·have hi:=UF w x x.qV.length;unfold ZgD Zc4;dsimp only;rw [ZQ,Cq0,hi0,hs0];unfold ZaL;congr 1;rw [← hi.1,← hi.2.1,← hi.2.2.1,← hi.2.2.2.1]
theorem Zd7 (x:Zf) (p:Nat):∀ k,k <=x.qV.length ->(WH x p k).length= (x.qV.take k).count (p:Int):=by
 intro k
 induction k with
 | zero=>intro _;simp [WH]
 | succ k ih=>
   intro hk;have hk':k < x.qV.length:=by omega
   rw [Zf3,List.length_append,ih (by omega),List.take_add_one,List.getElem?_eq_getElem hk',List.count_append,List.getD_eq_getElem?_getD,List.getElem?_eq_getElem hk'];congr 1;show _=List.count (p:Int) [x.qV[k]];rw [List.count_singleton];by_cases e:x.qV[k]= (p:Int)
   ·simp [e]
   ·simp [e]
theorem ZtU {l:List Zf} {x:Zf} (hx:x ∈ l) (p:Nat):(Ka x p).length <= (Qj l p).length:=by
 unfold Qj
 induction l with
 | nil=>cases hx
 | cons y l ih=>
   rw [List.flatMap_cons,List.length_append];rcases List.mem_cons.1 hx with q | q
   ·rw [q];omega
   ·have:=ih q;omega
theorem Wd.nodup {w:Zb} (h:Wd w) {x:Zf} (hx:x ∈ w.qG) (hk:x.kind=2):x.qV.Nodup:=by
 rw [List.nodup_iff_count];intro a;by_cases ha:a ∈ x.qV
 ·obtain⟨i,hi,rfl⟩:=List.getElem_of_mem ha;have e0:x.qV.getD i 0=x.qV[i]:=by rw [List.getD_eq_getElem?_getD,List.getElem?_eq_getElem hi];rfl
  have hp:= (h.shr.Xr x hx).Uk i hi
  have hr:0 <=x.qV[i]∧x.qV[i] < (w.Zx.length:Int):=by
   rw [← e0]
   first
    | exact⟨hp.1,hp.2.1⟩
    | exact⟨hp.2.1,hp.2.2.1⟩
  obtain⟨p,e⟩:∃ p:Nat,x.qV[i]= (p:Int):= ⟨x.qV[i].toNat,by omega⟩
  have hl:=h.loc p (by omega);unfold Xa at hl;rw [List.length_append] at hl;have h1:=ZtU hx p;have h2:Ka x p=WH x p x.qV.length:=by unfold Ka;rw [if_pos hk]
  rw [h2,Zd7 x p _ (Nat.le_refl _),List.take_of_length_le (Nat.le_refl _)] at h1;rw [e];omega
 ·rw [List.count_eq_zero_of_not_mem ha];omega
theorem Wd.mvl {w:Zb} (h:Wd w) {x:Zf} (hx:x ∈ w.qG) (hk:x.kind=2):MvL w x x.ZX.toNat:=by
 have hl:=h.shr.Xr x hx;have h8:=h.shr.Kv.p2
 have ZzH:∀ i,i < x.qV.length ->J9 (x.qV.getD i 0) w.Zx.length:=fun i hi=>by
  have hp:=hl.Uk i hi
  first
   | exact⟨hp.1,hp.2.1⟩
   | exact⟨hp.2.1,hp.2.2.1⟩
 have hsub:x.qV ⊆ XG w.Zx.length:=fun a ha=>by
  have:= (K6 (d:= (0:Int)) (P:=fun a=>J9 a w.Zx.length)).1 ZzH a ha;unfold J9 at this;unfold XG;exact List.mem_map.2 ⟨a.toNat,List.mem_range.2 (by omega),by show((a.toNat:Nat):Int)=a;omega⟩
 have hlen:= (h.nodup hx hk).length_le_of_subset hsub;rw [Jc] at hlen;exact⟨by have:=hl.to1;omega,by have:=hl.to1;have:=hl.to2;omega,hl.Xp.len,by omega,ZzH⟩
def YR (w:Zb) (k:Nat):Zb:= {w with qG:=w.qG.take k ++ w.qG.drop (k + 1)}
def KZ (w:Zb) (x:Zf):Zb:=if(E w x.ZX.toNat x.place.toNat).here=false∧(E w x.ZX.toNat x.place.toNat).age < x.age then setW w x.ZX.toNat x.place.toNat ⟨false,x.at_,x.age⟩ else w
def Uv (w:Zb) (k:Nat):Zb×List Zj:=
 if(ZP w k).kind=1 then QC (YR w k) (ZP w k).ZX.toNat (ZP w k).ZV false
 else if(ZP w k).kind=2 then ZaL (YR w k) (ZP w k) else(KZ (YR w k) (ZP w k),[])
theorem Wp.YR {w:Zb} (s:Wp w) (k:Nat):Wp (YR w k):= ⟨s.m1,s.m2,s.p1,s.p2,s.bx,s.hd,s.rw_⟩
theorem ZgZ (w:Zb) {k:Nat} (hk:k < w.qG.length):(YR w k).qG.length + 1=w.qG.length:=by
 show(w.qG.take k ++ w.qG.drop (k + 1)).length + 1=_;rw [List.length_append,List.length_take,List.length_drop];omega
theorem ZgY {w:Zb} {k:Nat} {x:Zf} (h:x ∈ (YR w k).qG):x ∈ w.qG:=by
 rcases List.mem_append.1 h with q | q
 ·exact List.mem_of_mem_take q
 ·exact List.mem_of_mem_drop q
theorem UW.YR {n:Nat} {w:Zb} (sm:UW n w) {k:Nat} (hk:k < w.qG.length):UW n (YR w k):=
 ⟨sm.Zx,sm.qK,sm.qQ,sm.qJ,by have:=ZgZ w hk;have:=sm.qG;omega,sm.box,sm.row,sm.hel,fun x hx=>sm.Xr x (ZgY hx)⟩
theorem ZiN {α:Type} {l:List α} {a b:Nat} (h1:a <=b) (h2:b <=l.length):slL l (a:Int) (b:Int)=some ((l.take b).drop a):=by
 unfold slL;rw [decide_eq_true (show(0:Int) <= (a:Int) by omega),decide_eq_true (show(a:Int) <= (b:Int) by omega),decide_eq_true (show(b:Int) <= (l.length:Int) by omega)];rfl
section
variable {F:Nat} {w:Zb}
theorem ZBY (hF:1000 <=F) (sm:UW 900 w) {k:Nat} (hk:k < w.qG.length):ZBw w.qG (k:Int) (Y2 ((k:Int) + 1))=some (YR w k).qG:=by
 have hw:=sm.qG;unfold ZBw;rw [Yw (by omega),ZiN (by omega) (by omega)];simp only [Bq0];rw [Z6,decide_eq_false (by omega),Cq0,show slL w.qG 0 (k:Int)=some (w.qG.take k) from ZiN (a:=0) (by omega) (by omega)];simp only [Bq0];rw [ZiN (by omega) (by omega)];simp only [Bq0];rw [List.take_of_length_le (Nat.le_refl w.qG.length),Zg9 (by rw [List.length_take,List.length_drop];omega) (by omega)];rfl
theorem Zl6 {k:Nat} (hk:k < w.qG.length):ZL w.qG (k:Int)=some (ZP w k):=YM default hk
theorem Zuv (h:Wd w) {x:Zf} (hx:x ∈ w.qG):x.kind=1∨x.kind=2∨x.kind=3:=by
 rcases(h.shr.Xr x hx).Xp with⟨q,_⟩ | ⟨q,_⟩ | ⟨q,_⟩
 ·exact .inl q
 ·exact .inr (.inl q)
 ·exact .inr (.inr q)
theorem Zhx (h:Wd w) {m:Int} {y:Zq} (hy:Ji w m y):y.place.toNat < w.Zx.length∧0 <=y.place∧0 <=y.age∧y.age <=30∧1 <=y.hops∧y.hops <=y.age + 1:=by
 obtain⟨a1,a2,a3,a4,a5,a6,a7⟩:=hy;have hp:y.place.toNat < w.Zx.length:=by omega
 have h1:=a5.1;have h2:=a5.2.1;have h3:=Zf8 h.shr hp (h.loc _ hp);rw [Int.add_comm,Zbq (by omega) (by omega)] at a7;exact⟨hp,a1,by omega,by omega,a6,a7⟩
theorem Zwh (hF:1000 <=F) (h:Wd w) (sm:UW 900 w) {k:Nat} (hk:k < w.qG.length) {ev:List Zj} (he:ev.length <=600000):ZBG F ⟨w,ev⟩ (k:Int)=some ⟨(Uv w k).1,ev ++ (Uv w k).2⟩:=by
 have hx:ZP w k ∈ w.qG:=YP hk;have hl:=h.shr.Xr _ hx;have hto:(ZP w k).ZX= ((ZP w k).ZX.toNat:Int):=by have:=hl.to1;omega
 have htl:(ZP w k).ZX.toNat < w.qQ.length:=by have:=hl.to1;have:=hl.to2;omega
 have su:=h.shr.Kv.YR k;have smu:=sm.YR hk;unfold ZBG Uv;dsimp only;rw [Zl6 hk];simp only [Bq0];rw [ZBY hF sm hk];simp only [Bq0];rcases Zuv h hx with q | q | q
 ·have hb:=Zhx h (h.mai _ hx q);rw [if_pos q,Z6,decide_eq_true q,Cq1];have e:=ZiS su smu (m:= (ZP w k).ZX.toNat) htl (x:= (ZP w k).ZV) hb.1 hb.2.1 (by omega) (by omega) false (ev:=ev) (by omega);rw [← hto] at e
  change ((ZqD ⟨YR w k,ev⟩ (ZP w k).ZX (ZP w k).ZV false).bind fun KL=>some KL)=_
  rw [e];rfl
 ·have v:MvL (YR w k) (ZP w k) (ZP w k).ZX.toNat:=by
   have:=h.mvl hx q;exact⟨this.ZX,this.hm,this.len,this.few,this.rng⟩
  rw [if_neg (by omega),if_pos q,Z6,decide_eq_false (by omega),Cq0,Z6,decide_eq_true q,Cq1];have e:=ZwR hF (w:=YR w k) su v (l:= (YR w k).qG) (ev:=ev) (Zsi hF su smu v he);exact e
 ·have hn:=hl.ntd q;obtain⟨p,hp⟩:∃ p:Nat,(ZP w k).place= (p:Int):= ⟨(ZP w k).place.toNat,by omega⟩
  have hpl:p < w.Zx.length:=by omega
  rw [if_neg (by omega),if_neg (by omega),Z6,decide_eq_false (by omega),Cq0,Z6,decide_eq_false (by omega),Cq0,Z6,decide_eq_true q,Cq1];unfold KZ ZjS;rw [hto,Int.toNat_natCast,h.shr.Kv.row htl];simp only [Bq0];rw [hp,Int.toNat_natCast,h.shr.Kv.ent htl hpl];simp only [Bq0];have eE:E (YR w k) (ZP w k).ZX.toNat p=E w (ZP w k).ZX.toNat p:=rfl;rw [eE,List.append_nil];by_cases c:(E w (ZP w k).ZX.toNat p).here=false∧(E w (ZP w k).ZX.toNat p).age < (ZP w k).age
  ·rw [if_pos c,c.1,decide_eq_true c.2];rfl
  ·rw [if_neg c]
   have:((!(E w (ZP w k).ZX.toNat p).here) && decide ((E w (ZP w k).ZX.toNat p).age < (ZP w k).age))=false:=by
    rw [← Bool.not_eq_true];intro z;simp only [Ba0,Bool.not_eq_true',decide_eq_true_eq] at z;exact c z
   rw [this];rfl
end
end Go.Proofs.YtbmbbcaaimehkaaGreat
end
section
namespace Go.Proofs.YtbmbbcaaimehkaaGreat
open Go.Lf
theorem Zzc {F:Nat} {w:Zb} (hF:1000 <=F) (h:Wd w) (sm:UW 900 w) {k:Nat} (hk:k < w.qG.length):ZBH F w (k:Int)=some (Uv w k):=by
 have hw:=sm.qG;have hx:ZP w k ∈ w.qG:=YP hk;have hl:=h.shr.Xr _ hx;have hto:(ZP w k).ZX= ((ZP w k).ZX.toNat:Int):=by have:=hl.to1;omega
 have htl:(ZP w k).ZX.toNat < w.qQ.length:=by have:=hl.to1;have:=hl.to2;omega
 have s:=h.shr.Kv;have su:=s.YR k;have smu:=sm.YR hk;have hdl:=ZgZ w hk;unfold ZBH Uv;rw [Zl6 hk];simp only [Bq0];rw [show slL w.qG 0 (k:Int)=some (w.qG.take k) from ZiN (a:=0) (by omega) (by omega)];simp only [Bq0];rw [app0 (by rw [List.length_take];omega) (by omega)];simp only [Bq0];rw [Yw (by omega),ZiN (by omega) (by omega)];simp only [Bq0];rw [List.take_of_length_le (Nat.le_refl w.qG.length),Zg9 (by rw [List.length_take,List.length_drop];omega) (by omega)];simp only [Bq0];rw [show w.qG.take k ++ w.qG.drop (k + 1)= (YR w k).qG from rfl];rcases Zuv h hx with q | q | q
 ·have hb:=Zhx h (h.mai _ hx q);obtain⟨p,hp⟩:∃ p:Nat,(ZP w k).ZV.place= (p:Int):= ⟨(ZP w k).ZV.place.toNat,by omega⟩
  have hpl:p < w.Zx.length:=by omega
  rw [if_pos q,Z6,decide_eq_true q,Cq1,hto,s.row htl,Int.toNat_natCast];simp only [Bq0];unfold QC;rw [hp,Int.toNat_natCast,s.ent htl hpl];simp only [Bq0];have eE:E (YR w k) (ZP w k).ZX.toNat p=E w (ZP w k).ZX.toNat p:=rfl;rw [eE];generalize E w (ZP w k).ZX.toNat p=e;have b1:=Zix s sm hpl;have b2:=Zjq s sm htl;cases hh:e.here with
  | true=>
    rw [Cq1,if_pos rfl,ZkD s hpl];simp only [Bq0];rw [app1 (by omega) (by omega)]
    rfl
  | false=>
    rw [Cq0,if_neg (by simp)];unfold ZjX ZgC;by_cases hc:e.age <= (ZP w k).ZV.age
    ·rw [if_pos (show True∧e.age <= (ZP w k).ZV.age from⟨trivial,hc⟩),decide_eq_true hc,Za8 s htl];simp only [Bool.not_false,Bool.and_self,Cq1,Bq0];rw [app1 (by omega) (by omega)]
     rfl
    ·rw [if_neg (fun z=>hc z.2),decide_eq_false hc];simp only [Bool.not_false,Bool.and_false,Cq0];rw [app1 (by omega) (by omega)];simp only [Bq0];rw [Kb (by omega) (by omega)];unfold told Zhy Zee Zuc;by_cases ht:(ZP w k).ZV.from_ ≠ ((ZP w k).ZX.toNat:Int)∧(ZP w k).ZV.from_ ≠ e.ZX
     ·rw [if_pos (show false=false∧(ZP w k).ZV.from_ ≠ ((ZP w k).ZX.toNat:Int)∧(ZP w k).ZV.from_ ≠ e.ZX from⟨rfl,ht⟩),Jf,Jf,decide_eq_true ht.1,decide_eq_true ht.2];simp only [Bool.not_false,Bool.and_self,Cq1];rw [app1 (by rw [List.length_append,List.length_singleton];omega) (by omega)];simp only [Bq0,List.append_assoc,hp]
      rfl
     ·have e2:((true && ((ZP w k).ZV.from_ != ((ZP w k).ZX.toNat:Int))) && ((ZP w k).ZV.from_ !=e.ZX))=false:=by
       rw [← Bool.not_eq_true];intro z;simp only [Ba0,bne_iff_ne] at z;exact ht ⟨z.1.2,z.2⟩
      rw [e2,Cq0,if_neg (fun z=>ht z.2),hp]
      rfl
 ·have v:MvL (YR w k) (ZP w k) (ZP w k).ZX.toNat:=by
   have:=h.mvl hx q;exact⟨this.ZX,this.hm,this.len,this.few,this.rng⟩
  rw [if_neg (by omega),if_pos q,Z6,decide_eq_false (by omega),Cq0,Z6,decide_eq_true q,Cq1];exact ZRt hF su v rfl rfl (Zwj hF su smu v (w0:=w) rfl rfl)
 ·have hn:=hl.ntd q;obtain⟨p,hp⟩:∃ p:Nat,(ZP w k).place= (p:Int):= ⟨(ZP w k).place.toNat,by omega⟩
  have hpl:p < w.Zx.length:=by omega
  rw [if_neg (by omega),if_neg (by omega),Z6,decide_eq_false (by omega),Cq0,Z6,decide_eq_false (by omega),Cq0,Z6,decide_eq_true q,Cq1];unfold KZ Zc4;rw [hto,Int.toNat_natCast,s.row htl];simp only [Bq0];rw [hp,Int.toNat_natCast,s.ent htl hpl];simp only [Bq0];have eE:E (YR w k) (ZP w k).ZX.toNat p=E w (ZP w k).ZX.toNat p:=rfl;rw [eE];by_cases c:(E w (ZP w k).ZX.toNat p).here=false∧(E w (ZP w k).ZX.toNat p).age < (ZP w k).age
  ·rw [if_pos c,c.1,decide_eq_true c.2];rfl
  ·rw [if_neg c]
   have:((!(E w (ZP w k).ZX.toNat p).here) && decide ((E w (ZP w k).ZX.toNat p).age < (ZP w k).age))=false:=by
    rw [← Bool.not_eq_true];intro z;simp only [Ba0,Bool.not_eq_true',decide_eq_true_eq] at z;exact c z
   rw [this];rfl
def Zgh (w:Zb) (p:Nat):Zb:= {w with Zx:=Yl w.Zx (p:Int) (-1)}
theorem Zfk {w:Zb} {p:Nat} (hp:p < w.Zx.length) (q:Nat):inn (Zgh w p) (q:Int)=if q=p then -1 else inn w (q:Int):=by
 unfold inn Zgh;rw [Int.toNat_natCast];exact Jj hp
theorem KY (w:Zb) (p:Nat):(Zgh w p).Zx.length=w.Zx.length:=Xt _ _ _
theorem Zid {w:Zb} (hi:Inn w) {p:Nat} (hp:p < w.Zx.length) {x:Nat} (hx:x < w.Zx.length):∀ j,(∀ i,i < j ->up w i (x:Int) ≠ (p:Int)) ->up (Zgh w p) j (x:Int)=up w j (x:Int):=by
 intro j
 induction j with
 | zero=>intro _;rfl
 | succ j ih=>
   intro h;have e:=ih fun i hi=>h i (by omega)
   rw [Qp,Qp,e];by_cases hn:up w j (x:Int) < 0
   ·rw [if_pos hn,if_pos hn]
   ·rw [if_neg hn,if_neg hn];obtain⟨q,eq,hq⟩:=JU (hi.up (q:= (x:Int)) ⟨by omega,by omega⟩ j) hn;rw [eq,Zfk hp,if_neg (fun z=>h j (by omega) (by rw [eq,z]))]
theorem ZfT {w:Zb} (hi:Inn w) {p:Nat} (hp:p < w.Zx.length):Inn (Zgh w p):=by
 refine⟨fun x hx=>?_,fun x hx=>?_⟩
 ·rw [KY] at hx;rw [Zfk hp];unfold okN;rw [KY];by_cases e:x=p
  ·rw [if_pos e];omega
  ·rw [if_neg e];exact hi.rng x hx
 ·rw [KY] at hx ⊢;by_cases hz:∃ i,i < w.Zx.length∧up w i (x:Int)= (p:Int)
  ·obtain⟨i,hil,e⟩:=hz;obtain⟨m,hm,hc,hlt⟩:=Qd (c:=fun i=>up w i (x:Int)= (p:Int)) e;have e1:=Zid hi hp hx m hlt
   have e2:up (Zgh w p) (m + 1) (x:Int)=-1:=by
    rw [Qp,e1,hc,if_neg (by omega),Zfk hp,if_pos rfl]
   exact J5 (by rw [e2];omega) (show m + 1 <=w.Zx.length by omega)
  ·rw [Zid hi hp hx _ fun i h q=>hz ⟨i,h,q⟩];exact hi.acy x hx
theorem ZxB {w:Zb} (hi:Inn w) {p:Nat} (hp:p < w.Zx.length) {x:Nat} (hx:x < w.Zx.length):Wth (Zgh w p) p x↔Wth w p x:=by
 constructor
 ·rintro⟨j,e⟩;by_cases hz:∃ i,i < j∧up w i (x:Int)= (p:Int)
  ·obtain⟨i,_,q⟩:=hz;exact⟨i,q⟩
  ·exact⟨j,by rw [← Zid hi hp hx j fun i h q=>hz ⟨i,h,q⟩];exact e⟩
 ·rintro⟨j,e⟩;obtain⟨m,hm,hc,hlt⟩:=Qd (c:=fun i=>up w i (x:Int)= (p:Int)) e;exact⟨m,by rw [Zid hi hp hx m hlt];exact hc⟩
theorem ZrK {w:Zb} (hi:Inn w) {p:Nat} (hp:p < w.Zx.length):Yg (Zgh w p) p=Yg w p:=by
 unfold Yg ZaT;rw [KY];congr 1;apply List.filter_congr;intro x hx;have hx':=List.mem_range.1 hx;rw [Bool.eq_iff_iff,ZaR (ZfT hi hp) (by rw [KY];exact hx'),ZaR hi hx',ZxB hi hp hx']
def goA (w:Zb) (m:Nat) (q:Int):Int:= (E w m q.toNat).age + 1
def goW (w:Zb) (m:Nat) (to:Int) (L:List Int):Nat ->Zb
 | 0=>w
 | k + 1=>setW (goW w m to L k) m (L.getD k 0).toNat ⟨false,to,goA w m (L.getD k 0)⟩
def ZpX (m:Nat) (to:Int) (q:Int):Zj:= ⟨2,q,(m:Int),to,0⟩
def mOf (w:Zb) (p:Nat):Nat:= (sp w p).machine.toNat
def U0 (w:Zb) (p:Nat) (to:Int):Zb×List Zj:=
 ({w with Zx:=Yl w.Zx (p:Int) (-1),qQ:= (goW w (mOf w p) to (Yg w p) (Yg w p).length).qQ,qG:=w.qG ++ [Zum to (Yg w p) ((Yg w p).map (goA w (mOf w p)))]},(Yg w p).map (ZpX (mOf w p) to))
theorem Zel (w:Zb) (m:Nat) (to:Int) (L:List Int):∀ k,(goW w m to L k).Zx=w.Zx∧(goW w m to L k).qK=w.qK∧(goW w m to L k).qJ=w.qJ∧(goW w m to L k).qG=w.qG∧(goW w m to L k).said=w.said∧(goW w m to L k).qQ.length=w.qQ.length:=by
 intro k
 induction k with
 | zero=>exact⟨rfl,rfl,rfl,rfl,rfl,rfl⟩
 | succ k ih=>exact⟨ih.1,ih.2.1,ih.2.2.1,ih.2.2.2.1,ih.2.2.2.2.1,(Ze0 _ _ _ _).trans ih.2.2.2.2.2⟩
structure GoB (w:Zb) (m:Nat) (L:List Int):Prop where
 s:Wp w
 hm:m < w.qQ.length
 rng:∀ q ∈ L,J9 q w.Zx.length
 nd:L.Nodup
 age:∀ q ∈ L,0 <= (E w m q.toNat).age∧(E w m q.toNat).age <=30
section
variable {w:Zb} {m:Nat} {L:List Int} {to:Int}
theorem Zir (g:GoB w m L):∀ k,Wp (goW w m to L k):=by
 intro k
 induction k with
 | zero=>exact g.s
 | succ k ih=>exact ih.setW (by rw [(Zel w m to L k).2.2.2.2.2];exact g.hm) _
theorem Zpn {α:Type} [DecidableEq α] {l:List α} (nd:l.Nodup) {k:Nat} (h:k < l.length):l[k] ∉ l.take k:= (Zef.1 nd) k h
theorem QE {α:Type} {l:List α} {k:Nat} (h:k < l.length) {x:α}:x ∈ l.take (k + 1)↔x ∈ l.take k∨x=l[k]:=by
 rw [List.take_succ_eq_append_getElem h,List.mem_append,List.mem_singleton]
theorem YZ {α:Type} {l:List α} {k:Nat} {d:α} (h:k < l.length):l.getD k d=l[k]:=by
 rw [List.getD_eq_getElem?_getD,List.getElem?_eq_getElem h];rfl
theorem ZHg (g:GoB w m L):∀ k,k <=L.length ->∀ m' q':Nat,E (goW w m to L k) m' q'=if m'=m∧(q':Int) ∈ L.take k then⟨false,to,goA w m (q':Int)⟩ else E w m' q':=by
 intro k
 induction k with
 | zero=>intro _ m' q';rw [if_neg (by simp)];rfl
 | succ k ih=>
   intro hk m' q';have hq:=g.rng _ (List.getElem_mem (l:=L) (n:=k) (by omega));obtain⟨q,eq,hql⟩:=hq.nat;show E (setW (goW w m to L k) m (L.getD k 0).toNat _) m' q'=_;rw [YZ (by omega),eq,Int.toNat_natCast,ZoW (Zir g k) (by rw [(Zel w m to L k).2.2.2.2.2];exact g.hm) (by rw [(Zel w m to L k).1];exact hql),ih (by omega)];by_cases e:m'=m∧q'=q
   ·rw [if_pos e,if_pos ⟨e.1,(QE (by omega)).2 (.inr (by rw [eq,e.2]))⟩,e.2]
   ·rw [if_neg e];by_cases c:m'=m∧(q':Int) ∈ L.take k
    ·rw [if_pos c,if_pos ⟨c.1,(QE (by omega)).2 (.inl c.2)⟩]
    ·rw [if_neg c,if_neg];rintro⟨c1,c2⟩;rcases(QE (by omega)).1 c2 with z | z
     ·exact c ⟨c1,z⟩
     ·rw [eq] at z;exact e ⟨c1,by omega⟩
theorem ZBb (g:GoB w m L) {k:Nat} (hk:k < L.length):E (goW w m to L k) m (L.getD k 0).toNat=E w m (L.getD k 0).toNat:=by
 obtain⟨q,eq,hql⟩:= (g.rng _ (List.getElem_mem (l:=L) (n:=k) hk)).nat;rw [ZHg g k (by omega),if_neg];rintro⟨_,z⟩;rw [YZ hk,eq,Int.toNat_natCast,← eq] at z;exact Zpn g.nd hk z
theorem Ws {α β:Type} {l:List α} {f:α ->β} {k:Nat} (h:k < l.length) (d:α):(l.take (k + 1)).map f= (l.take k).map f ++ [f (l.getD k d)]:=by
 rw [List.take_succ_eq_append_getElem h,List.map_append,YZ h];rfl
theorem Zqs (k:Nat):(goW w m to L (k + 1)).qQ=Yl (goW w m to L k).qQ (m:Int) (Yl (row (goW w m to L k) m) ((L.getD k 0).toNat:Int) ⟨false,to,goA w m (L.getD k 0)⟩):=rfl
theorem ZEN {F:Nat} (hF:1000 <=F) (g:GoB w m L) (hL:L.length <=8) (hw:w.qG.length < 900) {ev:List Zj} (he:ev.length <=700000) {w0:Zb} (hw0:w0.qG=w.qG) {p1:Int} {x1:YA×Int} (hx:x1.1.machine= (m:Int)):
 loop F (ZjI ⟨w0,ev⟩ p1 to x1 L) (0,ev,[],w.qQ)=some ⟨⟨Yl w0.Zx p1 (-1),w0.qK,(goW w m to L L.length).qQ,w0.qJ,w.qG ++ [Zum to L (L.map (goA w m))],w0.said⟩,ev ++ L.map (ZpX m to)⟩:=by
 refine Ye (fun k=>((k:Int),ev ++ (L.take k).map (ZpX m to),(L.take k).map (goA w m),(goW w m to L k).qQ)) (by simp [goW]) (n:=L.length) (by omega) (fun k hk next=>?_) (fun next=>?_)
 ·obtain⟨q,eq,hql⟩:= (g.rng _ (List.getElem_mem (l:=L) (n:=k) hk)).nat;have ha:=g.age _ (List.getElem_mem (l:=L) (n:=k) hk);have hi:=Zel w m to L k;have hs:=Zir (to:=to) g k;have hm:m < (goW w m to L k).qQ.length:=by rw [hi.2.2.2.2.2];exact g.hm
  have eA:Y2 ((E w m q).age + 1)=goA w m (q:Int):=by
   rw [eq,Int.toNat_natCast] at ha;unfold goA;rw [Int.toNat_natCast,Kb (by omega) (by omega)]
  have eE:=ZBb (to:=to) g hk;rw [YZ hk,eq,Int.toNat_natCast] at eE;unfold ZjI;dsimp only;rw [ZG hk,Cq1,YM 0 hk,YZ hk,eq,hx];simp only [Bq0];rw [hs.row hm];simp only [Bq0];rw [hs.ent hm (by rw [hi.1];exact hql),eE];simp only [Bq0];rw [app1 (by rw [List.length_map,List.length_take];omega) (by omega)];simp only [Bq0];rw [app1 (by rw [List.length_append,List.length_map,List.length_take];omega) (by omega)];simp only [Bq0];rw [Yw (by omega),eA,Ws hk 0,Ws hk 0,YZ hk,eq,Zqs,YZ hk,eq,Int.toNat_natCast,List.append_assoc]
  rfl
 ·unfold ZjI;dsimp only;rw [ZQ,Cq0,hw0,app1 (by omega) (by omega),List.take_of_length_le (Nat.le_refl _)]
  rfl
theorem ZKz {F:Nat} (hF:1000 <=F) (g:GoB w m L) (hL:L.length <=8) (hw:w.qG.length < 900) {w0:Zb} (hw0:w0.qG=w.qG) {st:ZF} (hst:st.b=to) {p:Nat} (hp:st.a= (p:Int)) (hpl:p < w0.Zx.length) {x1:XR×Bool} (hx:x1.1.at_= (m:Int)):
 loop F (ZgM st w0 x1 L) ([],0,[],[],w.qQ)=some (⟨Yl w0.Zx st.a (-1),w0.qK,(goW w m to L L.length).qQ,w0.qJ,w.qG ++ [Zum to L (L.map (goA w m))],w0.said⟩,L.map (ZpX m to),0):=by
 refine Ye (fun k=>((L.take k).map (ZpX m to),(k:Int),L.take k,(L.take k).map (goA w m),(goW w m to L k).qQ)) (by simp [goW]) (n:=L.length) (by omega) (fun k hk next=>?_) (fun next=>?_)
 ·obtain⟨q,eq,hql⟩:= (g.rng _ (List.getElem_mem (l:=L) (n:=k) hk)).nat;have ha:=g.age _ (List.getElem_mem (l:=L) (n:=k) hk);have hi:=Zel w m to L k;have hs:=Zir (to:=to) g k;have hm:m < (goW w m to L k).qQ.length:=by rw [hi.2.2.2.2.2];exact g.hm
  have eA:Y2 ((E w m q).age + 1)=goA w m (q:Int):=by
   rw [eq,Int.toNat_natCast] at ha;unfold goA;rw [Int.toNat_natCast,Kb (by omega) (by omega)]
  have eE:=ZBb (to:=to) g hk;rw [YZ hk,eq,Int.toNat_natCast] at eE;unfold ZgM;dsimp only;rw [ZG hk,Cq1,YM 0 hk,YZ hk,eq,hx,hst];simp only [Bq0];rw [hs.row hm];simp only [Bq0];rw [hs.ent hm (by rw [hi.1];exact hql),eE];simp only [Bq0];rw [← eq,app1 (by rw [List.length_take];omega) (by omega),← List.take_succ_eq_append_getElem hk];simp only [Bq0];rw [app1 (by rw [List.length_map,List.length_take];omega) (by omega)];simp only [Bq0];rw [app1 (by rw [List.length_map,List.length_take];omega) (by omega)];simp only [Bq0];rw [Yw (by omega),eA,Ws hk 0,Ws hk 0,YZ hk,eq,Zqs,YZ hk,eq,Int.toNat_natCast]
  rfl
 ·unfold ZgM Zaa;dsimp only;rw [ZQ,Cq0,hw0,hp,Xi hpl];simp only [Bq0];rw [app1 (by omega) (by omega),List.take_of_length_le (Nat.le_refl _),hst]
  rfl
end
end Go.Proofs.YtbmbbcaaimehkaaGreat
end
section
namespace Go.Proofs.YtbmbbcaaimehkaaGreat
open Go.Lf
def Zam (w:Zb) (p:Int) (q:Int):Zb:= {w with Zx:=Yl w.Zx p q}
def Zr3 (w:Zb) (s:ZF):Zq:= ⟨w.said,s.b,s.a,0,0⟩
def Ze1 (w:Zb):Zb:= {w with said:=w.said + 1}
def doW (w:Zb) (s:ZF):Zb×List Zj:=
 if s.act=1 then QC (Ze1 w) s.a.toNat (Zr3 w s) true
 else if s.act=2 then U0 w s.a.toNat s.b
 else if s.act=3 then(Zam w s.a s.b,[])
 else if s.act=4 then(Zam w s.a (-1),[])
 else Uv w s.a.toNat
section
variable {F:Nat} {w:Zb}
theorem Wt (h:Wd w) {p:Nat} (hp:p < w.Zx.length) (hh:(sp w p).here=true):(sp w p).machine= (mOf w p:Int)∧mOf w p < w.qQ.length∧(E w (mOf w p) p).here=true∧(E w (mOf w p) p).age= (sp w p).age:=by
 rcases Zcr (h.loc p hp) with⟨m,hm,he,e⟩ | ⟨x,hx,hk,i,hi,hpi,e⟩
 ·unfold mOf;rw [e];exact⟨by simp,by simpa using hm,by simpa using he,by simp⟩
 ·rw [e] at hh;cases hh
theorem Zcn (w:Zb) (p:Nat):∀ q ∈ Yg w p,J9 q w.Zx.length:=by
 intro q hq;unfold Yg ZaT at hq;obtain⟨k,hk,rfl⟩:=List.mem_map.1 hq;have:=List.mem_range.1 (List.mem_filter.1 hk).1;exact⟨Int.natCast_nonneg k,by show(k:Int) < _;omega⟩
theorem Zqt (h:Wd w) {p:Nat} (hp:p < w.Zx.length) (hh:(sp w p).here=true):GoB w (mOf w p) (Yg w p):=by
 have a:=Wt h hp hh;refine⟨h.shr.Kv,a.2.1,Zcn w p,WG w p,fun q hq=>?_⟩;obtain⟨k,rfl,hk⟩:= (Zcn w p q hq).nat;have:=h.shr.ent _ a.2.1 k hk;rw [Int.toNat_natCast];exact⟨this.1,this.2.1⟩
theorem ZvO (hF:1000 <=F) (hM:F <=1000000) (h:Wd w) (sm:UW 900 w) {p:Nat} (hp:p < w.Zx.length) (hh:(sp w p).here=true) (to:Int) {ev:List Zj} (he:ev.length <=700000):
 ZBx F ⟨w,ev⟩ (p:Int) to=some ⟨(U0 w p to).1,ev ++ (U0 w p to).2⟩:=by
 have a:=Wt h hp hh;have g:=Zqt h hp hh;have h8:=h.shr.Kv.p2;have hi:=ZfT h.shr.inn hp;have hp':p < (Zgh w p).Zx.length:=by rw [KY];exact hp
 have hd:=Zkw hi hp';have hl:=KY w p
 have e1:loop F (ZjH F ⟨w,ev⟩ (p:Int)) ((p:Int),[])=some (true,desc (Zgh w p) (Zgh w p).Zx.length p):=by
  exact gather hF (w:=Zgh w p) (by rw [hl];exact h8) (B:=fun v next=>ZsZ ⟨w,ev⟩ (p:Int) v next) (R:=ZjH F ⟨w,ev⟩ (p:Int)) (fun v l next=>rfl) (fun v next k l nx=>rfl) (Zgh w p).Zx.length p [] F (by omega) hp' (ZfR.all hi) (by simp;omega)
 unfold ZBx;dsimp only;rw [ZaU hF hM h sm hp];simp only [Bq0];rw [Xi hp];simp only [Bq0];rw [e1];simp only [Bq0];unfold ZnO;rw [Zpp (by omega),ZwO hi hp',ZrK h.shr.inn hp];simp only [Bq0];have hw:=sm.qG;have hlen:(Yg w p).length <=8:=Nat.le_trans (U8 _ _ _) h8;exact ZEN hF g hlen (by omega) he rfl (x1:= (sp w p,1)) a.1
theorem ZxN (hF:1000 <=F) (h:Wd w) (sm:UW 900 w) {s:ZF} {p:Nat} (ep:s.a= (p:Int)) (hp:p < w.Zx.length) (hh:(sp w p).here=true):
 ((ZgG F w s.a).bind fun x160=>(ZqF F w.Zx s.a).bind fun ZiF=>loop F (ZgM s w x160 ZiF) ([],0,[],[],w.qQ))=some ((U0 w p s.b).1,(U0 w p s.b).2,0):=by
 have a:=Wt h hp hh;have g:=Zqt h hp hh;have h8:=h.shr.Kv.p2;have hw:=sm.qG;have hlen:(Yg w p).length <=8:=Nat.le_trans (U8 _ _ _) h8;rw [ep,ZdC hF h sm hp];simp only [Bq0];rw [Zd6 hF h.shr.inn h8 hp];simp only [Bq0];have:=ZKz hF g hlen (by omega) (w0:=w) rfl (st:=s) (to:=s.b) rfl ep hp (x1:= (U9 w p,true)) (by show(U9 w p).at_=_;rw [ZFF h];exact a.1);rw [this,ep]
 rfl
theorem Zff {s:ZF} (h1:s.act=1) (hl:lim w s=false):w.said < 40:=by
 unfold lim at hl;rw [if_pos h1] at hl;have:=of_decide_eq_false hl;omega
theorem ZLu {s:ZF}:Zex w s=0↔lim w s=false∧Alw w s:=by
 unfold Zex;cases lim w s with
 | true=>simp
 | false=>by_cases a:Alw w s <;> simp [a]
theorem ZvZ (s:Wp w):Wp (Ze1 w):= ⟨s.m1,s.m2,s.p1,s.p2,s.bx,s.hd,s.rw_⟩
theorem Zx9 {n:Nat} (sm:UW n w):UW n (Ze1 w):= ⟨sm.Zx,sm.qK,sm.qQ,sm.qJ,sm.qG,sm.box,sm.row,sm.hel,sm.Xr⟩
theorem ZwN (hF:1000 <=F) (hM:F <=1000000) (h:Wd w) (sm:UW 900 w) {s:ZF} (ha:Ask w s) (hl:lim w s=false) (hA:Alw w s) {ev:List Zj} (he:ev.length <=600000):
 ZwE F ⟨w,ev⟩ s=some ⟨(doW w s).1,ev ++ (doW w s).2⟩:=by
 have e:∀ k:Int,(s.act==k)=decide (s.act=k):=fun k=>Z6 _ _
 have hs1:=h.shr.sd1;unfold ZwE doW;rcases ha with⟨c,a,b⟩ | ⟨c,a,b⟩ | ⟨c,a,b⟩ | ⟨c,a⟩ | ⟨c,a⟩
 ·have hs:=Zff c hl;obtain⟨m,em,hm⟩:=a.nat;rw [e,decide_eq_true c,Cq1,if_pos c,em,Int.toNat_natCast];dsimp only;rw [Kb (by omega) (by omega)];have:=ZiS (ZvZ h.shr.Kv) (Zx9 sm) (m:=m) hm (x:=Zr3 w s) (by have:=b.1;have:=b.2;show s.b.toNat < w.Zx.length;omega) b.1 (by show(0:Int) <=0;omega) (by show(0:Int) <=1000;omega) true (ev:=ev) (by omega);unfold Zr3 at this ⊢;rw [em] at this ⊢
  change (ZqD ⟨Ze1 w,ev⟩ (m:Int) _ true).bind _=_
  rw [this];rfl
 ·obtain⟨p,ep,hp⟩:=a.nat;rw [e,decide_eq_false (by omega),Cq0,e,decide_eq_true c,Cq1,if_neg (by omega),if_pos c,ep,Int.toNat_natCast];have hh:= (hA.1 c).1;rw [ep,Int.toNat_natCast] at hh;rw [ZvO hF hM h sm hp hh s.b (by omega)];rfl
 ·obtain⟨p,ep,hp⟩:=a.nat;rw [e,decide_eq_false (by omega),Cq0,e,decide_eq_false (by omega),Cq0,e,decide_eq_true c,Cq1,if_neg (by omega),if_neg (by omega),if_pos c,ep];dsimp only;rw [Xi hp];simp only [Bq0,List.append_nil]
  rfl
 ·obtain⟨p,ep,hp⟩:=a.nat;rw [e,decide_eq_false (by omega),Cq0,e,decide_eq_false (by omega),Cq0,e,decide_eq_false (by omega),Cq0,e,decide_eq_true c,Cq1,if_neg (by omega),if_neg (by omega),if_neg (by omega),if_pos c,ep];dsimp only;rw [Xi hp];simp only [Bq0,List.append_nil]
  rfl
 ·obtain⟨k,ek,hk⟩:=a.nat;rw [e,decide_eq_false (by omega),Cq0,e,decide_eq_false (by omega),Cq0,e,decide_eq_false (by omega),Cq0,e,decide_eq_false (by omega),Cq0,e,decide_eq_true c,Cq1,if_neg (by omega),if_neg (by omega),if_neg (by omega),if_neg (by omega),ek,Int.toNat_natCast];rw [Zwh hF h sm hk he];rfl
theorem ZLE (hF:1000 <=F) (h:Wd w) (sm:UW 900 w) {s:ZF} (ha:Ask w s):
 ZwG F w s=some (if Zex w s=0 then((doW w s).1,(doW w s).2,0) else(Zks,[],Zex w s)):=by
 have e:∀ k:Int,(s.act==k)=decide (s.act=k):=fun k=>Z6 _ _
 have hs1:=h.shr.sd1;unfold ZwG;rw [Zv9 hF h sm ha];simp only [Bq0];cases hl:lim w s with
 | true=>
   have:Zex w s=3:=by unfold Zex;rw [if_pos hl]
   rw [Cq1,this,if_neg (by omega)]
 | false=>
 rw [Cq0,Zrg hF h sm ha];simp only [Bq0];rcases Classical.em (¬ Alw w s) with hA | hA'
 ·have:Zex w s=7:=by unfold Zex;rw [hl,if_neg (by simp),if_neg hA]
  rw [decide_eq_false hA,Bool.not_false,Cq1,this,if_neg (by omega)]
 have hA:=Classical.not_not.1 hA';have h0:Zex w s=0:=ZLu.2 ⟨hl,hA⟩;rw [decide_eq_true hA,Bool.not_true,Cq0,ZBZ hF sm,if_pos h0];simp only [Bq0];have sp_:=h.shr.Kv;unfold doW;rcases ha with⟨c,a,b⟩ | ⟨c,a,b⟩ | ⟨c,a,b⟩ | ⟨c,a⟩ | ⟨c,a⟩
 ·have hs:=Zff c hl;obtain⟨m,em,hm⟩:=a.nat;obtain⟨p,ep,hp⟩:=b.nat;have hb:=Zix sp_ sm hp;have hw:=sm.qG;rw [e,decide_eq_true c,Cq1,if_pos c,em,ep,Int.toNat_natCast,sp_.row hm];simp only [Bq0];rw [sp_.ent hm hp];simp only [Bq0];unfold QC Zr3;rw [ep,em];dsimp only;rw [Int.toNat_natCast];have eE:E (Ze1 w) m p=E w m p:=rfl;rw [eE];cases hh:(E w m p).here with
  | true=>
    rw [Cq1,if_pos rfl,ZkD sp_ hp];simp only [Bq0];rw [app1 (by omega) (by omega)];simp only [Bq0];unfold Zev Zaa;dsimp only;rw [Kb (by omega) (by omega)]
    rfl
  | false=>
    rw [Cq0,if_neg (by simp),if_neg (by simp)];simp only [Bool.not_true,Bool.false_and,Cq0];rw [app1 (by omega) (by omega)];simp only [Bq0];unfold Zkh Zev Zaa told;dsimp only;rw [if_neg (by simp),Kb (by omega) (by omega),Kb (by omega) (by omega)]
    rfl
 ·obtain⟨p,ep,hp⟩:=a.nat;have hh:= (hA.1 c).1;rw [ep,Int.toNat_natCast] at hh;rw [e,decide_eq_false (by omega),Cq0,e,decide_eq_true c,Cq1,if_neg (by omega),if_pos c,ZxN hF h sm ep hp hh,ep,Int.toNat_natCast]
 ·obtain⟨p,ep,hp⟩:=a.nat;rw [e,decide_eq_false (by omega),Cq0,e,decide_eq_false (by omega),Cq0,e,decide_eq_true c,Cq1,if_neg (by omega),if_neg (by omega),if_pos c,ep,Xi hp]
  rfl
 ·obtain⟨p,ep,hp⟩:=a.nat;rw [e,decide_eq_false (by omega),Cq0,e,decide_eq_false (by omega),Cq0,e,decide_eq_false (by omega),Cq0,e,decide_eq_true c,Cq1,if_neg (by omega),if_neg (by omega),if_neg (by omega),if_pos c,ep,Xi hp]
  rfl
 ·obtain⟨k,ek,hk⟩:=a.nat;rw [e,decide_eq_false (by omega),Cq0,e,decide_eq_false (by omega),Cq0,e,decide_eq_false (by omega),Cq0,e,decide_eq_false (by omega),Cq0,e,decide_eq_true c,Cq1,if_neg (by omega),if_neg (by omega),if_neg (by omega),if_neg (by omega),ek,Zzc hF h sm hk,Int.toNat_natCast]
  rfl
end
end Go.Proofs.YtbmbbcaaimehkaaGreat
end
section
namespace Go.Proofs.YtbmbbcaaimehkaaGreat
open Go.Lf
theorem ZcU {w w':Zb} {p:Nat}:∀ {k:Nat},(∀ m,m < k ->E w' m p=E w m p) ->Xv w' p k=Xv w p k:=by
 intro k
 induction k with
 | zero=>intro _;rfl
 | succ k ih=>intro h;rw [JP,JP,ih fun m hm=>h m (by omega),h k (by omega)]
theorem Zma {w:Zb} {p:Nat}:∀ {k:Nat},(∀ m,m < k ->(E w m p).here=false) ->Xv w p k= []:=by
 intro k
 induction k with
 | zero=>intro _;rfl
 | succ k ih=>intro h;rw [JP,ih fun m hm=>h m (by omega),h k (by omega)];simp
theorem Zwo {w:Zb} {p m:Nat} (hh:(E w m p).here=true):∀ {k:Nat},m < k ->(∀ m',m' < k ->m' ≠ m ->(E w m' p).here=false) ->Xv w p k= [⟨(m:Int),true,(E w m p).age⟩]:=by
 intro k
 induction k with
 | zero=>intro h;omega
 | succ k ih=>
   intro hm ho;rw [JP];by_cases e:m=k
   ·subst e;rw [Zma fun m' hm'=>ho m' (by omega) (by omega),if_pos hh];rfl
   ·rw [ih (by omega) fun m' hm'=>ho m' (by omega),ho k (by omega) (fun z=>e z.symm)];simp
theorem Zqi {w:Zb} {p k:Nat} (h:Xv w p k= []):∀ m,m < k ->(E w m p).here=false:=by
 intro m hm;cases e:(E w m p).here with
 | false=>rfl
 | true=>
   have:YA.mk (m:Int) true (E w m p).age ∈ Xv w p k:=Zdy.2 ⟨m,hm,e,rfl⟩;rw [h] at this;cases this
theorem Zco (a b:List Zf) (p:Nat):Qj (a ++ b) p=Qj a p ++ Qj b p:=by unfold Qj;exact List.flatMap_append
theorem Zpc (x:Zf) (p:Nat):Qj [x] p=Ka x p:=by unfold Qj;simp
theorem ZmA {x:Zf} (h:x.kind ≠ 2) (p:Nat):Ka x p= []:=by unfold Ka;rw [if_neg h]
theorem ZDg {l:List Zf} (h:∀ x ∈ l,x.kind ≠ 2) (p:Nat):Qj l p= []:=by
 unfold Qj;exact List.flatMap_eq_nil_iff.2 fun x hx=>ZmA (h x hx) p
theorem Zbp {w:Zb} {k:Nat} (hk:k < w.qG.length):w.qG=w.qG.take k ++ ZP w k::w.qG.drop (k + 1):=by
 have e:ZP w k=w.qG[k]:=YZ hk;rw [e,List.getElem_cons_drop,List.take_append_drop]
theorem KO {w:Zb} {k:Nat} (hk:k < w.qG.length) (p:Nat):Qj w.qG p=Qj (w.qG.take k) p ++ Ka (ZP w k) p ++ Qj (w.qG.drop (k + 1)) p:=by
 have:=congrArg (fun l=>Qj l p) (Zbp hk);rw [this,Zco,show ZP w k::w.qG.drop (k + 1)= [ZP w k] ++ w.qG.drop (k + 1) from rfl,Zco,Zpc,List.append_assoc]
theorem Zf4 {w:Zb} {k:Nat} (p:Nat):Qj (YR w k).qG p=Qj (w.qG.take k) p ++ Qj (w.qG.drop (k + 1)) p:=Zco _ _ _
theorem ZtW {w:Zb} {p:Nat} {s:YA} (h:Xa w p= [s]):sp w p=s:=by unfold sp Kl;rw [h];rfl
theorem Zjh {w w':Zb} {p:Nat} (e1:Xv w' p w'.qQ.length=Xv w p w.qQ.length) (e2:Qj w'.qG p=Qj w.qG p):Xa w' p=Xa w p:=by unfold Xa;rw [e1,e2]
theorem Zcq {w w':Zb} {p:Nat} (h:Xa w' p=Xa w p):sp w' p=sp w p:=by unfold sp;rw [h]
structure Wm (w:Zb):Prop where
 shr:ShR w
 loc:∀ p,p < w.Zx.length ->(Xa w p).length=1
 tog:∀ p,p < w.Zx.length ->0 <=inn w p ->(sp w (inn w p).toNat).machine= (sp w p).machine∧(sp w (inn w p).toNat).here= (sp w p).here∧((sp w p).here=false ->ZkU w p (inn w p))
 ent:∀ m,m < w.qQ.length ->∀ p,p < w.Zx.length ->(E w m p).here=false ->RtX w p (E w m p).ZX (E w m p).age
 hel:∀ m,m < w.qQ.length ->∀ x ∈ ZH w m,Ji w m x∧sp w x.place.toNat= ⟨(m:Int),false,x.age⟩
 mai:∀ x ∈ w.qG,x.kind=1 ->Ji w x.ZX x.ZV
 ntd:∀ x ∈ w.qG,x.kind=3 ->RtX w x.place.toNat x.at_ x.age
theorem Wd.wm {w:Zb} (h:Wd w):Wm w:= ⟨h.shr,h.loc,h.tog,h.ent,h.hel,h.mai,h.ntd⟩
theorem Wm.wd {w:Zb} (h:Wm w) (hm:(msgs w).Perm (XG w.said.toNat)):Wd w:= ⟨h.shr,h.loc,h.tog,h.ent,h.hel,h.mai,h.ntd,hm⟩
structure Mv (w w':Zb):Prop where
 inl:w'.Zx.length=w.Zx.length
 enl:w'.qQ.length=w.qQ.length
 rt:∀ p,p < w.Zx.length ->∀ m a,RtX w p m a ->RtX w' p m a
theorem Mv.of {w w':Zb} (inl:w'.Zx.length=w.Zx.length) (enl:w'.qQ.length=w.qQ.length) (hE:∀ m p,p < w.Zx.length ->(E w m p).age <= (E w' m p).age)
 (hs:∀ p,p < w.Zx.length ->((sp w' p).machine= (sp w p).machine∧(sp w' p).age= (sp w p).age)∨∃ m:Nat,(sp w p).machine= (m:Int)∧(sp w p).age < (sp w' p).age∧(sp w p).age < (E w' m p).age):Mv w w':=by
 refine⟨inl,enl,fun p hp m a h=>?_⟩;obtain⟨h1,h2,h3,h4,h5,h6⟩:=h;have hE':=hE m.toNat p hp;rcases hs p hp with⟨e1,e2⟩ | ⟨k,e1,e2,e3⟩
 ·refine⟨h1,by omega,h3,by omega,fun q=>?_,fun q=>?_⟩
  ·rw [e1];exact h5 (by omega)
  ·have:=h6 (by omega);omega
 ·refine⟨h1,by omega,h3,by omega,fun q=>by omega,fun q=>?_⟩;by_cases c:a= (sp w p).age
  ·have:=h5 c;have:m.toNat=k:=by omega
   rw [this];omega
  ·have:=h6 c;omega
theorem Mv.ZV {w w':Zb} (v:Mv w w') {m:Int} {y:Zq} (h:Ji w m y):Ji w' m y:=by
 obtain⟨h1,h2,h3,h4,h5,h6⟩:=h;exact⟨h1,by rw [v.inl];exact h2,h3,by rw [v.enl];exact h4,v.rt _ (by omega) _ _ h5,h6⟩
theorem Mv.Xr {w w':Zb} (v:Mv w w') {x:Zf} (h:ZkV w x):ZkV w' x:=
 ⟨h.to1,by rw [v.enl];exact h.to2,h.Xp,fun i hi=>by have:=h.Uk i hi;unfold Zaj at this ⊢;rw [v.inl];exact this,fun q=>by have:=h.ntd q;rw [v.inl];exact this⟩
theorem Mv.same {w w':Zb} (inl:w'.Zx.length=w.Zx.length) (enl:w'.qQ=w.qQ) (hs:∀ p,p < w.Zx.length ->Xa w' p=Xa w p):Mv w w':=
 Mv.of inl (by rw [enl]) (fun m p _=>by unfold E row;rw [enl];exact Int.le_refl _) fun p hp=>.inl (by rw [Zcq (hs p hp)];exact⟨rfl,rfl⟩)
def owB (w:Zb):List (Int×Int):= (List.range w.qK.length).flatMap fun p=>(X9 w p).map fun n=>(n,(p:Int))
def owH (w:Zb):List (Int×Int):= (List.range w.qJ.length).flatMap fun m=>(ZH w m).map fun y=>(y.msg,y.place)
def owL (l:List Zf):List (Int×Int):= (l.filter fun x=>x.kind==1).map fun x=>(x.ZV.msg,x.ZV.place)
def owes (w:Zb):List (Int×Int):=owB w ++ owH w ++ owL w.qG
theorem ZpM (w:Zb):(owes w).map Prod.fst=msgs w:=by
 unfold owes msgs;rw [List.map_append,List.map_append];congr 1
 ·congr 1
  ·unfold owB;rw [List.map_flatMap];have:=Zed w.qK [] (fun l=>l);rw [List.flatMap_id'] at this;rw [← this];congr 1;funext p;rw [List.map_map];show(X9 w p).map (fun n=>n)=_;rw [List.map_id'];rfl
  ·unfold owH QY;rw [List.map_flatMap,← Zed w.qJ [] (fun x=>x.map fun y=>y.msg)];congr 1;funext p;rw [List.map_map];rfl
 ·unfold owL Jp;rw [List.map_map];rfl
theorem Zqz {α:Type} [BEq α] {f g:Nat ->List α} {p:Nat} (h:∀ k,k ≠ p ->f k=g k) (a:α):∀ {n:Nat},p < n ->((List.range n).flatMap f).count a + (g p).count a= ((List.range n).flatMap g).count a + (f p).count a:=by
 intro n
 induction n with
 | zero=>intro h;omega
 | succ n ih=>
   intro hp;rw [List.range_succ,List.flatMap_append,List.flatMap_append,List.count_append,List.count_append];simp only [List.flatMap_cons,List.flatMap_nil,List.append_nil];by_cases e:p=n
   ·subst e
    have:(List.range p).flatMap f= (List.range p).flatMap g:=by
     unfold List.flatMap;congr 1;exact List.map_congr_left fun k hk=>h k (by have:=List.mem_range.1 hk;omega)
    rw [this];omega
   ·have:=ih (by omega);rw [h n (fun z=>e z.symm)];omega
theorem Zdr (a b:List Zf):owL (a ++ b)=owL a ++ owL b:=by unfold owL;rw [List.filter_append,List.map_append]
theorem Zv5 {w:Zb} {k:Nat} (hk:k < w.qG.length):owL w.qG=owL (w.qG.take k) ++ owL [ZP w k] ++ owL (w.qG.drop (k + 1)):=by
 have:=congrArg owL (Zbp hk);rw [this,Zdr,show ZP w k::w.qG.drop (k + 1)= [ZP w k] ++ w.qG.drop (k + 1) from rfl,Zdr,List.append_assoc]
theorem ZpN {x:Zf} (h:x.kind=1):owL [x]= [(x.ZV.msg,x.ZV.place)]:=by unfold owL;simp [h]
theorem Ze9 {x:Zf} (h:x.kind ≠ 1):owL [x]= []:=by unfold owL;simp [h]
theorem Zua (w w':Zb) {p:Nat} (hp:p < w.qK.length) {l:List Int} (h:w'.qK=Yl w.qK (p:Int) (X9 w p ++ l)) (a:Int×Int):(owB w').count a= (owB w).count a + (l.map fun n=>(n,(p:Int))).count a:=by
 have hb:∀ k,X9 w' k=if k=p then X9 w p ++ l else X9 w k:=fun k=>by unfold X9;rw [h];exact Jj hp
 have:=Zqz (f:=fun k=>(X9 w' k).map fun n=>(n,(k:Int))) (g:=fun k=>(X9 w k).map fun n=>(n,(k:Int))) (p:=p) (fun k hk=>by rw [hb,if_neg hk]) a (n:=w.qK.length) hp;rw [hb,if_pos rfl,List.map_append,List.count_append] at this;have e:w'.qK.length=w.qK.length:=by rw [h,Xt]
 unfold owB;rw [e];omega
theorem Zt9 (w w':Zb) {m:Nat} (hm:m < w.qJ.length) {l:List Zq} (h:w'.qJ=Yl w.qJ (m:Int) l) (a:Int×Int):(owH w').count a + ((ZH w m).map fun y=>(y.msg,y.place)).count a= (owH w).count a + (l.map fun y=>(y.msg,y.place)).count a:=by
 have hb:∀ k,ZH w' k=if k=m then l else ZH w k:=fun k=>by unfold ZH;rw [h];exact Jj hm
 have:=Zqz (f:=fun k=>(ZH w' k).map fun y=>(y.msg,y.place)) (g:=fun k=>(ZH w k).map fun y=>(y.msg,y.place)) (p:=m) (fun k hk=>by rw [hb,if_neg hk]) a (n:=w.qJ.length) hm;rw [hb,if_pos rfl] at this;have e:w'.qJ.length=w.qJ.length:=by rw [h,Xt]
 unfold owH;rw [e];omega
theorem Zm7 {w w':Zb} (e:w'.Zx=w.Zx) (q:Int):inn w' q=inn w q:=by unfold inn;rw [e]
theorem ZMO {w w':Zb} (e:w'.Zx=w.Zx) (q:Int):∀ k,up w' k q=up w k q:=by
 intro k
 induction k with
 | zero=>rfl
 | succ k ih=>rw [Qp,Qp,ih,Zm7 e]
theorem Inn.eq {w w':Zb} (h:Inn w) (e:w'.Zx=w.Zx):Inn w':=
 ⟨fun p hp=>by have:=h.rng p (by rw [← e];exact hp);unfold okN at this ⊢;rw [Zm7 e,e];exact this,fun p hp=>by rw [ZMO e,e];exact h.acy p (by rw [← e];exact hp)⟩
theorem Zvu {w w':Zb} (e:w'.qQ=w.qQ) (m p:Nat):E w' m p=E w m p:=by unfold E row;rw [e]
theorem ZeI.eq {w w':Zb} (e:w'.qQ=w.qQ) {m p:Nat} (h:ZeI w m p):ZeI w' m p:=by
 unfold ZeI at h ⊢;rw [Zvu e,e];exact h
theorem Wm.upd {w w':Zb} (h:Wm w) (Zh3:w'.Zx=w.Zx) (Zh4:w'.qQ=w.qQ) (hbx:w'.qK.length=w.qK.length) (hhd:w'.qJ.length=w.qJ.length) (hs1:0 <=w'.said) (hs2:w'.said <=40)
 (ZUr:∀ p,Qj w'.qG p=Qj w.qG p) (hk2:∀ x ∈ w.qG,x.kind=2 ->x ∈ w'.qG)
 (hlet:∀ x ∈ w'.qG,x ∈ w.qG∨(ZkV w x∧(x.kind=1 ->Ji w x.ZX x.ZV)∧(x.kind=3 ->RtX w x.place.toNat x.at_ x.age)))
 (ZUK:∀ m,m < w.qQ.length ->∀ y ∈ ZH w' m,y ∈ ZH w m∨(Ji w m y∧sp w y.place.toNat= ⟨(m:Int),false,y.age⟩)):Wm w':=by
 have hloc:∀ p,Xa w' p=Xa w p:=fun p=>Zjh (by rw [Zh4];exact ZcU fun m _=>Zvu Zh4 m p) (ZUr p)
 have v:Mv w w':=Mv.same (by rw [Zh3]) Zh4 fun p _=>hloc p
 have hsp:∀ p,sp w' p=sp w p:=fun p=>Zcq (hloc p)
 have S:=h.shr.Kv;refine⟨⟨⟨by rw [Zh4];exact S.m1,by rw [Zh4];exact S.m2,by rw [Zh3];exact S.p1,by rw [Zh3];exact S.p2,by rw [hbx,Zh3];exact S.bx,by rw [hhd,Zh4];exact S.hd,by rw [Zh4,Zh3];exact S.rw_⟩,h.shr.inn.eq Zh3,hs1,hs2,fun m hm p hp=>(h.shr.ent m (by rw [← Zh4];exact hm) p (by rw [← Zh3];exact hp)).eq Zh4,fun x hx=>?_⟩,fun p hp=>?_,fun p hp hq=>?_,fun m hm p hp hh=>?_,fun m hm y hy=>?_,fun x hx hk=>?_,fun x hx hk=>?_⟩
 ·rcases hlet x hx with q | q
  ·exact v.Xr (h.shr.Xr x q)
  ·exact v.Xr q.1
 ·rw [hloc];exact h.loc p (by rw [← Zh3];exact hp)
 ·rw [Zm7 Zh3] at hq ⊢;rw [hsp,hsp];have:=h.tog p (by rw [← Zh3];exact hp) hq;refine⟨this.1,this.2.1,fun z=>?_⟩;obtain⟨x,hx,k,a,b⟩:=this.2.2 z;exact⟨x,hk2 x hx k,k,a,b⟩
 ·rw [Zvu Zh4] at hh ⊢;exact v.rt p (by rw [← Zh3];exact hp) _ _ (h.ent m (by rw [← Zh4];exact hm) p (by rw [← Zh3];exact hp) hh)
 ·rw [Zh4] at hm;rw [hsp];rcases ZUK m hm y hy with q | q
  ·have:=h.hel m hm y q;exact⟨v.ZV this.1,this.2⟩
  ·exact⟨v.ZV q.1,q.2⟩
 ·rcases hlet x hx with q | q
  ·exact v.ZV (h.mai x q hk)
  ·exact v.ZV (q.2.1 hk)
 ·rcases hlet x hx with q | q
  ·have hn:= (h.shr.Xr x q).ntd hk;exact v.rt _ (by omega) _ _ (h.ntd x q hk)
  ·have hn:=q.1.ntd hk;exact v.rt _ (by omega) _ _ (q.2.2 hk)
section
variable {w:Zb}
theorem Zow (h:Wm w) {k:Nat} (hk:k < w.qG.length) (h2:(ZP w k).kind ≠ 2):Wm (YR w k):=by
 refine h.upd rfl rfl rfl rfl h.shr.sd1 h.shr.sd2 (fun p=>?_) (fun x hx hk2=>?_) (fun x hx=>.inl (ZgY hx)) (fun m _ y hy=>.inl hy)
 ·rw [KO hk,ZmA h2,Zf4,List.append_nil]
 ·rw [Zbp hk] at hx;rcases List.mem_append.1 hx with q | q
  ·exact List.mem_append.2 (.inl q)
  ·rcases List.mem_cons.1 q with r | r
   ·rw [r] at hk2;exact absurd hk2 h2
   ·exact List.mem_append.2 (.inr r)
theorem Zt2 (h:Wm w) (hs:w.said < 40):Wm (Ze1 w):=
 h.upd rfl rfl rfl rfl (by have:=h.shr.sd1;show 0 <=w.said + 1;omega) (by show w.said + 1 <=40;omega) (fun _=>rfl) (fun x hx _=>hx) (fun x hx=>.inl hx) (fun m _ y hy=>.inl hy)
structure Rtd (w:Zb) (m:Nat) (x:Zq) (now:Bool):Prop where
 hm:m < w.qQ.length
 pl:J9 x.place w.Zx.length
 fr:J9 x.from_ w.qQ.length
 old:now=false ->Ji w m x
 new:now=true ->x.age=0∧x.hops=0
theorem Wm.Zf8 (h:Wm w) {p:Nat} (hp:p < w.Zx.length):(sp w p).age <=30:=Proofs.YtbmbbcaaimehkaaGreat.Zf8 h.shr hp (h.loc p hp)
theorem Zv7 {to:Int} {y:Zq} (h1:0 <=to) (h2:to < (w.qQ.length:Int)):ZkV w (Zhy to y):=
 ⟨h1,h2,.inl ⟨rfl,rfl,rfl,rfl,rfl,rfl⟩,fun i hi=>absurd hi (Nat.not_lt_zero i),fun q=>absurd (show(1:Int)=3 from q) (by omega)⟩
theorem Zv6 {to p at_ age:Int} (h1:J9 to w.qQ.length) (h2:J9 p w.Zx.length) (h3:at_ ≠ to):ZkV w (Zuc to p at_ age):=
 ⟨h1.1,h1.2,.inr (.inr ⟨rfl,rfl,rfl,rfl⟩),fun i hi=>absurd hi (Nat.not_lt_zero i),fun _=>⟨h2.1,h2.2,h3⟩⟩
theorem Zpw (h:Wm w) {m:Nat} {x:Zq} {now:Bool} (r:Rtd w m x now):Wm (QC w m x now).1:=by
 obtain⟨p,ep,hp⟩:=r.pl.nat;have hm:=r.hm;have S:=h.shr.Kv;unfold QC;rw [ep,Int.toNat_natCast];by_cases hh:(E w m p).here=true
 ·rw [if_pos hh];exact h.upd rfl rfl (Xt _ _ _) rfl h.shr.sd1 h.shr.sd2 (fun _=>rfl) (fun x hx _=>hx) (fun x hx=>.inl hx) (fun m _ y hy=>.inl hy)
 have hh':(E w m p).here=false:=by simpa using hh
 rw [if_neg hh];have re:=h.ent m hm p hp hh';by_cases hc:now=false∧(E w m p).age <=x.age
 ·rw [if_pos hc];have ho:=r.old hc.1;obtain⟨o1,o2,o3,o4,o5,o6,o7⟩:=id ho;refine h.upd rfl rfl rfl (Xt _ _ _) h.shr.sd1 h.shr.sd2 (fun _=>rfl) (fun x hx _=>hx) (fun x hx=>.inl hx) (fun m' hm' y hy=>?_);have hb:ZH {w with qJ:=Yl w.qJ (m:Int) (ZH w m ++ [x])} m'=if m'=m then ZH w m ++ [x] else ZH w m':=Jj (by rw [S.hd];exact hm)
  rw [hb] at hy;by_cases e:m'=m
  ·rw [if_pos e] at hy;rcases List.mem_append.1 hy with q | q
   ·rw [e];exact .inl q
   ·rw [List.mem_singleton.1 q,e];refine .inr ⟨ho,?_⟩;rw [ep,Int.toNat_natCast] at o5 ⊢;obtain⟨a1,a2,a3,a4,a5,a6⟩:=o5;rw [Int.toNat_natCast] at a6;have e1:x.age= (sp w p).age:=Classical.byContradiction fun z=>by have:=a6 z;omega
    have e2:=a5 e1
    have e3:(sp w p).here=false:=by
     rcases Zcr (h.loc p hp) with⟨k,hk,he,es⟩ | ⟨y,hy,hk,i,hi,hpi,es⟩
     ·rw [es] at e2;have:m=k:=by have:(m:Int)= (k:Int):=e2;omega
      rw [← this,hh'] at he;cases he
     ·rw [es]
    rw [e1,e2,← e3]
  ·rw [if_neg e] at hy;exact .inl hy
 ·rw [if_neg hc];have ha:=h.Zf8 hp;obtain⟨a1,a2,a3,a4,a5,a6⟩:=id re;have hE:=h.shr.ent m hm p hp;refine h.upd rfl rfl rfl rfl h.shr.sd1 h.shr.sd2 (fun q=>?_) (fun x hx _=>List.mem_append.2 (.inl hx)) (fun y hy=>?_) (fun m _ y hy=>.inl hy)
  ·show Qj (w.qG ++ _::told (m:Int) x (E w m p) now) q=_
   have e0:Qj (Zhy (E w m p).ZX (Zee x (E w m p))::told (m:Int) x (E w m p) now) q= []:=by
    apply ZDg;intro y hy;rcases List.mem_cons.1 hy with z | z
    ·rw [z];show(1:Int) ≠ 2;omega
    ·unfold told at z;split at z
     ·rw [List.mem_singleton.1 z];show(3:Int) ≠ 2;omega
     ·cases z
   rw [Zco,e0,List.append_nil]
  ·rcases List.mem_append.1 hy with q | q
   ·exact .inl q
   refine .inr ?_;rcases List.mem_cons.1 q with z | z
   ·subst z;refine⟨Zv7 a3 a4,fun _=>?_,fun q=>absurd (show(1:Int)=3 from q) (by omega)⟩;show Ji w (E w m p).ZX (Zee x (E w m p));refine⟨r.pl.1,r.pl.2,r.fr.1,r.fr.2,?_,?_,?_⟩
    ·show RtX w x.place.toNat (E w m p).ZX (E w m p).age;rw [ep,Int.toNat_natCast];exact re
    ·show 1 <=x.hops + 1;cases hn:now with
     | true=>have:=r.new hn;omega
     | false=>have:= (r.old hn).2.2.2.2.2.1;omega
    ·show x.hops + 1 <=Y2 (1 + (E w m p).age);rw [Int.add_comm 1,Zbq a1 (by omega)];cases hn:now with
     | true=>have:=r.new hn;omega
     | false=>
       have o:=r.old hn;have o1:=o.2.2.2.2.1.1;have o2:=o.2.2.2.2.1.2.1;have o3:=o.2.2.2.2.2.2;rw [ep,Int.toNat_natCast] at o2;rw [Int.add_comm,Zbq o1 (by omega)] at o3;have:¬ (E w m p).age <=x.age:=fun z=>hc ⟨hn,z⟩
       omega
   ·unfold told at z;split at z
    ·rename_i ht;rw [List.mem_singleton.1 z];refine⟨Zv6 r.fr r.pl (fun q=>ht.2.2 q.symm),fun q=>absurd (show(3:Int)=1 from q) (by omega),fun _=>?_⟩;show RtX w x.place.toNat (E w m p).ZX (E w m p).age;rw [ep,Int.toNat_natCast];exact re
    ·cases z
theorem ZDs (m:Int) (x:Zq) (e:Zz) (now:Bool):owL (told m x e now)= []:=by
 unfold told;split
 ·exact Ze9 (by show(3:Int) ≠ 1;omega)
 ·rfl
theorem Zpx (h:Wm w) {m:Nat} {x:Zq} {now:Bool} (r:Rtd w m x now) (a:Int×Int):(owes (QC w m x now).1).count a= (owes w).count a + [(x.msg,x.place)].count a:=by
 obtain⟨p,ep,hp⟩:=r.pl.nat;have S:=h.shr.Kv;unfold QC owes;rw [ep,Int.toNat_natCast];simp only [List.count_append];by_cases hh:(E w m p).here=true
 ·rw [if_pos hh];have:=Zua w {w with qK:=Yl w.qK (p:Int) (X9 w p ++ [x.msg])} (p:=p) (by rw [S.bx];exact hp) rfl a;simp only [List.map_cons,List.map_nil] at this;rw [this];show _ + (owH w).count a + (owL w.qG).count a=_;omega
 rw [if_neg hh];by_cases hc:now=false∧(E w m p).age <=x.age
 ·rw [if_pos hc];have:=Zt9 w {w with qJ:=Yl w.qJ (m:Int) (ZH w m ++ [x])} (m:=m) (by rw [S.hd];exact r.hm) rfl a;simp only [List.map_append,List.count_append,List.map_cons,List.map_nil,ep] at this;show(owB w).count a + (owH {w with qJ:=Yl w.qJ (m:Int) (ZH w m ++ [x])}).count a + (owL w.qG).count a=_;omega
 ·rw [if_neg hc];show(owB w).count a + (owH w).count a + (owL (w.qG ++ (Zhy _ _::told _ _ _ _))).count a=_;rw [Zdr,show(Zhy (E w m p).ZX (Zee x (E w m p))::told (m:Int) x (E w m p) now)= [Zhy (E w m p).ZX (Zee x (E w m p))] ++ told (m:Int) x (E w m p) now from rfl,Zdr,ZDs,ZpN rfl,List.append_nil,List.count_append];show _ + (_ + List.count a [(x.msg,x.place)])=_;rw [ep];omega
end
end Go.Proofs.YtbmbbcaaimehkaaGreat
end
section
namespace Go.Proofs.YtbmbbcaaimehkaaGreat
open Go.Lf
theorem Zsx {w w':Zb} {p:Nat}:∀ {k:Nat},(∀ m,m < k ->(E w' m p=E w m p)∨((E w' m p).here=false∧(E w m p).here=false)) ->Xv w' p k=Xv w p k:=by
 intro k
 induction k with
 | zero=>intro _;rfl
 | succ k ih=>
   intro h;rw [JP,JP,ih fun m hm=>h m (by omega)];rcases h k (by omega) with e | ⟨e1,e2⟩
   ·rw [e]
   ·rw [e1,e2];simp
section
variable {w:Zb}
theorem ZDM (h:Wm w) {m p:Nat} (hm:m < w.qQ.length) (hp:p < w.Zx.length) {at_ age:Int} (hh:(E w m p).here=false) (ha:(E w m p).age < age) (hr:RtX w p at_ age) (hn:at_ ≠ (m:Int)):Wm (setW w m p ⟨false,at_,age⟩):=by
 have S:=h.shr.Kv;have eE:=ZoW S hm hp ⟨false,at_,age⟩;have hag:=h.Zf8 hp;have el:(setW w m p ⟨false,at_,age⟩).qQ.length=w.qQ.length:=Ze0 _ _ _ _
 have hloc:∀ q,Xa (setW w m p ⟨false,at_,age⟩) q=Xa w q:=fun q=>by
  refine Zjh ?_ rfl;rw [el];refine Zsx fun m' _=>?_
  rw [eE];by_cases c:m'=m∧q=p
  ·rw [if_pos c,c.1,c.2];exact .inr ⟨rfl,hh⟩
  ·rw [if_neg c];exact .inl rfl
 have hsp:∀ q,sp (setW w m p ⟨false,at_,age⟩) q=sp w q:=fun q=>Zcq (hloc q)
 have v:Mv w (setW w m p ⟨false,at_,age⟩):=Mv.of rfl el (fun m' q _=>by
  rw [eE];by_cases c:m'=m∧q=p
  ·rw [if_pos c,c.1,c.2];exact Int.le_of_lt ha
  ·rw [if_neg c];exact Int.le_refl _) fun q _=>.inl (by rw [hsp];exact⟨rfl,rfl⟩)
 refine⟨⟨S.setW hm _,h.shr.inn.eq rfl,h.shr.sd1,h.shr.sd2,fun m' hm' q hq=>?_,fun x hx=>v.Xr (h.shr.Xr x hx)⟩,fun q hq=>by rw [hloc];exact h.loc q hq,fun q hq hi=>?_,fun m' hm' q hq hh'=>?_,fun m' hm' y hy=>?_,fun x hx hk=>v.ZV (h.mai x hx hk),fun x hx hk=>?_⟩
 ·rw [el] at hm';unfold ZeI;rw [eE,el];by_cases c:m'=m∧q=p
  ·rw [if_pos c,c.1];exact⟨hr.1,by have:=hr.2.1;show age <=30;omega,hr.2.2.1,hr.2.2.2.1,⟨fun z=>absurd z (by simp),fun z=>absurd z hn⟩⟩
  ·rw [if_neg c];exact h.shr.ent m' hm' q hq
 ·rw [hsp,hsp];exact h.tog q hq hi
 ·rw [el] at hm';rw [eE] at hh' ⊢;by_cases c:m'=m∧q=p
  ·rw [if_pos c,c.2];exact v.rt p hp _ _ hr
  ·rw [if_neg c] at hh' ⊢;exact v.rt q hq _ _ (h.ent m' hm' q hq hh')
 ·rw [el] at hm';have:=h.hel m' hm' y hy;rw [hsp];exact⟨v.ZV this.1,this.2⟩
 ·have hn:= (h.shr.Xr x hx).ntd hk;exact v.rt _ (by omega) _ _ (h.ntd x hx hk)
theorem Zfj {p:Nat} {v:Int} (hp:p < w.Zx.length) (q:Nat):inn (Zam w (p:Int) v) (q:Int)=if q=p then v else inn w (q:Int):=by
 unfold inn Zam;rw [Int.toNat_natCast];exact Jj hp
theorem Ze3 (p v:Int):(Zam w p v).Zx.length=w.Zx.length:=Xt _ _ _
theorem ZmF (hi:Inn w) {p:Nat} {v:Int} (hp:p < w.Zx.length) {x:Nat} (hx:x < w.Zx.length):∀ j,(∀ i,i < j ->up w i (x:Int) ≠ (p:Int)) ->up (Zam w (p:Int) v) j (x:Int)=up w j (x:Int):=by
 intro j
 induction j with
 | zero=>intro _;rfl
 | succ j ih=>
   intro h;have e:=ih fun i hi=>h i (by omega)
   rw [Qp,Qp,e];by_cases hn:up w j (x:Int) < 0
   ·rw [if_pos hn,if_pos hn]
   ·rw [if_neg hn,if_neg hn];obtain⟨q,eq,hq⟩:=JU (hi.up (q:= (x:Int)) ⟨by omega,by omega⟩ j) hn;rw [eq,Zfj hp,if_neg (fun z=>h j (by omega) (by rw [eq,z]))]
theorem ZCK (hi:Inn w) {p q:Nat} (hp:p < w.Zx.length) (hq:q < w.Zx.length) (hn:¬ Wth w p q):Inn (Zam w (p:Int) (q:Int)):=by
 have el:=Ze3 (w:=w) (p:Int) (q:Int)
 have hr:∀ x:Nat,x < (Zam w (p:Int) (q:Int)).Zx.length ->okN (Zam w (p:Int) (q:Int)) (inn (Zam w (p:Int) (q:Int)) (x:Int)):=fun x hx=>by
  rw [el] at hx;rw [Zfj hp];unfold okN;rw [el];by_cases e:x=p
  ·rw [if_pos e];omega
  ·rw [if_neg e];exact hi.rng x hx
 refine⟨hr,(ZiB hr).2 fun x hx j hj hc=>?_⟩;rw [el] at hx hj;have old:∀ i,up (Zam w (p:Int) (q:Int)) i (q:Int)=up w i (q:Int):=fun i=>ZmF hi hp hq i fun k _ z=>hn ⟨k,z⟩
 by_cases hz:∃ i,i < j + 1∧up w i (x:Int)= (p:Int)
 ·obtain⟨i,hil,e⟩:=hz;obtain⟨n,hnn,hcn,hlt⟩:=Qd (c:=fun i=>up w i (x:Int)= (p:Int)) e;have e1:up (Zam w (p:Int) (q:Int)) n (x:Int)= (p:Int):=by rw [ZmF hi hp hx n hlt];exact hcn
  have e2:up (Zam w (p:Int) (q:Int)) (j + 1) (p:Int)= (p:Int):=by
   have t:=up_add (Zam w (p:Int) (q:Int)) n (j + 1) (x:Int);rw [e1,Nat.add_comm,up_add,hc,e1] at t;exact t.symm
  have e3:up (Zam w (p:Int) (q:Int)) (j + 1) (p:Int)=up (Zam w (p:Int) (q:Int)) j (q:Int):=by
   show(if(p:Int) < 0 then _ else up _ j (inn _ (p:Int)))=_;rw [if_neg (by omega),Zfj hp,if_pos rfl]
  rw [e3,old] at e2;exact hn ⟨j,e2⟩
 ·rw [ZmF hi hp hx _ fun i h q=>hz ⟨i,h,q⟩] at hc;exact(ZiB hi.rng).1 hi.acy x hx j hj hc
theorem Zyl (h:Wm w) {p:Nat} {v:Int} (hp:p < w.Zx.length) (hi:Inn (Zam w (p:Int) v)) (ht:0 <=v ->(sp w v.toNat).machine= (sp w p).machine∧(sp w v.toNat).here=true∧(sp w p).here=true):Wm (Zam w (p:Int) v):=by
 have el:=Ze3 (w:=w) (p:Int) v;have S:=h.shr.Kv;have v':Mv w (Zam w (p:Int) v):=Mv.same el rfl fun _ _=>rfl
 refine⟨⟨⟨S.m1,S.m2,by rw [el];exact S.p1,by rw [el];exact S.p2,by rw [el];exact S.bx,S.hd,by rw [el];exact S.rw_⟩,hi,h.shr.sd1,h.shr.sd2,fun m hm q hq=>h.shr.ent m hm q (by rw [← el];exact hq),fun x hx=>v'.Xr (h.shr.Xr x hx)⟩,fun q hq=>h.loc q (by rw [← el];exact hq),fun q hq hz=>?_,fun m hm q hq hh=>v'.rt q (by rw [← el];exact hq) _ _ (h.ent m hm q (by rw [← el];exact hq) hh),fun m hm y hy=>⟨v'.ZV (h.hel m hm y hy).1,(h.hel m hm y hy).2⟩,fun x hx hk=>v'.ZV (h.mai x hx hk),fun x hx hk=>?_⟩
 ·rw [el] at hq;rw [Zfj hp] at hz ⊢;by_cases e:q=p
  ·rw [if_pos e] at hz ⊢;have:=ht hz;rw [e];exact⟨this.1,this.2.1.trans this.2.2.symm,fun z=>by rw [show sp (Zam w (p:Int) v) p=sp w p from rfl,this.2.2] at z;cases z⟩
  ·rw [if_neg e] at hz ⊢;exact h.tog q hq hz
 ·have hn:= (h.shr.Xr x hx).ntd hk;exact v'.rt _ (by omega) _ _ (h.ntd x hx hk)
theorem ZHO (h:Wm w) {p:Nat} (hp:p < w.Zx.length):∀ (j q:Nat),q < w.Zx.length ->up w j (q:Int)= (p:Int) ->(sp w q).machine= (sp w p).machine∧(sp w q).here= (sp w p).here:=by
 intro j
 induction j with
 | zero=>intro q hq e;have:q=p:=by have:(q:Int)= (p:Int):=e;omega
         rw [this];exact⟨rfl,rfl⟩
 | succ j ih=>
   intro q hq e
   have e':up w j (inn w (q:Int))= (p:Int):=by
    have:(if(q:Int) < 0 then(q:Int) else up w j (inn w (q:Int)))= (p:Int):=e;rw [if_neg (by omega)] at this;exact this
   have h0:¬ inn w (q:Int) < 0:=fun z=>by rw [ZmG z] at e';omega
   obtain⟨r,er,hr⟩:=JU (h.shr.inn.rng q hq) h0;have t:=h.tog q hq (by omega);rw [er] at e';have i:=ih r hr e';rw [er,Int.toNat_natCast] at t;exact⟨t.1 ▸ i.1,t.2.1 ▸ i.2⟩
theorem Zpd {x:Zf} (hk:x.kind=2) (nd:x.qV.Nodup) {i p:Nat} (hi:i < x.qV.length) (hp:x.qV.getD i 0= (p:Int)):Ka x p= [⟨x.ZX,false,x.Yd.getD i 0⟩]:=by
 unfold Ka;rw [if_pos hk];have hl:=Zd7 x p x.qV.length (Nat.le_refl _);rw [List.take_of_length_le (Nat.le_refl _)] at hl;have hm:(p:Int) ∈ x.qV:=by rw [← hp,YZ hi];exact List.getElem_mem hi
 have hc:=List.nodup_iff_count.1 nd (p:Int);have hc2:=List.count_pos_iff.2 hm;obtain⟨s,e⟩:=List.length_eq_one_iff.1 (show(WH x p x.qV.length).length=1 by omega);have:YA.mk x.ZX false (x.Yd.getD i 0) ∈ WH x p x.qV.length:=ZaV.2 ⟨i,hi,hp,rfl⟩;rw [e] at this ⊢;rw [List.mem_singleton.1 this]
theorem ZlO {x:Zf} {p:Nat} (hm:(p:Int) ∉ x.qV):Ka x p= []:=by
 unfold Ka;split
 ·apply List.eq_nil_iff_forall_not_mem.2;intro s hs;obtain⟨i,hi,hp,_⟩:=ZaV.1 hs;exact hm (by rw [← hp,YZ hi];exact List.getElem_mem hi)
 ·rfl
theorem ZaS (hi:Inn w) {p q:Nat}:(q:Int) ∈ Yg w p↔q < w.Zx.length∧Wth w p q:=by
 rw [Zf2 hi]
 exact⟨fun⟨x,e,hx,hw⟩=>by have:q=x:=by omega
                          subst this;exact⟨hx,hw⟩,fun⟨a,b⟩=>⟨q,rfl,a,b⟩⟩
end
end Go.Proofs.YtbmbbcaaimehkaaGreat
end
section
namespace Go.Proofs.YtbmbbcaaimehkaaGreat
open Go.Lf
section
variable {w:Zb}
theorem Wm.Wt (h:Wm w) {p:Nat} (hp:p < w.Zx.length) (hh:(sp w p).here=true):sp w p= ⟨(mOf w p:Int),true,(E w (mOf w p) p).age⟩∧mOf w p < w.qQ.length∧(E w (mOf w p) p).here=true:=by
 rcases Zcr (h.loc p hp) with⟨m,hm,he,e⟩ | ⟨x,hx,hk,i,hi,hpi,e⟩
 ·unfold mOf;rw [e];exact⟨by simp,by simpa using hm,by simpa using he⟩
 ·rw [e] at hh;cases hh
theorem Wm.only (h:Wm w) {p m:Nat} (hp:p < w.Zx.length) (hm:m < w.qQ.length) (hh:(E w m p).here=true):sp w p= ⟨(m:Int),true,(E w m p).age⟩∧Xv w p w.qQ.length= [⟨(m:Int),true,(E w m p).age⟩]∧Qj w.qG p= []∧∀ m',m' < w.qQ.length ->m' ≠ m ->(E w m' p).here=false:=by
 have hl:=h.loc p hp;have h1:YA.mk (m:Int) true (E w m p).age ∈ Xv w p w.qQ.length:=Zdy.2 ⟨m,hm,hh,rfl⟩
 have h2:(Xv w p w.qQ.length).length=1∧(Qj w.qG p).length=0:=by
  unfold Xa at hl;rw [List.length_append] at hl;have:=List.length_pos_of_mem h1;omega
 obtain⟨s,e⟩:=List.length_eq_one_iff.1 h2.1;have e3:=List.length_eq_zero_iff.1 h2.2;rw [e] at h1;have e4:=List.mem_singleton.1 h1;have e5:sp w p=s:=ZtW (by unfold Xa;rw [e,e3];rfl);refine⟨by rw [e5,e4],by rw [e,e4],e3,fun m' hm' hne=>?_⟩;cases q:(E w m' p).here with
 | false=>rfl
 | true=>
   have:YA.mk (m':Int) true (E w m' p).age ∈ Xv w p w.qQ.length:=Zdy.2 ⟨m',hm',q,rfl⟩;rw [e,← e4] at this;have:=List.mem_singleton.1 this;injection this with a b c
   exact absurd (by omega) hne
structure Trv (w:Zb) (p:Nat) (to:Int):Prop where
 hp:p < w.Zx.length
 here:(sp w p).here=true
 off:(sp w p).machine ≠ to
 ZX:J9 to w.qQ.length
 old:∀ q:Nat,(q:Int) ∈ Yg w p ->(sp w q).age < 30
variable {p:Nat} {to:Int}
theorem Zdn (h:Wm w) (t:Trv w p to) {q:Nat} (hq:(q:Int) ∈ Yg w p):q < w.Zx.length∧sp w q= ⟨(mOf w p:Int),true,(E w (mOf w p) q).age⟩∧(E w (mOf w p) q).here=true:=by
 obtain⟨hql,j,e⟩:= (ZaS h.shr.inn).1 hq;have s:=ZHO h t.hp j q hql e;have a:=h.Wt t.hp t.here;have b:=h.Wt hql (s.2.trans t.here);have em:mOf w q=mOf w p:=by unfold mOf;rw [s.1]
 rw [em] at b;exact⟨hql,b.1,b.2.2⟩
theorem ZvN (h:Wm w) (t:Trv w p to):(p:Int) ∈ Yg w p:= (ZaS h.shr.inn).2 ⟨t.hp,0,rfl⟩
theorem ZBc (h:Wm w) (t:Trv w p to):GoB w (mOf w p) (Yg w p):=by
 have a:=h.Wt t.hp t.here;refine⟨h.shr.Kv,a.2.1,Zcn w p,WG w p,fun q hq=>?_⟩;obtain⟨k,rfl,hk⟩:= (Zcn w p q hq).nat;have:=h.shr.ent _ a.2.1 k hk;rw [Int.toNat_natCast];exact⟨this.1,this.2.1⟩
theorem Zf7 (h:Wm w) (t:Trv w p to) (m' q:Nat):E (U0 w p to).1 m' q=if m'=mOf w p∧(q:Int) ∈ Yg w p then⟨false,to,(E w (mOf w p) q).age + 1⟩ else E w m' q:=by
 have:=ZHg (to:=to) (ZBc h t) (Yg w p).length (Nat.le_refl _) m' q;rw [List.take_of_length_le (Nat.le_refl _)] at this;exact this
theorem ZeY (w:Zb) (p:Nat) (to:Int):(U0 w p to).1.qQ.length=w.qQ.length:= (Zel w _ to _ _).2.2.2.2.2
theorem ZiK (w:Zb) (p:Nat) (to:Int):(U0 w p to).1.Zx.length=w.Zx.length:=Xt _ _ _
def Zhg (w:Zb) (p:Nat) (to:Int):Zf:=Zum to (Yg w p) ((Yg w p).map (goA w (mOf w p)))
theorem Zdm (w:Zb) (p:Nat) (to:Int):(U0 w p to).1.qG=w.qG ++ [Zhg w p to]:=rfl
theorem ZvP (q:Nat):Ka (Zhg w p to) q=if(q:Int) ∈ Yg w p then [⟨to,false,(E w (mOf w p) q).age + 1⟩] else []:=by
 by_cases hq:(q:Int) ∈ Yg w p
 ·rw [if_pos hq];obtain⟨i,hi,e⟩:=List.getElem_of_mem hq;have:=Zpd (x:=Zhg w p to) rfl (WG w p) (i:=i) (p:=q) hi (by rw [← e];exact YZ hi);rw [this];show [YA.mk to false (((Yg w p).map (goA w (mOf w p))).getD i 0)]=_;rw [YZ (by rw [List.length_map];exact hi),List.getElem_map,e];unfold goA;rw [Int.toNat_natCast]
 ·rw [if_neg hq];exact ZlO hq
theorem ZlQ (h:Wm w) (t:Trv w p to) {q:Nat} (hq:q < w.Zx.length):Xa (U0 w p to).1 q=if(q:Int) ∈ Yg w p then [⟨to,false,(E w (mOf w p) q).age + 1⟩] else Xa w q:=by
 have a:=h.Wt t.hp t.here;unfold Xa;rw [Zdm,Zco,Zpc,ZvP,ZeY];by_cases c:(q:Int) ∈ Yg w p
 ·have b:=Zdn h t c;have o:=h.only hq a.2.1 b.2.2
  have e0:Xv (U0 w p to).1 q w.qQ.length= []:=Zma fun m' hm'=>by
   rw [Zf7 h t];by_cases e:m'=mOf w p∧(q:Int) ∈ Yg w p
   ·rw [if_pos e]
   ·rw [if_neg e];exact o.2.2.2 m' hm' fun z=>e ⟨z,c⟩
  rw [if_pos c,if_pos c,o.2.2.1,e0]
  rfl
 ·rw [if_neg c,if_neg c,List.append_nil,ZcU (w:=w) fun m' _=>by rw [Zf7 h t,if_neg fun z=>c z.2]]
theorem ZeX (h:Wm w) (t:Trv w p to) {q:Nat} (hq:q < w.Zx.length):sp (U0 w p to).1 q=if(q:Int) ∈ Yg w p then⟨to,false,(E w (mOf w p) q).age + 1⟩ else sp w q:=by
 have:=ZlQ h t hq;by_cases c:(q:Int) ∈ Yg w p
 ·rw [if_pos c] at this ⊢;exact ZtW this
 ·rw [if_neg c] at this ⊢;exact Zcq this
theorem ZDr (h:Wm w) (t:Trv w p to):Mv w (U0 w p to).1:=by
 refine Mv.of (ZiK _ _ _) (ZeY _ _ _) (fun m q hq=>?_) fun q hq=>?_
 ·rw [Zf7 h t];by_cases e:m=mOf w p∧(q:Int) ∈ Yg w p
  ·rw [if_pos e,e.1];show _ <=_ + 1;omega
  ·rw [if_neg e];exact Int.le_refl _
 ·rw [ZeX h t hq];by_cases c:(q:Int) ∈ Yg w p
  ·rw [if_pos c];have b:=Zdn h t c;refine .inr ⟨mOf w p,by rw [b.2.1],by rw [b.2.1];dsimp only;omega,?_⟩;rw [Zf7 h t,if_pos ⟨rfl,c⟩,b.2.1];dsimp only;omega
  ·rw [if_neg c];exact .inl ⟨rfl,rfl⟩
theorem ZxD (w:Zb) (p:Nat) {i:Nat} (hi:i < (Yg w p).length) (h0:0 < i):(Yg w p).getD (i - 1) 0 < (Yg w p).getD i 0:=by
 rw [YZ hi,YZ (by omega)];have h1:=List.pairwise_iff_getElem.1 (ZeO w p) (i - 1) i (by omega) hi (by omega);have h2:=List.pairwise_iff_getElem.1 (WG w p) (i - 1) i (by omega) hi (by omega);omega
theorem ZxO (w:Zb) {p:Nat} (hp:p < w.Zx.length) (to:Int) (q:Nat):inn (U0 w p to).1 (q:Int)=if q=p then -1 else inn w (q:Int):=Zfk hp q
theorem ZvG (h:Wm w) (t:Trv w p to) {q r:Nat} (hq:q < w.Zx.length) (hne:q ≠ p) (e:inn w (q:Int)= (r:Int)):(q:Int) ∈ Yg w p↔(r:Int) ∈ Yg w p:=by
 have hr:r < w.Zx.length:=by have:= (h.shr.inn.rng q hq).2;omega
 rw [ZaS h.shr.inn,ZaS h.shr.inn]
 constructor
 ·rintro⟨_,j,ej⟩;cases j with
  | zero=>exact absurd (by have:(q:Int)= (p:Int):=ej;omega) hne
  | succ j=>
    have:(if(q:Int) < 0 then(q:Int) else up w j (inn w (q:Int)))= (p:Int):=ej;rw [if_neg (by omega),e] at this;exact⟨hr,j,this⟩
 ·rintro⟨_,j,ej⟩;refine⟨hq,j + 1,?_⟩;show(if(q:Int) < 0 then(q:Int) else up w j (inn w (q:Int)))=_;rw [if_neg (by omega),e];exact ej
theorem ZvQ (h:Wm w) (t:Trv w p to):ZkV w (Zhg w p to):=by
 refine⟨t.ZX.1,t.ZX.2,.inr (.inl ⟨rfl,rfl,rfl,rfl,rfl,?_,?_⟩),fun i hi=>?_,fun q=>absurd (show(2:Int)=3 from q) (by omega)⟩
 ·intro z;have:=ZvN h t;rw [show Yg w p= [] from z] at this;cases this
 ·show(Yg w p).length= ((Yg w p).map _).length;rw [List.length_map]
 ·have hi':i < (Yg w p).length:=hi;have hm:=List.getElem_mem hi';obtain⟨q,eq,hq⟩:= (Zcn w p _ hm).nat;rw [eq] at hm;have b:=Zdn h t hm;have a:=h.Wt t.hp t.here;have hx:=h.shr.ent _ a.2.1 q hq;have ho:=t.old q hm;rw [b.2.1] at ho;have ho':(E w (mOf w p) q).age < 30:=ho
  have eA:(Zhg w p to).Yd.getD i 0= (E w (mOf w p) q).age + 1:=by
   show((Yg w p).map (goA w (mOf w p))).getD i 0=_;rw [YZ (by rw [List.length_map];exact hi'),List.getElem_map,eq];unfold goA;rw [Int.toNat_natCast]
  have e0:(Zhg w p to).qV.getD i 0= (q:Int):= (YZ hi').trans eq;unfold Zaj;rw [eA,e0];have h1:=hx.1;refine⟨by omega,by omega,fun z=>?_,by omega,by omega⟩;rw [← e0];exact ZxD w p hi' z
theorem ZDp (h:Wm w) (t:Trv w p to):Wm (U0 w p to).1:=by
 have a:=h.Wt t.hp t.here;have v:=ZDr h t;have S:=h.shr.Kv;have el:=ZeY w p to;have ei:=ZiK w p to;have g:=ZBc h t;have hi:Inn (U0 w p to).1:= (ZfT h.shr.inn t.hp).eq rfl;refine⟨⟨⟨by rw [el];exact S.m1,by rw [el];exact S.m2,by rw [ei];exact S.p1,by rw [ei];exact S.p2,by rw [ei];exact S.bx,by rw [el];exact S.hd,?_⟩,hi,h.shr.sd1,h.shr.sd2,fun m hm q hq=>?_,fun x hx=>?_⟩,fun q hq=>?_,fun q hq hz=>?_,fun m hm q hq hh=>?_,fun m hm y hy=>?_,fun x hx hk=>?_,fun x hx hk=>?_⟩
 ·rw [ei,← (Zel w (mOf w p) to (Yg w p) (Yg w p).length).1];exact(Zir g _).rw_
 ·rw [el] at hm;rw [ei] at hq;unfold ZeI;rw [Zf7 h t,el];by_cases c:m=mOf w p∧(q:Int) ∈ Yg w p
  ·rw [if_pos c];have b:=Zdn h t c.2;have hx:=h.shr.ent _ a.2.1 q hq;have ho:=t.old q c.2;rw [b.2.1] at ho;have ho':(E w (mOf w p) q).age < 30:=ho;have h1:=hx.1;refine⟨by show 0 <=_ + 1;omega,by show _ + 1 <=_;omega,t.ZX.1,t.ZX.2,⟨fun z=>by simp at z,fun z=>absurd ?_ t.off⟩⟩;rw [a.1,← c.1];exact z.symm
  ·rw [if_neg c];exact h.shr.ent m hm q hq
 ·rw [Zdm] at hx;rcases List.mem_append.1 hx with z | z
  ·exact v.Xr (h.shr.Xr x z)
  ·rw [List.mem_singleton.1 z];exact v.Xr (ZvQ h t)
 ·rw [ei] at hq;rw [ZlQ h t hq];by_cases c:(q:Int) ∈ Yg w p
  ·rw [if_pos c];rfl
  ·rw [if_neg c];exact h.loc q hq
 ·rw [ei] at hq;rw [ZxO w t.hp] at hz ⊢;by_cases e:q=p
  ·rw [if_pos e] at hz;exact absurd hz (by omega)
  rw [if_neg e] at hz ⊢;obtain⟨r,er,hr⟩:=JU (h.shr.inn.rng q hq) (by omega);have tg:=h.tog q hq hz;rw [er,Int.toNat_natCast] at tg;rw [er,Int.toNat_natCast,ZeX h t hq,ZeX h t hr];have iff:=ZvG h t hq e er;by_cases c:(q:Int) ∈ Yg w p
  ·rw [if_pos c,if_pos (iff.1 c)];exact⟨rfl,rfl,fun _=>⟨Zhg w p to,List.mem_append.2 (.inr (List.mem_singleton.2 rfl)),rfl,c,iff.1 c⟩⟩
  ·rw [if_neg c,if_neg fun z=>c (iff.2 z)];refine⟨tg.1,tg.2.1,fun z=>?_⟩;obtain⟨x,hx,k,a1,b1⟩:=tg.2.2 z;exact⟨x,List.mem_append.2 (.inl hx),k,a1,b1⟩
 ·rw [el] at hm;rw [ei] at hq;rw [Zf7 h t] at hh ⊢;by_cases c:m=mOf w p∧(q:Int) ∈ Yg w p
  ·rw [if_pos c];have b:=Zdn h t c.2;have hx:=h.shr.ent _ a.2.1 q hq;have h1:=hx.1;unfold RtX;rw [ZeX h t hq,if_pos c.2,el];exact⟨by show 0 <=_ + 1;omega,Int.le_refl _,t.ZX.1,t.ZX.2,fun _=>rfl,fun z=>absurd rfl z⟩
  ·rw [if_neg c] at hh ⊢;exact v.rt q hq _ _ (h.ent m hm q hq hh)
 ·rw [el] at hm;have b:=h.hel m hm y hy;have hp1:=b.1.1;have hp2:=b.1.2.1;obtain⟨q,eq⟩:∃ q:Nat,y.place= (q:Int):= ⟨y.place.toNat,by omega⟩
  have b2:=b.2;rw [eq,Int.toNat_natCast] at b2 ⊢
  have c:(q:Int) ∉ Yg w p:=fun z=>by
   have:= (Zdn h t z).2.1;rw [b2] at this;injection this with _ e _
   cases e
  rw [ZeX h t (by omega),if_neg c];exact⟨v.ZV b.1,b2⟩
 ·rcases List.mem_append.1 hx with z | z
  ·exact v.ZV (h.mai x z hk)
  ·rw [List.mem_singleton.1 z] at hk;exact absurd (show(2:Int)=1 from hk) (by omega)
 ·rcases List.mem_append.1 hx with z | z
  ·have hn:= (h.shr.Xr x z).ntd hk;exact v.rt _ (by omega) _ _ (h.ntd x z hk)
  ·rw [List.mem_singleton.1 z] at hk;exact absurd (show(2:Int)=3 from hk) (by omega)
theorem ZDq (w:Zb) (p:Nat) (to:Int):owes (U0 w p to).1=owes w:=by
 unfold owes;rw [Zdm,Zdr,Ze9 (show(Zhg w p to).kind ≠ 1 by show(2:Int) ≠ 1;omega),List.append_nil]
 rfl
end
end Go.Proofs.YtbmbbcaaimehkaaGreat
end
section
namespace Go.Proofs.YtbmbbcaaimehkaaGreat
open Go.Lf
section
variable {w:Zb}
theorem Wm.nodup (h:Wm w) {x:Zf} (hx:x ∈ w.qG) (hk:x.kind=2):x.qV.Nodup:=by
 rw [List.nodup_iff_count];intro a;by_cases ha:a ∈ x.qV
 ·obtain⟨i,hi,rfl⟩:=List.getElem_of_mem ha;have e0:x.qV.getD i 0=x.qV[i]:=YZ hi;have hp:= (h.shr.Xr x hx).Uk i hi;unfold Zaj at hp;rw [e0] at hp;obtain⟨p,e⟩:∃ p:Nat,x.qV[i]= (p:Int):= ⟨x.qV[i].toNat,by omega⟩
  have hl:=h.loc p (by omega);unfold Xa at hl;rw [List.length_append] at hl;have h1:=ZtU hx p;have h2:Ka x p=WH x p x.qV.length:=by unfold Ka;rw [if_pos hk]
  rw [h2,Zd7 x p _ (Nat.le_refl _),List.take_of_length_le (Nat.le_refl _)] at h1;rw [e];omega
 ·rw [List.count_eq_zero_of_not_mem ha];omega
theorem Wm.mvl (h:Wm w) {x:Zf} (hx:x ∈ w.qG) (hk:x.kind=2):MvL w x x.ZX.toNat:=by
 have hl:=h.shr.Xr x hx;have h8:=h.shr.Kv.p2;have ZzH:∀ i,i < x.qV.length ->J9 (x.qV.getD i 0) w.Zx.length:=fun i hi=>⟨(hl.Uk i hi).1,(hl.Uk i hi).2.1⟩
 have hsub:x.qV ⊆ XG w.Zx.length:=fun a ha=>by
  have:= (K6 (d:= (0:Int)) (P:=fun a=>J9 a w.Zx.length)).1 ZzH a ha;unfold J9 at this;unfold XG;exact List.mem_map.2 ⟨a.toNat,List.mem_range.2 (by omega),by show((a.toNat:Nat):Int)=a;omega⟩
 have hlen:= (h.nodup hx hk).length_le_of_subset hsub;rw [Jc] at hlen;exact⟨by have:=hl.to1;omega,by have:=hl.to1;have:=hl.to2;omega,hl.Xp.len,by omega,ZzH⟩
structure Car (w:Zb) (k:Nat):Prop where
 hk:k < w.qG.length
 two:(ZP w k).kind=2
theorem Car.mem {k:Nat} (c:Car w k):ZP w k ∈ w.qG:=YP c.hk
theorem ZrM (h:Wm w) {k:Nat} (c:Car w k) {i q:Nat} (hi:i < (ZP w k).qV.length) (hq:(ZP w k).qV.getD i 0= (q:Int)):
 q < w.Zx.length∧sp w q= ⟨(ZP w k).ZX,false,(ZP w k).Yd.getD i 0⟩∧Xv w q w.qQ.length= []∧Qj (w.qG.take k) q= []∧Qj (w.qG.drop (k + 1)) q= []:=by
 have hp:= (h.shr.Xr _ c.mem).Uk i hi;unfold Zaj at hp;rw [hq] at hp;have hql:q < w.Zx.length:=by omega
 have hl:=h.loc q hql;have e:=Zpd c.two (h.nodup c.mem c.two) hi hq;unfold Xa at hl;rw [KO c.hk,e] at hl;simp only [List.length_append,List.length_singleton] at hl;have e1:=List.length_eq_zero_iff.1 (show(Xv w q w.qQ.length).length=0 by omega);have e2:=List.length_eq_zero_iff.1 (show(Qj (w.qG.take k) q).length=0 by omega);have e3:=List.length_eq_zero_iff.1 (show(Qj (w.qG.drop (k + 1)) q).length=0 by omega);refine⟨hql,ZtW ?_,e1,e2,e3⟩;unfold Xa;rw [KO c.hk,e,e1,e2,e3];rfl
theorem Zun {l:List Int} {q:Int} (h:q ∈ l):∃ i,i < l.length∧l.getD i 0=q:=by
 obtain⟨i,hi,e⟩:=List.getElem_of_mem h;exact⟨i,hi,(YZ hi).trans e⟩
theorem Zdl (h:Wm w) {k:Nat} (c:Car w k) {q:Nat} (hq:(q:Int) ∈ (ZP w k).qV):
 q < w.Zx.length∧sp w q= ⟨(ZP w k).ZX,false,(sp w q).age⟩∧Xv w q w.qQ.length= []∧Qj (w.qG.take k) q= []∧Qj (w.qG.drop (k + 1)) q= []:=by
 obtain⟨i,hi,e⟩:=Zun hq;have:=ZrM h c hi e;exact⟨this.1,by rw [this.2.1],this.2.2⟩
theorem Zi3 (h:Wm w) {k j:Nat} (hk:k < w.qG.length) (hj:j < w.qG.length) {q:Nat} (hq:q < w.Zx.length) (h1:(q:Int) ∈ (ZP w k).qV) (h2:(q:Int) ∈ (ZP w j).qV):k=j:=by
 have hl:(QX w q).length=1:=by rw [← len_eq h.shr.two];exact h.loc q hq
 have a:=ZeZ hl hk h1;have b:=ZeZ hl hj h2;rw [a] at b;omega
theorem ZLF (h:Wm w) {k:Nat} (c:Car w k):∀ j,j <= (ZP w k).qV.length ->∀ m' q:Nat,E (Xq (YR w k) (ZP w k) j) m' q=if m'= (ZP w k).ZX.toNat∧(q:Int) ∈ (ZP w k).qV.take j then⟨true,(ZP w k).ZX,(sp w q).age⟩ else E w m' q:=by
 have v:=h.mvl c.mem c.two;have v':MvL (YR w k) (ZP w k) (ZP w k).ZX.toNat:= ⟨v.ZX,v.hm,v.len,v.few,v.rng⟩
 intro j
 induction j with
 | zero=>intro _ m' q;rw [if_neg (by simp)];rfl
 | succ j ih=>
   intro hj m' q;have hp:=v'.Uk (i:=j) (by omega);have hi:=XJ (YR w k) (ZP w k) j;have wi:=ZrM h c (i:=j) (q:=Uk (ZP w k) j) (by omega) hp.1;show E (setW (Xq (YR w k) (ZP w k) j) (ZP w k).ZX.toNat (Uk (ZP w k) j) ⟨true,(ZP w k).ZX,(ZP w k).Yd.getD j 0⟩) m' q=_;rw [ZoW (Zbf (h.shr.Kv.YR k) v' j) (by rw [hi.2.2.2.2.2];exact v'.hm) (by rw [hi.1];exact hp.2),ih (by omega)];by_cases e:m'= (ZP w k).ZX.toNat∧q=Uk (ZP w k) j
   ·rw [if_pos e,if_pos ⟨e.1,(QE (by omega)).2 (.inr (by rw [e.2,← hp.1,YZ (by omega)]))⟩,e.2,wi.2.1]
   ·rw [if_neg e];by_cases d:m'= (ZP w k).ZX.toNat∧(q:Int) ∈ (ZP w k).qV.take j
    ·rw [if_pos d,if_pos ⟨d.1,(QE (by omega)).2 (.inl d.2)⟩]
    ·rw [if_neg d,if_neg];rintro⟨d1,d2⟩;rcases(QE (by omega)).1 d2 with z | z
     ·exact d ⟨d1,z⟩
     ·rw [← YZ (d:= (0:Int)) (by omega),hp.1] at z;exact e ⟨d1,by omega⟩
def ZaM (w:Zb) (k:Nat):Zb:= (ZaL (YR w k) (ZP w k)).1
theorem Zjc (w:Zb) (k:Nat):(ZaM w k).Zx=w.Zx∧(ZaM w k).qG= (YR w k).qG∧(ZaM w k).said=w.said∧(ZaM w k).qQ= (Xq (YR w k) (ZP w k) (ZP w k).qV.length).qQ∧(ZaM w k).qK.length=w.qK.length∧(ZaM w k).qJ.length=w.qJ.length∧(ZaM w k).qQ.length=w.qQ.length:=by
 have a:=UF (YR w k) (ZP w k) (ZP w k).qV.length;have b:=XJ (YR w k) (ZP w k) (ZP w k).qV.length;exact⟨a.1,a.2.1,a.2.2.1,a.2.2.2.1,a.2.2.2.2.1,a.2.2.2.2.2,by rw [show(ZaM w k).qQ=_ from a.2.2.2.1];exact b.2.2.2.2.2⟩
theorem Zl3 (h:Wm w) {k:Nat} (c:Car w k) (m' q:Nat):E (ZaM w k) m' q=if m'= (ZP w k).ZX.toNat∧(q:Int) ∈ (ZP w k).qV then⟨true,(ZP w k).ZX,(sp w q).age⟩ else E w m' q:=by
 rw [Zvu (Zjc w k).2.2.2.1,ZLF h c _ (Nat.le_refl _),List.take_of_length_le (Nat.le_refl _)]
theorem ZpP (h:Wm w) {k:Nat} (c:Car w k) {q:Nat} (hq:q < w.Zx.length):Xa (ZaM w k) q=if(q:Int) ∈ (ZP w k).qV then [⟨(ZP w k).ZX,true,(sp w q).age⟩] else Xa w q:=by
 have v:=h.mvl c.mem c.two;have i:=Zjc w k;unfold Xa;rw [i.2.1,i.2.2.2.2.2.2,Zf4];by_cases d:(q:Int) ∈ (ZP w k).qV
 ·have b:=Zdl h c d;rw [if_pos d,b.2.2.2.1,b.2.2.2.2];have e1:E (ZaM w k) (ZP w k).ZX.toNat q= ⟨true,(ZP w k).ZX,(sp w q).age⟩:=by rw [Zl3 h c,if_pos ⟨rfl,d⟩]
  have:=Zwo (w:=ZaM w k) (p:=q) (m:= (ZP w k).ZX.toNat) (by rw [e1]) (k:=w.qQ.length) v.hm fun m' hm' hne=>by
   rw [Zl3 h c,if_neg fun z=>hne z.1];exact Zqi b.2.2.1 m' hm'
  rw [this,e1,← v.ZX];rfl
 ·rw [if_neg d,ZcU (w:=w) fun m' _=>by rw [Zl3 h c,if_neg fun z=>d z.2]];congr 1;rw [KO c.hk,ZlO d,List.append_nil]
theorem Zm3 (h:Wm w) {k:Nat} (c:Car w k) {q:Nat} (hq:q < w.Zx.length):sp (ZaM w k) q=if(q:Int) ∈ (ZP w k).qV then⟨(ZP w k).ZX,true,(sp w q).age⟩ else sp w q:=by
 have:=ZpP h c hq;by_cases d:(q:Int) ∈ (ZP w k).qV
 ·rw [if_pos d] at this ⊢;exact ZtW this
 ·rw [if_neg d] at this ⊢;exact Zcq this
theorem ZDN (h:Wm w) {k:Nat} (c:Car w k) {q:Nat} (hq:q < w.Zx.length):(sp (ZaM w k) q).machine= (sp w q).machine∧(sp (ZaM w k) q).age= (sp w q).age:=by
 rw [Zm3 h c hq];by_cases d:(q:Int) ∈ (ZP w k).qV
 ·rw [if_pos d,(Zdl h c d).2.1];exact⟨rfl,rfl⟩
 ·rw [if_neg d];exact⟨rfl,rfl⟩
theorem ZIu (h:Wm w) {k:Nat} (c:Car w k):Mv w (ZaM w k):=by
 have i:=Zjc w k;have v:=h.mvl c.mem c.two;refine Mv.of (by rw [i.1]) i.2.2.2.2.2.2 (fun m q hq=>?_) fun q hq=>.inl (ZDN h c hq)
 rw [Zl3 h c];by_cases e:m= (ZP w k).ZX.toNat∧(q:Int) ∈ (ZP w k).qV
 ·rw [if_pos e,e.1];have b:=Zdl h c e.2;exact(h.ent _ v.hm q hq (Zqi b.2.2.1 _ v.hm)).2.1
 ·rw [if_neg e];exact Int.le_refl _
theorem Zsy (u:Zb) (x:Zf) (s:Wp u) (v:MvL u x x.ZX.toNat):∀ j,j <=x.qV.length ->∀ m',∀ y ∈ ZH (Yp u x j).1 m',y ∈ ZH u m'∧(m'=x.ZX.toNat ->y.place ∉ x.qV.take j):=by
 intro j
 induction j with
 | zero=>
   intro _ m' y hy;refine⟨?_,fun _=>by simp⟩;have:ZH (Yp u x 0).1 m'=ZH u m':=by unfold ZH;rw [show(Yp u x 0).1.qJ=u.qJ from(XJ u x _).2.2.1]
   rw [← this];exact hy
 | succ j ih=>
   intro hj m' y hy;have hs:=Wl s v j;have li:=UF u x j;have ci:=XJ u x x.qV.length;have hp:=v.Uk (i:=j) (by omega);have hy':y ∈ ZH (KA (Yp u x j).1 x.ZX.toNat (Uk x j)) m':=hy;rw [ZcV hs (by rw [li.2.2.2.1,ci.2.2.2.2.2];exact v.hm)] at hy';by_cases e:m'=x.ZX.toNat
   ·rw [if_pos e] at hy';have⟨h1,h2⟩:=List.mem_filter.1 hy';have:=ih (by omega) _ y h1;rw [e];refine⟨this.1,fun _ z=>?_⟩;rcases(QE (by omega)).1 z with a | a
    ·exact this.2 rfl a
    ·rw [← YZ (d:= (0:Int)) (by omega),hp.1] at a;unfold JV at h2;rw [a] at h2;simp at h2
   ·rw [if_neg e] at hy';have:=ih (by omega) _ y hy';exact⟨this.1,fun z=>absurd z e⟩
theorem Zy5 (h:Wm w) {k:Nat} (c:Car w k) {m':Nat} {y:Zq} (hy:y ∈ ZH (ZaM w k) m'):y ∈ ZH w m'∧(m'= (ZP w k).ZX.toNat ->y.place ∉ (ZP w k).qV):=by
 have v:=h.mvl c.mem c.two;have:=Zsy (YR w k) (ZP w k) (h.shr.Kv.YR k) ⟨v.ZX,v.hm,v.len,v.few,v.rng⟩ (ZP w k).qV.length (Nat.le_refl _) m' y hy;rw [List.take_of_length_le (Nat.le_refl _)] at this;exact this
theorem ZIs (h:Wm w) {k:Nat} (c:Car w k):Wm (ZaM w k):=by
 have v:=ZIu h c;have vl:=h.mvl c.mem c.two;have i:=Zjc w k;have S:=h.shr.Kv;have el:=i.2.2.2.2.2.2;have hx2:= (h.shr.Xr _ c.mem)
 have hs:=Wl (S.YR k) (x:=ZP w k) (m:= (ZP w k).ZX.toNat) ⟨vl.ZX,vl.hm,vl.len,vl.few,vl.rng⟩ (ZP w k).qV.length;have hw:∀ x,x ∈ (ZaM w k).qG ->x ∈ w.qG:=fun x hx=>by rw [i.2.1] at hx;exact ZgY hx
 refine⟨⟨hs,h.shr.inn.eq i.1,by rw [i.2.2.1];exact h.shr.sd1,by rw [i.2.2.1];exact h.shr.sd2,fun m hm q hq=>?_,fun x hx=>v.Xr (h.shr.Xr x (hw x hx))⟩,fun q hq=>?_,fun q hq hz=>?_,fun m hm q hq hh=>?_,fun m hm y hy=>?_,fun x hx hk=>v.ZV (h.mai x (hw x hx) hk),fun x hx hk=>?_⟩
 ·rw [el] at hm;rw [i.1] at hq;unfold ZeI;rw [Zl3 h c,el];by_cases e:m= (ZP w k).ZX.toNat∧(q:Int) ∈ (ZP w k).qV
  ·rw [if_pos e];obtain⟨j,hj,ej⟩:=Zun e.2;have b:=ZrM h c hj ej;have p:=hx2.Uk j hj;unfold Zaj at p;rw [b.2.1];exact⟨by dsimp only;omega,by dsimp only;omega,hx2.to1,hx2.to2,⟨fun _=>by rw [e.1];exact vl.ZX,fun _=>rfl⟩⟩
  ·rw [if_neg e];exact h.shr.ent m hm q hq
 ·rw [i.1] at hq;rw [ZpP h c hq];by_cases d:(q:Int) ∈ (ZP w k).qV
  ·rw [if_pos d];rfl
  ·rw [if_neg d];exact h.loc q hq
 ·rw [i.1] at hq;rw [Zm7 i.1] at hz ⊢;obtain⟨r,er,hr⟩:=JU (h.shr.inn.rng q hq) (by omega);have tg:=h.tog q hq hz;rw [er,Int.toNat_natCast] at tg ⊢;rw [Zm3 h c hq,Zm3 h c hr]
  have iff:(q:Int) ∈ (ZP w k).qV↔(r:Int) ∈ (ZP w k).qV:=by
   have key:(sp w q).here=false ->∃ j,j < w.qG.length∧(q:Int) ∈ (ZP w j).qV∧(r:Int) ∈ (ZP w j).qV:=fun z=>by
    obtain⟨y,hy,_,a,b⟩:=tg.2.2 z;obtain⟨j,hj,e⟩:=List.getElem_of_mem hy;have e':ZP w j=y:= (YZ hj).trans e;exact⟨j,hj,by rw [e'];exact a,by rw [e'];exact b⟩
   constructor
   ·intro z;obtain⟨j,hj,a,b⟩:=key (by rw [(Zdl h c z).2.1]);rw [Zi3 h c.hk hj hq z a];exact b
   ·intro z;obtain⟨j,hj,a,b⟩:=key (by rw [← tg.2.1,(Zdl h c z).2.1]);rw [Zi3 h c.hk hj hr z b];exact a
  by_cases d:(q:Int) ∈ (ZP w k).qV
  ·rw [if_pos d,if_pos (iff.1 d)];exact⟨rfl,rfl,fun z=>by cases z⟩
  ·rw [if_neg d,if_neg fun z=>d (iff.2 z)];refine⟨tg.1,tg.2.1,fun z=>?_⟩;obtain⟨x,hx,kk,a,b⟩:=tg.2.2 z;refine⟨x,?_,kk,a,b⟩;rw [i.2.1];rw [Zbp c.hk] at hx;rcases List.mem_append.1 hx with y | y
   ·exact List.mem_append.2 (.inl y)
   ·rcases List.mem_cons.1 y with y | y
    ·rw [y] at a;exact absurd a d
    ·exact List.mem_append.2 (.inr y)
 ·rw [el] at hm;rw [i.1] at hq;rw [Zl3 h c] at hh ⊢;by_cases e:m= (ZP w k).ZX.toNat∧(q:Int) ∈ (ZP w k).qV
  ·rw [if_pos e] at hh;cases hh
  ·rw [if_neg e] at hh ⊢;exact v.rt q hq _ _ (h.ent m hm q hq hh)
 ·rw [el] at hm;have a:=Zy5 h c hy;have b:=h.hel m hm y a.1;have hp1:=b.1.1;have hp2:=b.1.2.1;obtain⟨q,eq⟩:∃ q:Nat,y.place= (q:Int):= ⟨y.place.toNat,by omega⟩
  have b2:=b.2;rw [eq,Int.toNat_natCast] at b2 ⊢
  have d:(q:Int) ∉ (ZP w k).qV:=fun z=>by
   have e:= (Zdl h c z).2.1;rw [b2] at e;injection e with e1 _ _
   exact a.2 (by omega) (by rw [eq];exact z)
  rw [Zm3 h c (by omega),if_neg d];exact⟨v.ZV b.1,b2⟩
 ·have hn:= (h.shr.Xr x (hw x hx)).ntd hk;exact v.rt _ (by omega) _ _ (h.ntd x (hw x hx) hk)
theorem ZJb {u:Zb} (s:Wp u) {m p:Nat} (hm:m < u.qQ.length) (hp:p < u.Zx.length) (a:Int×Int):(owes (KA u m p)).count a= (owes u).count a:=by
 have h1:=Zua u (KA u m p) (p:=p) (by rw [s.bx];exact hp) (l:= ((ZH u m).filter (JV p)).map fun y=>y.msg) rfl a;have h2:=Zt9 u (KA u m p) (m:=m) (by rw [s.hd];exact hm) (l:= (ZH u m).filter fun y=>!JV p y) rfl a
 have h3:((ZH u m).map fun y=>(y.msg,y.place)).count a= (((ZH u m).filter (JV p)).map fun y=>(y.msg,(p:Int))).count a + (((ZH u m).filter fun y=>!JV p y).map fun y=>(y.msg,y.place)).count a:=by
  generalize ZH u m=l
  induction l with
  | nil=>rfl
  | cons y l ih=>
    cases e:JV p y with
    | true=>
      have e':y.place= (p:Int):=by unfold JV at e;simpa using e
      rw [List.filter_cons_of_pos (by simp [e]),List.filter_cons_of_neg (by simp [e]),List.map_cons,List.map_cons,List.count_cons,List.count_cons,ih,e'];omega
    | false=>rw [List.filter_cons_of_neg (by simp [e]),List.filter_cons_of_pos (by simp [e]),List.map_cons,List.map_cons,List.count_cons,List.count_cons,ih];omega
 rw [List.map_map] at h1;have h1':(owB (KA u m p)).count a= (owB u).count a + (((ZH u m).filter (JV p)).map fun y=>(y.msg,(p:Int))).count a:=h1;unfold owes;rw [List.count_append,List.count_append,List.count_append,List.count_append];show _ + _ + (owL u.qG).count a=_;omega
theorem Zze {u:Zb} (s:Wp u) {x:Zf} (v:MvL u x x.ZX.toNat) (a:Int×Int):∀ j,j <=x.qV.length ->(owes (Yp u x j).1).count a= (owes u).count a:=by
 intro j
 induction j with
 | zero=>
   intro _;have ci:=XJ u x x.qV.length
   have e:owes (Yp u x 0).1=owes u:=by
    show owes (Xq u x x.qV.length)=_;unfold owes owB owH X9 ZH;rw [ci.2.1,ci.2.2.1,ci.2.2.2.1]
   rw [e]
 | succ j ih=>
   intro hj;have hs:=Wl s v j;have li:=UF u x j;have ci:=XJ u x x.qV.length;have hp:=v.Uk (i:=j) (by omega);show(owes (KA (Yp u x j).1 x.ZX.toNat (Uk x j))).count a=_;rw [ZJb hs (by rw [li.2.2.2.1,ci.2.2.2.2.2];exact v.hm) (by rw [li.1];exact hp.2),ih (by omega)]
theorem Zl0 {k:Nat} (hk:k < w.qG.length) (a:Int×Int):(owes (YR w k)).count a + (owL [ZP w k]).count a= (owes w).count a:=by
 unfold owes;rw [Zv5 hk];show List.count a (owB w ++ owH w ++ owL (w.qG.take k ++ w.qG.drop (k + 1))) + _=_;rw [Zdr];simp only [List.count_append];omega
theorem ZIt (h:Wm w) {k:Nat} (c:Car w k) (a:Int×Int):(owes (ZaM w k)).count a= (owes w).count a:=by
 have v:=h.mvl c.mem c.two;have e:=Zze (h.shr.Kv.YR k) (x:=ZP w k) ⟨v.ZX,v.hm,v.len,v.few,v.rng⟩ a (ZP w k).qV.length (Nat.le_refl _);have d:=Zl0 c.hk a;rw [Ze9 (by rw [c.two];omega)] at d;show List.count a (owes (Yp (YR w k) (ZP w k) (ZP w k).qV.length).1)=_;rw [e]
 simpa using d
theorem Zuu {k:Nat} (e:(ZP w k).kind=1):Uv w k=QC (YR w k) (ZP w k).ZX.toNat (ZP w k).ZV false:=by unfold Uv;rw [if_pos e]
theorem Zut {k:Nat} (e:(ZP w k).kind=2):Uv w k=ZaL (YR w k) (ZP w k):=by unfold Uv;rw [if_neg (by omega),if_pos e]
theorem Zus {k:Nat} (e:(ZP w k).kind=3):Uv w k= (KZ (YR w k) (ZP w k),[]):=by unfold Uv;rw [if_neg (by omega),if_neg (by omega)]
theorem Zfg (h:Wm w) {x:Zf} (hx:x ∈ w.qG):x.kind=1∨x.kind=2∨x.kind=3:=by
 rcases(h.shr.Xr x hx).Xp with⟨q,_⟩ | ⟨q,_⟩ | ⟨q,_⟩
 ·exact .inl q
 ·exact .inr (.inl q)
 ·exact .inr (.inr q)
theorem Zvl {k:Nat} (hk:k < w.qG.length) (h2:(ZP w k).kind ≠ 2) (p:Nat):Xa (YR w k) p=Xa w p:=
 Zjh rfl (by rw [KO hk,ZmA h2,Zf4,List.append_nil])
theorem ZpZ (h:Wm w) {k:Nat} (hk:k < w.qG.length) (e:(ZP w k).kind=1):Rtd (YR w k) (ZP w k).ZX.toNat (ZP w k).ZV false:=by
 have hx:ZP w k ∈ w.qG:=YP hk;have hl:=h.shr.Xr _ hx;have hm:=h.mai _ hx e;have v:Mv w (YR w k):=Mv.same rfl rfl fun p _=>Zvl hk (by omega) p
 have t1:=hl.to1;have t2:=hl.to2;refine⟨by show(ZP w k).ZX.toNat < w.qQ.length;omega,⟨hm.1,hm.2.1⟩,⟨hm.2.2.1,hm.2.2.2.1⟩,fun _=>?_,fun z=>by cases z⟩;rw [Int.toNat_of_nonneg t1];exact v.ZV hm
theorem ZyJ (h:Wm w) {k:Nat} (hk:k < w.qG.length) (e:(ZP w k).kind=3):Wm (KZ (YR w k) (ZP w k)):=by
 have hx:ZP w k ∈ w.qG:=YP hk;have hl:=h.shr.Xr _ hx;have hd:=Zow h hk (by omega);have v:Mv w (YR w k):=Mv.same rfl rfl fun p _=>Zvl hk (by omega) p
 have t1:=hl.to1;have t2:=hl.to2;have hn:=hl.ntd e;unfold KZ;split
 ·rename_i c;refine ZDM hd (by show _ < w.qQ.length;omega) (by show _ < w.Zx.length;omega) c.1 c.2 (v.rt _ (by omega) _ _ (h.ntd _ hx e)) ?_;rw [Int.toNat_of_nonneg t1];exact hn.2.2
 ·exact hd
theorem ZDS (h:Wm w) {k:Nat} (hk:k < w.qG.length):Wm (Uv w k).1:=by
 rcases Zfg h (x:=ZP w k) (YP hk) with e | e | e
 ·rw [Zuu e];exact Zpw (Zow h hk (by omega)) (ZpZ h hk e)
 ·rw [Zut e];exact ZIs h ⟨hk,e⟩
 ·rw [Zus e];exact ZyJ h hk e
theorem Zi4 (u:Zb) (x:Zf):(KZ u x).Zx=u.Zx∧(KZ u x).qK=u.qK∧(KZ u x).qJ=u.qJ∧(KZ u x).qG=u.qG∧(KZ u x).said=u.said∧(KZ u x).qQ.length=u.qQ.length:=by
 unfold KZ;split
 ·exact⟨rfl,rfl,rfl,rfl,rfl,Ze0 _ _ _ _⟩
 ·exact⟨rfl,rfl,rfl,rfl,rfl,rfl⟩
theorem Zr7 {u u':Zb} (h1:u'.qK=u.qK) (h2:u'.qJ=u.qJ) (h3:u'.qG=u.qG):owes u'=owes u:=by
 unfold owes owB owH X9 ZH;rw [h1,h2,h3]
theorem ZDT (h:Wm w) {k:Nat} (hk:k < w.qG.length) (a:Int×Int):(owes (Uv w k).1).count a= (owes w).count a:=by
 have d:=Zl0 hk a;rcases Zfg h (x:=ZP w k) (YP hk) with e | e | e
 ·rw [Zuu e,Zpx (Zow h hk (by omega)) (ZpZ h hk e)];rw [ZpN e] at d;exact d
 ·rw [Zut e];exact ZIt h ⟨hk,e⟩ a
 ·rw [Zus e];have n:=Zi4 (YR w k) (ZP w k);rw [Ze9 (by omega)] at d;show(owes (KZ (YR w k) (ZP w k))).count a=_;rw [Zr7 n.2.1 n.2.2.1 n.2.2.2.1];simpa using d
theorem Zhm (u:Zb) (m:Nat) (x:Zq) (now:Bool):(QC u m x now).1.Zx=u.Zx∧(QC u m x now).1.qQ=u.qQ∧(QC u m x now).1.said=u.said∧(QC u m x now).1.qG.length <=u.qG.length + 2∧(now=true ->(QC u m x now).1.qG.length <=u.qG.length + 1):=by
 unfold QC;split
 ·exact⟨rfl,rfl,rfl,by dsimp only;omega,fun _=>by dsimp only;omega⟩
 ·split
  ·exact⟨rfl,rfl,rfl,by dsimp only;omega,fun _=>by dsimp only;omega⟩
  ·refine⟨rfl,rfl,rfl,?_,fun e=>?_⟩
   ·show(u.qG ++ _::told _ _ _ _).length <=_;rw [List.length_append,List.length_cons];unfold told;split <;> simp
   ·show(u.qG ++ _::told _ _ _ _).length <=_;rw [List.length_append,List.length_cons];unfold told;rw [e,if_neg (by simp)];simp
theorem Zwg (h:Wm w) {k:Nat} (hk:k < w.qG.length):(Uv w k).1.Zx=w.Zx∧(Uv w k).1.qQ.length=w.qQ.length∧(Uv w k).1.said=w.said∧(Uv w k).1.qG.length <=w.qG.length + 1:=by
 have dl:=ZgZ w hk;rcases Zfg h (x:=ZP w k) (YP hk) with e | e | e
 ·rw [Zuu e];have r:=Zhm (YR w k) (ZP w k).ZX.toNat (ZP w k).ZV false;exact⟨r.1,by rw [r.2.1];rfl,r.2.2.1,by omega⟩
 ·rw [Zut e];have r:=Zjc w k;exact⟨r.1,r.2.2.2.2.2.2,r.2.2.1,by show(ZaM w k).qG.length <=_;rw [r.2.1];omega⟩
 ·rw [Zus e];have r:=Zi4 (YR w k) (ZP w k);exact⟨r.1,r.2.2.2.2.2,r.2.2.2.2.1,by show(KZ _ _).qG.length <=_;rw [r.2.2.2.1];omega⟩
structure May (w:Zb) (s:ZF):Prop where
 ask:Ask w s
 lim:lim w s=false
 alw:Alw w s
theorem Zuo {s:ZF}:May w s↔Ask w s∧Zex w s=0:=by
 rw [ZLu];exact⟨fun a=>⟨a.ask,a.lim,a.alw⟩,fun a=>⟨a.1,a.2.1,a.2.2⟩⟩
theorem Zt0 (h:Wm w) {s:ZF} (ha:J9 s.a w.qQ.length) (hb:J9 s.b w.Zx.length):Rtd (Ze1 w) s.a.toNat (Zr3 w s) true:=
 ⟨by obtain⟨x,y⟩:=ha;show s.a.toNat < w.qQ.length;omega,hb,ha,fun z=>(by cases z),fun _=>⟨rfl,rfl⟩⟩
theorem May.trv {s:ZF} (m:May w s) (c:s.act=2):Trv w s.a.toNat s.b:=by
 have hin:J9 s.a w.Zx.length∧J9 s.b w.qQ.length:=by
  rcases m.ask with q | q | q | q | q
  ·omega
  ·exact q.2
  ·omega
  ·omega
  ·omega
 have hA:=m.alw.1 c;obtain⟨⟨a1,a2⟩,hb⟩:=hin;refine⟨by omega,hA.1,hA.2,hb,fun q hq=>?_⟩;have hl:=m.lim;unfold Proofs.YtbmbbcaaimehkaaGreat.lim at hl;rw [if_neg (by omega),if_pos c] at hl;have:=List.any_eq_false.1 hl (q:Int) hq;unfold old at this;rw [Int.toNat_natCast,decide_eq_true_eq] at this;omega
theorem May.ent {s:ZF} (m:May w s) (c:s.act=3):∃ p q:Nat,s.a= (p:Int)∧s.b= (q:Int)∧p < w.Zx.length∧q < w.Zx.length∧(q:Int) ∉ Yg w p∧inn w (p:Int)=-1∧(sp w p).here=true∧(sp w q).here=true∧(sp w p).machine= (sp w q).machine:=by
 have hin:J9 s.a w.Zx.length∧J9 s.b w.Zx.length:=by
  rcases m.ask with q | q | q | q | q
  ·omega
  ·omega
  ·exact q.2
  ·omega
  ·omega
 obtain⟨p,ep,hp⟩:=hin.1.nat;obtain⟨q,eq,hq⟩:=hin.2.nat;have hA:=m.alw.2.1 c;rw [ep,eq,Int.toNat_natCast,Int.toNat_natCast] at hA;exact⟨p,q,ep,eq,hp,hq,hA.1,hA.2.1,hA.2.2.1,hA.2.2.2.1,hA.2.2.2.2⟩
theorem May.lev {s:ZF} (m:May w s) (c:s.act=4):∃ p:Nat,s.a= (p:Int)∧p < w.Zx.length∧(sp w p).here=true∧inn w (p:Int) ≠ -1:=by
 have hin:J9 s.a w.Zx.length:=by
  rcases m.ask with q | q | q | q | q
  ·omega
  ·omega
  ·omega
  ·exact q.2
  ·omega
 obtain⟨p,ep,hp⟩:=hin.nat;have hA:=m.alw.2.2 c;rw [ep,Int.toNat_natCast] at hA;exact⟨p,ep,hp,hA⟩
theorem May.lnd {s:ZF} (m:May w s) (c:s.act=5):s.a.toNat < w.qG.length:=by
 rcases m.ask with q | q | q | q | q
 ·omega
 ·omega
 ·omega
 ·omega
 ·obtain⟨_,a,b⟩:=q;omega
theorem May.say {s:ZF} (m:May w s) (c:s.act=1):J9 s.a w.qQ.length∧J9 s.b w.Zx.length:=by
 rcases m.ask with q | q | q | q | q
 ·exact q.2
 ·omega
 ·omega
 ·omega
 ·omega
theorem May.act {s:ZF} (m:May w s):s.act=1∨s.act=2∨s.act=3∨s.act=4∨s.act=5:=by
 rcases m.ask with q | q | q | q | q
 ·exact .inl q.1
 ·exact .inr (.inl q.1)
 ·exact .inr (.inr (.inl q.1))
 ·exact .inr (.inr (.inr (.inl q.1)))
 ·exact .inr (.inr (.inr (.inr q.1)))
theorem do1 {s:ZF} (c:s.act=1):doW w s=QC (Ze1 w) s.a.toNat (Zr3 w s) true:=by unfold doW;rw [if_pos c]
theorem do2 {s:ZF} (c:s.act=2):doW w s=U0 w s.a.toNat s.b:=by unfold doW;rw [if_neg (by omega),if_pos c]
theorem do3 {s:ZF} (c:s.act=3):doW w s= (Zam w s.a s.b,[]):=by unfold doW;rw [if_neg (by omega),if_neg (by omega),if_pos c]
theorem do4 {s:ZF} (c:s.act=4):doW w s= (Zam w s.a (-1),[]):=by unfold doW;rw [if_neg (by omega),if_neg (by omega),if_neg (by omega),if_pos c]
theorem do5 {s:ZF} (c:s.act=5):doW w s=Uv w s.a.toNat:=by unfold doW;rw [if_neg (by omega),if_neg (by omega),if_neg (by omega),if_neg (by omega)]
theorem ZRm (h:Wm w) {s:ZF} (m:May w s):Wm (doW w s).1:=by
 rcases m.act with c | c | c | c | c
 ·rw [do1 c];have:=m.say c;exact Zpw (Zt2 h (Zff c m.lim)) (Zt0 h this.1 this.2)
 ·rw [do2 c];exact ZDp h (m.trv c)
 ·rw [do3 c];obtain⟨p,q,ep,eq,hp,hq,hn,hi,h1,h2,h3⟩:=m.ent c;rw [ep,eq];refine Zyl h hp (ZCK h.shr.inn hp hq fun z=>hn ((ZaS h.shr.inn).2 ⟨hq,z⟩)) fun _=>?_
  rw [Int.toNat_natCast];exact⟨h3.symm,h2,h1⟩
 ·rw [do4 c];obtain⟨p,ep,hp,h1,h2⟩:=m.lev c;rw [ep];exact Zyl h hp (ZfT h.shr.inn hp) fun z=>absurd z (by omega)
 ·rw [do5 c];exact ZDS h (m.lnd c)
def Zy2 (w:Zb) (s:ZF):List (Int×Int):=if s.act=1 then [(w.said,s.b)] else []
theorem ZRo (h:Wm w) {s:ZF} (m:May w s):(owes (doW w s).1).Perm (owes w ++ Zy2 w s):=by
 refine List.perm_iff_count.2 fun a=>?_
 rw [List.count_append];unfold Zy2;rcases m.act with c | c | c | c | c
 ·have:=m.say c;rw [do1 c,if_pos c,Zpx (Zt2 h (Zff c m.lim)) (Zt0 h this.1 this.2)];rfl
 ·rw [do2 c,if_neg (by omega),ZDq];rfl
 ·rw [do3 c,if_neg (by omega)];rfl
 ·rw [do4 c,if_neg (by omega)];rfl
 ·rw [do5 c,if_neg (by omega),ZDT h (m.lnd c)];rfl
theorem Zvm (h:Wm w) {s:ZF} (m:May w s):(doW w s).1.Zx.length=w.Zx.length∧(doW w s).1.qQ.length=w.qQ.length∧(doW w s).1.said=w.said + (if s.act=1 then 1 else 0)∧(doW w s).1.qG.length <=w.qG.length + 1:=by
 rcases m.act with c | c | c | c | c
 ·rw [do1 c,if_pos c];have r:=Zhm (Ze1 w) s.a.toNat (Zr3 w s) true;exact⟨by rw [r.1];rfl,by rw [r.2.1];rfl,by rw [r.2.2.1];rfl,r.2.2.2.2 rfl⟩
 ·rw [do2 c,if_neg (by omega)];exact⟨ZiK _ _ _,ZeY _ _ _,by rw [Int.add_zero];rfl,by rw [Zdm,List.length_append];exact Nat.le_refl _⟩
 ·rw [do3 c,if_neg (by omega)];exact⟨Ze3 _ _,rfl,by rw [Int.add_zero];rfl,Nat.le_succ _⟩
 ·rw [do4 c,if_neg (by omega)];exact⟨Ze3 _ _,rfl,by rw [Int.add_zero];rfl,Nat.le_succ _⟩
 ·rw [do5 c,if_neg (by omega)];have r:=Zwg h (m.lnd c);exact⟨by rw [r.1],r.2.1,by rw [r.2.2.1,Int.add_zero],r.2.2.2⟩
theorem ZpE (n:Nat):XG (n + 1)=XG n ++ [(n:Int)]:=by
 unfold XG;rw [List.range_succ,List.map_append];rfl
theorem ZRn (h:Wd w) {s:ZF} (m:May w s):Wd (doW w s).1:=by
 refine(ZRm h.wm m).wd ?_;have e:= (ZRo h.wm m).map Prod.fst;rw [ZpM,List.map_append,ZpM] at e;refine e.trans ?_;rw [(Zvm h.wm m).2.2.1];unfold Zy2;have h0:=h.shr.sd1;by_cases c:s.act=1
 ·rw [if_pos c,if_pos c,show(w.said + 1).toNat=w.said.toNat + 1 by omega,ZpE,Int.toNat_of_nonneg h0];exact h.msg.append_right _
 ·rw [if_neg c,if_neg c,Int.add_zero]
  simpa using h.msg
theorem Zjj {α:Type} {L:List (List α)} {l:List α} (h:l ∈ L):l.length <=L.flatten.length:=by
 induction L with
 | nil=>cases h
 | cons x L ih=>
   rw [List.flatten_cons,List.length_append];rcases List.mem_cons.1 h with e | e
   ·rw [e];omega
   ·have:=ih e;omega
theorem ZeP (h:Wd w) {n:Nat} (hn:41 <=n) (hw:w.qG.length < n):UW n w:=by
 have S:=h.shr.Kv;have hm:=h.msg.length_eq;rw [Jc] at hm;have hs:=h.shr.sd2;unfold msgs at hm;rw [List.length_append,List.length_append] at hm;have h8:=S.p2;have h5:=S.m2;have hb:=S.bx;have hd:=S.hd;refine⟨by omega,by omega,by omega,by omega,hw,fun l hl=>?_,fun l hl=>?_,fun l hl=>?_,fun x hx=>?_⟩
 ·have:=Zjj hl;omega
 ·have:=S.rw_ l hl;omega
 ·have:l.length <= (QY w.qJ).length:=by
   have:=Zjj (L:=w.qJ.map fun x=>x.map fun y=>y.msg) (List.mem_map.2 ⟨l,hl,rfl⟩);rw [List.length_map] at this;exact this
  omega
 ·rcases Zfg h.wm hx with e | e | e
  ·have:= (h.shr.Xr x hx).Xp;rcases this with⟨q,_,_,_,a,b⟩ | ⟨q,_⟩ | ⟨q,_⟩
   ·rw [a,b];simp;omega
   ·omega
   ·omega
  ·have:=h.mvl hx e;have a:=this.len;have b:=this.few;omega
  ·have:= (h.shr.Xr x hx).Xp;rcases this with⟨q,_⟩ | ⟨q,_⟩ | ⟨q,_,a,b⟩
   ·omega
   ·omega
   ·rw [a,b];simp;omega
end
end Go.Proofs.YtbmbbcaaimehkaaGreat
end
section
namespace Go.Proofs.YtbmbbcaaimehkaaGreat
open Go.Lf
theorem ZsT {α:Type} (f:α ->Bool) (l:List α):(l.filter f).length + (l.filter fun x=>!f x).length=l.length:=by
 induction l with
 | nil=>rfl
 | cons x l ih=>
   cases e:f x with
   | true=>rw [List.filter_cons_of_pos (by simp [e]),List.filter_cons_of_neg (by simp [e]),List.length_cons,List.length_cons];omega
   | false=>rw [List.filter_cons_of_neg (by simp [e]),List.filter_cons_of_pos (by simp [e]),List.length_cons,List.length_cons];omega
theorem Zwi {u:Zb} (s:Wp u) {x:Zf} (v:MvL u x x.ZX.toNat):∀ j,j <=x.qV.length ->(Yp u x j).2.length + (ZH (Yp u x j).1 x.ZX.toNat).length=j + (ZH u x.ZX.toNat).length:=by
 intro j
 induction j with
 | zero=>
   intro _;have:ZH (Yp u x 0).1 x.ZX.toNat=ZH u x.ZX.toNat:=by unfold ZH;rw [show(Yp u x 0).1.qJ=u.qJ from(XJ u x _).2.2.1]
   rw [this];rfl
 | succ j ih=>
   intro hj;have hs:=Wl s v j;have li:=UF u x j;have ci:=XJ u x x.qV.length;have ih:=ih (by omega)
   have e:ZH (Yp u x (j + 1)).1 x.ZX.toNat= (ZH (Yp u x j).1 x.ZX.toNat).filter fun y=>!JV (Uk x j) y:=by
    show ZH (KA (Yp u x j).1 x.ZX.toNat (Uk x j)) x.ZX.toNat=_;rw [ZcV hs (by rw [li.2.2.2.1,ci.2.2.2.2.2];exact v.hm),if_pos rfl]
   have t:=ZsT (JV (Uk x j)) (ZH (Yp u x j).1 x.ZX.toNat);rw [e];show((Yp u x j).2 ++ Zjp (Yp u x j).1 x.ZX.toNat (Uk x j)).length + _=_;unfold Zjp;rw [List.length_append,List.length_cons,List.length_map];omega
section
variable {F:Nat} {w:Zb}
theorem ZEA (h:Wd w) (m:Nat):(ZH w m).length <=40:=by
 by_cases hm:m < w.qJ.length
 ·have:=h.msg.length_eq;rw [Jc] at this;have hs:=h.shr.sd2;unfold msgs at this;rw [List.length_append,List.length_append] at this;have t:=Zjj (L:=w.qJ.map fun x=>x.map fun y=>y.msg) (List.mem_map.2 ⟨ZH w m,YP hm,rfl⟩);rw [List.length_map] at t;have t':(ZH w m).length <= (QY w.qJ).length:=t;omega
 ·unfold ZH;rw [List.getD_eq_getElem?_getD,List.getElem?_eq_none (by omega)];simp
theorem Zzd (h:Wd w) {k:Nat} (hk:k < w.qG.length):(Uv w k).2.length <=48:=by
 rcases Zfg h.wm (x:=ZP w k) (YP hk) with e | e | e
 ·rw [Zuu e];unfold QC;split
  ·exact(by decide:1 <=48)
  ·split <;> exact(by decide:0 <=48)
 ·rw [Zut e];have v:=h.mvl (YP hk) e;have t:=Zwi (h.shr.Kv.YR k) (x:=ZP w k) ⟨v.ZX,v.hm,v.len,v.few,v.rng⟩ (ZP w k).qV.length (Nat.le_refl _);have f:(ZP w k).qV.length <=8:=v.few;have l:=ZEA h (ZP w k).ZX.toNat;have t':(ZaL (YR w k) (ZP w k)).2.length + (ZH (ZaL (YR w k) (ZP w k)).1 (ZP w k).ZX.toNat).length= (ZP w k).qV.length + (ZH w (ZP w k).ZX.toNat).length:=t;omega
 ·rw [Zus e];exact(by decide:0 <=48)
theorem ZBX (h:Wd w) {s:ZF} (m:May w s):(doW w s).2.length <=48:=by
 rcases m.act with c | c | c | c | c
 ·rw [do1 c];unfold QC;split
  ·exact(by decide:1 <=48)
  ·split <;> exact(by decide:0 <=48)
 ·rw [do2 c];have h8:=h.shr.Kv.p2;have:=U8 w s.a.toNat w.Zx.length;show((Yg w s.a.toNat).map _).length <=48;rw [List.length_map];have:(Yg w s.a.toNat).length <=w.Zx.length:=this;omega
 ·rw [do3 c];exact(by decide:0 <=48)
 ·rw [do4 c];exact(by decide:0 <=48)
 ·rw [do5 c];exact Zzd h (m.lnd c)
theorem Zr8 (hF:400000 <=F) (hM:F <=1000000):ZwH F Zks=some true:=by
 unfold ZwH;rw [show Zb.mk [] [] [] [] [] 0=Zks from rfl,ZlU ZwK (by omega) hM];rfl
end
end Go.Proofs.YtbmbbcaaimehkaaGreat
end
section
namespace Go.Proofs.YtbmbbcaaimehkaaGreat
open Go.Lf
def ZiL (st:Zb×List Zj×List Int) (i:Nat) (s:ZF):Zb×List Zj×List Int:=
 if Ask st.1 s∧Zex st.1 s=0 then((doW st.1 s).1,st.2.1 ++ (doW st.1 s).2,st.2.2 ++ [(i:Int)]) else st
def Yz (w:Zb) (l:List ZF):Nat ->Zb×List Zj×List Int
 | 0=>(w,[],[])
 | k + 1=>ZiL (Yz w l k) k (l.getD k default)
structure PlI (w:Zb) (k:Nat) (st:Zb×List Zj×List Int):Prop where
 wd:Wd st.1
 qG:st.1.qG.length <=w.qG.length + k
 ev:st.2.1.length <=48 * k
 dn:st.2.2.length <=k
 inl:st.1.Zx.length=w.Zx.length
 enl:st.1.qQ.length=w.qQ.length
section
variable {F:Nat} {w:Zb}
theorem ZyE (h:Wd w) (l:List ZF):∀ k,PlI w k (Yz w l k):=by
 intro k
 induction k with
 | zero=>exact⟨h,Nat.le_refl _,Nat.le_refl _,Nat.le_refl _,rfl,rfl⟩
 | succ k ih=>
   show PlI w (k + 1) (ZiL (Yz w l k) k (l.getD k default));unfold ZiL;split
   ·rename_i c;have m:May (Yz w l k).1 (l.getD k default):=Zuo.2 c;have s:=Zvm ih.wd.wm m;have e:=ZBX ih.wd m;have i1:=ih.qG;have i2:=ih.ev;have i3:=ih.dn;exact⟨ZRn ih.wd m,by dsimp only;omega,by dsimp only;rw [List.length_append];omega,by dsimp only;rw [List.length_append,List.length_singleton];omega,by dsimp only;rw [s.1,ih.inl],by dsimp only;rw [s.2.1,ih.enl]⟩
   ·exact⟨ih.wd,by have:=ih.qG;omega,by have:=ih.ev;omega,by have:=ih.dn;omega,ih.inl,ih.enl⟩
theorem Zv3 (hF:400000 <=F) (hM:F <=1000000) (h:Wd w) (hw:w.qG.length < 300) {l:List ZF} (hl:l.length <=80):
 Zs6 F w l=some ((Yz w l l.length).1,(Yz w l l.length).2.1,(Yz w l l.length).2.2,0):=by
 have sm:UW 400 w:=ZeP h (by omega) (by omega);unfold Zs6;rw [ZqY hF hM sm h];simp only [Bq0];rw [Qx,decide_eq_false (show ¬ (l.length:Int) > 80 by omega),Bool.or_self,Cq0,ZwP (by omega) (sm.mono (by omega))];simp only [Bq0];refine Ye (fun k=>((Yz w l k).2.2,(k:Int),(Yz w l k).1.Zx,(Yz w l k).1.qK,(Yz w l k).1.qQ,(Yz w l k).1.qJ,(Yz w l k).1.qG,(Yz w l k).1.said,(Yz w l k).2.1)) rfl (n:=l.length) (by omega) (fun k hk next=>?_) (fun next=>?_)
 ·have I:=ZyE h l k;have i1:=I.qG;have i2:=I.ev;have i3:=I.dn;have smk:UW 900 (Yz w l k).1:=ZeP I.wd (by omega) (by omega);unfold Zoe;dsimp only;rw [ZG hk,Cq1,YM default hk];simp only [Bq0];show((Zs5 (Yz w l k).1 (l.getD k default)).bind fun x115=>(gd x115 (Zs4 F (Yz w l k).1 (l.getD k default)) default).bind fun ZDe=>(bif(x115 && (ZDe==0)) then(ZwE F (Yb.mk (Yz w l k).1 (Yz w l k).2.1) (l.getD k default)).bind fun Jm=>(app 8 (Yz w l k).2.2 [(k:Int)]).bind fun Zxs=>(ZbK (k:Int) next) (Zxs,Jm.Za.Zx,Jm.Za.qK,Jm.Za.qQ,Jm.Za.qJ,Jm.Za.qG,Jm.Za.said,Jm.qX) else(ZbK (k:Int) next) ((Yz w l k).2.2,(Yz w l k).1.Zx,(Yz w l k).1.qK,(Yz w l k).1.qQ,(Yz w l k).1.qJ,(Yz w l k).1.qG,(Yz w l k).1.said,(Yz w l k).2.1)))=_;rw [ZCi];simp only [Bq0];have e1:Yz w l (k + 1)=ZiL (Yz w l k) k (l.getD k default):=rfl;rw [e1];unfold ZiL;by_cases a:Ask (Yz w l k).1 (l.getD k default)
  ·rw [decide_eq_true a,YN,Zpz (by omega) hM I.wd smk a];simp only [Bq0,Bool.true_and];by_cases e:Zex (Yz w l k).1 (l.getD k default)=0
   ·have lm:=ZLu.1 e;rw [Z6,decide_eq_true e,Cq1,ZwN (by omega) hM I.wd smk a lm.1 lm.2 (by omega),if_pos ⟨a,e⟩];simp only [Bq0];rw [app1 (by omega) (by omega)];simp only [Bq0];unfold ZbK;dsimp only;rw [Yw (by omega)]
   ·rw [Z6,decide_eq_false e,Cq0,if_neg fun z=>e z.2];unfold ZbK;dsimp only;rw [Yw (by omega)]
  ·rw [decide_eq_false a,XC,if_neg fun z=>a z.1];simp only [Bq0,Bool.false_and,Cq0];unfold ZbK;dsimp only;rw [Yw (by omega)]
 ·unfold Zoe;dsimp only;rw [ZQ,Cq0]
theorem ZyD (hF:400000 <=F) (hM:F <=1000000) (h:Wd w) (hw:w.qG.length < 300) {l:List ZF} (hl:l.length <=80):
 ZBQ F w l=some (Yz w l l.length):=by
 unfold ZBQ;refine Ye (fun k=>((Yz w l k).2.1,(Yz w l k).2.2,(k:Int),(Yz w l k).1.Zx,(Yz w l k).1.qK,(Yz w l k).1.qQ,(Yz w l k).1.qJ,(Yz w l k).1.qG,(Yz w l k).1.said)) rfl (n:=l.length) (by omega) (fun k hk next=>?_) (fun next=>?_)
 ·have I:=ZyE h l k;have i1:=I.qG;have i2:=I.ev;have i3:=I.dn;have smk:UW 900 (Yz w l k).1:=ZeP I.wd (by omega) (by omega);unfold Zod;dsimp only;rw [ZG hk,Cq1,YM default hk];simp only [Bq0];show((Zs7 (Yz w l k).1 (l.getD k default)).bind fun x79=>(bif(!x79) then(K9 (k:Int) next) ((Yz w l k).2.1,(Yz w l k).2.2,(Yz w l k).1.Zx,(Yz w l k).1.qK,(Yz w l k).1.qQ,(Yz w l k).1.qJ,(Yz w l k).1.qG,(Yz w l k).1.said) else(ZwG F (Yz w l k).1 (l.getD k default)).bind fun x80=>(bif(x80.2.2==0) then(app 40 (Yz w l k).2.1 x80.2.1).bind fun z117=>(app 8 (Yz w l k).2.2 [(k:Int)]).bind fun Zxu=>(K9 (k:Int) next) (z117,Zxu,x80.1.Zx,x80.1.qK,x80.1.qQ,x80.1.qJ,x80.1.qG,x80.1.said) else(K9 (k:Int) next) ((Yz w l k).2.1,(Yz w l k).2.2,(Yz w l k).1.Zx,(Yz w l k).1.qK,(Yz w l k).1.qQ,(Yz w l k).1.qJ,(Yz w l k).1.qG,(Yz w l k).1.said))))=_;rw [ZFG];simp only [Bq0];have e1:Yz w l (k + 1)=ZiL (Yz w l k) k (l.getD k default):=rfl;rw [e1];unfold ZiL;by_cases a:Ask (Yz w l k).1 (l.getD k default)
  ·rw [decide_eq_true a,Bool.not_true,Cq0,ZLE (by omega) I.wd smk a];simp only [Bq0];by_cases e:Zex (Yz w l k).1 (l.getD k default)=0
   ·have ev:=ZBX I.wd (Zuo.2 ⟨a,e⟩);rw [if_pos e,if_pos ⟨a,e⟩];dsimp only;rw [beq_self_eq_true,Cq1,Zg9 (by omega) (by omega)];simp only [Bq0];rw [app1 (by omega) (by omega)];simp only [Bq0];unfold K9;dsimp only;rw [Yw (by omega)]
   ·rw [if_neg e,if_neg fun z=>e z.2];dsimp only;rw [Z6,decide_eq_false e,Cq0];unfold K9;dsimp only;rw [Yw (by omega)]
  ·rw [decide_eq_false a,Bool.not_false,Cq1,if_neg fun z=>a z.1];unfold K9;dsimp only;rw [Yw (by omega)]
 ·unfold Zod;dsimp only;rw [ZQ,Cq0]
theorem Zv4 (hF:400000 <=F) (hM:F <=1000000) (sm:UW 400 w) {l:List ZF} (h:¬ (Wd w∧l.length <=80)):Zs6 F w l=some (Zks,[],[],2):=by
 unfold Zs6;by_cases hw:Wd w
 ·rw [ZqY hF hM sm hw];simp only [Bq0];rw [decide_eq_true (show(l.length:Int) > 80 from Classical.byContradiction fun z=>h ⟨hw,by omega⟩)];rfl
 ·rw [ZB2 hF hM sm hw];rfl
theorem ZkY (F:Nat) (hF:400000 <=F) (hM:F <=1000000) (w:Zb) (l:List ZF):f5L F w l=some true:=by
 obtain⟨b,eb,ib⟩:=Zx0 hF w;unfold f5L;rw [eb];simp only [Bq0];cases b with
 | false=>rfl
 | true=>
 have sm0:=ib rfl;have sm:=sm0.mono (show 201 <=400 by omega);have hwl:=sm0.qG;by_cases ZQ0:(l.length:Int) > 100
 ·rw [decide_eq_true ZQ0];rfl
 rw [decide_eq_false ZQ0,Bool.not_true,Bool.or_self,Cq0];by_cases hw:Wd w∧l.length <=80
 ·obtain⟨h,hl⟩:=hw;rw [Zv3 hF hM h (by omega) hl];simp only [Bq0];rw [Zo9 hF sm h];simp only [Bq0];rw [decide_eq_false (show ¬ (l.length:Int) > 80 by omega),Bool.not_true,Bool.or_self,Cq0,ZyD hF hM h (by omega) hl];simp only [Bq0];have I:=ZyE h l l.length;have i1:=I.qG;have i2:=I.ev;have i3:=I.dn;rw [beq_self_eq_true,YN,ZlU (ZeP I.wd (n:=400) (by omega) (by omega)) (by omega) hM];simp only [Bq0,Bool.and_self,YN];rw [ZqI (by omega) hM];simp only [Bq0,Bool.and_self,YN];rw [Za7 (by omega) hM]
  rfl
 ·rw [Zv4 hF hM sm hw];simp only [Bq0]
  have:∃ c,Zoh F w=some c∧(!c || decide ((l.length:Int) > 80))=true:=by
   by_cases h:Wd w
   ·exact⟨true,Zo9 hF sm h,by rw [decide_eq_true (show(l.length:Int) > 80 from Classical.byContradiction fun z=>hw ⟨h,by omega⟩)];rfl⟩
   ·exact⟨false,ZxC hF sm h,rfl⟩
  obtain⟨c,ec,hc⟩:=this;rw [ec];simp only [Bq0];rw [hc,Cq1,beq_self_eq_true,YN,Zr8 hF hM];rfl
end
end Go.Proofs.YtbmbbcaaimehkaaGreat
end
