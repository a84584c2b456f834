/- Hops Part 14 of the proof. -/
import Derived.Test.YtbmbbcaaimehkaaGreatHa13
set_option linter.all false
set_option maxHeartbeats 2000000
section
namespace Go.Proofs.YtbmbbcaaimehkaaGreat
open Go.Lf
def Wth (w:Zb) (p x:Nat):Prop:=∃ j,up w j (x:Int)= (p:Int)
theorem Wth.bound {w:Zb} (hi:Inn w) {p x:Nat} (hx:x < w.Zv.length) (h:Wth w p x):∃ j,j < w.Zv.length∧up w j (x:Int)= (p:Int):=by
 obtain⟨j,e⟩:=h;refine⟨j,Classical.byContradiction fun q=>?_,e⟩;have:=Ux (hi.acy x hx) (show w.Zv.length <=j by omega);omega
def ZBh (w:Zb) (p x:Nat):Bool:= (List.range w.Zv.length).any fun j=>up w j (x:Int)== (p:Int)
theorem Zef {w:Zb} (hi:Inn w) {p x:Nat} (hx:x < w.Zv.length):ZBh w p x=true↔Wth w p x:=by
 unfold ZBh;rw [List.any_eq_true]
 constructor
 ·rintro⟨j,_,e⟩;exact⟨j,beq_iff_eq.1 e⟩
 ·intro h;obtain⟨j,hj,e⟩:=h.bound hi hx;exact⟨j,List.mem_range.2 hj,beq_iff_eq.2 e⟩
def ZgG (w:Zb) (p k:Nat):List Int:= ((List.range k).filter (ZBh w p)).map Int.ofNat
def Yx (w:Zb) (p:Nat):List Int:=ZgG w p w.Zv.length
theorem Zfr (w:Zb) (p k:Nat):(ZgG w p k).length <=k:=by
 unfold ZgG;rw [List.length_map];have:=List.length_filter_le (ZBh w p) (List.range k)
 rwa [List.length_range] at this
theorem ZkO {w:Zb} (hi:Inn w) {p:Nat} {y:Int}:y ∈ Yx w p↔∃ x:Nat,y= (x:Int)∧x < w.Zv.length∧Wth w p x:=by
 unfold Yx ZgG;rw [List.mem_map]
 constructor
 ·rintro⟨x,h1,rfl⟩;obtain⟨h2,h3⟩:=List.mem_filter.1 h1;have:=List.mem_range.1 h2;exact⟨x,rfl,this,(Zef hi this).1 h3⟩
 ·rintro⟨x,rfl,h1,h2⟩;exact⟨x,List.mem_filter.2 ⟨List.mem_range.2 h1,(Zef hi h1).2 h2⟩,rfl⟩
theorem Zeg (w:Zb) (p:Nat):(Yx w p).Pairwise (· <=·):=by
 unfold Yx ZgG;rw [List.pairwise_map];exact(List.pairwise_lt_range.filter _).imp fun{a b} h=>by show(a:Int) <= (b:Int);omega
theorem Wx (w:Zb) (p:Nat):(Yx w p).Nodup:=by
 unfold Yx ZgG;exact List.Pairwise.map _ (fun a b h q=>h (by have:((a:Nat):Int)= ((b:Nat):Int):=q;omega)) (List.nodup_range.filter _)
def desc (w:Zb):Nat ->Nat ->List Int
 | 0,_=>[]
 | d + 1,v=>(v:Int)::(List.range w.Zv.length).flatMap fun k:Nat=>if inn w (k:Int)= (v:Int) then desc w d k else []
def Zfg (w:Zb) (d v:Nat):Prop:=∀ k,k < w.Zv.length ->∀ j,d <=j ->up w j (k:Int) ≠ (v:Int)
theorem Zfg.all {w:Zb} (hi:Inn w) {v:Nat}:Zfg w w.Zv.length v:=fun k hk j hj q=>by
 have:=Ux (hi.acy k hk) hj;omega
theorem Zem {w:Zb} {x k v j:Nat} (h1:up w j (x:Int)= (k:Int)) (h2:inn w (k:Int)= (v:Int)):up w (j + 1) (x:Int)= (v:Int):=by
 rw [QD,h1,if_neg (by omega),h2]
theorem Zfg.kid {w:Zb} {d v k:Nat} (h:Zfg w (d + 1) v) (h2:inn w (k:Int)= (v:Int)):Zfg w d k:=fun x hx j hj q=>h x hx (j + 1) (by omega) (Zem q h2)
theorem Ze4 {w:Zb} (hi:Inn w):∀ d v,v < w.Zv.length ->Zfg w d v ->∀ y:Int,y ∈ desc w d v↔∃ x:Nat,y= (x:Int)∧x < w.Zv.length∧Wth w v x:=by
 intro d
 induction d with
 | zero=>intro v hv hs;exact absurd rfl (hs v hv 0 (Nat.le_refl _))
 | succ d ih=>
   intro v hv hs y;unfold desc;rw [List.mem_cons,List.mem_flatMap]
   constructor
   ·rintro(h | ⟨k,hk,h⟩)
    ·exact⟨v,h,hv,0,rfl⟩
    ·by_cases e:inn w (k:Int)= (v:Int)
     ·rw [if_pos e] at h;obtain⟨x,h1,h2,j,h3⟩:= (ih k (List.mem_range.1 hk) (hs.kid e) y).1 h;exact⟨x,h1,h2,j + 1,Zem h3 e⟩
     ·rw [if_neg e] at h;cases h
   ·rintro⟨x,rfl,hx,j,hj⟩;cases j with
    | zero=>exact .inl hj
    | succ j=>
      right;rw [QD] at hj;by_cases hn:up w j (x:Int) < 0
      ·rw [if_pos hn] at hj;omega
      ·rw [if_neg hn] at hj;obtain⟨k,e,hk⟩:=JZ (hi.up (q:= (x:Int)) ⟨by omega,by omega⟩ j) hn;rw [e] at hj;refine⟨k,List.mem_range.2 hk,?_⟩;rw [if_pos hj];exact(ih k hk (hs.kid hj) _).2 ⟨x,rfl,hx,j,e⟩
theorem Zih {w:Zb} (hi:Inn w) {v j:Nat} (hv:v < w.Zv.length) (hj:0 < j):up w j (v:Int) ≠ (v:Int):=by
 intro e
 have h:∀ m,up w (m * j) (v:Int)= (v:Int):=by
  intro m
  induction m with
  | zero=>rw [Nat.zero_mul];rfl
  | succ m ih=>rw [Nat.succ_mul,up_add,ih,e]
 have:=h w.Zv.length;have h2:=Ux (hi.acy v hv) (show w.Zv.length <=w.Zv.length * j from Nat.le_mul_of_pos_right _ hj);omega
theorem ZrM {w:Zb} (hi:Inn w):∀ d v,v < w.Zv.length ->Zfg w d v ->(desc w d v).Nodup:=by
 intro d
 induction d with
 | zero=>intro v hv hs;exact absurd rfl (hs v hv 0 (Nat.le_refl _))
 | succ d ih=>
   intro v hv hs;unfold desc;rw [List.nodup_cons];refine⟨fun h=>?_,?_⟩
   ·obtain⟨k,hk,h⟩:=List.mem_flatMap.1 h;by_cases e:inn w (k:Int)= (v:Int)
    ·rw [if_pos e] at h;obtain⟨x,h1,h2,j,h3⟩:= (Ze4 hi d k (List.mem_range.1 hk) (hs.kid e) _).1 h;have:x=v:=by omega
     subst this;exact Zih hi hv (Nat.succ_pos j) (Zem h3 e)
    ·rw [if_neg e] at h;cases h
   ·unfold List.Nodup;rw [List.pairwise_flatMap];refine⟨fun k hk=>?_,?_⟩
    ·by_cases e:inn w (k:Int)= (v:Int)
     ·rw [if_pos e];exact ih k (List.mem_range.1 hk) (hs.kid e)
     ·rw [if_neg e];exact List.Pairwise.nil
    ·refine List.Pairwise.imp_of_mem (R:= (· < ·)) (fun{a b} ha hb hab y hy z hz e=>?_) List.pairwise_lt_range;subst e;by_cases ea:inn w (a:Int)= (v:Int)
     ·rw [if_pos ea] at hy;by_cases eb:inn w (b:Int)= (v:Int)
      ·rw [if_pos eb] at hz;obtain⟨x,h1,h2,j1,h3⟩:= (Ze4 hi d a (List.mem_range.1 ha) (hs.kid ea) _).1 hy;obtain⟨x',h1',h2',j2,h4⟩:= (Ze4 hi d b (List.mem_range.1 hb) (hs.kid eb) _).1 hz;have:x=x':=by omega
       subst this;have u1:=Zem h3 ea;have u2:=Zem h4 eb;rcases Nat.lt_trichotomy j1 j2 with q | q | q
       ·rw [show j2 + 1= (j1 + 1) + (j2 - j1) by omega,up_add,u1] at u2;exact Zih hi hv (by omega) u2
       ·subst q;rw [h3] at h4;omega
       ·rw [show j1 + 1= (j2 + 1) + (j1 - j2) by omega,up_add,u2] at u1;exact Zih hi hv (by omega) u1
      ·rw [if_neg eb] at hz;cases hz
     ·rw [if_neg ea] at hy;cases hy
theorem Zc4 {w:Zb} (hi:Inn w) {v:Nat} (hv:v < w.Zv.length):(desc w w.Zv.length v).Perm (Yx w v):=
 (List.perm_ext_iff_of_nodup (ZrM hi _ v hv (Zfg.all hi)) (Wx w v)).2 fun a=>by rw [Ze4 hi _ v hv (Zfg.all hi),ZkO hi]
theorem Zvd {w:Zb} (hi:Inn w) {v:Nat} (hv:v < w.Zv.length):Ul (desc w w.Zv.length v)=Yx w v:=Zdh (Zc4 hi hv) (Zeg w v)
theorem ZjH {w:Zb} (hi:Inn w) {v:Nat} (hv:v < w.Zv.length):(desc w w.Zv.length v).length <=w.Zv.length:=by
 rw [(Zc4 hi hv).length_eq];exact Zfr _ _ _
def kids (w:Zb) (d v k:Nat):List Int:= (List.range k).flatMap fun k:Nat=>if inn w (k:Int)= (v:Int) then desc w d k else []
theorem ZfO (w:Zb) (d v k:Nat):kids w d v (k + 1)=kids w d v k ++ (if inn w (k:Int)= (v:Int) then desc w d k else []):=by
 unfold kids;rw [List.range_succ,List.flatMap_append];simp
theorem ZBO {w:Zb} {d v a b:Nat} (h:a <=b):(kids w d v a).length <= (kids w d v b).length:=by
 obtain⟨c,rfl⟩:∃ c,b=a + c:= ⟨b - a,by omega⟩
 induction c with
 | zero=>exact Nat.le_refl _
 | succ c ih=>
   rw [show a + (c + 1)= (a + c) + 1 by omega,ZfO,List.length_append];have:=ih (by omega);omega
theorem gather {F:Nat} (hF:1000 <=F) {w:Zb} (h8:w.Zv.length <=8)
 {B:Int ->(Int×List Int ->Option (Bool×List Int)) ->Int×List Int ->(Int×List Int ->Option (Bool×List Int)) ->Option (Bool×List Int)}
 {R:Int×List Int ->(Int×List Int ->Option (Bool×List Int)) ->Option (Bool×List Int)}
 (hR:∀ v l next,R (v,l) next= (app 8 l [v]).bind fun z=>loop F (B v next) (0,z))
 (hB:∀ v next k l nx,B v next (k,l) nx=bif decide (k < (w.Zv.length:Int)) then(ZQ w.Zv k).bind fun x=>(bif x==v then(next (k,l)).bind fun p=>(bif !p.1 then some (false,p.2) else nx (Xa (k + 1),p.2)) else nx (Xa (k + 1),l)) else some (true,l)):
 ∀ d v l F',d < F' ->v < w.Zv.length ->Zfg w d v ->l.length + (desc w d v).length <=800000 ->loop F' R ((v:Int),l)=some (true,l ++ desc w d v):=by
 intro d
 induction d with
 | zero=>intro v l F' _ hv hs;exact absurd rfl (hs v hv 0 (Nat.le_refl _))
 | succ d ih=>
   intro v l F' hF' hv hs hlen;have ed:desc w (d + 1) v= (v:Int)::kids w d v w.Zv.length:=rfl;rw [ed,List.length_cons] at hlen;cases F' with
   | zero=>omega
   | succ F'=>
     rw [ZcT,hR,Zr3 (by rw [List.length_singleton];omega)];simp only [Bq0];refine Yp (fun k=>((k:Int),l ++ [(v:Int)] ++ kids w d v k)) (by simp [kids]) (n:=w.Zv.length) (by omega) (fun k hk next=>?_) (fun next=>?_)
     ·have hle:=ZBO (w:=w) (d:=d) (v:=v) (show k + 1 <=w.Zv.length by omega);rw [ZfO] at hle ⊢;rw [hB,ZO hk,Cq1,XO hk];simp only [Bq0];by_cases e:inn w (k:Int)= (v:Int)
      ·rw [Yg,decide_eq_true e,Cq1,if_pos e];rw [if_pos e,List.length_append] at hle;rw [ih k _ F' (by omega) hk (hs.kid e) (by simp only [List.length_append,List.length_singleton];omega)];simp only [Bq0,Bool.not_true,Cq0];rw [YD (by omega),← List.append_assoc]
      ·rw [Yg,decide_eq_false e,Cq0,if_neg e,List.append_nil,YD (by omega)]
     ·rw [hB,ZT,Cq0,ed,List.append_assoc];rfl
def old (w:Zb) (q:Int):Bool:=decide ((sp w q.toNat).age >=30)
def lim (w:Zb) (s:Zx):Bool:=if s.act=1 then decide (w.said >=40) else if s.act=2 then(Yx w s.a.toNat).any (old w) else false
def Alw (w:Zb) (s:Zx):Prop:=
 (s.act=2 ->(sp w s.a.toNat).here=true∧(sp w s.a.toNat).machine ≠ s.b)∧
 (s.act=3 ->s.b ∉ Yx w s.a.toNat∧inn w s.a=-1∧(sp w s.a.toNat).here=true∧(sp w s.b.toNat).here=true∧(sp w s.a.toNat).machine= (sp w s.b.toNat).machine)∧
 (s.act=4 ->(sp w s.a.toNat).here=true∧inn w s.a ≠ -1)
instance (w:Zb) (s:Zx):Decidable (Alw w s):=by unfold Alw;infer_instance
def ZbE (w:Zb) (s:Zx):Int:=if lim w s then 3 else if Alw w s then 0 else 7
section
variable {F:Nat} {w:Zb}
theorem Uh.nat {p:Int} {n:Nat} (h:Uh p n):∃ k:Nat,p= (k:Int)∧k < n:= ⟨p.toNat,by have:=h.1;omega,by have h1:=h.1;have h2:=h.2;omega⟩
end
end Go.Proofs.YtbmbbcaaimehkaaGreat
end
section
namespace Go.Proofs.YtbmbbcaaimehkaaGreat
open Go.Lf
section
variable {F:Nat} {w:Zb}
theorem Zkj (w:Zb) (f:Int ->Bool) (d v k:Nat):(kids w d v (k + 1)).any f= ((kids w d v k).any f || (if inn w (k:Int)= (v:Int) then(desc w d k).any f else false)):=by
 rw [ZfO,List.any_append];by_cases e:inn w (k:Int)= (v:Int)
 ·rw [if_pos e,if_pos e]
 ·rw [if_neg e,if_neg e];rfl
theorem oldest (hF:1000 <=F) (hM:F <=1000000) (h:Wd w) (sm:WM 900 w):∀ d v (x:Int) F',d < F' ->v < w.Zv.length ->Zfg w d v ->loop F' (Zcp F w) ((v:Int),x,false)=some (if(desc w d v).any (old w) then(false,3,true) else(true,x,false)):=by
 have h8:=h.shr.WT.p2;intro d
 induction d with
 | zero=>intro v x F' _ hv hs;exact absurd rfl (hs v hv 0 (Nat.le_refl _))
 | succ d ih=>
   intro v x F' hF' hv hs;have ed:(desc w (d + 1) v).any (old w)= (old w (v:Int) || (kids w d v w.Zv.length).any (old w)):=rfl;rw [ed];cases F' with
   | zero=>omega
   | succ F'=>
     rw [ZcT];unfold Zcp;dsimp only;rw [Cq0,Zau hF hM h sm hv];simp only [Bq0];have eo:old w (v:Int)=decide ((sp w v).age >=30):=rfl;by_cases ho:(sp w v).age >=30
     ·rw [eo,decide_eq_true ho,Cq1,Bool.not_false,Cq1,Bool.true_or];rfl
     ·rw [eo,decide_eq_false ho,Cq0,Bool.not_true,Cq0,Bool.false_or]
      change loop F (ZdU w (v:Int) (loop F' (Zcp F w))) (0,x,false)=_
      have step:∀ k,k < w.Zv.length ->∀ nx,ZdU w (v:Int) (loop F' (Zcp F w)) ((k:Int),x,false) nx=bif(if inn w (k:Int)= (v:Int) then(desc w d k).any (old w) else false) then some (false,3,true) else nx (((k + 1:Nat):Int),x,false):=fun k hk nx=>by
       unfold ZdU;dsimp only;rw [ZO hk,Cq1,XO hk];simp only [Bq0];by_cases e:inn w (k:Int)= (v:Int)
       ·rw [Yg,decide_eq_true e,Cq1,if_pos e,ih k x F' (by omega) hk (hs.kid e)];simp only [Bq0];cases (desc w d k).any (old w) with
        | true=>rfl
        | false=>
          simp only [Bool.false_eq_true,if_false,Bool.not_true,Cq0];rw [YD (by omega)]
       ·rw [Yg,decide_eq_false e,Cq0,if_neg e,Cq0,YD (by omega)]
      have:=ZoG (F:=F) (body:=ZdU w (v:Int) (loop F' (Zcp F w))) (r1:=some (false,3,true)) (r2:=some (true,x,false)) (fun k=>((k:Int),x,false)) (fun k=>if inn w (k:Int)= (v:Int) then(desc w d k).any (old w) else false) (n:=w.Zv.length) (by omega) step (fun next=>by unfold ZdU;dsimp only;rw [ZT];rfl);refine this.trans ?_
      have e2:∀ n,(List.range n).any (fun k:Nat=>if inn w (k:Int)= (v:Int) then(desc w d k).any (old w) else false)= (kids w d v n).any (old w):=by
       intro n
       induction n with
       | zero=>rfl
       | succ n ihn=>rw [List.range_succ,List.any_append,ihn,Zkj];simp
      rw [e2];cases (kids w d v w.Zv.length).any (old w) <;> rfl
theorem ZAs {α:Type} {l l':List α} (h:l.Perm l') (f:α ->Bool):l.any f=l'.any f:=by
 rw [Bool.eq_iff_iff,List.any_eq_true,List.any_eq_true];exact⟨fun⟨x,a,b⟩=>⟨x,h.mem_iff.1 a,b⟩,fun⟨x,a,b⟩=>⟨x,h.mem_iff.2 a,b⟩⟩
theorem Zog (hF:1000 <=F) (hM:F <=1000000) (h:Wd w) (sm:WM 900 w) {s:Zx} (ha:Ask w s):Zu2 F w s=some (ZbE w s):=by
 have e:∀ k:Int,(s.act==k)=decide (s.act=k):=fun k=>Yg _ _
 have h8:=h.shr.WT.p2;unfold Zu2 ZbE;by_cases h1:s.act=1
 ·rw [e,decide_eq_true h1,Cq1];have hA:Alw w s:= ⟨fun z=>by omega,fun z=>by omega,fun z=>by omega⟩
  unfold lim;rw [if_pos h1,if_pos hA];by_cases q:w.said >=40
  ·rw [decide_eq_true q];rfl
  ·rw [decide_eq_false q];rfl
 rw [e 1,decide_eq_false h1,Cq0];by_cases h2:s.act=2
 ·have hin:Uh s.a w.Zv.length:=by
   rcases ha with q | q | q | q | q
   ·omega
   ·exact q.2.1
   ·omega
   ·omega
   ·omega
  obtain⟨p,ep,hp⟩:=hin.nat;rw [e,decide_eq_true h2,Cq1,ep,oldest hF hM h sm w.Zv.length p 0 F (by omega) hp (Zfg.all h.shr.inn),ZAs (Zc4 h.shr.inn hp)];unfold lim;rw [if_neg h1,if_pos h2,ep,Int.toNat_natCast];cases (Yx w p).any (old w) with
  | true=>rfl
  | false=>
    simp only [Bool.false_eq_true,if_false,Bq0];unfold Zm1;dsimp only;rw [Cq0,ep,Zau hF hM h sm hp];simp only [Bq0]
    have hA:Alw w s↔(sp w p).here=true∧(sp w p).machine ≠ s.b:=by
     unfold Alw;rw [ep,Int.toNat_natCast];exact⟨fun q=>q.1 h2,fun q=>⟨fun _=>q,fun z=>by omega,fun z=>by omega⟩⟩
    cases hh:(sp w p).here with
    | true=>
      by_cases q:(sp w p).machine=s.b
      ·rw [Yg,decide_eq_true q,if_neg (fun z=>(hA.1 z).2 q)];rfl
      ·rw [Yg,decide_eq_false q,if_pos (hA.2 ⟨hh,q⟩)];rfl
    | false=>
      rw [if_neg (fun z=>by have:= (hA.1 z).1;rw [hh] at this;cases this)];rfl
 have hl:lim w s=false:=by unfold lim;rw [if_neg h1,if_neg h2]
 rw [e 2,decide_eq_false h2,Cq0,hl];simp only [Bool.false_eq_true,if_false];by_cases h3:s.act=3
 ·have hin:Uh s.a w.Zv.length∧Uh s.b w.Zv.length:=by
   rcases ha with q | q | q | q | q
   ·omega
   ·omega
   ·exact q.2
   ·omega
   ·omega
  obtain⟨p,ep,hp⟩:=hin.1.nat;obtain⟨r,er,hr⟩:=hin.2.nat
  have hA:Alw w s↔s.b ∉ Yx w p∧inn w (p:Int)=-1∧(sp w p).here=true∧(sp w r).here=true∧(sp w p).machine= (sp w r).machine:=by
   unfold Alw;rw [ep,er,Int.toNat_natCast,Int.toNat_natCast];exact⟨fun q=>q.2.1 h3,fun q=>⟨fun z=>by omega,fun _=>q,fun z=>by omega⟩⟩
  rw [e,decide_eq_true h3,Cq1,ep,er,Zau hF hM h sm hp,Zau hF hM h sm hr];simp only [Bq0];rw [XO hp];simp only [Bq0];by_cases g:inn w (p:Int)=-1∧(sp w p).here=true∧(sp w r).here=true∧(sp w p).machine= (sp w r).machine
  ·obtain⟨g1,g2,g3,g4⟩:=g;rw [g1,g2,g3,g4,QE,QE];simp only [Bool.not_true,Bool.or_self,Bool.not_false,Cq1];unfold ZmZ;simp only [Bq0]
   have hg:loop F (Zjr F w) (s.a,[])=some (true,desc w w.Zv.length p):=by
    rw [ep];have hdl:=ZjH h.shr.inn hp;exact gather hF h8 (B:=fun v next=>ZrG w v next) (R:=Zjr F w) (fun v l next=>rfl) (fun v next k l nx=>rfl) w.Zv.length p [] F (by omega) hp (Zfg.all h.shr.inn) (by simp;omega)
   unfold ZmY;rw [hg];simp only [Bq0];unfold Zm0;simp only [Bq0];have hdl:=ZjH h.shr.inn hp;obtain⟨b,eb,ib⟩:=Zaq (F:=F) hF (l:=desc w w.Zv.length p) (by omega) s.b;rw [er] at eb;rw [eb];simp only [Bq0];have hm:s.b ∈ desc w w.Zv.length p↔s.b ∈ Yx w p:= (Zc4 h.shr.inn hp).mem_iff;cases b with
   | true=>rw [if_neg (fun z=>(hA.1 z).1 (hm.1 (ib.1 rfl)))];rfl
   | false=>
     rw [if_pos (hA.2 ⟨fun z=>(by have:=ib.2 (hm.2 z);cases this),g1,g2,g3,g4⟩)];rfl
  ·have:(((inn w (p:Int) != (-1)) || !(sp w p).here) || !(sp w r).here || ((sp w p).machine != (sp w r).machine))=true:=by
    rw [← Bool.not_eq_false];intro z;simp only [Bool.or_eq_false_iff,bne_eq_false_iff_eq,Bool.not_eq_false'] at z;exact g ⟨z.1.1.1,z.1.1.2,z.1.2,z.2⟩
   rw [this,Bool.not_true,Cq0,if_neg (fun z=>g (hA.1 z).2)]
 rw [e 3,decide_eq_false h3,Cq0];by_cases h4:s.act=4
 ·have hin:Uh s.a w.Zv.length:=by
   rcases ha with q | q | q | q | q
   ·omega
   ·omega
   ·omega
   ·exact q.2
   ·omega
  obtain⟨p,ep,hp⟩:=hin.nat
  have hA:Alw w s↔(sp w p).here=true∧inn w (p:Int) ≠ -1:=by
   unfold Alw;rw [ep,Int.toNat_natCast];exact⟨fun q=>q.2.2 h4,fun q=>⟨fun z=>by omega,fun z=>by omega,fun _=>q⟩⟩
  rw [e,decide_eq_true h4,Cq1,ep,Zau hF hM h sm hp];simp only [Bq0];cases hh:(sp w p).here with
  | true=>
    simp only [Bool.not_true,Bool.not_false,YR,Bool.false_or];rw [XO hp];simp only [Bq0];by_cases q:inn w (p:Int)=-1
    ·rw [Yg,decide_eq_true q,if_neg (fun z=>(hA.1 z).2 q)];rfl
    ·rw [Yg,decide_eq_false q,if_pos (hA.2 ⟨hh,q⟩)];rfl
  | false=>
    rw [if_neg (fun z=>by have:= (hA.1 z).1;rw [hh] at this;cases this)];rfl
 rw [e 4,decide_eq_false h4,Cq0,if_pos (show Alw w s from⟨fun z=>absurd z h2,fun z=>absurd z h3,fun z=>absurd z h4⟩)]
end
end Go.Proofs.YtbmbbcaaimehkaaGreat
end
section
namespace Go.Proofs.YtbmbbcaaimehkaaGreat
open Go.Lf
def Qt (w:Zb) (p:Nat):List Int:=w.qK.getD p []
def Zbv (to:Int) (y:Zr):Ze:= ⟨1,to,y,[],[],0,0,0⟩
def Zw2 (to p at_ age:Int):Ze:= ⟨3,to,⟨0,0,0,0,0⟩,[],[],p,at_,age⟩
def Zxl (to:Int) (qV Yk:List Int):Ze:= ⟨2,to,⟨0,0,0,0,0⟩,qV,Yk,0,0,0⟩
def Wh (x:Zr) (e:Zw):Zr:= ⟨x.msg,x.place,x.from_,e.age,x.hops + 1⟩
def told (m:Int) (x:Zr) (e:Zw) (now:Bool):List Ze:=if now=false∧x.from_ ≠ m∧x.from_ ≠ e.Z9 then [Zw2 x.from_ x.place e.Z9 e.age] else []
def Xu (w:Zb) (m:Nat) (x:Zr) (now:Bool):Zb×List ZI:=
 if(E w m x.place.toNat).here=true then({w with qK:=Yv w.qK x.place (Qt w x.place.toNat ++ [x.msg])},[⟨1,x.place,(m:Int),x.msg,x.hops⟩])
 else if now=false∧(E w m x.place.toNat).age <=x.age then({w with qJ:=Yv w.qJ (m:Int) (ZF w m ++ [x])},[])
 else({w with qG:=w.qG ++ Zbv (E w m x.place.toNat).Z9 (Wh x (E w m x.place.toNat))::told (m:Int) x (E w m x.place.toNat) now},[])
section
variable {F:Nat} {w:Zb}
theorem ZAb (s:WN w) {p:Nat} (hp:p < w.Zv.length):ZQ w.qK (p:Int)=some (Qt w p):=YM [] (by rw [s.bx];exact hp)
theorem Zlb (s:WN w) {m:Nat} (hm:m < w.qQ.length):ZQ w.qJ (m:Int)=some (ZF w m):=YM [] (by rw [s.hd];exact hm)
theorem ZtI (s:WN w) (sm:WM 900 w) {p:Nat} (hp:p < w.Zv.length):(Qt w p).length < 900:=sm.box _ (Yj (by rw [s.bx];exact hp))
theorem Zo7 (s:WN w) (sm:WM 900 w) {m:Nat} (hm:m < w.qQ.length):(ZF w m).length < 900:=sm.hel _ (Yj (by rw [s.hd];exact hm))
theorem ZwH (s:WN w) (sm:WM 900 w) {m:Nat} {x:Zr} {p:Nat} (hx:x.place= (p:Int)) (hp:p < w.Zv.length) {ev:List ZI} (he:ev.length <=800000):
 Zg1 ⟨w,ev⟩ (m:Int) x=some ⟨{w with qK:=Yv w.qK x.place (Qt w p ++ [x.msg])},ev ++ [⟨1,x.place,(m:Int),x.msg,x.hops⟩]⟩:=by
 have h1:=ZtI s sm hp;unfold Zg1;rw [hx,ZAb s hp];simp only [Bq0];rw [app1 (by omega) (by omega)];simp only [Bq0];rw [app1 (by omega) (by omega)]
 rfl
theorem Zh4 (s:WN w) (sm:WM 900 w) {m:Nat} (hm:m < w.qQ.length) {x:Zr} (hp:x.place.toNat < w.Zv.length) (h0:0 <=x.place) (hh:0 <=x.hops) (hh2:x.hops <=1000) (now:Bool) {ev:List ZI} (he:ev.length <=800000):
 Zpp ⟨w,ev⟩ (m:Int) x now=some ⟨(Xu w m x now).1,ev ++ (Xu w m x now).2⟩:=by
 obtain⟨p,hx⟩:∃ p:Nat,x.place= (p:Int):= ⟨x.place.toNat,by omega⟩
 have h1:=Zo7 s sm hm;have h2:=sm.qG;rw [hx,Int.toNat_natCast] at hp;unfold Zpp Xu;dsimp only;rw [s.row hm];simp only [Bq0];rw [hx,s.ent hm hp];simp only [Bq0];rw [Int.toNat_natCast];cases hE:(E w m p).here with
 | true=>
   rw [Cq1,ZwH s sm hx hp he,if_pos rfl,hx];rfl
 | false=>
   rw [Cq0,if_neg (by simp)];by_cases hc:now=false∧(E w m p).age <=x.age
   ·rw [if_pos hc,hc.1,decide_eq_false (show ¬ (E w m p).age > x.age by have:=hc.2;omega),Bool.or_self,Cq0,Zlb s hm];simp only [Bq0];rw [app1 (by omega) (by omega)];simp only [Bq0,List.append_nil]
   ·have e:(decide ((E w m p).age > x.age) || now)=true:=by
     rw [← Bool.not_eq_false];intro z;simp only [Bool.or_eq_false_iff,decide_eq_false_iff_not] at z;exact hc ⟨z.2,by omega⟩
    rw [if_neg hc,e,Cq1,app1 (by omega) (by omega)];simp only [Bq0];rw [Zah (by omega) (by omega)];unfold told Zbv Wh Zw2;rw [hx];by_cases ht:now=false∧x.from_ ≠ (m:Int)∧x.from_ ≠ (E w m p).Z9
    ·rw [if_pos ht,ht.1,QZ,QZ,decide_eq_true ht.2.1,decide_eq_true ht.2.2];simp only [Bool.not_false,Bool.and_self,Cq1];rw [app1 (by rw [List.length_append,List.length_singleton];omega) (by omega)];simp only [Bq0,List.append_nil,List.append_assoc]
     rfl
    ·have e2:(((!now) && (x.from_ != (m:Int))) && (x.from_ != (E w m p).Z9))=false:=by
      rw [← Bool.not_eq_true];intro z;simp only [Ba0,Bool.not_eq_true',bne_iff_ne] at z;exact ht ⟨z.1.1,z.1.2,z.2⟩
     rw [e2,Cq0,if_neg ht,List.append_nil]
end
end Go.Proofs.YtbmbbcaaimehkaaGreat
end
section
namespace Go.Proofs.YtbmbbcaaimehkaaGreat
open Go.Lf
theorem Xc {α:Type} (l:List α) (k:Int) (x:α):(Yv l k x).length=l.length:=by simp [Yv]
theorem QH {α:Type} {l:List α} {k j:Nat} {x d:α} (h:k < l.length):(Yv l (k:Int) x).getD j d=if j=k then x else l.getD j d:=by
 unfold Yv;rw [Int.toNat_natCast,List.getD_eq_getElem?_getD,List.getElem?_set,List.getD_eq_getElem?_getD];by_cases e:k=j
 ·subst e;simp [h]
 ·rw [if_neg e,if_neg (fun q=>e q.symm)]
theorem ZaB {α:Type} {l:List α} {k:Nat} {x:α} (h:k < l.length):ZQ (Yv l (k:Int) x) (k:Int)=some x:=by
 rw [YM x (by rw [Xc];exact h),QH h,if_pos rfl]
theorem ZkX {α:Type} (l:List α) (k:Int) (x y:α):Yv (Yv l k x) k y=Yv l k y:=by simp [Yv]
theorem Zuc {α:Type} {l:List α} {k:Nat} (d:α) (h:k < l.length):Yv l (k:Int) (l.getD k d)=l:=by
 unfold Yv;rw [Int.toNat_natCast];apply List.ext_getElem?;intro i;rw [List.getElem?_set];by_cases e:k=i
 ·subst e;rw [if_pos rfl,if_pos h,List.getD_eq_getElem?_getD,List.getElem?_eq_getElem h];rfl
 ·rw [if_neg e]
def setW (w:Zb) (m p:Nat) (e:Zw):Zb:= {w with qQ:=Yv w.qQ (m:Int) (Yv (row w m) (p:Int) e)}
theorem WN.setW {w:Zb} (s:WN w) {m p:Nat} (hm:m < w.qQ.length) (e:Zw):WN (setW w m p e):=by
 refine⟨by show 1 <= (Yv _ _ _).length;rw [Xc];exact s.m1,by show(Yv _ _ _).length <=5;rw [Xc];exact s.m2,s.p1,s.p2,s.bx,by show w.qJ.length= (Yv _ _ _).length;rw [Xc];exact s.hd,fun l hl=>?_⟩;have hl':l ∈ Yv w.qQ (m:Int) (Yv (Proofs.YtbmbbcaaimehkaaGreat.row w m) (p:Int) e):=hl;unfold Yv at hl';rcases List.mem_or_eq_of_mem_set hl' with q | q
 ·exact s.rw_ _ q
 ·rw [q];simp only [List.length_set];exact s.len hm
theorem ZbU (w:Zb) (m p:Nat) (e:Zw):(setW w m p e).qQ.length=w.qQ.length:=Xc _ _ _
theorem ZnD {w:Zb} (s:WN w) {m p:Nat} (hm:m < w.qQ.length) (hp:p < w.Zv.length) (e:Zw) (m' p':Nat):E (setW w m p e) m' p'=if m'=m∧p'=p then e else E w m' p':=by
 have hr:row (setW w m p e) m'=if m'=m then Yv (row w m) (p:Int) e else row w m':=QH hm
 unfold E;rw [hr];by_cases h:m'=m
 ·subst h;rw [if_pos rfl,QH (by rw [s.len hm];exact hp)];by_cases h2:p'=p
  ·rw [if_pos h2,if_pos ⟨rfl,h2⟩]
  ·rw [if_neg h2,if_neg (fun q=>h2 q.2)]
 ·rw [if_neg h,if_neg (fun q=>h q.1)]
structure MvL (w:Zb) (x:Ze) (m:Nat):Prop where
 Z9:x.Z9= (m:Int)
 hm:m < w.qQ.length
 len:x.Yk.length=x.qV.length
 few:x.qV.length <=8
 rng:∀ i,i < x.qV.length ->Uh (x.qV.getD i 0) w.Zv.length
def WY (x:Ze) (i:Nat):Nat:= (x.qV.getD i 0).toNat
theorem MvL.WY {w:Zb} {x:Ze} {m:Nat} (v:MvL w x m) {i:Nat} (hi:i < x.qV.length):x.qV.getD i 0= (Proofs.YtbmbbcaaimehkaaGreat.WY x i:Int)∧Proofs.YtbmbbcaaimehkaaGreat.WY x i < w.Zv.length:=by
 have:=v.rng i hi;unfold Uh at this;unfold Proofs.YtbmbbcaaimehkaaGreat.WY;omega
def Qc (w:Zb) (x:Ze):Nat ->Zb
 | 0=>w
 | k + 1=>setW (Qc w x k) x.Z9.toNat (WY x k) ⟨true,x.Z9,x.Yk.getD k 0⟩
theorem Qs (w:Zb) (x:Ze):∀ k,(Qc w x k).Zv=w.Zv∧(Qc w x k).qK=w.qK∧(Qc w x k).qJ=w.qJ∧(Qc w x k).qG=w.qG∧(Qc w x k).said=w.said∧(Qc w x k).qQ.length=w.qQ.length:=by
 intro k
 induction k with
 | zero=>exact⟨rfl,rfl,rfl,rfl,rfl,rfl⟩
 | succ k ih=>exact⟨ih.1,ih.2.1,ih.2.2.1,ih.2.2.2.1,ih.2.2.2.2.1,(ZbU _ _ _ _).trans ih.2.2.2.2.2⟩
theorem Zgo {w:Zb} (s:WN w) {x:Ze} {m:Nat} (v:MvL w x m):∀ k,WN (Qc w x k):=by
 intro k
 induction k with
 | zero=>exact s
 | succ k ih=>exact ih.setW (by rw [(Qs w x k).2.2.2.2.2,v.Z9,Int.toNat_natCast];exact v.hm) _
def WH (p:Nat) (y:Zr):Bool:=y.place== (p:Int)
def ZCu (m:Nat) (y:Zr):ZI:= ⟨1,y.place,(m:Int),y.msg,y.hops⟩
def ZaM (w:Zb) (m p:Nat):Zb:=
 {w with qK:=Yv w.qK (p:Int) (Qt w p ++ ((ZF w m).filter (WH p)).map (fun y=>y.msg)),qJ:=Yv w.qJ (m:Int) ((ZF w m).filter fun y=>!WH p y)}
def Zmy (w:Zb) (m p:Nat):List ZI:= ⟨3,(p:Int),(m:Int),0,0⟩::((ZF w m).filter (WH p)).map (ZCu m)
def Yw (w:Zb) (x:Ze):Nat ->Zb×List ZI
 | 0=>(Qc w x x.qV.length,[])
 | k + 1=>(ZaM (Yw w x k).1 x.Z9.toNat (WY x k),(Yw w x k).2 ++ Zmy (Yw w x k).1 x.Z9.toNat (WY x k))
def ZdL (w:Zb) (x:Ze):Zb×List ZI:=Yw w x x.qV.length
theorem KQ (w:Zb) (x:Ze):∀ k,(Yw w x k).1.Zv=w.Zv∧(Yw w x k).1.qG=w.qG∧(Yw w x k).1.said=w.said∧(Yw w x k).1.qQ= (Qc w x x.qV.length).qQ∧(Yw w x k).1.qK.length=w.qK.length∧(Yw w x k).1.qJ.length=w.qJ.length:=by
 intro k
 induction k with
 | zero=>
   have:=Qs w x x.qV.length;exact⟨this.1,this.2.2.2.1,this.2.2.2.2.1,rfl,by rw [show(Yw w x 0).1=Qc w x x.qV.length from rfl,this.2.1],by rw [show(Yw w x 0).1=Qc w x x.qV.length from rfl,this.2.2.1]⟩
 | succ k ih=>exact⟨ih.1,ih.2.1,ih.2.2.1,ih.2.2.2.1,(Xc _ _ _).trans ih.2.2.2.2.1,(Xc _ _ _).trans ih.2.2.2.2.2⟩
theorem Kr {w:Zb} (s:WN w) {x:Ze} {m:Nat} (v:MvL w x m) (k:Nat):WN (Yw w x k).1:=by
 have c:=Zgo s v x.qV.length;have h:=KQ w x k;have h2:=Qs w x x.qV.length;exact⟨by rw [h.2.2.2.1];exact c.m1,by rw [h.2.2.2.1];exact c.m2,by rw [h.1];exact s.p1,by rw [h.1];exact s.p2,by rw [h.2.2.2.2.1,h.1];exact s.bx,by rw [h.2.2.2.2.2,h.2.2.2.1,h2.2.2.2.2.2];exact s.hd,by rw [h.2.2.2.1,h.1,← h2.1];exact c.rw_⟩
theorem ZBE {u:Zb} {ev:List ZI} {x:Zr} {b:List Int} (hb:ZQ u.qK x.place=some b) (h1:b.length <=800000) (he:ev.length <=800000) (m:Int):
 Zg1 ⟨u,ev⟩ m x=some ⟨{u with qK:=Yv u.qK x.place (b ++ [x.msg])},ev ++ [⟨1,x.place,m,x.msg,x.hops⟩]⟩:=by
 unfold Zg1;rw [hb];simp only [Bq0];rw [app1 (by omega) (by omega)];simp only [Bq0];rw [app1 (by omega) (by omega)]
 rfl
theorem ZgZ {α:Type} {f:α ->Bool} {l:List α} {j:Nat} (h:j < l.length):(l.take (j + 1)).filter f= (l.take j).filter f ++ (if f l[j] then [l[j]] else []):=by
 rw [List.take_add_one,List.getElem?_eq_getElem h,List.filter_append];congr 1;show List.filter f [l[j]]=_;by_cases q:f l[j]=true
 ·rw [if_pos q,List.filter_cons,if_pos q];rfl
 ·rw [if_neg q,List.filter_cons,if_neg q];rfl
theorem Zdq {α:Type} (f:α ->Bool) (l:List α) (j:Nat):((l.take j).filter f).length <=l.length:=Nat.le_trans (List.length_filter_le _ _) (by rw [List.length_take];omega)
section
variable {F:Nat}
theorem Zya (hF:1000 <=F) {u:Zb} (s:WN u) {m p:Nat} (hm:m < u.qQ.length) (hp:p < u.Zv.length) (hl:(ZF u m).length <=900) (hb:(Qt u p).length <=100000) {x:Ze} (hx:x.Z9= (m:Int)) {ev:List ZI} (he:ev.length <=700000) (i:Int)
 (next:Int×(List Int)×(List (List Int))×(List (List Zw))×(List (List Zr))×(List Ze)×Int×(List ZI) ->Option Z6):
 loop F (Zjh x i next (p:Int) (ZF u m)) (0,u.Zv,u.qK,u.qQ,Yv u.qJ (m:Int) [],u.qG,u.said,ev)=
  next (Xa (i + 1),(ZaM u m p).Zv,(ZaM u m p).qK,(ZaM u m p).qQ,(ZaM u m p).qJ,(ZaM u m p).qG,(ZaM u m p).said,ev ++ ((ZF u m).filter (WH p)).map (ZCu m)):=by
 have hbl:p < u.qK.length:=by rw [s.bx];exact hp
 have hhl:m < u.qJ.length:=by rw [s.hd];exact hm
 refine Yp (fun j=>((j:Int),u.Zv,Yv u.qK (p:Int) (Qt u p ++ (((ZF u m).take j).filter (WH p)).map (fun y=>y.msg)),u.qQ,Yv u.qJ (m:Int) (((ZF u m).take j).filter fun y=>!WH p y),u.qG,u.said,ev ++ (((ZF u m).take j).filter (WH p)).map (ZCu m))) ?_ (n:= (ZF u m).length) (by omega) (fun j hj nx=>?_) (fun nx=>?_)
 ·simp only [List.take_zero,List.filter_nil,List.map_nil,List.append_nil];unfold Qt;rw [Zuc [] hbl];rfl
 ·have l1:=Zdq (WH p) (ZF u m) j;have l2:=Zdq (fun y=>!WH p y) (ZF u m) j;unfold Zjh Zjg;dsimp only;rw [ZO hj,Cq1,XI hj];simp only [Bq0];rw [ZgZ hj,ZgZ hj,YD (by omega)];by_cases h:(ZF u m)[j].place= (p:Int)
  ·have e:WH p (ZF u m)[j]=true:=beq_iff_eq.2 h;rw [e,if_pos rfl,h,QE,Cq0];simp only [Bool.not_true,Bool.false_eq_true,if_false,List.append_nil];rw [ZBE (b:=Qt u p ++ (((ZF u m).take j).filter (WH p)).map (fun y=>y.msg)) (by rw [h];exact ZaB hbl) (by rw [List.length_append,List.length_map];omega) (by rw [List.length_append,List.length_map];omega)];simp only [Bq0];rw [h,ZkX,List.map_append,List.map_append,List.append_assoc,List.append_assoc];unfold ZCu;simp only [List.map_cons,List.map_nil,h,hx]
  ·have e:WH p (ZF u m)[j]=false:=beq_eq_false_iff_ne.2 h;rw [e,QZ,decide_eq_true h,Cq1,hx];simp only [Bool.not_false,if_true,Bool.false_eq_true,if_false,List.append_nil];rw [ZaB hhl];simp only [Bq0];rw [app1 (by omega) (by omega)];simp only [Bq0];rw [ZkX]
 ·unfold Zjh;dsimp only;rw [ZT,Cq0,List.take_of_length_le (Nat.le_refl _)]
  rfl
end
end Go.Proofs.YtbmbbcaaimehkaaGreat
end
section
namespace Go.Proofs.YtbmbbcaaimehkaaGreat
open Go.Lf
theorem Zcg {u:Zb} (s:WN u) {m p:Nat} (hm:m < u.qQ.length) (m':Nat):ZF (ZaM u m p) m'=if m'=m then(ZF u m).filter (fun y=>!WH p y) else ZF u m':=
 QH (by rw [s.hd];exact hm)
theorem ZrT {u:Zb} (s:WN u) {m p:Nat} (hp:p < u.Zv.length) (p':Nat):Qt (ZaM u m p) p'=if p'=p then Qt u p ++ ((ZF u m).filter (WH p)).map (fun y=>y.msg) else Qt u p':=
 QH (by rw [s.bx];exact hp)
structure ZOQ (w:Zb) (x:Ze) (k:Nat):Prop where
 hl:∀ m,m < w.qQ.length ->(ZF (Yw w x k).1 m).length <=900
 bx:∀ p,p < w.Zv.length ->(Qt (Yw w x k).1 p).length <=900 * (k + 1)
 ev:(Yw w x k).2.length <=901 * k
theorem ZKb {w:Zb} (s:WN w) (sm:WM 900 w) {x:Ze} {m:Nat} (v:MvL w x m):∀ k,k <=x.qV.length ->ZOQ w x k:=by
 intro k;have hin:=Qs w x x.qV.length
 induction k with
 | zero=>
   intro _;refine⟨fun m' hm'=>?_,fun p hp=>?_,Nat.zero_le _⟩
   ·have:ZF (Yw w x 0).1 m'=ZF w m':=by unfold ZF;rw [show(Yw w x 0).1=Qc w x x.qV.length from rfl,hin.2.2.1]
    rw [this];exact Nat.le_of_lt (Zo7 s sm hm')
   ·have:Qt (Yw w x 0).1 p=Qt w p:=by unfold Qt;rw [show(Yw w x 0).1=Qc w x x.qV.length from rfl,hin.2.1]
    rw [this];have:=ZtI s sm hp;omega
 | succ k ih=>
   intro hk;have b:=ih (by omega);have hs:=Kr s v k;have hi:=KQ w x k;have hM:(Yw w x k).1.qQ.length=w.qQ.length:=by rw [hi.2.2.2.1,hin.2.2.2.2.2]
   have hp:= (v.WY (i:=k) (by omega)).2;have hm:x.Z9.toNat < (Yw w x k).1.qQ.length:=by rw [hM,v.Z9,Int.toNat_natCast];exact v.hm
   have hp':WY x k < (Yw w x k).1.Zv.length:=by rw [hi.1];exact hp
   have hl0:=b.hl x.Z9.toNat (by rw [← hM];exact hm);refine⟨fun m' hm'=>?_,fun p hp1=>?_,?_⟩
   ·show(ZF (ZaM (Yw w x k).1 x.Z9.toNat (WY x k)) m').length <=900;rw [Zcg hs hm];by_cases e:m'=x.Z9.toNat
    ·rw [if_pos e];exact Nat.le_trans (List.length_filter_le _ _) hl0
    ·rw [if_neg e];exact b.hl m' hm'
   ·show(Qt (ZaM (Yw w x k).1 x.Z9.toNat (WY x k)) p).length <=900 * (k + 1 + 1);rw [ZrT hs hp'];by_cases e:p=WY x k
    ·rw [if_pos e,List.length_append,List.length_map];have h1:=b.bx (WY x k) hp;have h2:=List.length_filter_le (WH (WY x k)) (ZF (Yw w x k).1 x.Z9.toNat);omega
    ·rw [if_neg e];have:=b.bx p hp1;omega
   ·show((Yw w x k).2 ++ Zmy (Yw w x k).1 x.Z9.toNat (WY x k)).length <=901 * (k + 1);have h1:=b.ev;have h2:=List.length_filter_le (WH (WY x k)) (ZF (Yw w x k).1 x.Z9.toNat);rw [List.length_append];unfold Zmy;rw [List.length_cons,List.length_map];omega
theorem Zvg {F:Nat} (hF:1000 <=F) {w:Zb} (s:WN w) {x:Ze} {m:Nat} (v:MvL w x m) {r:Option Z6} {l:List Ze} {ev:List ZI}
 (hr:loop F (Zf3 F x) (0,w.Zv,w.qK,(Qc w x x.qV.length).qQ,w.qJ,l,w.said,ev)=r):loop F (Zji F ⟨w,ev⟩ x l) (0,w.qQ)=r:=by
 have h8:=v.few;refine Yp (fun k=>((k:Int),(Qc w x k).qQ)) rfl (n:=x.qV.length) (by omega) (fun k hk next=>?_) (fun next=>?_)
 ·obtain⟨e,hp⟩:=v.WY hk;have hs:=Zgo s v k;have hi:=Qs w x k;have hm:m < (Qc w x k).qQ.length:=by rw [hi.2.2.2.2.2];exact v.hm
  unfold Zji;dsimp only;rw [ZO hk,Cq1,YM 0 hk];simp only [Bq0];rw [v.Z9,hs.row hm];simp only [Bq0];rw [YM 0 (by rw [v.len];exact hk)];simp only [Bq0];rw [e,hs.ent hm (by rw [hi.1];exact hp)];simp only [Bq0];rw [YD (by omega)]
  have:Qc w x (k + 1)=setW (Qc w x k) m (WY x k) ⟨true,(m:Int),x.Yk.getD k 0⟩:=by
   show setW (Qc w x k) x.Z9.toNat (WY x k) ⟨true,x.Z9,x.Yk.getD k 0⟩=_;rw [v.Z9,Int.toNat_natCast]
  rw [this];rfl
 ·unfold Zji;dsimp only;rw [ZT,Cq0];exact hr
theorem ZqR {F:Nat} (hF:1000 <=F) {w:Zb} (s:WN w) (sm:WM 900 w) {x:Ze} {m:Nat} (v:MvL w x m) {ev:List ZI} (he:ev.length <=600000):
 loop F (Zf3 F x) (0,w.Zv,w.qK,(Qc w x x.qV.length).qQ,w.qJ,w.qG,w.said,ev)=some ⟨(ZdL w x).1,ev ++ (ZdL w x).2⟩:=by
 have h8:=v.few;have h0:=Qs w x x.qV.length;refine Yp (fun k=>((k:Int),(Yw w x k).1.Zv,(Yw w x k).1.qK,(Yw w x k).1.qQ,(Yw w x k).1.qJ,(Yw w x k).1.qG,(Yw w x k).1.said,ev ++ (Yw w x k).2)) ?_ (n:=x.qV.length) (by omega) (fun k hk next=>?_) (fun next=>?_)
 ·show((0:Int),(Qc w x x.qV.length).Zv,(Qc w x x.qV.length).qK,_,(Qc w x x.qV.length).qJ,(Qc w x x.qV.length).qG,(Qc w x x.qV.length).said,ev ++ [])=_;rw [h0.1,h0.2.1,h0.2.2.1,h0.2.2.2.1,h0.2.2.2.2.1,List.append_nil];rfl
 ·obtain⟨e,hp⟩:=v.WY hk;have hs:=Kr s v k;have hi:=KQ w x k;have b:=ZKb s sm v k (by omega);have hM:(Yw w x k).1.qQ.length=w.qQ.length:=by rw [hi.2.2.2.1,h0.2.2.2.2.2]
  have hm:m < (Yw w x k).1.qQ.length:=by rw [hM];exact v.hm
  have hb:=b.bx _ hp;have hl:=b.hl m v.hm;have hev:=b.ev;unfold Zf3;dsimp only;rw [ZO hk,Cq1,YM 0 hk];simp only [Bq0];rw [app1 (by rw [List.length_append];omega) (by omega)];simp only [Bq0];rw [v.Z9,Zlb hs hm];simp only [Bq0];rw [e,Zya hF hs hm (by rw [hi.1];exact hp) hl (by omega) v.Z9 (by rw [List.length_append,List.length_append,List.length_singleton];omega),YD (by omega)]
  have:Yw w x (k + 1)= (ZaM (Yw w x k).1 m (WY x k),(Yw w x k).2 ++ Zmy (Yw w x k).1 m (WY x k)):=by
   show(ZaM (Yw w x k).1 x.Z9.toNat (WY x k),(Yw w x k).2 ++ Zmy (Yw w x k).1 x.Z9.toNat (WY x k))=_;rw [v.Z9,Int.toNat_natCast]
  rw [this];unfold Zmy;simp only [List.append_assoc,List.singleton_append]
 ·unfold Zf3;dsimp only;rw [ZT,Cq0];rfl
theorem ZdA (x:Ze) (p:Nat):∀ k,k <=x.qV.length ->(Wy x p k).length= (x.qV.take k).count (p:Int):=by
 intro k
 induction k with
 | zero=>intro _;simp [Wy]
 | succ k ih=>
   intro hk;have hk':k < x.qV.length:=by omega
   rw [Zfs,List.length_append,ih (by omega),List.take_add_one,List.getElem?_eq_getElem hk',List.count_append,List.getD_eq_getElem?_getD,List.getElem?_eq_getElem hk'];congr 1;show _=List.count (p:Int) [x.qV[k]];rw [List.count_singleton];by_cases e:x.qV[k]= (p:Int)
   ·simp [e]
   ·simp [e]
theorem Zss {l:List Ze} {x:Ze} (hx:x ∈ l) (p:Nat):(WQ x p).length <= (X3 l p).length:=by
 unfold X3
 induction l with
 | nil=>cases hx
 | cons y l ih=>
   rw [List.flatMap_cons,List.length_append];rcases List.mem_cons.1 hx with q | q
   ·rw [q];omega
   ·have:=ih q;omega
theorem Wd.nodup {w:Zb} (h:Wd w) {x:Ze} (hx:x ∈ w.qG) (hk:x.kind=2):x.qV.Nodup:=by
 rw [List.nodup_iff_count];intro a;by_cases ha:a ∈ x.qV
 ·obtain⟨i,hi,rfl⟩:=List.getElem_of_mem ha;have e0:x.qV.getD i 0=x.qV[i]:=by rw [List.getD_eq_getElem?_getD,List.getElem?_eq_getElem hi];rfl
  have hp:= (h.shr.Xd x hx).WY i hi
  have hr:0 <=x.qV[i]∧x.qV[i] < (w.Zv.length:Int):=by
   rw [← e0]
   first
    | exact⟨hp.1,hp.2.1⟩
    | exact⟨hp.2.1,hp.2.2.1⟩
  obtain⟨p,e⟩:∃ p:Nat,x.qV[i]= (p:Int):= ⟨x.qV[i].toNat,by omega⟩
  have hl:=h.loc p (by omega);unfold YC at hl;rw [List.length_append] at hl;have h1:=Zss hx p;have h2:WQ x p=Wy x p x.qV.length:=by unfold WQ;rw [if_pos hk]
  rw [h2,ZdA x p _ (Nat.le_refl _),List.take_of_length_le (Nat.le_refl _)] at h1;rw [e];omega
 ·rw [List.count_eq_zero_of_not_mem ha];omega
theorem Wd.mvl {w:Zb} (h:Wd w) {x:Ze} (hx:x ∈ w.qG) (hk:x.kind=2):MvL w x x.Z9.toNat:=by
 have hl:=h.shr.Xd x hx;have h8:=h.shr.WT.p2
 have ZxQ:∀ i,i < x.qV.length ->Uh (x.qV.getD i 0) w.Zv.length:=fun i hi=>by
  have hp:=hl.WY i hi
  first
   | exact⟨hp.1,hp.2.1⟩
   | exact⟨hp.2.1,hp.2.2.1⟩
 have hsub:x.qV ⊆ Xl w.Zv.length:=fun a ha=>by
  have:= (WG (d:= (0:Int)) (P:=fun a=>Uh a w.Zv.length)).1 ZxQ a ha;unfold Uh at this;unfold Xl;exact List.mem_map.2 ⟨a.toNat,List.mem_range.2 (by omega),by show((a.toNat:Nat):Int)=a;omega⟩
 have hlen:= (h.nodup hx hk).length_le_of_subset hsub;rw [Qw] at hlen;exact⟨by have:=hl.to1;omega,by have:=hl.to1;have:=hl.to2;omega,hl.Y9.len,by omega,ZxQ⟩
def Z7 (w:Zb) (k:Nat):Zb:= {w with qG:=w.qG.take k ++ w.qG.drop (k + 1)}
def JC (w:Zb) (x:Ze):Zb:=if(E w x.Z9.toNat x.place.toNat).here=false∧(E w x.Z9.toNat x.place.toNat).age < x.age then setW w x.Z9.toNat x.place.toNat ⟨false,x.at_,x.age⟩ else w
def XZ (w:Zb) (k:Nat):Zb×List ZI:=
 if(ZB w k).kind=1 then Xu (Z7 w k) (ZB w k).Z9.toNat (ZB w k).Yb false
 else if(ZB w k).kind=2 then ZdL (Z7 w k) (ZB w k) else(JC (Z7 w k) (ZB w k),[])
theorem WN.Z7 {w:Zb} (s:WN w) (k:Nat):WN (Z7 w k):= ⟨s.m1,s.m2,s.p1,s.p2,s.bx,s.hd,s.rw_⟩
theorem Zgl (w:Zb) {k:Nat} (hk:k < w.qG.length):(Z7 w k).qG.length + 1=w.qG.length:=by
 show(w.qG.take k ++ w.qG.drop (k + 1)).length + 1=_;rw [List.length_append,List.length_take,List.length_drop];omega
theorem Wl {w:Zb} {k:Nat} {x:Ze} (h:x ∈ (Z7 w k).qG):x ∈ w.qG:=by
 rcases List.mem_append.1 h with q | q
 ·exact List.mem_of_mem_take q
 ·exact List.mem_of_mem_drop q
theorem WM.Z7 {n:Nat} {w:Zb} (sm:WM n w) {k:Nat} (hk:k < w.qG.length):WM n (Z7 w k):=
 ⟨sm.Zv,sm.qK,sm.qQ,sm.qJ,by have:=Zgl w hk;have:=sm.qG;omega,sm.box,sm.row,sm.hel,fun x hx=>sm.Xd x (Wl hx)⟩
theorem Zqx {α:Type} {l:List α} {a b:Nat} (h1:a <=b) (h2:b <=l.length):slL l (a:Int) (b:Int)=some ((l.take b).drop a):=by
 unfold slL;rw [decide_eq_true (show(0:Int) <= (a:Int) by omega),decide_eq_true (show(a:Int) <= (b:Int) by omega),decide_eq_true (show(b:Int) <= (l.length:Int) by omega)];rfl
section
variable {F:Nat} {w:Zb}
theorem Zz1 (hF:1000 <=F) (sm:WM 900 w) {k:Nat} (hk:k < w.qG.length):Zzv w.qG (k:Int) (Xa ((k:Int) + 1))=some (Z7 w k).qG:=by
 have hw:=sm.qG;unfold Zzv;rw [YD (by omega),Zqx (by omega) (by omega)];simp only [Bq0];rw [Yg,decide_eq_false (by omega),Cq0,show slL w.qG 0 (k:Int)=some (w.qG.take k) from Zqx (a:=0) (by omega) (by omega)];simp only [Bq0];rw [Zqx (by omega) (by omega)];simp only [Bq0];rw [List.take_of_length_le (Nat.le_refl w.qG.length),Znu (by rw [List.length_take,List.length_drop];omega) (by omega)];rfl
theorem Zuq {k:Nat} (hk:k < w.qG.length):ZQ w.qG (k:Int)=some (ZB w k):=YM default hk
theorem ZBN (h:Wd w) {x:Ze} (hx:x ∈ w.qG):x.kind=1∨x.kind=2∨x.kind=3:=by
 rcases(h.shr.Xd x hx).Y9 with⟨q,_⟩ | ⟨q,_⟩ | ⟨q,_⟩
 ·exact .inl q
 ·exact .inr (.inl q)
 ·exact .inr (.inr q)
theorem ZoE (h:Wd w) {m:Int} {y:Zr} (hy:QR w m y):y.place.toNat < w.Zv.length∧0 <=y.place∧0 <=y.age∧y.age <=30∧1 <=y.hops∧y.hops <=y.age + 1:=by
 obtain⟨a1,a2,a3,a4,a5,a6,a7⟩:=hy;have hp:y.place.toNat < w.Zv.length:=by omega
 have h1:=a5.1;have h2:=a5.2.1;have h3:=ZbS h.shr hp (h.loc _ hp);rw [Int.add_comm,Za0 (by omega) (by omega)] at a7;exact⟨hp,a1,by omega,by omega,a6,a7⟩
theorem Zuy (hF:1000 <=F) (h:Wd w) (sm:WM 900 w) {k:Nat} (hk:k < w.qG.length) {ev:List ZI} (he:ev.length <=600000):ZzF F ⟨w,ev⟩ (k:Int)=some ⟨(XZ w k).1,ev ++ (XZ w k).2⟩:=by
 have hx:ZB w k ∈ w.qG:=Yj hk;have hl:=h.shr.Xd _ hx;have hto:(ZB w k).Z9= ((ZB w k).Z9.toNat:Int):=by have:=hl.to1;omega
 have htl:(ZB w k).Z9.toNat < w.qQ.length:=by have:=hl.to1;have:=hl.to2;omega
 have su:=h.shr.WT.Z7 k;have smu:=sm.Z7 hk;unfold ZzF XZ;dsimp only;rw [Zuq hk];simp only [Bq0];rw [Zz1 hF sm hk];simp only [Bq0];rcases ZBN h hx with q | q | q
 ·have hb:=ZoE h (h.mai _ hx q);rw [if_pos q,Yg,decide_eq_true q,Cq1];have e:=Zh4 su smu (m:= (ZB w k).Z9.toNat) htl (x:= (ZB w k).Yb) hb.1 hb.2.1 (by omega) (by omega) false (ev:=ev) (by omega);rw [← hto] at e
  change ((Zpp ⟨Z7 w k,ev⟩ (ZB w k).Z9 (ZB w k).Yb false).bind fun Kn=>some Kn)=_
  rw [e];rfl
 ·have v:MvL (Z7 w k) (ZB w k) (ZB w k).Z9.toNat:=by
   have:=h.mvl hx q;exact⟨this.Z9,this.hm,this.len,this.few,this.rng⟩
  rw [if_neg (by omega),if_pos q,Yg,decide_eq_false (by omega),Cq0,Yg,decide_eq_true q,Cq1];have e:=Zvg hF (w:=Z7 w k) su v (l:= (Z7 w k).qG) (ev:=ev) (ZqR hF su smu v he);exact e
 ·have hn:=hl.ntd q;obtain⟨p,hp⟩:∃ p:Nat,(ZB w k).place= (p:Int):= ⟨(ZB w k).place.toNat,by omega⟩
  have hpl:p < w.Zv.length:=by omega
  rw [if_neg (by omega),if_neg (by omega),Yg,decide_eq_false (by omega),Cq0,Yg,decide_eq_false (by omega),Cq0,Yg,decide_eq_true q,Cq1];unfold JC Zjf;rw [hto,Int.toNat_natCast,h.shr.WT.row htl];simp only [Bq0];rw [hp,Int.toNat_natCast,h.shr.WT.ent htl hpl];simp only [Bq0];have eE:E (Z7 w k) (ZB w k).Z9.toNat p=E w (ZB w k).Z9.toNat p:=rfl;rw [eE,List.append_nil];by_cases c:(E w (ZB w k).Z9.toNat p).here=false∧(E w (ZB w k).Z9.toNat p).age < (ZB w k).age
  ·rw [if_pos c,c.1,decide_eq_true c.2];rfl
  ·rw [if_neg c]
   have:((!(E w (ZB w k).Z9.toNat p).here) && decide ((E w (ZB w k).Z9.toNat p).age < (ZB w k).age))=false:=by
    rw [← Bool.not_eq_true];intro z;simp only [Ba0,Bool.not_eq_true',decide_eq_true_eq] at z;exact c z
   rw [this];rfl
end
end Go.Proofs.YtbmbbcaaimehkaaGreat
end
section
namespace Go.Proofs.YtbmbbcaaimehkaaGreat
open Go.Lf
def ZfF (w:Zb) (p:Nat):Zb:= {w with Zv:=Yv w.Zv (p:Int) (-1)}
theorem ZeO {w:Zb} {p:Nat} (hp:p < w.Zv.length) (q:Nat):inn (ZfF w p) (q:Int)=if q=p then -1 else inn w (q:Int):=by
 unfold inn ZfF;rw [Int.toNat_natCast];exact QH hp
theorem KJ (w:Zb) (p:Nat):(ZfF w p).Zv.length=w.Zv.length:=Xc _ _ _
theorem Zho {w:Zb} (hi:Inn w) {p:Nat} (hp:p < w.Zv.length) {x:Nat} (hx:x < w.Zv.length):∀ j,(∀ i,i < j ->up w i (x:Int) ≠ (p:Int)) ->up (ZfF w p) j (x:Int)=up w j (x:Int):=by
 intro j
 induction j with
 | zero=>intro _;rfl
 | succ j ih=>
   intro h;have e:=ih fun i hi=>h i (by omega)
   rw [QD,QD,e];by_cases hn:up w j (x:Int) < 0
   ·rw [if_pos hn,if_pos hn]
   ·rw [if_neg hn,if_neg hn];obtain⟨q,eq,hq⟩:=JZ (hi.up (q:= (x:Int)) ⟨by omega,by omega⟩ j) hn;rw [eq,ZeO hp,if_neg (fun z=>h j (by omega) (by rw [eq,z]))]
theorem Zfi {w:Zb} (hi:Inn w) {p:Nat} (hp:p < w.Zv.length):Inn (ZfF w p):=by
 refine⟨fun x hx=>?_,fun x hx=>?_⟩
 ·rw [KJ] at hx;rw [ZeO hp];unfold okN;rw [KJ];by_cases e:x=p
  ·rw [if_pos e];omega
  ·rw [if_neg e];exact hi.rng x hx
 ·rw [KJ] at hx ⊢;by_cases hz:∃ i,i < w.Zv.length∧up w i (x:Int)= (p:Int)
  ·obtain⟨i,hil,e⟩:=hz;obtain⟨m,hm,hc,hlt⟩:=X5 (c:=fun i=>up w i (x:Int)= (p:Int)) e;have e1:=Zho hi hp hx m hlt
   have e2:up (ZfF w p) (m + 1) (x:Int)=-1:=by
    rw [QD,e1,hc,if_neg (by omega),ZeO hp,if_pos rfl]
   exact Ux (by rw [e2];omega) (show m + 1 <=w.Zv.length by omega)
  ·rw [Zho hi hp hx _ fun i h q=>hz ⟨i,h,q⟩];exact hi.acy x hx
theorem ZvZ {w:Zb} (hi:Inn w) {p:Nat} (hp:p < w.Zv.length) {x:Nat} (hx:x < w.Zv.length):Wth (ZfF w p) p x↔Wth w p x:=by
 constructor
 ·rintro⟨j,e⟩;by_cases hz:∃ i,i < j∧up w i (x:Int)= (p:Int)
  ·obtain⟨i,_,q⟩:=hz;exact⟨i,q⟩
  ·exact⟨j,by rw [← Zho hi hp hx j fun i h q=>hz ⟨i,h,q⟩];exact e⟩
 ·rintro⟨j,e⟩;obtain⟨m,hm,hc,hlt⟩:=X5 (c:=fun i=>up w i (x:Int)= (p:Int)) e;exact⟨m,by rw [Zho hi hp hx m hlt];exact hc⟩
theorem Zqm {w:Zb} (hi:Inn w) {p:Nat} (hp:p < w.Zv.length):Yx (ZfF w p) p=Yx w p:=by
 unfold Yx ZgG;rw [KJ];congr 1;apply List.filter_congr;intro x hx;have hx':=List.mem_range.1 hx;rw [Bool.eq_iff_iff,Zef (Zfi hi hp) (by rw [KJ];exact hx'),Zef hi hx',ZvZ hi hp hx']
def goA (w:Zb) (m:Nat) (q:Int):Int:= (E w m q.toNat).age + 1
def goW (w:Zb) (m:Nat) (to:Int) (L:List Int):Nat ->Zb
 | 0=>w
 | k + 1=>setW (goW w m to L k) m (L.getD k 0).toNat ⟨false,to,goA w m (L.getD k 0)⟩
def Zxt (m:Nat) (to:Int) (q:Int):ZI:= ⟨2,q,(m:Int),to,0⟩
def mOf (w:Zb) (p:Nat):Nat:= (sp w p).machine.toNat
def WV (w:Zb) (p:Nat) (to:Int):Zb×List ZI:=
 ({w with Zv:=Yv w.Zv (p:Int) (-1),qQ:= (goW w (mOf w p) to (Yx w p) (Yx w p).length).qQ,qG:=w.qG ++ [Zxl to (Yx w p) ((Yx w p).map (goA w (mOf w p)))]},(Yx w p).map (Zxt (mOf w p) to))
theorem ZfS (w:Zb) (m:Nat) (to:Int) (L:List Int):∀ k,(goW w m to L k).Zv=w.Zv∧(goW w m to L k).qK=w.qK∧(goW w m to L k).qJ=w.qJ∧(goW w m to L k).qG=w.qG∧(goW w m to L k).said=w.said∧(goW w m to L k).qQ.length=w.qQ.length:=by
 intro k
 induction k with
 | zero=>exact⟨rfl,rfl,rfl,rfl,rfl,rfl⟩
 | succ k ih=>exact⟨ih.1,ih.2.1,ih.2.2.1,ih.2.2.2.1,ih.2.2.2.2.1,(ZbU _ _ _ _).trans ih.2.2.2.2.2⟩
structure GoB (w:Zb) (m:Nat) (L:List Int):Prop where
 s:WN w
 hm:m < w.qQ.length
 rng:∀ q ∈ L,Uh q w.Zv.length
 nd:L.Nodup
 age:∀ q ∈ L,0 <= (E w m q.toNat).age∧(E w m q.toNat).age <=30
section
variable {w:Zb} {m:Nat} {L:List Int} {to:Int}
theorem ZmA (g:GoB w m L):∀ k,WN (goW w m to L k):=by
 intro k
 induction k with
 | zero=>exact g.s
 | succ k ih=>exact ih.setW (by rw [(ZfS w m to L k).2.2.2.2.2];exact g.hm) _
theorem ZnZ {α:Type} [DecidableEq α] {l:List α} (nd:l.Nodup) {k:Nat} (h:k < l.length):l[k] ∉ l.take k:= (ZdJ.1 nd) k h
theorem Qz {α:Type} {l:List α} {k:Nat} (h:k < l.length) {x:α}:x ∈ l.take (k + 1)↔x ∈ l.take k∨x=l[k]:=by
 rw [List.take_succ_eq_append_getElem h,List.mem_append,List.mem_singleton]
theorem Y5 {α:Type} {l:List α} {k:Nat} {d:α} (h:k < l.length):l.getD k d=l[k]:=by
 rw [List.getD_eq_getElem?_getD,List.getElem?_eq_getElem h];rfl
theorem ZEU (g:GoB w m L):∀ k,k <=L.length ->∀ m' q':Nat,E (goW w m to L k) m' q'=if m'=m∧(q':Int) ∈ L.take k then⟨false,to,goA w m (q':Int)⟩ else E w m' q':=by
 intro k
 induction k with
 | zero=>intro _ m' q';rw [if_neg (by simp)];rfl
 | succ k ih=>
   intro hk m' q';have hq:=g.rng _ (List.getElem_mem (l:=L) (n:=k) (by omega));obtain⟨q,eq,hql⟩:=hq.nat;show E (setW (goW w m to L k) m (L.getD k 0).toNat _) m' q'=_;rw [Y5 (by omega),eq,Int.toNat_natCast,ZnD (ZmA g k) (by rw [(ZfS w m to L k).2.2.2.2.2];exact g.hm) (by rw [(ZfS w m to L k).1];exact hql),ih (by omega)];by_cases e:m'=m∧q'=q
   ·rw [if_pos e,if_pos ⟨e.1,(Qz (by omega)).2 (.inr (by rw [eq,e.2]))⟩,e.2]
   ·rw [if_neg e];by_cases c:m'=m∧(q':Int) ∈ L.take k
    ·rw [if_pos c,if_pos ⟨c.1,(Qz (by omega)).2 (.inl c.2)⟩]
    ·rw [if_neg c,if_neg];rintro⟨c1,c2⟩;rcases(Qz (by omega)).1 c2 with z | z
     ·exact c ⟨c1,z⟩
     ·rw [eq] at z;exact e ⟨c1,by omega⟩
theorem ZHE (g:GoB w m L) {k:Nat} (hk:k < L.length):E (goW w m to L k) m (L.getD k 0).toNat=E w m (L.getD k 0).toNat:=by
 obtain⟨q,eq,hql⟩:= (g.rng _ (List.getElem_mem (l:=L) (n:=k) hk)).nat;rw [ZEU g k (by omega),if_neg];rintro⟨_,z⟩;rw [Y5 hk,eq,Int.toNat_natCast,← eq] at z;exact ZnZ g.nd hk z
theorem Zdo {α β:Type} {l:List α} {f:α ->β} {k:Nat} (h:k < l.length) (d:α):(l.take (k + 1)).map f= (l.take k).map f ++ [f (l.getD k d)]:=by
 rw [List.take_succ_eq_append_getElem h,List.map_append,Y5 h];rfl
theorem Zy9 (k:Nat):(goW w m to L (k + 1)).qQ=Yv (goW w m to L k).qQ (m:Int) (Yv (row (goW w m to L k) m) ((L.getD k 0).toNat:Int) ⟨false,to,goA w m (L.getD k 0)⟩):=rfl
theorem ZCv {F:Nat} (hF:1000 <=F) (g:GoB w m L) (hL:L.length <=8) (hw:w.qG.length < 900) {ev:List ZI} (he:ev.length <=700000) {w0:Zb} (hw0:w0.qG=w.qG) {p1:Int} {x1:Yr×Int} (hx:x1.1.machine= (m:Int)):
 loop F (Zi5 ⟨w0,ev⟩ p1 to x1 L) (0,ev,[],w.qQ)=some ⟨⟨Yv w0.Zv p1 (-1),w0.qK,(goW w m to L L.length).qQ,w0.qJ,w.qG ++ [Zxl to L (L.map (goA w m))],w0.said⟩,ev ++ L.map (Zxt m to)⟩:=by
 refine Yp (fun k=>((k:Int),ev ++ (L.take k).map (Zxt m to),(L.take k).map (goA w m),(goW w m to L k).qQ)) (by simp [goW]) (n:=L.length) (by omega) (fun k hk next=>?_) (fun next=>?_)
 ·obtain⟨q,eq,hql⟩:= (g.rng _ (List.getElem_mem (l:=L) (n:=k) hk)).nat;have ha:=g.age _ (List.getElem_mem (l:=L) (n:=k) hk);have hi:=ZfS w m to L k;have hs:=ZmA (to:=to) g k;have hm:m < (goW w m to L k).qQ.length:=by rw [hi.2.2.2.2.2];exact g.hm
  have eA:Xa ((E w m q).age + 1)=goA w m (q:Int):=by
   rw [eq,Int.toNat_natCast] at ha;unfold goA;rw [Int.toNat_natCast,Zah (by omega) (by omega)]
  have eE:=ZHE (to:=to) g hk;rw [Y5 hk,eq,Int.toNat_natCast] at eE;unfold Zi5;dsimp only;rw [ZO hk,Cq1,YM 0 hk,Y5 hk,eq,hx];simp only [Bq0];rw [hs.row hm];simp only [Bq0];rw [hs.ent hm (by rw [hi.1];exact hql),eE];simp only [Bq0];rw [app1 (by rw [List.length_map,List.length_take];omega) (by omega)];simp only [Bq0];rw [app1 (by rw [List.length_append,List.length_map,List.length_take];omega) (by omega)];simp only [Bq0];rw [YD (by omega),eA,Zdo hk 0,Zdo hk 0,Y5 hk,eq,Zy9,Y5 hk,eq,Int.toNat_natCast,List.append_assoc]
  rfl
 ·unfold Zi5;dsimp only;rw [ZT,Cq0,hw0,app1 (by omega) (by omega),List.take_of_length_le (Nat.le_refl _)]
  rfl
end
end Go.Proofs.YtbmbbcaaimehkaaGreat
end
section
namespace Go.Proofs.YtbmbbcaaimehkaaGreat
open Go.Lf
def K5 (w:Zb) (p:Int) (q:Int):Zb:= {w with Zv:=Yv w.Zv p q}
def ZlR (w:Zb) (s:Zx):Zr:= ⟨w.said,s.b,s.a,0,0⟩
def ZaC (w:Zb):Zb:= {w with said:=w.said + 1}
def doW (w:Zb) (s:Zx):Zb×List ZI:=
 if s.act=1 then Xu (ZaC w) s.a.toNat (ZlR w s) true
 else if s.act=2 then WV w s.a.toNat s.b
 else if s.act=3 then(K5 w s.a s.b,[])
 else if s.act=4 then(K5 w s.a (-1),[])
 else XZ w s.a.toNat
section
variable {F:Nat} {w:Zb}
theorem Kj (h:Wd w) {p:Nat} (hp:p < w.Zv.length) (hh:(sp w p).here=true):(sp w p).machine= (mOf w p:Int)∧mOf w p < w.qQ.length∧(E w (mOf w p) p).here=true∧(E w (mOf w p) p).age= (sp w p).age:=by
 rcases Zaz (h.loc p hp) with⟨m,hm,he,e⟩ | ⟨x,hx,hk,i,hi,hpi,e⟩
 ·unfold mOf;rw [e];exact⟨by simp,by simpa using hm,by simpa using he,by simp⟩
 ·rw [e] at hh;cases hh
theorem ZbO (w:Zb) (p:Nat):∀ q ∈ Yx w p,Uh q w.Zv.length:=by
 intro q hq;unfold Yx ZgG at hq;obtain⟨k,hk,rfl⟩:=List.mem_map.1 hq;have:=List.mem_range.1 (List.mem_filter.1 hk).1;exact⟨Int.natCast_nonneg k,by show(k:Int) < _;omega⟩
theorem Zza (h:Wd w) {p:Nat} (hp:p < w.Zv.length) (hh:(sp w p).here=true):GoB w (mOf w p) (Yx w p):=by
 have a:=Kj h hp hh;refine⟨h.shr.WT,a.2.1,ZbO w p,Wx w p,fun q hq=>?_⟩;obtain⟨k,rfl,hk⟩:= (ZbO w p q hq).nat;have:=h.shr.ent _ a.2.1 k hk;rw [Int.toNat_natCast];exact⟨this.1,this.2.1⟩
theorem Zt5 (hF:1000 <=F) (hM:F <=1000000) (h:Wd w) (sm:WM 900 w) {p:Nat} (hp:p < w.Zv.length) (hh:(sp w p).here=true) (to:Int) {ev:List ZI} (he:ev.length <=700000):
 Zzw F ⟨w,ev⟩ (p:Int) to=some ⟨(WV w p to).1,ev ++ (WV w p to).2⟩:=by
 have a:=Kj h hp hh;have g:=Zza h hp hh;have h8:=h.shr.WT.p2;have hi:=Zfi h.shr.inn hp;have hp':p < (ZfF w p).Zv.length:=by rw [KJ];exact hp
 have hd:=ZjH hi hp';have hl:=KJ w p
 have e1:loop F (Zi4 F ⟨w,ev⟩ (p:Int)) ((p:Int),[])=some (true,desc (ZfF w p) (ZfF w p).Zv.length p):=by
  exact gather hF (w:=ZfF w p) (by rw [hl];exact h8) (B:=fun v next=>ZrC ⟨w,ev⟩ (p:Int) v next) (R:=Zi4 F ⟨w,ev⟩ (p:Int)) (fun v l next=>rfl) (fun v next k l nx=>rfl) (ZfF w p).Zv.length p [] F (by omega) hp' (Zfg.all hi) (by simp;omega)
 unfold Zzw;dsimp only;rw [Zau hF hM h sm hp];simp only [Bq0];rw [XO hp];simp only [Bq0];rw [e1];simp only [Bq0];unfold ZmJ;rw [Zn2 (by omega),Zvd hi hp',Zqm h.shr.inn hp];simp only [Bq0];have hw:=sm.qG;have hlen:(Yx w p).length <=8:=Nat.le_trans (Zfr _ _ _) h8;exact ZCv hF g hlen (by omega) he rfl (x1:= (sp w p,1)) a.1
theorem Ziv {s:Zx} (h1:s.act=1) (hl:lim w s=false):w.said < 40:=by
 unfold lim at hl;rw [if_pos h1] at hl;have:=of_decide_eq_false hl;omega
theorem ZIu {s:Zx}:ZbE w s=0↔lim w s=false∧Alw w s:=by
 unfold ZbE;cases lim w s with
 | true=>simp
 | false=>by_cases a:Alw w s <;> simp [a]
theorem Zug (s:WN w):WN (ZaC w):= ⟨s.m1,s.m2,s.p1,s.p2,s.bx,s.hd,s.rw_⟩
theorem Zwt {n:Nat} (sm:WM n w):WM n (ZaC w):= ⟨sm.Zv,sm.qK,sm.qQ,sm.qJ,sm.qG,sm.box,sm.row,sm.hel,sm.Xd⟩
theorem Zvc (hF:1000 <=F) (hM:F <=1000000) (h:Wd w) (sm:WM 900 w) {s:Zx} (ha:Ask w s) (hl:lim w s=false) (hA:Alw w s) {ev:List ZI} (he:ev.length <=600000):
 ZzK F ⟨w,ev⟩ s=some ⟨(doW w s).1,ev ++ (doW w s).2⟩:=by
 have e:∀ k:Int,(s.act==k)=decide (s.act=k):=fun k=>Yg _ _
 have hs1:=h.shr.sd1;unfold ZzK doW;rcases ha with⟨c,a,b⟩ | ⟨c,a,b⟩ | ⟨c,a,b⟩ | ⟨c,a⟩ | ⟨c,a⟩
 ·have hs:=Ziv c hl;obtain⟨m,em,hm⟩:=a.nat;rw [e,decide_eq_true c,Cq1,if_pos c,em,Int.toNat_natCast];dsimp only;rw [Zah (by omega) (by omega)];have:=Zh4 (Zug h.shr.WT) (Zwt sm) (m:=m) hm (x:=ZlR w s) (by have:=b.1;have:=b.2;show s.b.toNat < w.Zv.length;omega) b.1 (by show(0:Int) <=0;omega) (by show(0:Int) <=1000;omega) true (ev:=ev) (by omega);unfold ZlR at this ⊢;rw [em] at this ⊢
  change (Zpp ⟨ZaC w,ev⟩ (m:Int) _ true).bind _=_
  rw [this];rfl
 ·obtain⟨p,ep,hp⟩:=a.nat;rw [e,decide_eq_false (by omega),Cq0,e,decide_eq_true c,Cq1,if_neg (by omega),if_pos c,ep,Int.toNat_natCast];have hh:= (hA.1 c).1;rw [ep,Int.toNat_natCast] at hh;rw [Zt5 hF hM h sm hp hh s.b (by omega)];rfl
 ·obtain⟨p,ep,hp⟩:=a.nat;rw [e,decide_eq_false (by omega),Cq0,e,decide_eq_false (by omega),Cq0,e,decide_eq_true c,Cq1,if_neg (by omega),if_neg (by omega),if_pos c,ep];dsimp only;rw [XO hp];simp only [Bq0,List.append_nil]
  rfl
 ·obtain⟨p,ep,hp⟩:=a.nat;rw [e,decide_eq_false (by omega),Cq0,e,decide_eq_false (by omega),Cq0,e,decide_eq_false (by omega),Cq0,e,decide_eq_true c,Cq1,if_neg (by omega),if_neg (by omega),if_neg (by omega),if_pos c,ep];dsimp only;rw [XO hp];simp only [Bq0,List.append_nil]
  rfl
 ·obtain⟨k,ek,hk⟩:=a.nat;rw [e,decide_eq_false (by omega),Cq0,e,decide_eq_false (by omega),Cq0,e,decide_eq_false (by omega),Cq0,e,decide_eq_false (by omega),Cq0,e,decide_eq_true c,Cq1,if_neg (by omega),if_neg (by omega),if_neg (by omega),if_neg (by omega),ek,Int.toNat_natCast];rw [Zuy hF h sm hk he];rfl
end
end Go.Proofs.YtbmbbcaaimehkaaGreat
end
section
namespace Go.Proofs.YtbmbbcaaimehkaaGreat
open Go.Lf
theorem Zad {w w':Zb} {p:Nat}:∀ {k:Nat},(∀ m,m < k ->E w' m p=E w m p) ->Xe w' p k=Xe w p k:=by
 intro k
 induction k with
 | zero=>intro _;rfl
 | succ k ih=>intro h;rw [JF,JF,ih fun m hm=>h m (by omega),h k (by omega)]
theorem Zla {w:Zb} {p:Nat}:∀ {k:Nat},(∀ m,m < k ->(E w m p).here=false) ->Xe w p k= []:=by
 intro k
 induction k with
 | zero=>intro _;rfl
 | succ k ih=>intro h;rw [JF,ih fun m hm=>h m (by omega),h k (by omega)];simp
theorem ZuL {w:Zb} {p m:Nat} (hh:(E w m p).here=true):∀ {k:Nat},m < k ->(∀ m',m' < k ->m' ≠ m ->(E w m' p).here=false) ->Xe w p k= [⟨(m:Int),true,(E w m p).age⟩]:=by
 intro k
 induction k with
 | zero=>intro h;omega
 | succ k ih=>
   intro hm ho;rw [JF];by_cases e:m=k
   ·subst e;rw [Zla fun m' hm'=>ho m' (by omega) (by omega),if_pos hh];rfl
   ·rw [ih (by omega) fun m' hm'=>ho m' (by omega),ho k (by omega) (fun z=>e z.symm)];simp
theorem Zo6 {w:Zb} {p k:Nat} (h:Xe w p k= []):∀ m,m < k ->(E w m p).here=false:=by
 intro m hm;cases e:(E w m p).here with
 | false=>rfl
 | true=>
   have:Yr.mk (m:Int) true (E w m p).age ∈ Xe w p k:=ZcV.2 ⟨m,hm,e,rfl⟩;rw [h] at this;cases this
theorem Zaw (a b:List Ze) (p:Nat):X3 (a ++ b) p=X3 a p ++ X3 b p:=by unfold X3;exact List.flatMap_append
theorem ZnP (x:Ze) (p:Nat):X3 [x] p=WQ x p:=by unfold X3;simp
theorem ZlD {x:Ze} (h:x.kind ≠ 2) (p:Nat):WQ x p= []:=by unfold WQ;rw [if_neg h]
theorem Zsr {l:List Ze} (h:∀ x ∈ l,x.kind ≠ 2) (p:Nat):X3 l p= []:=by
 unfold X3;exact List.flatMap_eq_nil_iff.2 fun x hx=>ZlD (h x hx) p
theorem KA {w:Zb} {k:Nat} (hk:k < w.qG.length):w.qG=w.qG.take k ++ ZB w k::w.qG.drop (k + 1):=by
 have e:ZB w k=w.qG[k]:=Y5 hk;rw [e,List.getElem_cons_drop,List.take_append_drop]
theorem KD {w:Zb} {k:Nat} (hk:k < w.qG.length) (p:Nat):X3 w.qG p=X3 (w.qG.take k) p ++ WQ (ZB w k) p ++ X3 (w.qG.drop (k + 1)) p:=by
 have:=congrArg (fun l=>X3 l p) (KA hk);rw [this,Zaw,show ZB w k::w.qG.drop (k + 1)= [ZB w k] ++ w.qG.drop (k + 1) from rfl,Zaw,ZnP,List.append_assoc]
theorem Zft {w:Zb} {k:Nat} (p:Nat):X3 (Z7 w k).qG p=X3 (w.qG.take k) p ++ X3 (w.qG.drop (k + 1)) p:=Zaw _ _ _
theorem Zsv {w:Zb} {p:Nat} {s:Yr} (h:YC w p= [s]):sp w p=s:=by unfold sp WZ;rw [h];rfl
theorem Zca {w w':Zb} {p:Nat} (e1:Xe w' p w'.qQ.length=Xe w p w.qQ.length) (e2:X3 w'.qG p=X3 w.qG p):YC w' p=YC w p:=by unfold YC;rw [e1,e2]
theorem Jk {w w':Zb} {p:Nat} (h:YC w' p=YC w p):sp w' p=sp w p:=by unfold sp;rw [h]
structure Wm (w:Zb):Prop where
 shr:ShR w
 loc:∀ p,p < w.Zv.length ->(YC w p).length=1
 tog:∀ p,p < w.Zv.length ->0 <=inn w p ->(sp w (inn w p).toNat).machine= (sp w p).machine∧(sp w (inn w p).toNat).here= (sp w p).here∧((sp w p).here=false ->ZjZ w p (inn w p))
 ent:∀ m,m < w.qQ.length ->∀ p,p < w.Zv.length ->(E w m p).here=false ->RtX w p (E w m p).Z9 (E w m p).age
 hel:∀ m,m < w.qQ.length ->∀ x ∈ ZF w m,QR w m x∧sp w x.place.toNat= ⟨(m:Int),false,x.age⟩
 mai:∀ x ∈ w.qG,x.kind=1 ->QR w x.Z9 x.Yb
 ntd:∀ x ∈ w.qG,x.kind=3 ->RtX w x.place.toNat x.at_ x.age
theorem Wd.wm {w:Zb} (h:Wd w):Wm w:= ⟨h.shr,h.loc,h.tog,h.ent,h.hel,h.mai,h.ntd⟩
theorem Wm.wd {w:Zb} (h:Wm w) (hm:(msgs w).Perm (Xl w.said.toNat)):Wd w:= ⟨h.shr,h.loc,h.tog,h.ent,h.hel,h.mai,h.ntd,hm⟩
structure Mv (w w':Zb):Prop where
 inl:w'.Zv.length=w.Zv.length
 enl:w'.qQ.length=w.qQ.length
 rt:∀ p,p < w.Zv.length ->∀ m a,RtX w p m a ->RtX w' p m a
theorem Mv.of {w w':Zb} (inl:w'.Zv.length=w.Zv.length) (enl:w'.qQ.length=w.qQ.length) (hE:∀ m p,p < w.Zv.length ->(E w m p).age <= (E w' m p).age)
 (hs:∀ p,p < w.Zv.length ->((sp w' p).machine= (sp w p).machine∧(sp w' p).age= (sp w p).age)∨∃ m:Nat,(sp w p).machine= (m:Int)∧(sp w p).age < (sp w' p).age∧(sp w p).age < (E w' m p).age):Mv w w':=by
 refine⟨inl,enl,fun p hp m a h=>?_⟩;obtain⟨h1,h2,h3,h4,h5,h6⟩:=h;have hE':=hE m.toNat p hp;rcases hs p hp with⟨e1,e2⟩ | ⟨k,e1,e2,e3⟩
 ·refine⟨h1,by omega,h3,by omega,fun q=>?_,fun q=>?_⟩
  ·rw [e1];exact h5 (by omega)
  ·have:=h6 (by omega);omega
 ·refine⟨h1,by omega,h3,by omega,fun q=>by omega,fun q=>?_⟩;by_cases c:a= (sp w p).age
  ·have:=h5 c;have:m.toNat=k:=by omega
   rw [this];omega
  ·have:=h6 c;omega
theorem Mv.Yb {w w':Zb} (v:Mv w w') {m:Int} {y:Zr} (h:QR w m y):QR w' m y:=by
 obtain⟨h1,h2,h3,h4,h5,h6⟩:=h;exact⟨h1,by rw [v.inl];exact h2,h3,by rw [v.enl];exact h4,v.rt _ (by omega) _ _ h5,h6⟩
theorem Mv.Xd {w w':Zb} (v:Mv w w') {x:Ze} (h:Zj0 w x):Zj0 w' x:=
 ⟨h.to1,by rw [v.enl];exact h.to2,h.Y9,fun i hi=>by have:=h.WY i hi;unfold Ke at this ⊢;rw [v.inl];exact this,fun q=>by have:=h.ntd q;rw [v.inl];exact this⟩
theorem Mv.same {w w':Zb} (inl:w'.Zv.length=w.Zv.length) (enl:w'.qQ=w.qQ) (hs:∀ p,p < w.Zv.length ->YC w' p=YC w p):Mv w w':=
 Mv.of inl (by rw [enl]) (fun m p _=>by unfold E row;rw [enl];exact Int.le_refl _) fun p hp=>.inl (by rw [Jk (hs p hp)];exact⟨rfl,rfl⟩)
def owB (w:Zb):List (Int×Int):= (List.range w.qK.length).flatMap fun p=>(Qt w p).map fun n=>(n,(p:Int))
def owH (w:Zb):List (Int×Int):= (List.range w.qJ.length).flatMap fun m=>(ZF w m).map fun y=>(y.msg,y.place)
def owL (l:List Ze):List (Int×Int):= (l.filter fun x=>x.kind==1).map fun x=>(x.Yb.msg,x.Yb.place)
def owes (w:Zb):List (Int×Int):=owB w ++ owH w ++ owL w.qG
theorem Zb3 (w:Zb):(owes w).map Prod.fst=msgs w:=by
 unfold owes msgs;rw [List.map_append,List.map_append];congr 1
 ·congr 1
  ·unfold owB;rw [List.map_flatMap];have:=ZdH w.qK [] (fun l=>l);rw [List.flatMap_id'] at this;rw [← this];congr 1;funext p;rw [List.map_map];show(Qt w p).map (fun n=>n)=_;rw [List.map_id'];rfl
  ·unfold owH QA;rw [List.map_flatMap,← ZdH w.qJ [] (fun x=>x.map fun y=>y.msg)];congr 1;funext p;rw [List.map_map];rfl
 ·unfold owL QW;rw [List.map_map];rfl
theorem Zpl {α:Type} [BEq α] {f g:Nat ->List α} {p:Nat} (h:∀ k,k ≠ p ->f k=g k) (a:α):∀ {n:Nat},p < n ->((List.range n).flatMap f).count a + (g p).count a= ((List.range n).flatMap g).count a + (f p).count a:=by
 intro n
 induction n with
 | zero=>intro h;omega
 | succ n ih=>
   intro hp;rw [List.range_succ,List.flatMap_append,List.flatMap_append,List.count_append,List.count_append];simp only [List.flatMap_cons,List.flatMap_nil,List.append_nil];by_cases e:p=n
   ·subst e
    have:(List.range p).flatMap f= (List.range p).flatMap g:=by
     unfold List.flatMap;congr 1;exact List.map_congr_left fun k hk=>h k (by have:=List.mem_range.1 hk;omega)
    rw [this];omega
   ·have:=ih (by omega);rw [h n (fun z=>e z.symm)];omega
theorem Zab (a b:List Ze):owL (a ++ b)=owL a ++ owL b:=by unfold owL;rw [List.filter_append,List.map_append]
theorem Zul {w:Zb} {k:Nat} (hk:k < w.qG.length):owL w.qG=owL (w.qG.take k) ++ owL [ZB w k] ++ owL (w.qG.drop (k + 1)):=by
 have:=congrArg owL (KA hk);rw [this,Zab,show ZB w k::w.qG.drop (k + 1)= [ZB w k] ++ w.qG.drop (k + 1) from rfl,Zab,List.append_assoc]
theorem ZeA {x:Ze} (h:x.kind=1):owL [x]= [(x.Yb.msg,x.Yb.place)]:=by unfold owL;simp [h]
theorem ZeB {x:Ze} (h:x.kind ≠ 1):owL [x]= []:=by unfold owL;simp [h]
theorem ZsM (w w':Zb) {p:Nat} (hp:p < w.qK.length) {l:List Int} (h:w'.qK=Yv w.qK (p:Int) (Qt w p ++ l)) (a:Int×Int):(owB w').count a= (owB w).count a + (l.map fun n=>(n,(p:Int))).count a:=by
 have hb:∀ k,Qt w' k=if k=p then Qt w p ++ l else Qt w k:=fun k=>by unfold Qt;rw [h];exact QH hp
 have:=Zpl (f:=fun k=>(Qt w' k).map fun n=>(n,(k:Int))) (g:=fun k=>(Qt w k).map fun n=>(n,(k:Int))) (p:=p) (fun k hk=>by rw [hb,if_neg hk]) a (n:=w.qK.length) hp;rw [hb,if_pos rfl,List.map_append,List.count_append] at this;have e:w'.qK.length=w.qK.length:=by rw [h,Xc]
 unfold owB;rw [e];omega
theorem ZsL (w w':Zb) {m:Nat} (hm:m < w.qJ.length) {l:List Zr} (h:w'.qJ=Yv w.qJ (m:Int) l) (a:Int×Int):(owH w').count a + ((ZF w m).map fun y=>(y.msg,y.place)).count a= (owH w).count a + (l.map fun y=>(y.msg,y.place)).count a:=by
 have hb:∀ k,ZF w' k=if k=m then l else ZF w k:=fun k=>by unfold ZF;rw [h];exact QH hm
 have:=Zpl (f:=fun k=>(ZF w' k).map fun y=>(y.msg,y.place)) (g:=fun k=>(ZF w k).map fun y=>(y.msg,y.place)) (p:=m) (fun k hk=>by rw [hb,if_neg hk]) a (n:=w.qJ.length) hm;rw [hb,if_pos rfl] at this;have e:w'.qJ.length=w.qJ.length:=by rw [h,Xc]
 unfold owH;rw [e];omega
theorem Zmi {w w':Zb} (e:w'.Zv=w.Zv) (q:Int):inn w' q=inn w q:=by unfold inn;rw [e]
theorem ZJz {w w':Zb} (e:w'.Zv=w.Zv) (q:Int):∀ k,up w' k q=up w k q:=by
 intro k
 induction k with
 | zero=>rfl
 | succ k ih=>rw [QD,QD,ih,Zmi e]
theorem Inn.eq {w w':Zb} (h:Inn w) (e:w'.Zv=w.Zv):Inn w':=
 ⟨fun p hp=>by have:=h.rng p (by rw [← e];exact hp);unfold okN at this ⊢;rw [Zmi e,e];exact this,fun p hp=>by rw [ZJz e,e];exact h.acy p (by rw [← e];exact hp)⟩
theorem Zqa {w w':Zb} (e:w'.qQ=w.qQ) (m p:Nat):E w' m p=E w m p:=by unfold E row;rw [e]
theorem Zea.eq {w w':Zb} (e:w'.qQ=w.qQ) {m p:Nat} (h:Zea w m p):Zea w' m p:=by
 unfold Zea at h ⊢;rw [Zqa e,e];exact h
theorem Wm.upd {w w':Zb} (h:Wm w) (Zhh:w'.Zv=w.Zv) (Zhi:w'.qQ=w.qQ) (hbx:w'.qK.length=w.qK.length) (hhd:w'.qJ.length=w.qJ.length) (hs1:0 <=w'.said) (hs2:w'.said <=40)
 (ZQC:∀ p,X3 w'.qG p=X3 w.qG p) (hk2:∀ x ∈ w.qG,x.kind=2 ->x ∈ w'.qG)
 (hlet:∀ x ∈ w'.qG,x ∈ w.qG∨(Zj0 w x∧(x.kind=1 ->QR w x.Z9 x.Yb)∧(x.kind=3 ->RtX w x.place.toNat x.at_ x.age)))
 (ZQX:∀ m,m < w.qQ.length ->∀ y ∈ ZF w' m,y ∈ ZF w m∨(QR w m y∧sp w y.place.toNat= ⟨(m:Int),false,y.age⟩)):Wm w':=by
 have hloc:∀ p,YC w' p=YC w p:=fun p=>Zca (by rw [Zhi];exact Zad fun m _=>Zqa Zhi m p) (ZQC p)
 have v:Mv w w':=Mv.same (by rw [Zhh]) Zhi fun p _=>hloc p
 have hsp:∀ p,sp w' p=sp w p:=fun p=>Jk (hloc p)
 have S:=h.shr.WT;refine⟨⟨⟨by rw [Zhi];exact S.m1,by rw [Zhi];exact S.m2,by rw [Zhh];exact S.p1,by rw [Zhh];exact S.p2,by rw [hbx,Zhh];exact S.bx,by rw [hhd,Zhi];exact S.hd,by rw [Zhi,Zhh];exact S.rw_⟩,h.shr.inn.eq Zhh,hs1,hs2,fun m hm p hp=>(h.shr.ent m (by rw [← Zhi];exact hm) p (by rw [← Zhh];exact hp)).eq Zhi,fun x hx=>?_⟩,fun p hp=>?_,fun p hp hq=>?_,fun m hm p hp hh=>?_,fun m hm y hy=>?_,fun x hx hk=>?_,fun x hx hk=>?_⟩
 ·rcases hlet x hx with q | q
  ·exact v.Xd (h.shr.Xd x q)
  ·exact v.Xd q.1
 ·rw [hloc];exact h.loc p (by rw [← Zhh];exact hp)
 ·rw [Zmi Zhh] at hq ⊢;rw [hsp,hsp];have:=h.tog p (by rw [← Zhh];exact hp) hq;refine⟨this.1,this.2.1,fun z=>?_⟩;obtain⟨x,hx,k,a,b⟩:=this.2.2 z;exact⟨x,hk2 x hx k,k,a,b⟩
 ·rw [Zqa Zhi] at hh ⊢;exact v.rt p (by rw [← Zhh];exact hp) _ _ (h.ent m (by rw [← Zhi];exact hm) p (by rw [← Zhh];exact hp) hh)
 ·rw [Zhi] at hm;rw [hsp];rcases ZQX m hm y hy with q | q
  ·have:=h.hel m hm y q;exact⟨v.Yb this.1,this.2⟩
  ·exact⟨v.Yb q.1,q.2⟩
 ·rcases hlet x hx with q | q
  ·exact v.Yb (h.mai x q hk)
  ·exact v.Yb (q.2.1 hk)
 ·rcases hlet x hx with q | q
  ·have hn:= (h.shr.Xd x q).ntd hk;exact v.rt _ (by omega) _ _ (h.ntd x q hk)
  ·have hn:=q.1.ntd hk;exact v.rt _ (by omega) _ _ (q.2.2 hk)
section
variable {w:Zb}
theorem ZhE (h:Wm w) {k:Nat} (hk:k < w.qG.length) (h2:(ZB w k).kind ≠ 2):Wm (Z7 w k):=by
 refine h.upd rfl rfl rfl rfl h.shr.sd1 h.shr.sd2 (fun p=>?_) (fun x hx hk2=>?_) (fun x hx=>.inl (Wl hx)) (fun m _ y hy=>.inl hy)
 ·rw [KD hk,ZlD h2,Zft,List.append_nil]
 ·rw [KA hk] at hx;rcases List.mem_append.1 hx with q | q
  ·exact List.mem_append.2 (.inl q)
  ·rcases List.mem_cons.1 q with r | r
   ·rw [r] at hk2;exact absurd hk2 h2
   ·exact List.mem_append.2 (.inr r)
theorem ZsC (h:Wm w) (hs:w.said < 40):Wm (ZaC w):=
 h.upd rfl rfl rfl rfl (by have:=h.shr.sd1;show 0 <=w.said + 1;omega) (by show w.said + 1 <=40;omega) (fun _=>rfl) (fun x hx _=>hx) (fun x hx=>.inl hx) (fun m _ y hy=>.inl hy)
structure Rtd (w:Zb) (m:Nat) (x:Zr) (now:Bool):Prop where
 hm:m < w.qQ.length
 pl:Uh x.place w.Zv.length
 fr:Uh x.from_ w.qQ.length
 old:now=false ->QR w m x
 new:now=true ->x.age=0∧x.hops=0
theorem Wm.ZbS (h:Wm w) {p:Nat} (hp:p < w.Zv.length):(sp w p).age <=30:=Proofs.YtbmbbcaaimehkaaGreat.ZbS h.shr hp (h.loc p hp)
theorem Zup {to:Int} {y:Zr} (h1:0 <=to) (h2:to < (w.qQ.length:Int)):Zj0 w (Zbv to y):=
 ⟨h1,h2,.inl ⟨rfl,rfl,rfl,rfl,rfl,rfl⟩,fun i hi=>absurd hi (Nat.not_lt_zero i),fun q=>absurd (show(1:Int)=3 from q) (by omega)⟩
theorem Zum {to p at_ age:Int} (h1:Uh to w.qQ.length) (h2:Uh p w.Zv.length) (h3:at_ ≠ to):Zj0 w (Zw2 to p at_ age):=
 ⟨h1.1,h1.2,.inr (.inr ⟨rfl,rfl,rfl,rfl⟩),fun i hi=>absurd hi (Nat.not_lt_zero i),fun _=>⟨h2.1,h2.2,h3⟩⟩
theorem Zoa (h:Wm w) {m:Nat} {x:Zr} {now:Bool} (r:Rtd w m x now):Wm (Xu w m x now).1:=by
 obtain⟨p,ep,hp⟩:=r.pl.nat;have hm:=r.hm;have S:=h.shr.WT;unfold Xu;rw [ep,Int.toNat_natCast];by_cases hh:(E w m p).here=true
 ·rw [if_pos hh];exact h.upd rfl rfl (Xc _ _ _) rfl h.shr.sd1 h.shr.sd2 (fun _=>rfl) (fun x hx _=>hx) (fun x hx=>.inl hx) (fun m _ y hy=>.inl hy)
 have hh':(E w m p).here=false:=by simpa using hh
 rw [if_neg hh];have re:=h.ent m hm p hp hh';by_cases hc:now=false∧(E w m p).age <=x.age
 ·rw [if_pos hc];have ho:=r.old hc.1;obtain⟨o1,o2,o3,o4,o5,o6,o7⟩:=id ho;refine h.upd rfl rfl rfl (Xc _ _ _) h.shr.sd1 h.shr.sd2 (fun _=>rfl) (fun x hx _=>hx) (fun x hx=>.inl hx) (fun m' hm' y hy=>?_);have hb:ZF {w with qJ:=Yv w.qJ (m:Int) (ZF w m ++ [x])} m'=if m'=m then ZF w m ++ [x] else ZF w m':=QH (by rw [S.hd];exact hm)
  rw [hb] at hy;by_cases e:m'=m
  ·rw [if_pos e] at hy;rcases List.mem_append.1 hy with q | q
   ·rw [e];exact .inl q
   ·rw [List.mem_singleton.1 q,e];refine .inr ⟨ho,?_⟩;rw [ep,Int.toNat_natCast] at o5 ⊢;obtain⟨a1,a2,a3,a4,a5,a6⟩:=o5;rw [Int.toNat_natCast] at a6;have e1:x.age= (sp w p).age:=Classical.byContradiction fun z=>by have:=a6 z;omega
    have e2:=a5 e1
    have e3:(sp w p).here=false:=by
     rcases Zaz (h.loc p hp) with⟨k,hk,he,es⟩ | ⟨y,hy,hk,i,hi,hpi,es⟩
     ·rw [es] at e2;have:m=k:=by have:(m:Int)= (k:Int):=e2;omega
      rw [← this,hh'] at he;cases he
     ·rw [es]
    rw [e1,e2,← e3]
  ·rw [if_neg e] at hy;exact .inl hy
 ·rw [if_neg hc];have ha:=h.ZbS hp;obtain⟨a1,a2,a3,a4,a5,a6⟩:=id re;have hE:=h.shr.ent m hm p hp;refine h.upd rfl rfl rfl rfl h.shr.sd1 h.shr.sd2 (fun q=>?_) (fun x hx _=>List.mem_append.2 (.inl hx)) (fun y hy=>?_) (fun m _ y hy=>.inl hy)
  ·show X3 (w.qG ++ _::told (m:Int) x (E w m p) now) q=_
   have e0:X3 (Zbv (E w m p).Z9 (Wh x (E w m p))::told (m:Int) x (E w m p) now) q= []:=by
    apply Zsr;intro y hy;rcases List.mem_cons.1 hy with z | z
    ·rw [z];show(1:Int) ≠ 2;omega
    ·unfold told at z;split at z
     ·rw [List.mem_singleton.1 z];show(3:Int) ≠ 2;omega
     ·cases z
   rw [Zaw,e0,List.append_nil]
  ·rcases List.mem_append.1 hy with q | q
   ·exact .inl q
   refine .inr ?_;rcases List.mem_cons.1 q with z | z
   ·subst z;refine⟨Zup a3 a4,fun _=>?_,fun q=>absurd (show(1:Int)=3 from q) (by omega)⟩;show QR w (E w m p).Z9 (Wh x (E w m p));refine⟨r.pl.1,r.pl.2,r.fr.1,r.fr.2,?_,?_,?_⟩
    ·show RtX w x.place.toNat (E w m p).Z9 (E w m p).age;rw [ep,Int.toNat_natCast];exact re
    ·show 1 <=x.hops + 1;cases hn:now with
     | true=>have:=r.new hn;omega
     | false=>have:= (r.old hn).2.2.2.2.2.1;omega
    ·show x.hops + 1 <=Xa (1 + (E w m p).age);rw [Int.add_comm 1,Za0 a1 (by omega)];cases hn:now with
     | true=>have:=r.new hn;omega
     | false=>
       have o:=r.old hn;have o1:=o.2.2.2.2.1.1;have o2:=o.2.2.2.2.1.2.1;have o3:=o.2.2.2.2.2.2;rw [ep,Int.toNat_natCast] at o2;rw [Int.add_comm,Za0 o1 (by omega)] at o3;have:¬ (E w m p).age <=x.age:=fun z=>hc ⟨hn,z⟩
       omega
   ·unfold told at z;split at z
    ·rename_i ht;rw [List.mem_singleton.1 z];refine⟨Zum r.fr r.pl (fun q=>ht.2.2 q.symm),fun q=>absurd (show(3:Int)=1 from q) (by omega),fun _=>?_⟩;show RtX w x.place.toNat (E w m p).Z9 (E w m p).age;rw [ep,Int.toNat_natCast];exact re
    ·cases z
theorem ZBr (m:Int) (x:Zr) (e:Zw) (now:Bool):owL (told m x e now)= []:=by
 unfold told;split
 ·exact ZeB (by show(3:Int) ≠ 1;omega)
 ·rfl
theorem Zob (h:Wm w) {m:Nat} {x:Zr} {now:Bool} (r:Rtd w m x now) (a:Int×Int):(owes (Xu w m x now).1).count a= (owes w).count a + [(x.msg,x.place)].count a:=by
 obtain⟨p,ep,hp⟩:=r.pl.nat;have S:=h.shr.WT;unfold Xu owes;rw [ep,Int.toNat_natCast];simp only [List.count_append];by_cases hh:(E w m p).here=true
 ·rw [if_pos hh];have:=ZsM w {w with qK:=Yv w.qK (p:Int) (Qt w p ++ [x.msg])} (p:=p) (by rw [S.bx];exact hp) rfl a;simp only [List.map_cons,List.map_nil] at this;rw [this];show _ + (owH w).count a + (owL w.qG).count a=_;omega
 rw [if_neg hh];by_cases hc:now=false∧(E w m p).age <=x.age
 ·rw [if_pos hc];have:=ZsL w {w with qJ:=Yv w.qJ (m:Int) (ZF w m ++ [x])} (m:=m) (by rw [S.hd];exact r.hm) rfl a;simp only [List.map_append,List.count_append,List.map_cons,List.map_nil,ep] at this;show(owB w).count a + (owH {w with qJ:=Yv w.qJ (m:Int) (ZF w m ++ [x])}).count a + (owL w.qG).count a=_;omega
 ·rw [if_neg hc];show(owB w).count a + (owH w).count a + (owL (w.qG ++ (Zbv _ _::told _ _ _ _))).count a=_;rw [Zab,show(Zbv (E w m p).Z9 (Wh x (E w m p))::told (m:Int) x (E w m p) now)= [Zbv (E w m p).Z9 (Wh x (E w m p))] ++ told (m:Int) x (E w m p) now from rfl,Zab,ZBr,ZeA rfl,List.append_nil,List.count_append];show _ + (_ + List.count a [(x.msg,x.place)])=_;rw [ep];omega
end
end Go.Proofs.YtbmbbcaaimehkaaGreat
end
section
namespace Go.Proofs.YtbmbbcaaimehkaaGreat
open Go.Lf
theorem ZiG {w w':Zb} {p:Nat}:∀ {k:Nat},(∀ m,m < k ->(E w' m p=E w m p)∨((E w' m p).here=false∧(E w m p).here=false)) ->Xe w' p k=Xe w p k:=by
 intro k
 induction k with
 | zero=>intro _;rfl
 | succ k ih=>
   intro h;rw [JF,JF,ih fun m hm=>h m (by omega)];rcases h k (by omega) with e | ⟨e1,e2⟩
   ·rw [e]
   ·rw [e1,e2];simp
section
variable {w:Zb}
theorem ZBJ (h:Wm w) {m p:Nat} (hm:m < w.qQ.length) (hp:p < w.Zv.length) {at_ age:Int} (hh:(E w m p).here=false) (ha:(E w m p).age < age) (hr:RtX w p at_ age) (hn:at_ ≠ (m:Int)):Wm (setW w m p ⟨false,at_,age⟩):=by
 have S:=h.shr.WT;have eE:=ZnD S hm hp ⟨false,at_,age⟩;have hag:=h.ZbS hp;have el:(setW w m p ⟨false,at_,age⟩).qQ.length=w.qQ.length:=ZbU _ _ _ _
 have hloc:∀ q,YC (setW w m p ⟨false,at_,age⟩) q=YC w q:=fun q=>by
  refine Zca ?_ rfl;rw [el];refine ZiG fun m' _=>?_
  rw [eE];by_cases c:m'=m∧q=p
  ·rw [if_pos c,c.1,c.2];exact .inr ⟨rfl,hh⟩
  ·rw [if_neg c];exact .inl rfl
 have hsp:∀ q,sp (setW w m p ⟨false,at_,age⟩) q=sp w q:=fun q=>Jk (hloc q)
 have v:Mv w (setW w m p ⟨false,at_,age⟩):=Mv.of rfl el (fun m' q _=>by
  rw [eE];by_cases c:m'=m∧q=p
  ·rw [if_pos c,c.1,c.2];exact Int.le_of_lt ha
  ·rw [if_neg c];exact Int.le_refl _) fun q _=>.inl (by rw [hsp];exact⟨rfl,rfl⟩)
 refine⟨⟨S.setW hm _,h.shr.inn.eq rfl,h.shr.sd1,h.shr.sd2,fun m' hm' q hq=>?_,fun x hx=>v.Xd (h.shr.Xd x hx)⟩,fun q hq=>by rw [hloc];exact h.loc q hq,fun q hq hi=>?_,fun m' hm' q hq hh'=>?_,fun m' hm' y hy=>?_,fun x hx hk=>v.Yb (h.mai x hx hk),fun x hx hk=>?_⟩
 ·rw [el] at hm';unfold Zea;rw [eE,el];by_cases c:m'=m∧q=p
  ·rw [if_pos c,c.1];exact⟨hr.1,by have:=hr.2.1;show age <=30;omega,hr.2.2.1,hr.2.2.2.1,⟨fun z=>absurd z (by simp),fun z=>absurd z hn⟩⟩
  ·rw [if_neg c];exact h.shr.ent m' hm' q hq
 ·rw [hsp,hsp];exact h.tog q hq hi
 ·rw [el] at hm';rw [eE] at hh' ⊢;by_cases c:m'=m∧q=p
  ·rw [if_pos c,c.2];exact v.rt p hp _ _ hr
  ·rw [if_neg c] at hh' ⊢;exact v.rt q hq _ _ (h.ent m' hm' q hq hh')
 ·rw [el] at hm';have:=h.hel m' hm' y hy;rw [hsp];exact⟨v.Yb this.1,this.2⟩
 ·have hn:= (h.shr.Xd x hx).ntd hk;exact v.rt _ (by omega) _ _ (h.ntd x hx hk)
theorem ZeN {p:Nat} {v:Int} (hp:p < w.Zv.length) (q:Nat):inn (K5 w (p:Int) v) (q:Int)=if q=p then v else inn w (q:Int):=by
 unfold inn K5;rw [Int.toNat_natCast];exact QH hp
theorem Zev (p v:Int):(K5 w p v).Zv.length=w.Zv.length:=Xc _ _ _
theorem ZlH (hi:Inn w) {p:Nat} {v:Int} (hp:p < w.Zv.length) {x:Nat} (hx:x < w.Zv.length):∀ j,(∀ i,i < j ->up w i (x:Int) ≠ (p:Int)) ->up (K5 w (p:Int) v) j (x:Int)=up w j (x:Int):=by
 intro j
 induction j with
 | zero=>intro _;rfl
 | succ j ih=>
   intro h;have e:=ih fun i hi=>h i (by omega)
   rw [QD,QD,e];by_cases hn:up w j (x:Int) < 0
   ·rw [if_pos hn,if_pos hn]
   ·rw [if_neg hn,if_neg hn];obtain⟨q,eq,hq⟩:=JZ (hi.up (q:= (x:Int)) ⟨by omega,by omega⟩ j) hn;rw [eq,ZeN hp,if_neg (fun z=>h j (by omega) (by rw [eq,z]))]
theorem ZAR (hi:Inn w) {p q:Nat} (hp:p < w.Zv.length) (hq:q < w.Zv.length) (hn:¬ Wth w p q):Inn (K5 w (p:Int) (q:Int)):=by
 have el:=Zev (w:=w) (p:Int) (q:Int)
 have hr:∀ x:Nat,x < (K5 w (p:Int) (q:Int)).Zv.length ->okN (K5 w (p:Int) (q:Int)) (inn (K5 w (p:Int) (q:Int)) (x:Int)):=fun x hx=>by
  rw [el] at hx;rw [ZeN hp];unfold okN;rw [el];by_cases e:x=p
  ·rw [if_pos e];omega
  ·rw [if_neg e];exact hi.rng x hx
 refine⟨hr,(ZhL hr).2 fun x hx j hj hc=>?_⟩;rw [el] at hx hj;have old:∀ i,up (K5 w (p:Int) (q:Int)) i (q:Int)=up w i (q:Int):=fun i=>ZlH hi hp hq i fun k _ z=>hn ⟨k,z⟩
 by_cases hz:∃ i,i < j + 1∧up w i (x:Int)= (p:Int)
 ·obtain⟨i,hil,e⟩:=hz;obtain⟨n,hnn,hcn,hlt⟩:=X5 (c:=fun i=>up w i (x:Int)= (p:Int)) e;have e1:up (K5 w (p:Int) (q:Int)) n (x:Int)= (p:Int):=by rw [ZlH hi hp hx n hlt];exact hcn
  have e2:up (K5 w (p:Int) (q:Int)) (j + 1) (p:Int)= (p:Int):=by
   have t:=up_add (K5 w (p:Int) (q:Int)) n (j + 1) (x:Int);rw [e1,Nat.add_comm,up_add,hc,e1] at t;exact t.symm
  have e3:up (K5 w (p:Int) (q:Int)) (j + 1) (p:Int)=up (K5 w (p:Int) (q:Int)) j (q:Int):=by
   show(if(p:Int) < 0 then _ else up _ j (inn _ (p:Int)))=_;rw [if_neg (by omega),ZeN hp,if_pos rfl]
  rw [e3,old] at e2;exact hn ⟨j,e2⟩
 ·rw [ZlH hi hp hx _ fun i h q=>hz ⟨i,h,q⟩] at hc;exact(ZhL hi.rng).1 hi.acy x hx j hj hc
theorem ZwG (h:Wm w) {p:Nat} {v:Int} (hp:p < w.Zv.length) (hi:Inn (K5 w (p:Int) v)) (ht:0 <=v ->(sp w v.toNat).machine= (sp w p).machine∧(sp w v.toNat).here=true∧(sp w p).here=true):Wm (K5 w (p:Int) v):=by
 have el:=Zev (w:=w) (p:Int) v;have S:=h.shr.WT;have v':Mv w (K5 w (p:Int) v):=Mv.same el rfl fun _ _=>rfl
 refine⟨⟨⟨S.m1,S.m2,by rw [el];exact S.p1,by rw [el];exact S.p2,by rw [el];exact S.bx,S.hd,by rw [el];exact S.rw_⟩,hi,h.shr.sd1,h.shr.sd2,fun m hm q hq=>h.shr.ent m hm q (by rw [← el];exact hq),fun x hx=>v'.Xd (h.shr.Xd x hx)⟩,fun q hq=>h.loc q (by rw [← el];exact hq),fun q hq hz=>?_,fun m hm q hq hh=>v'.rt q (by rw [← el];exact hq) _ _ (h.ent m hm q (by rw [← el];exact hq) hh),fun m hm y hy=>⟨v'.Yb (h.hel m hm y hy).1,(h.hel m hm y hy).2⟩,fun x hx hk=>v'.Yb (h.mai x hx hk),fun x hx hk=>?_⟩
 ·rw [el] at hq;rw [ZeN hp] at hz ⊢;by_cases e:q=p
  ·rw [if_pos e] at hz ⊢;have:=ht hz;rw [e];exact⟨this.1,this.2.1.trans this.2.2.symm,fun z=>by rw [show sp (K5 w (p:Int) v) p=sp w p from rfl,this.2.2] at z;cases z⟩
  ·rw [if_neg e] at hz ⊢;exact h.tog q hq hz
 ·have hn:= (h.shr.Xd x hx).ntd hk;exact v'.rt _ (by omega) _ _ (h.ntd x hx hk)
theorem ZFm (h:Wm w) {p:Nat} (hp:p < w.Zv.length):∀ (j q:Nat),q < w.Zv.length ->up w j (q:Int)= (p:Int) ->(sp w q).machine= (sp w p).machine∧(sp w q).here= (sp w p).here:=by
 intro j
 induction j with
 | zero=>intro q hq e;have:q=p:=by have:(q:Int)= (p:Int):=e;omega
         rw [this];exact⟨rfl,rfl⟩
 | succ j ih=>
   intro q hq e
   have e':up w j (inn w (q:Int))= (p:Int):=by
    have:(if(q:Int) < 0 then(q:Int) else up w j (inn w (q:Int)))= (p:Int):=e;rw [if_neg (by omega)] at this;exact this
   have h0:¬ inn w (q:Int) < 0:=fun z=>by rw [ZlI z] at e';omega
   obtain⟨r,er,hr⟩:=JZ (h.shr.inn.rng q hq) h0;have t:=h.tog q hq (by omega);rw [er] at e';have i:=ih r hr e';rw [er,Int.toNat_natCast] at t;exact⟨t.1 ▸ i.1,t.2.1 ▸ i.2⟩
theorem ZnQ {x:Ze} (hk:x.kind=2) (nd:x.qV.Nodup) {i p:Nat} (hi:i < x.qV.length) (hp:x.qV.getD i 0= (p:Int)):WQ x p= [⟨x.Z9,false,x.Yk.getD i 0⟩]:=by
 unfold WQ;rw [if_pos hk];have hl:=ZdA x p x.qV.length (Nat.le_refl _);rw [List.take_of_length_le (Nat.le_refl _)] at hl;have hm:(p:Int) ∈ x.qV:=by rw [← hp,Y5 hi];exact List.getElem_mem hi
 have hc:=List.nodup_iff_count.1 nd (p:Int);have hc2:=List.count_pos_iff.2 hm;obtain⟨s,e⟩:=List.length_eq_one_iff.1 (show(Wy x p x.qV.length).length=1 by omega);have:Yr.mk x.Z9 false (x.Yk.getD i 0) ∈ Wy x p x.qV.length:=Zav.2 ⟨i,hi,hp,rfl⟩;rw [e] at this ⊢;rw [List.mem_singleton.1 this]
theorem ZkS {x:Ze} {p:Nat} (hm:(p:Int) ∉ x.qV):WQ x p= []:=by
 unfold WQ;split
 ·apply List.eq_nil_iff_forall_not_mem.2;intro s hs;obtain⟨i,hi,hp,_⟩:=Zav.1 hs;exact hm (by rw [← hp,Y5 hi];exact List.getElem_mem hi)
 ·rfl
theorem Zat (hi:Inn w) {p q:Nat}:(q:Int) ∈ Yx w p↔q < w.Zv.length∧Wth w p q:=by
 rw [ZkO hi]
 exact⟨fun⟨x,e,hx,hw⟩=>by have:q=x:=by omega
                          subst this;exact⟨hx,hw⟩,fun⟨a,b⟩=>⟨q,rfl,a,b⟩⟩
end
end Go.Proofs.YtbmbbcaaimehkaaGreat
end
section
namespace Go.Proofs.YtbmbbcaaimehkaaGreat
open Go.Lf
section
variable {w:Zb}
theorem Wm.Kj (h:Wm w) {p:Nat} (hp:p < w.Zv.length) (hh:(sp w p).here=true):sp w p= ⟨(mOf w p:Int),true,(E w (mOf w p) p).age⟩∧mOf w p < w.qQ.length∧(E w (mOf w p) p).here=true:=by
 rcases Zaz (h.loc p hp) with⟨m,hm,he,e⟩ | ⟨x,hx,hk,i,hi,hpi,e⟩
 ·unfold mOf;rw [e];exact⟨by simp,by simpa using hm,by simpa using he⟩
 ·rw [e] at hh;cases hh
theorem Wm.only (h:Wm w) {p m:Nat} (hp:p < w.Zv.length) (hm:m < w.qQ.length) (hh:(E w m p).here=true):sp w p= ⟨(m:Int),true,(E w m p).age⟩∧Xe w p w.qQ.length= [⟨(m:Int),true,(E w m p).age⟩]∧X3 w.qG p= []∧∀ m',m' < w.qQ.length ->m' ≠ m ->(E w m' p).here=false:=by
 have hl:=h.loc p hp;have h1:Yr.mk (m:Int) true (E w m p).age ∈ Xe w p w.qQ.length:=ZcV.2 ⟨m,hm,hh,rfl⟩
 have h2:(Xe w p w.qQ.length).length=1∧(X3 w.qG p).length=0:=by
  unfold YC at hl;rw [List.length_append] at hl;have:=List.length_pos_of_mem h1;omega
 obtain⟨s,e⟩:=List.length_eq_one_iff.1 h2.1;have e3:=List.length_eq_zero_iff.1 h2.2;rw [e] at h1;have e4:=List.mem_singleton.1 h1;have e5:sp w p=s:=Zsv (by unfold YC;rw [e,e3];rfl);refine⟨by rw [e5,e4],by rw [e,e4],e3,fun m' hm' hne=>?_⟩;cases q:(E w m' p).here with
 | false=>rfl
 | true=>
   have:Yr.mk (m':Int) true (E w m' p).age ∈ Xe w p w.qQ.length:=ZcV.2 ⟨m',hm',q,rfl⟩;rw [e,← e4] at this;have:=List.mem_singleton.1 this;injection this with a b c
   exact absurd (by omega) hne
structure Trv (w:Zb) (p:Nat) (to:Int):Prop where
 hp:p < w.Zv.length
 here:(sp w p).here=true
 off:(sp w p).machine ≠ to
 Z9:Uh to w.qQ.length
 old:∀ q:Nat,(q:Int) ∈ Yx w p ->(sp w q).age < 30
variable {p:Nat} {to:Int}
theorem ZcK (h:Wm w) (t:Trv w p to) {q:Nat} (hq:(q:Int) ∈ Yx w p):q < w.Zv.length∧sp w q= ⟨(mOf w p:Int),true,(E w (mOf w p) q).age⟩∧(E w (mOf w p) q).here=true:=by
 obtain⟨hql,j,e⟩:= (Zat h.shr.inn).1 hq;have s:=ZFm h t.hp j q hql e;have a:=h.Kj t.hp t.here;have b:=h.Kj hql (s.2.trans t.here);have em:mOf w q=mOf w p:=by unfold mOf;rw [s.1]
 rw [em] at b;exact⟨hql,b.1,b.2.2⟩
theorem Zt4 (h:Wm w) (t:Trv w p to):(p:Int) ∈ Yx w p:= (Zat h.shr.inn).2 ⟨t.hp,0,rfl⟩
theorem Zzb (h:Wm w) (t:Trv w p to):GoB w (mOf w p) (Yx w p):=by
 have a:=h.Kj t.hp t.here;refine⟨h.shr.WT,a.2.1,ZbO w p,Wx w p,fun q hq=>?_⟩;obtain⟨k,rfl,hk⟩:= (ZbO w p q hq).nat;have:=h.shr.ent _ a.2.1 k hk;rw [Int.toNat_natCast];exact⟨this.1,this.2.1⟩
theorem Zfw (h:Wm w) (t:Trv w p to) (m' q:Nat):E (WV w p to).1 m' q=if m'=mOf w p∧(q:Int) ∈ Yx w p then⟨false,to,(E w (mOf w p) q).age + 1⟩ else E w m' q:=by
 have:=ZEU (to:=to) (Zzb h t) (Yx w p).length (Nat.le_refl _) m' q;rw [List.take_of_length_le (Nat.le_refl _)] at this;exact this
theorem ZbQ (w:Zb) (p:Nat) (to:Int):(WV w p to).1.qQ.length=w.qQ.length:= (ZfS w _ to _ _).2.2.2.2.2
theorem ZhX (w:Zb) (p:Nat) (to:Int):(WV w p to).1.Zv.length=w.Zv.length:=Xc _ _ _
def ZgH (w:Zb) (p:Nat) (to:Int):Ze:=Zxl to (Yx w p) ((Yx w p).map (goA w (mOf w p)))
theorem ZcJ (w:Zb) (p:Nat) (to:Int):(WV w p to).1.qG=w.qG ++ [ZgH w p to]:=rfl
theorem Zt6 (q:Nat):WQ (ZgH w p to) q=if(q:Int) ∈ Yx w p then [⟨to,false,(E w (mOf w p) q).age + 1⟩] else []:=by
 by_cases hq:(q:Int) ∈ Yx w p
 ·rw [if_pos hq];obtain⟨i,hi,e⟩:=List.getElem_of_mem hq;have:=ZnQ (x:=ZgH w p to) rfl (Wx w p) (i:=i) (p:=q) hi (by rw [← e];exact Y5 hi);rw [this];show [Yr.mk to false (((Yx w p).map (goA w (mOf w p))).getD i 0)]=_;rw [Y5 (by rw [List.length_map];exact hi),List.getElem_map,e];unfold goA;rw [Int.toNat_natCast]
 ·rw [if_neg hq];exact ZkS hq
theorem ZkU (h:Wm w) (t:Trv w p to) {q:Nat} (hq:q < w.Zv.length):YC (WV w p to).1 q=if(q:Int) ∈ Yx w p then [⟨to,false,(E w (mOf w p) q).age + 1⟩] else YC w q:=by
 have a:=h.Kj t.hp t.here;unfold YC;rw [ZcJ,Zaw,ZnP,Zt6,ZbQ];by_cases c:(q:Int) ∈ Yx w p
 ·have b:=ZcK h t c;have o:=h.only hq a.2.1 b.2.2
  have e0:Xe (WV w p to).1 q w.qQ.length= []:=Zla fun m' hm'=>by
   rw [Zfw h t];by_cases e:m'=mOf w p∧(q:Int) ∈ Yx w p
   ·rw [if_pos e]
   ·rw [if_neg e];exact o.2.2.2 m' hm' fun z=>e ⟨z,c⟩
  rw [if_pos c,if_pos c,o.2.2.1,e0]
  rfl
 ·rw [if_neg c,if_neg c,List.append_nil,Zad (w:=w) fun m' _=>by rw [Zfw h t,if_neg fun z=>c z.2]]
theorem Zeo (h:Wm w) (t:Trv w p to) {q:Nat} (hq:q < w.Zv.length):sp (WV w p to).1 q=if(q:Int) ∈ Yx w p then⟨to,false,(E w (mOf w p) q).age + 1⟩ else sp w q:=by
 have:=ZkU h t hq;by_cases c:(q:Int) ∈ Yx w p
 ·rw [if_pos c] at this ⊢;exact Zsv this
 ·rw [if_neg c] at this ⊢;exact Jk this
theorem ZBq (h:Wm w) (t:Trv w p to):Mv w (WV w p to).1:=by
 refine Mv.of (ZhX _ _ _) (ZbQ _ _ _) (fun m q hq=>?_) fun q hq=>?_
 ·rw [Zfw h t];by_cases e:m=mOf w p∧(q:Int) ∈ Yx w p
  ·rw [if_pos e,e.1];show _ <=_ + 1;omega
  ·rw [if_neg e];exact Int.le_refl _
 ·rw [Zeo h t hq];by_cases c:(q:Int) ∈ Yx w p
  ·rw [if_pos c];have b:=ZcK h t c;refine .inr ⟨mOf w p,by rw [b.2.1],by rw [b.2.1];dsimp only;omega,?_⟩;rw [Zfw h t,if_pos ⟨rfl,c⟩,b.2.1];dsimp only;omega
  ·rw [if_neg c];exact .inl ⟨rfl,rfl⟩
theorem Zv1 (w:Zb) (p:Nat) {i:Nat} (hi:i < (Yx w p).length) (h0:0 < i):(Yx w p).getD (i - 1) 0 < (Yx w p).getD i 0:=by
 rw [Y5 hi,Y5 (by omega)];have h1:=List.pairwise_iff_getElem.1 (Zeg w p) (i - 1) i (by omega) hi (by omega);have h2:=List.pairwise_iff_getElem.1 (Wx w p) (i - 1) i (by omega) hi (by omega);omega
theorem Zwb (w:Zb) {p:Nat} (hp:p < w.Zv.length) (to:Int) (q:Nat):inn (WV w p to).1 (q:Int)=if q=p then -1 else inn w (q:Int):=ZeO hp q
theorem ZtW (h:Wm w) (t:Trv w p to) {q r:Nat} (hq:q < w.Zv.length) (hne:q ≠ p) (e:inn w (q:Int)= (r:Int)):(q:Int) ∈ Yx w p↔(r:Int) ∈ Yx w p:=by
 have hr:r < w.Zv.length:=by have:= (h.shr.inn.rng q hq).2;omega
 rw [Zat h.shr.inn,Zat h.shr.inn]
 constructor
 ·rintro⟨_,j,ej⟩;cases j with
  | zero=>exact absurd (by have:(q:Int)= (p:Int):=ej;omega) hne
  | succ j=>
    have:(if(q:Int) < 0 then(q:Int) else up w j (inn w (q:Int)))= (p:Int):=ej;rw [if_neg (by omega),e] at this;exact⟨hr,j,this⟩
 ·rintro⟨_,j,ej⟩;refine⟨hq,j + 1,?_⟩;show(if(q:Int) < 0 then(q:Int) else up w j (inn w (q:Int)))=_;rw [if_neg (by omega),e];exact ej
theorem Zt7 (h:Wm w) (t:Trv w p to):Zj0 w (ZgH w p to):=by
 refine⟨t.Z9.1,t.Z9.2,.inr (.inl ⟨rfl,rfl,rfl,rfl,rfl,?_,?_⟩),fun i hi=>?_,fun q=>absurd (show(2:Int)=3 from q) (by omega)⟩
 ·intro z;have:=Zt4 h t;rw [show Yx w p= [] from z] at this;cases this
 ·show(Yx w p).length= ((Yx w p).map _).length;rw [List.length_map]
 ·have hi':i < (Yx w p).length:=hi;have hm:=List.getElem_mem hi';obtain⟨q,eq,hq⟩:= (ZbO w p _ hm).nat;rw [eq] at hm;have b:=ZcK h t hm;have a:=h.Kj t.hp t.here;have hx:=h.shr.ent _ a.2.1 q hq;have ho:=t.old q hm;rw [b.2.1] at ho;have ho':(E w (mOf w p) q).age < 30:=ho
  have eA:(ZgH w p to).Yk.getD i 0= (E w (mOf w p) q).age + 1:=by
   show((Yx w p).map (goA w (mOf w p))).getD i 0=_;rw [Y5 (by rw [List.length_map];exact hi'),List.getElem_map,eq];unfold goA;rw [Int.toNat_natCast]
  have e0:(ZgH w p to).qV.getD i 0= (q:Int):= (Y5 hi').trans eq;unfold Ke;rw [eA,e0];have h1:=hx.1;refine⟨by omega,by omega,fun z=>?_,by omega,by omega⟩;rw [← e0];exact Zv1 w p hi' z
theorem ZBo (h:Wm w) (t:Trv w p to):Wm (WV w p to).1:=by
 have a:=h.Kj t.hp t.here;have v:=ZBq h t;have S:=h.shr.WT;have el:=ZbQ w p to;have ei:=ZhX w p to;have g:=Zzb h t;have hi:Inn (WV w p to).1:= (Zfi h.shr.inn t.hp).eq rfl;refine⟨⟨⟨by rw [el];exact S.m1,by rw [el];exact S.m2,by rw [ei];exact S.p1,by rw [ei];exact S.p2,by rw [ei];exact S.bx,by rw [el];exact S.hd,?_⟩,hi,h.shr.sd1,h.shr.sd2,fun m hm q hq=>?_,fun x hx=>?_⟩,fun q hq=>?_,fun q hq hz=>?_,fun m hm q hq hh=>?_,fun m hm y hy=>?_,fun x hx hk=>?_,fun x hx hk=>?_⟩
 ·rw [ei,← (ZfS w (mOf w p) to (Yx w p) (Yx w p).length).1];exact(ZmA g _).rw_
 ·rw [el] at hm;rw [ei] at hq;unfold Zea;rw [Zfw h t,el];by_cases c:m=mOf w p∧(q:Int) ∈ Yx w p
  ·rw [if_pos c];have b:=ZcK h t c.2;have hx:=h.shr.ent _ a.2.1 q hq;have ho:=t.old q c.2;rw [b.2.1] at ho;have ho':(E w (mOf w p) q).age < 30:=ho;have h1:=hx.1;refine⟨by show 0 <=_ + 1;omega,by show _ + 1 <=_;omega,t.Z9.1,t.Z9.2,⟨fun z=>by simp at z,fun z=>absurd ?_ t.off⟩⟩;rw [a.1,← c.1];exact z.symm
  ·rw [if_neg c];exact h.shr.ent m hm q hq
 ·rw [ZcJ] at hx;rcases List.mem_append.1 hx with z | z
  ·exact v.Xd (h.shr.Xd x z)
  ·rw [List.mem_singleton.1 z];exact v.Xd (Zt7 h t)
 ·rw [ei] at hq;rw [ZkU h t hq];by_cases c:(q:Int) ∈ Yx w p
  ·rw [if_pos c];rfl
  ·rw [if_neg c];exact h.loc q hq
 ·rw [ei] at hq;rw [Zwb w t.hp] at hz ⊢;by_cases e:q=p
  ·rw [if_pos e] at hz;exact absurd hz (by omega)
  rw [if_neg e] at hz ⊢;obtain⟨r,er,hr⟩:=JZ (h.shr.inn.rng q hq) (by omega);have tg:=h.tog q hq hz;rw [er,Int.toNat_natCast] at tg;rw [er,Int.toNat_natCast,Zeo h t hq,Zeo h t hr];have iff:=ZtW h t hq e er;by_cases c:(q:Int) ∈ Yx w p
  ·rw [if_pos c,if_pos (iff.1 c)];exact⟨rfl,rfl,fun _=>⟨ZgH w p to,List.mem_append.2 (.inr (List.mem_singleton.2 rfl)),rfl,c,iff.1 c⟩⟩
  ·rw [if_neg c,if_neg fun z=>c (iff.2 z)];refine⟨tg.1,tg.2.1,fun z=>?_⟩;obtain⟨x,hx,k,a1,b1⟩:=tg.2.2 z;exact⟨x,List.mem_append.2 (.inl hx),k,a1,b1⟩
 ·rw [el] at hm;rw [ei] at hq;rw [Zfw h t] at hh ⊢;by_cases c:m=mOf w p∧(q:Int) ∈ Yx w p
  ·rw [if_pos c];have b:=ZcK h t c.2;have hx:=h.shr.ent _ a.2.1 q hq;have h1:=hx.1;unfold RtX;rw [Zeo h t hq,if_pos c.2,el];exact⟨by show 0 <=_ + 1;omega,Int.le_refl _,t.Z9.1,t.Z9.2,fun _=>rfl,fun z=>absurd rfl z⟩
  ·rw [if_neg c] at hh ⊢;exact v.rt q hq _ _ (h.ent m hm q hq hh)
 ·rw [el] at hm;have b:=h.hel m hm y hy;have hp1:=b.1.1;have hp2:=b.1.2.1;obtain⟨q,eq⟩:∃ q:Nat,y.place= (q:Int):= ⟨y.place.toNat,by omega⟩
  have b2:=b.2;rw [eq,Int.toNat_natCast] at b2 ⊢
  have c:(q:Int) ∉ Yx w p:=fun z=>by
   have:= (ZcK h t z).2.1;rw [b2] at this;injection this with _ e _
   cases e
  rw [Zeo h t (by omega),if_neg c];exact⟨v.Yb b.1,b2⟩
 ·rcases List.mem_append.1 hx with z | z
  ·exact v.Yb (h.mai x z hk)
  ·rw [List.mem_singleton.1 z] at hk;exact absurd (show(2:Int)=1 from hk) (by omega)
 ·rcases List.mem_append.1 hx with z | z
  ·have hn:= (h.shr.Xd x z).ntd hk;exact v.rt _ (by omega) _ _ (h.ntd x z hk)
  ·rw [List.mem_singleton.1 z] at hk;exact absurd (show(2:Int)=3 from hk) (by omega)
theorem ZBp (w:Zb) (p:Nat) (to:Int):owes (WV w p to).1=owes w:=by
 unfold owes;rw [ZcJ,Zab,ZeB (show(ZgH w p to).kind ≠ 1 by show(2:Int) ≠ 1;omega),List.append_nil]
 rfl
end
end Go.Proofs.YtbmbbcaaimehkaaGreat
end
section
namespace Go.Proofs.YtbmbbcaaimehkaaGreat
open Go.Lf
section
variable {w:Zb}
theorem Wm.nodup (h:Wm w) {x:Ze} (hx:x ∈ w.qG) (hk:x.kind=2):x.qV.Nodup:=by
 rw [List.nodup_iff_count];intro a;by_cases ha:a ∈ x.qV
 ·obtain⟨i,hi,rfl⟩:=List.getElem_of_mem ha;have e0:x.qV.getD i 0=x.qV[i]:=Y5 hi;have hp:= (h.shr.Xd x hx).WY i hi;unfold Ke at hp;rw [e0] at hp;obtain⟨p,e⟩:∃ p:Nat,x.qV[i]= (p:Int):= ⟨x.qV[i].toNat,by omega⟩
  have hl:=h.loc p (by omega);unfold YC at hl;rw [List.length_append] at hl;have h1:=Zss hx p;have h2:WQ x p=Wy x p x.qV.length:=by unfold WQ;rw [if_pos hk]
  rw [h2,ZdA x p _ (Nat.le_refl _),List.take_of_length_le (Nat.le_refl _)] at h1;rw [e];omega
 ·rw [List.count_eq_zero_of_not_mem ha];omega
theorem Wm.mvl (h:Wm w) {x:Ze} (hx:x ∈ w.qG) (hk:x.kind=2):MvL w x x.Z9.toNat:=by
 have hl:=h.shr.Xd x hx;have h8:=h.shr.WT.p2;have ZxQ:∀ i,i < x.qV.length ->Uh (x.qV.getD i 0) w.Zv.length:=fun i hi=>⟨(hl.WY i hi).1,(hl.WY i hi).2.1⟩
 have hsub:x.qV ⊆ Xl w.Zv.length:=fun a ha=>by
  have:= (WG (d:= (0:Int)) (P:=fun a=>Uh a w.Zv.length)).1 ZxQ a ha;unfold Uh at this;unfold Xl;exact List.mem_map.2 ⟨a.toNat,List.mem_range.2 (by omega),by show((a.toNat:Nat):Int)=a;omega⟩
 have hlen:= (h.nodup hx hk).length_le_of_subset hsub;rw [Qw] at hlen;exact⟨by have:=hl.to1;omega,by have:=hl.to1;have:=hl.to2;omega,hl.Y9.len,by omega,ZxQ⟩
structure Car (w:Zb) (k:Nat):Prop where
 hk:k < w.qG.length
 two:(ZB w k).kind=2
theorem Car.mem {k:Nat} (c:Car w k):ZB w k ∈ w.qG:=Yj c.hk
theorem Zqn (h:Wm w) {k:Nat} (c:Car w k) {i q:Nat} (hi:i < (ZB w k).qV.length) (hq:(ZB w k).qV.getD i 0= (q:Int)):
 q < w.Zv.length∧sp w q= ⟨(ZB w k).Z9,false,(ZB w k).Yk.getD i 0⟩∧Xe w q w.qQ.length= []∧X3 (w.qG.take k) q= []∧X3 (w.qG.drop (k + 1)) q= []:=by
 have hp:= (h.shr.Xd _ c.mem).WY i hi;unfold Ke at hp;rw [hq] at hp;have hql:q < w.Zv.length:=by omega
 have hl:=h.loc q hql;have e:=ZnQ c.two (h.nodup c.mem c.two) hi hq;unfold YC at hl;rw [KD c.hk,e] at hl;simp only [List.length_append,List.length_singleton] at hl;have e1:=List.length_eq_zero_iff.1 (show(Xe w q w.qQ.length).length=0 by omega);have e2:=List.length_eq_zero_iff.1 (show(X3 (w.qG.take k) q).length=0 by omega);have e3:=List.length_eq_zero_iff.1 (show(X3 (w.qG.drop (k + 1)) q).length=0 by omega);refine⟨hql,Zsv ?_,e1,e2,e3⟩;unfold YC;rw [KD c.hk,e,e1,e2,e3];rfl
theorem ZsW {l:List Int} {q:Int} (h:q ∈ l):∃ i,i < l.length∧l.getD i 0=q:=by
 obtain⟨i,hi,e⟩:=List.getElem_of_mem h;exact⟨i,hi,(Y5 hi).trans e⟩
theorem ZcI (h:Wm w) {k:Nat} (c:Car w k) {q:Nat} (hq:(q:Int) ∈ (ZB w k).qV):
 q < w.Zv.length∧sp w q= ⟨(ZB w k).Z9,false,(sp w q).age⟩∧Xe w q w.qQ.length= []∧X3 (w.qG.take k) q= []∧X3 (w.qG.drop (k + 1)) q= []:=by
 obtain⟨i,hi,e⟩:=ZsW hq;have:=Zqn h c hi e;exact⟨this.1,by rw [this.2.1],this.2.2⟩
theorem Zif (h:Wm w) {k j:Nat} (hk:k < w.qG.length) (hj:j < w.qG.length) {q:Nat} (hq:q < w.Zv.length) (h1:(q:Int) ∈ (ZB w k).qV) (h2:(q:Int) ∈ (ZB w j).qV):k=j:=by
 have hl:(QJ w q).length=1:=by rw [← len_eq h.shr.two];exact h.loc q hq
 have a:=Zer hl hk h1;have b:=Zer hl hj h2;rw [a] at b;omega
theorem ZIz (h:Wm w) {k:Nat} (c:Car w k):∀ j,j <= (ZB w k).qV.length ->∀ m' q:Nat,E (Qc (Z7 w k) (ZB w k) j) m' q=if m'= (ZB w k).Z9.toNat∧(q:Int) ∈ (ZB w k).qV.take j then⟨true,(ZB w k).Z9,(sp w q).age⟩ else E w m' q:=by
 have v:=h.mvl c.mem c.two;have v':MvL (Z7 w k) (ZB w k) (ZB w k).Z9.toNat:= ⟨v.Z9,v.hm,v.len,v.few,v.rng⟩
 intro j
 induction j with
 | zero=>intro _ m' q;rw [if_neg (by simp)];rfl
 | succ j ih=>
   intro hj m' q;have hp:=v'.WY (i:=j) (by omega);have hi:=Qs (Z7 w k) (ZB w k) j;have wi:=Zqn h c (i:=j) (q:=WY (ZB w k) j) (by omega) hp.1;show E (setW (Qc (Z7 w k) (ZB w k) j) (ZB w k).Z9.toNat (WY (ZB w k) j) ⟨true,(ZB w k).Z9,(ZB w k).Yk.getD j 0⟩) m' q=_;rw [ZnD (Zgo (h.shr.WT.Z7 k) v' j) (by rw [hi.2.2.2.2.2];exact v'.hm) (by rw [hi.1];exact hp.2),ih (by omega)];by_cases e:m'= (ZB w k).Z9.toNat∧q=WY (ZB w k) j
   ·rw [if_pos e,if_pos ⟨e.1,(Qz (by omega)).2 (.inr (by rw [e.2,← hp.1,Y5 (by omega)]))⟩,e.2,wi.2.1]
   ·rw [if_neg e];by_cases d:m'= (ZB w k).Z9.toNat∧(q:Int) ∈ (ZB w k).qV.take j
    ·rw [if_pos d,if_pos ⟨d.1,(Qz (by omega)).2 (.inl d.2)⟩]
    ·rw [if_neg d,if_neg];rintro⟨d1,d2⟩;rcases(Qz (by omega)).1 d2 with z | z
     ·exact d ⟨d1,z⟩
     ·rw [← Y5 (d:= (0:Int)) (by omega),hp.1] at z;exact e ⟨d1,by omega⟩
def WB (w:Zb) (k:Nat):Zb:= (ZdL (Z7 w k) (ZB w k)).1
theorem Zb7 (w:Zb) (k:Nat):(WB w k).Zv=w.Zv∧(WB w k).qG= (Z7 w k).qG∧(WB w k).said=w.said∧(WB w k).qQ= (Qc (Z7 w k) (ZB w k) (ZB w k).qV.length).qQ∧(WB w k).qK.length=w.qK.length∧(WB w k).qJ.length=w.qJ.length∧(WB w k).qQ.length=w.qQ.length:=by
 have a:=KQ (Z7 w k) (ZB w k) (ZB w k).qV.length;have b:=Qs (Z7 w k) (ZB w k) (ZB w k).qV.length;exact⟨a.1,a.2.1,a.2.2.1,a.2.2.2.1,a.2.2.2.2.1,a.2.2.2.2.2,by rw [show(WB w k).qQ=_ from a.2.2.2.1];exact b.2.2.2.2.2⟩
theorem Zk3 (h:Wm w) {k:Nat} (c:Car w k) (m' q:Nat):E (WB w k) m' q=if m'= (ZB w k).Z9.toNat∧(q:Int) ∈ (ZB w k).qV then⟨true,(ZB w k).Z9,(sp w q).age⟩ else E w m' q:=by
 rw [Zqa (Zb7 w k).2.2.2.1,ZIz h c _ (Nat.le_refl _),List.take_of_length_le (Nat.le_refl _)]
theorem Zoz (h:Wm w) {k:Nat} (c:Car w k) {q:Nat} (hq:q < w.Zv.length):YC (WB w k) q=if(q:Int) ∈ (ZB w k).qV then [⟨(ZB w k).Z9,true,(sp w q).age⟩] else YC w q:=by
 have v:=h.mvl c.mem c.two;have i:=Zb7 w k;unfold YC;rw [i.2.1,i.2.2.2.2.2.2,Zft];by_cases d:(q:Int) ∈ (ZB w k).qV
 ·have b:=ZcI h c d;rw [if_pos d,b.2.2.2.1,b.2.2.2.2];have e1:E (WB w k) (ZB w k).Z9.toNat q= ⟨true,(ZB w k).Z9,(sp w q).age⟩:=by rw [Zk3 h c,if_pos ⟨rfl,d⟩]
  have:=ZuL (w:=WB w k) (p:=q) (m:= (ZB w k).Z9.toNat) (by rw [e1]) (k:=w.qQ.length) v.hm fun m' hm' hne=>by
   rw [Zk3 h c,if_neg fun z=>hne z.1];exact Zo6 b.2.2.1 m' hm'
  rw [this,e1,← v.Z9];rfl
 ·rw [if_neg d,Zad (w:=w) fun m' _=>by rw [Zk3 h c,if_neg fun z=>d z.2]];congr 1;rw [KD c.hk,ZkS d,List.append_nil]
theorem Zmb (h:Wm w) {k:Nat} (c:Car w k) {q:Nat} (hq:q < w.Zv.length):sp (WB w k) q=if(q:Int) ∈ (ZB w k).qV then⟨(ZB w k).Z9,true,(sp w q).age⟩ else sp w q:=by
 have:=Zoz h c hq;by_cases d:(q:Int) ∈ (ZB w k).qV
 ·rw [if_pos d] at this ⊢;exact Zsv this
 ·rw [if_neg d] at this ⊢;exact Jk this
theorem ZsV (h:Wm w) {k:Nat} (c:Car w k) {q:Nat} (hq:q < w.Zv.length):(sp (WB w k) q).machine= (sp w q).machine∧(sp (WB w k) q).age= (sp w q).age:=by
 rw [Zmb h c hq];by_cases d:(q:Int) ∈ (ZB w k).qV
 ·rw [if_pos d,(ZcI h c d).2.1];exact⟨rfl,rfl⟩
 ·rw [if_neg d];exact⟨rfl,rfl⟩
theorem ZFQ (h:Wm w) {k:Nat} (c:Car w k):Mv w (WB w k):=by
 have i:=Zb7 w k;have v:=h.mvl c.mem c.two;refine Mv.of (by rw [i.1]) i.2.2.2.2.2.2 (fun m q hq=>?_) fun q hq=>.inl (ZsV h c hq)
 rw [Zk3 h c];by_cases e:m= (ZB w k).Z9.toNat∧(q:Int) ∈ (ZB w k).qV
 ·rw [if_pos e,e.1];have b:=ZcI h c e.2;exact(h.ent _ v.hm q hq (Zo6 b.2.2.1 _ v.hm)).2.1
 ·rw [if_neg e];exact Int.le_refl _
theorem ZiH (u:Zb) (x:Ze) (s:WN u) (v:MvL u x x.Z9.toNat):∀ j,j <=x.qV.length ->∀ m',∀ y ∈ ZF (Yw u x j).1 m',y ∈ ZF u m'∧(m'=x.Z9.toNat ->y.place ∉ x.qV.take j):=by
 intro j
 induction j with
 | zero=>
   intro _ m' y hy;refine⟨?_,fun _=>by simp⟩;have:ZF (Yw u x 0).1 m'=ZF u m':=by unfold ZF;rw [show(Yw u x 0).1.qJ=u.qJ from(Qs u x _).2.2.1]
   rw [← this];exact hy
 | succ j ih=>
   intro hj m' y hy;have hs:=Kr s v j;have li:=KQ u x j;have ci:=Qs u x x.qV.length;have hp:=v.WY (i:=j) (by omega);have hy':y ∈ ZF (ZaM (Yw u x j).1 x.Z9.toNat (WY x j)) m':=hy;rw [Zcg hs (by rw [li.2.2.2.1,ci.2.2.2.2.2];exact v.hm)] at hy';by_cases e:m'=x.Z9.toNat
   ·rw [if_pos e] at hy';have⟨h1,h2⟩:=List.mem_filter.1 hy';have:=ih (by omega) _ y h1;rw [e];refine⟨this.1,fun _ z=>?_⟩;rcases(Qz (by omega)).1 z with a | a
    ·exact this.2 rfl a
    ·rw [← Y5 (d:= (0:Int)) (by omega),hp.1] at a;unfold WH at h2;rw [a] at h2;simp at h2
   ·rw [if_neg e] at hy';have:=ih (by omega) _ y hy';exact⟨this.1,fun z=>absurd z e⟩
theorem ZoA (h:Wm w) {k:Nat} (c:Car w k) {m':Nat} {y:Zr} (hy:y ∈ ZF (WB w k) m'):y ∈ ZF w m'∧(m'= (ZB w k).Z9.toNat ->y.place ∉ (ZB w k).qV):=by
 have v:=h.mvl c.mem c.two;have:=ZiH (Z7 w k) (ZB w k) (h.shr.WT.Z7 k) ⟨v.Z9,v.hm,v.len,v.few,v.rng⟩ (ZB w k).qV.length (Nat.le_refl _) m' y hy;rw [List.take_of_length_le (Nat.le_refl _)] at this;exact this
theorem ZFO (h:Wm w) {k:Nat} (c:Car w k):Wm (WB w k):=by
 have v:=ZFQ h c;have vl:=h.mvl c.mem c.two;have i:=Zb7 w k;have S:=h.shr.WT;have el:=i.2.2.2.2.2.2;have hx2:= (h.shr.Xd _ c.mem)
 have hs:=Kr (S.Z7 k) (x:=ZB w k) (m:= (ZB w k).Z9.toNat) ⟨vl.Z9,vl.hm,vl.len,vl.few,vl.rng⟩ (ZB w k).qV.length;have hw:∀ x,x ∈ (WB w k).qG ->x ∈ w.qG:=fun x hx=>by rw [i.2.1] at hx;exact Wl hx
 refine⟨⟨hs,h.shr.inn.eq i.1,by rw [i.2.2.1];exact h.shr.sd1,by rw [i.2.2.1];exact h.shr.sd2,fun m hm q hq=>?_,fun x hx=>v.Xd (h.shr.Xd x (hw x hx))⟩,fun q hq=>?_,fun q hq hz=>?_,fun m hm q hq hh=>?_,fun m hm y hy=>?_,fun x hx hk=>v.Yb (h.mai x (hw x hx) hk),fun x hx hk=>?_⟩
 ·rw [el] at hm;rw [i.1] at hq;unfold Zea;rw [Zk3 h c,el];by_cases e:m= (ZB w k).Z9.toNat∧(q:Int) ∈ (ZB w k).qV
  ·rw [if_pos e];obtain⟨j,hj,ej⟩:=ZsW e.2;have b:=Zqn h c hj ej;have p:=hx2.WY j hj;unfold Ke at p;rw [b.2.1];exact⟨by dsimp only;omega,by dsimp only;omega,hx2.to1,hx2.to2,⟨fun _=>by rw [e.1];exact vl.Z9,fun _=>rfl⟩⟩
  ·rw [if_neg e];exact h.shr.ent m hm q hq
 ·rw [i.1] at hq;rw [Zoz h c hq];by_cases d:(q:Int) ∈ (ZB w k).qV
  ·rw [if_pos d];rfl
  ·rw [if_neg d];exact h.loc q hq
 ·rw [i.1] at hq;rw [Zmi i.1] at hz ⊢;obtain⟨r,er,hr⟩:=JZ (h.shr.inn.rng q hq) (by omega);have tg:=h.tog q hq hz;rw [er,Int.toNat_natCast] at tg ⊢;rw [Zmb h c hq,Zmb h c hr]
  have iff:(q:Int) ∈ (ZB w k).qV↔(r:Int) ∈ (ZB w k).qV:=by
   have key:(sp w q).here=false ->∃ j,j < w.qG.length∧(q:Int) ∈ (ZB w j).qV∧(r:Int) ∈ (ZB w j).qV:=fun z=>by
    obtain⟨y,hy,_,a,b⟩:=tg.2.2 z;obtain⟨j,hj,e⟩:=List.getElem_of_mem hy;have e':ZB w j=y:= (Y5 hj).trans e;exact⟨j,hj,by rw [e'];exact a,by rw [e'];exact b⟩
   constructor
   ·intro z;obtain⟨j,hj,a,b⟩:=key (by rw [(ZcI h c z).2.1]);rw [Zif h c.hk hj hq z a];exact b
   ·intro z;obtain⟨j,hj,a,b⟩:=key (by rw [← tg.2.1,(ZcI h c z).2.1]);rw [Zif h c.hk hj hr z b];exact a
  by_cases d:(q:Int) ∈ (ZB w k).qV
  ·rw [if_pos d,if_pos (iff.1 d)];exact⟨rfl,rfl,fun z=>by cases z⟩
  ·rw [if_neg d,if_neg fun z=>d (iff.2 z)];refine⟨tg.1,tg.2.1,fun z=>?_⟩;obtain⟨x,hx,kk,a,b⟩:=tg.2.2 z;refine⟨x,?_,kk,a,b⟩;rw [i.2.1];rw [KA c.hk] at hx;rcases List.mem_append.1 hx with y | y
   ·exact List.mem_append.2 (.inl y)
   ·rcases List.mem_cons.1 y with y | y
    ·rw [y] at a;exact absurd a d
    ·exact List.mem_append.2 (.inr y)
 ·rw [el] at hm;rw [i.1] at hq;rw [Zk3 h c] at hh ⊢;by_cases e:m= (ZB w k).Z9.toNat∧(q:Int) ∈ (ZB w k).qV
  ·rw [if_pos e] at hh;cases hh
  ·rw [if_neg e] at hh ⊢;exact v.rt q hq _ _ (h.ent m hm q hq hh)
 ·rw [el] at hm;have a:=ZoA h c hy;have b:=h.hel m hm y a.1;have hp1:=b.1.1;have hp2:=b.1.2.1;obtain⟨q,eq⟩:∃ q:Nat,y.place= (q:Int):= ⟨y.place.toNat,by omega⟩
  have b2:=b.2;rw [eq,Int.toNat_natCast] at b2 ⊢
  have d:(q:Int) ∉ (ZB w k).qV:=fun z=>by
   have e:= (ZcI h c z).2.1;rw [b2] at e;injection e with e1 _ _
   exact a.2 (by omega) (by rw [eq];exact z)
  rw [Zmb h c (by omega),if_neg d];exact⟨v.Yb b.1,b2⟩
 ·have hn:= (h.shr.Xd x (hw x hx)).ntd hk;exact v.rt _ (by omega) _ _ (h.ntd x (hw x hx) hk)
theorem ZGe {u:Zb} (s:WN u) {m p:Nat} (hm:m < u.qQ.length) (hp:p < u.Zv.length) (a:Int×Int):(owes (ZaM u m p)).count a= (owes u).count a:=by
 have h1:=ZsM u (ZaM u m p) (p:=p) (by rw [s.bx];exact hp) (l:= ((ZF u m).filter (WH p)).map fun y=>y.msg) rfl a;have h2:=ZsL u (ZaM u m p) (m:=m) (by rw [s.hd];exact hm) (l:= (ZF u m).filter fun y=>!WH p y) rfl a
 have h3:((ZF u m).map fun y=>(y.msg,y.place)).count a= (((ZF u m).filter (WH p)).map fun y=>(y.msg,(p:Int))).count a + (((ZF u m).filter fun y=>!WH p y).map fun y=>(y.msg,y.place)).count a:=by
  generalize ZF u m=l
  induction l with
  | nil=>rfl
  | cons y l ih=>
    cases e:WH p y with
    | true=>
      have e':y.place= (p:Int):=by unfold WH at e;simpa using e
      rw [List.filter_cons_of_pos (by simp [e]),List.filter_cons_of_neg (by simp [e]),List.map_cons,List.map_cons,List.count_cons,List.count_cons,ih,e'];omega
    | false=>rw [List.filter_cons_of_neg (by simp [e]),List.filter_cons_of_pos (by simp [e]),List.map_cons,List.map_cons,List.count_cons,List.count_cons,ih];omega
 rw [List.map_map] at h1;have h1':(owB (ZaM u m p)).count a= (owB u).count a + (((ZF u m).filter (WH p)).map fun y=>(y.msg,(p:Int))).count a:=h1;unfold owes;rw [List.count_append,List.count_append,List.count_append,List.count_append];show _ + _ + (owL u.qG).count a=_;omega
theorem Zxw {u:Zb} (s:WN u) {x:Ze} (v:MvL u x x.Z9.toNat) (a:Int×Int):∀ j,j <=x.qV.length ->(owes (Yw u x j).1).count a= (owes u).count a:=by
 intro j
 induction j with
 | zero=>
   intro _;have ci:=Qs u x x.qV.length
   have e:owes (Yw u x 0).1=owes u:=by
    show owes (Qc u x x.qV.length)=_;unfold owes owB owH Qt ZF;rw [ci.2.1,ci.2.2.1,ci.2.2.2.1]
   rw [e]
 | succ j ih=>
   intro hj;have hs:=Kr s v j;have li:=KQ u x j;have ci:=Qs u x x.qV.length;have hp:=v.WY (i:=j) (by omega);show(owes (ZaM (Yw u x j).1 x.Z9.toNat (WY x j))).count a=_;rw [ZGe hs (by rw [li.2.2.2.1,ci.2.2.2.2.2];exact v.hm) (by rw [li.1];exact hp.2),ih (by omega)]
theorem Zk1 {k:Nat} (hk:k < w.qG.length) (a:Int×Int):(owes (Z7 w k)).count a + (owL [ZB w k]).count a= (owes w).count a:=by
 unfold owes;rw [Zul hk];show List.count a (owB w ++ owH w ++ owL (w.qG.take k ++ w.qG.drop (k + 1))) + _=_;rw [Zab];simp only [List.count_append];omega
theorem ZFP (h:Wm w) {k:Nat} (c:Car w k) (a:Int×Int):(owes (WB w k)).count a= (owes w).count a:=by
 have v:=h.mvl c.mem c.two;have e:=Zxw (h.shr.WT.Z7 k) (x:=ZB w k) ⟨v.Z9,v.hm,v.len,v.few,v.rng⟩ a (ZB w k).qV.length (Nat.le_refl _);have d:=Zk1 c.hk a;rw [ZeB (by rw [c.two];omega)] at d;show List.count a (owes (Yw (Z7 w k) (ZB w k) (ZB w k).qV.length).1)=_;rw [e]
 simpa using d
theorem ZeK {k:Nat} (e:(ZB w k).kind=1):XZ w k=Xu (Z7 w k) (ZB w k).Z9.toNat (ZB w k).Yb false:=by unfold XZ;rw [if_pos e]
theorem ZeJ {k:Nat} (e:(ZB w k).kind=2):XZ w k=ZdL (Z7 w k) (ZB w k):=by unfold XZ;rw [if_neg (by omega),if_pos e]
theorem ZeI {k:Nat} (e:(ZB w k).kind=3):XZ w k= (JC (Z7 w k) (ZB w k),[]):=by unfold XZ;rw [if_neg (by omega),if_neg (by omega)]
theorem Wq (h:Wm w) {x:Ze} (hx:x ∈ w.qG):x.kind=1∨x.kind=2∨x.kind=3:=by
 rcases(h.shr.Xd x hx).Y9 with⟨q,_⟩ | ⟨q,_⟩ | ⟨q,_⟩
 ·exact .inl q
 ·exact .inr (.inl q)
 ·exact .inr (.inr q)
theorem Ze3 {k:Nat} (hk:k < w.qG.length) (h2:(ZB w k).kind ≠ 2) (p:Nat):YC (Z7 w k) p=YC w p:=
 Zca rfl (by rw [KD hk,ZlD h2,Zft,List.append_nil])
theorem ZeH (h:Wm w) {k:Nat} (hk:k < w.qG.length) (e:(ZB w k).kind=1):Rtd (Z7 w k) (ZB w k).Z9.toNat (ZB w k).Yb false:=by
 have hx:ZB w k ∈ w.qG:=Yj hk;have hl:=h.shr.Xd _ hx;have hm:=h.mai _ hx e;have v:Mv w (Z7 w k):=Mv.same rfl rfl fun p _=>Ze3 hk (by omega) p
 have t1:=hl.to1;have t2:=hl.to2;refine⟨by show(ZB w k).Z9.toNat < w.qQ.length;omega,⟨hm.1,hm.2.1⟩,⟨hm.2.2.1,hm.2.2.2.1⟩,fun _=>?_,fun z=>by cases z⟩;rw [Int.toNat_of_nonneg t1];exact v.Yb hm
theorem Zw1 (h:Wm w) {k:Nat} (hk:k < w.qG.length) (e:(ZB w k).kind=3):Wm (JC (Z7 w k) (ZB w k)):=by
 have hx:ZB w k ∈ w.qG:=Yj hk;have hl:=h.shr.Xd _ hx;have hd:=ZhE h hk (by omega);have v:Mv w (Z7 w k):=Mv.same rfl rfl fun p _=>Ze3 hk (by omega) p
 have t1:=hl.to1;have t2:=hl.to2;have hn:=hl.ntd e;unfold JC;split
 ·rename_i c;refine ZBJ hd (by show _ < w.qQ.length;omega) (by show _ < w.Zv.length;omega) c.1 c.2 (v.rt _ (by omega) _ _ (h.ntd _ hx e)) ?_;rw [Int.toNat_of_nonneg t1];exact hn.2.2
 ·exact hd
theorem Zs0 (h:Wm w) {k:Nat} (hk:k < w.qG.length):Wm (XZ w k).1:=by
 rcases Wq h (x:=ZB w k) (Yj hk) with e | e | e
 ·rw [ZeK e];exact Zoa (ZhE h hk (by omega)) (ZeH h hk e)
 ·rw [ZeJ e];exact ZFO h ⟨hk,e⟩
 ·rw [ZeI e];exact Zw1 h hk e
theorem KM (u:Zb) (x:Ze):(JC u x).Zv=u.Zv∧(JC u x).qK=u.qK∧(JC u x).qJ=u.qJ∧(JC u x).qG=u.qG∧(JC u x).said=u.said∧(JC u x).qQ.length=u.qQ.length:=by
 unfold JC;split
 ·exact⟨rfl,rfl,rfl,rfl,rfl,ZbU _ _ _ _⟩
 ·exact⟨rfl,rfl,rfl,rfl,rfl,rfl⟩
theorem ZqD {u u':Zb} (h1:u'.qK=u.qK) (h2:u'.qJ=u.qJ) (h3:u'.qG=u.qG):owes u'=owes u:=by
 unfold owes owB owH Qt ZF;rw [h1,h2,h3]
theorem Zmg (h:Wm w) {k:Nat} (hk:k < w.qG.length) (a:Int×Int):(owes (XZ w k).1).count a= (owes w).count a:=by
 have d:=Zk1 hk a;rcases Wq h (x:=ZB w k) (Yj hk) with e | e | e
 ·rw [ZeK e,Zob (ZhE h hk (by omega)) (ZeH h hk e)];rw [ZeA e] at d;exact d
 ·rw [ZeJ e];exact ZFP h ⟨hk,e⟩ a
 ·rw [ZeI e];have n:=KM (Z7 w k) (ZB w k);rw [ZeB (by omega)] at d;show(owes (JC (Z7 w k) (ZB w k))).count a=_;rw [ZqD n.2.1 n.2.2.1 n.2.2.2.1];simpa using d
theorem Zaa (u:Zb) (m:Nat) (x:Zr) (now:Bool):(Xu u m x now).1.Zv=u.Zv∧(Xu u m x now).1.qQ=u.qQ∧(Xu u m x now).1.said=u.said∧(Xu u m x now).1.qG.length <=u.qG.length + 2∧(now=true ->(Xu u m x now).1.qG.length <=u.qG.length + 1):=by
 unfold Xu;split
 ·exact⟨rfl,rfl,rfl,by dsimp only;omega,fun _=>by dsimp only;omega⟩
 ·split
  ·exact⟨rfl,rfl,rfl,by dsimp only;omega,fun _=>by dsimp only;omega⟩
  ·refine⟨rfl,rfl,rfl,?_,fun e=>?_⟩
   ·show(u.qG ++ _::told _ _ _ _).length <=_;rw [List.length_append,List.length_cons];unfold told;split <;> simp
   ·show(u.qG ++ _::told _ _ _ _).length <=_;rw [List.length_append,List.length_cons];unfold told;rw [e,if_neg (by simp)];simp
theorem ZfM (h:Wm w) {k:Nat} (hk:k < w.qG.length):(XZ w k).1.Zv=w.Zv∧(XZ w k).1.qQ.length=w.qQ.length∧(XZ w k).1.said=w.said∧(XZ w k).1.qG.length <=w.qG.length + 1:=by
 have dl:=Zgl w hk;rcases Wq h (x:=ZB w k) (Yj hk) with e | e | e
 ·rw [ZeK e];have r:=Zaa (Z7 w k) (ZB w k).Z9.toNat (ZB w k).Yb false;exact⟨r.1,by rw [r.2.1];rfl,r.2.2.1,by omega⟩
 ·rw [ZeJ e];have r:=Zb7 w k;exact⟨r.1,r.2.2.2.2.2.2,r.2.2.1,by show(WB w k).qG.length <=_;rw [r.2.1];omega⟩
 ·rw [ZeI e];have r:=KM (Z7 w k) (ZB w k);exact⟨r.1,r.2.2.2.2.2,r.2.2.2.2.1,by show(JC _ _).qG.length <=_;rw [r.2.2.2.1];omega⟩
structure May (w:Zb) (s:Zx):Prop where
 ask:Ask w s
 lim:lim w s=false
 alw:Alw w s
theorem Zmd {s:Zx}:May w s↔Ask w s∧ZbE w s=0:=by
 rw [ZIu];exact⟨fun a=>⟨a.ask,a.lim,a.alw⟩,fun a=>⟨a.1,a.2.1,a.2.2⟩⟩
theorem ZsA (h:Wm w) {s:Zx} (ha:Uh s.a w.qQ.length) (hb:Uh s.b w.Zv.length):Rtd (ZaC w) s.a.toNat (ZlR w s) true:=
 ⟨by obtain⟨x,y⟩:=ha;show s.a.toNat < w.qQ.length;omega,hb,ha,fun z=>(by cases z),fun _=>⟨rfl,rfl⟩⟩
theorem May.trv {s:Zx} (m:May w s) (c:s.act=2):Trv w s.a.toNat s.b:=by
 have hin:Uh s.a w.Zv.length∧Uh s.b w.qQ.length:=by
  rcases m.ask with q | q | q | q | q
  ·omega
  ·exact q.2
  ·omega
  ·omega
  ·omega
 have hA:=m.alw.1 c;obtain⟨⟨a1,a2⟩,hb⟩:=hin;refine⟨by omega,hA.1,hA.2,hb,fun q hq=>?_⟩;have hl:=m.lim;unfold Proofs.YtbmbbcaaimehkaaGreat.lim at hl;rw [if_neg (by omega),if_pos c] at hl;have:=List.any_eq_false.1 hl (q:Int) hq;unfold old at this;rw [Int.toNat_natCast,decide_eq_true_eq] at this;omega
theorem May.ent {s:Zx} (m:May w s) (c:s.act=3):∃ p q:Nat,s.a= (p:Int)∧s.b= (q:Int)∧p < w.Zv.length∧q < w.Zv.length∧(q:Int) ∉ Yx w p∧inn w (p:Int)=-1∧(sp w p).here=true∧(sp w q).here=true∧(sp w p).machine= (sp w q).machine:=by
 have hin:Uh s.a w.Zv.length∧Uh s.b w.Zv.length:=by
  rcases m.ask with q | q | q | q | q
  ·omega
  ·omega
  ·exact q.2
  ·omega
  ·omega
 obtain⟨p,ep,hp⟩:=hin.1.nat;obtain⟨q,eq,hq⟩:=hin.2.nat;have hA:=m.alw.2.1 c;rw [ep,eq,Int.toNat_natCast,Int.toNat_natCast] at hA;exact⟨p,q,ep,eq,hp,hq,hA.1,hA.2.1,hA.2.2.1,hA.2.2.2.1,hA.2.2.2.2⟩
theorem May.lev {s:Zx} (m:May w s) (c:s.act=4):∃ p:Nat,s.a= (p:Int)∧p < w.Zv.length∧(sp w p).here=true∧inn w (p:Int) ≠ -1:=by
 have hin:Uh s.a w.Zv.length:=by
  rcases m.ask with q | q | q | q | q
  ·omega
  ·omega
  ·omega
  ·exact q.2
  ·omega
 obtain⟨p,ep,hp⟩:=hin.nat;have hA:=m.alw.2.2 c;rw [ep,Int.toNat_natCast] at hA;exact⟨p,ep,hp,hA⟩
theorem May.lnd {s:Zx} (m:May w s) (c:s.act=5):s.a.toNat < w.qG.length:=by
 rcases m.ask with q | q | q | q | q
 ·omega
 ·omega
 ·omega
 ·omega
 ·obtain⟨_,a,b⟩:=q;omega
theorem May.say {s:Zx} (m:May w s) (c:s.act=1):Uh s.a w.qQ.length∧Uh s.b w.Zv.length:=by
 rcases m.ask with q | q | q | q | q
 ·exact q.2
 ·omega
 ·omega
 ·omega
 ·omega
theorem May.act {s:Zx} (m:May w s):s.act=1∨s.act=2∨s.act=3∨s.act=4∨s.act=5:=by
 rcases m.ask with q | q | q | q | q
 ·exact .inl q.1
 ·exact .inr (.inl q.1)
 ·exact .inr (.inr (.inl q.1))
 ·exact .inr (.inr (.inr (.inl q.1)))
 ·exact .inr (.inr (.inr (.inr q.1)))
theorem do1 {s:Zx} (c:s.act=1):doW w s=Xu (ZaC w) s.a.toNat (ZlR w s) true:=by unfold doW;rw [if_pos c]
theorem do2 {s:Zx} (c:s.act=2):doW w s=WV w s.a.toNat s.b:=by unfold doW;rw [if_neg (by omega),if_pos c]
theorem do3 {s:Zx} (c:s.act=3):doW w s= (K5 w s.a s.b,[]):=by unfold doW;rw [if_neg (by omega),if_neg (by omega),if_pos c]
theorem do4 {s:Zx} (c:s.act=4):doW w s= (K5 w s.a (-1),[]):=by unfold doW;rw [if_neg (by omega),if_neg (by omega),if_neg (by omega),if_pos c]
theorem do5 {s:Zx} (c:s.act=5):doW w s=XZ w s.a.toNat:=by unfold doW;rw [if_neg (by omega),if_neg (by omega),if_neg (by omega),if_neg (by omega)]
theorem ZNS (h:Wm w) {s:Zx} (m:May w s):Wm (doW w s).1:=by
 rcases m.act with c | c | c | c | c
 ·rw [do1 c];have:=m.say c;exact Zoa (ZsC h (Ziv c m.lim)) (ZsA h this.1 this.2)
 ·rw [do2 c];exact ZBo h (m.trv c)
 ·rw [do3 c];obtain⟨p,q,ep,eq,hp,hq,hn,hi,h1,h2,h3⟩:=m.ent c;rw [ep,eq];refine ZwG h hp (ZAR h.shr.inn hp hq fun z=>hn ((Zat h.shr.inn).2 ⟨hq,z⟩)) fun _=>?_
  rw [Int.toNat_natCast];exact⟨h3.symm,h2,h1⟩
 ·rw [do4 c];obtain⟨p,ep,hp,h1,h2⟩:=m.lev c;rw [ep];exact ZwG h hp (Zfi h.shr.inn hp) fun z=>absurd z (by omega)
 ·rw [do5 c];exact Zs0 h (m.lnd c)
def Zxi (w:Zb) (s:Zx):List (Int×Int):=if s.act=1 then [(w.said,s.b)] else []
theorem ZNT (h:Wm w) {s:Zx} (m:May w s):(owes (doW w s).1).Perm (owes w ++ Zxi w s):=by
 refine List.perm_iff_count.2 fun a=>?_
 rw [List.count_append];unfold Zxi;rcases m.act with c | c | c | c | c
 ·have:=m.say c;rw [do1 c,if_pos c,Zob (ZsC h (Ziv c m.lim)) (ZsA h this.1 this.2)];rfl
 ·rw [do2 c,if_neg (by omega),ZBp];rfl
 ·rw [do3 c,if_neg (by omega)];rfl
 ·rw [do4 c,if_neg (by omega)];rfl
 ·rw [do5 c,if_neg (by omega),Zmg h (m.lnd c)];rfl
theorem ZhF (h:Wm w) {s:Zx} (m:May w s):(doW w s).1.Zv.length=w.Zv.length∧(doW w s).1.qQ.length=w.qQ.length∧(doW w s).1.said=w.said + (if s.act=1 then 1 else 0)∧(doW w s).1.qG.length <=w.qG.length + 1:=by
 rcases m.act with c | c | c | c | c
 ·rw [do1 c,if_pos c];have r:=Zaa (ZaC w) s.a.toNat (ZlR w s) true;exact⟨by rw [r.1];rfl,by rw [r.2.1];rfl,by rw [r.2.2.1];rfl,r.2.2.2.2 rfl⟩
 ·rw [do2 c,if_neg (by omega)];exact⟨ZhX _ _ _,ZbQ _ _ _,by rw [Int.add_zero];rfl,by rw [ZcJ,List.length_append];exact Nat.le_refl _⟩
 ·rw [do3 c,if_neg (by omega)];exact⟨Zev _ _,rfl,by rw [Int.add_zero];rfl,Nat.le_succ _⟩
 ·rw [do4 c,if_neg (by omega)];exact⟨Zev _ _,rfl,by rw [Int.add_zero];rfl,Nat.le_succ _⟩
 ·rw [do5 c,if_neg (by omega)];have r:=ZfM h (m.lnd c);exact⟨by rw [r.1],r.2.1,by rw [r.2.2.1,Int.add_zero],r.2.2.2⟩
theorem Zoo (n:Nat):Xl (n + 1)=Xl n ++ [(n:Int)]:=by
 unfold Xl;rw [List.range_succ,List.map_append];rfl
theorem ZzZ (h:Wd w) {s:Zx} (m:May w s):Wd (doW w s).1:=by
 refine(ZNS h.wm m).wd ?_;have e:= (ZNT h.wm m).map Prod.fst;rw [Zb3,List.map_append,Zb3] at e;refine e.trans ?_;rw [(ZhF h.wm m).2.2.1];unfold Zxi;have h0:=h.shr.sd1;by_cases c:s.act=1
 ·rw [if_pos c,if_pos c,show(w.said + 1).toNat=w.said.toNat + 1 by omega,Zoo,Int.toNat_of_nonneg h0];exact h.msg.append_right _
 ·rw [if_neg c,if_neg c,Int.add_zero]
  simpa using h.msg
theorem Ziw {α:Type} {L:List (List α)} {l:List α} (h:l ∈ L):l.length <=L.flatten.length:=by
 induction L with
 | nil=>cases h
 | cons x L ih=>
   rw [List.flatten_cons,List.length_append];rcases List.mem_cons.1 h with e | e
   ·rw [e];omega
   ·have:=ih e;omega
theorem ZnN (h:Wd w) {n:Nat} (hn:41 <=n) (hw:w.qG.length < n):WM n w:=by
 have S:=h.shr.WT;have hm:=h.msg.length_eq;rw [Qw] at hm;have hs:=h.shr.sd2;unfold msgs at hm;rw [List.length_append,List.length_append] at hm;have h8:=S.p2;have h5:=S.m2;have hb:=S.bx;have hd:=S.hd;refine⟨by omega,by omega,by omega,by omega,hw,fun l hl=>?_,fun l hl=>?_,fun l hl=>?_,fun x hx=>?_⟩
 ·have:=Ziw hl;omega
 ·have:=S.rw_ l hl;omega
 ·have:l.length <= (QA w.qJ).length:=by
   have:=Ziw (L:=w.qJ.map fun x=>x.map fun y=>y.msg) (List.mem_map.2 ⟨l,hl,rfl⟩);rw [List.length_map] at this;exact this
  omega
 ·rcases Wq h.wm hx with e | e | e
  ·have:= (h.shr.Xd x hx).Y9;rcases this with⟨q,_,_,_,a,b⟩ | ⟨q,_⟩ | ⟨q,_⟩
   ·rw [a,b];simp;omega
   ·omega
   ·omega
  ·have:=h.mvl hx e;have a:=this.len;have b:=this.few;omega
  ·have:= (h.shr.Xd x hx).Y9;rcases this with⟨q,_⟩ | ⟨q,_⟩ | ⟨q,_,a,b⟩
   ·omega
   ·omega
   ·rw [a,b];simp;omega
end
end Go.Proofs.YtbmbbcaaimehkaaGreat
end
section
namespace Go.Proofs.YtbmbbcaaimehkaaGreat
open Go.Lf
theorem Zrw {α:Type} (f:α ->Bool) (l:List α):(l.filter f).length + (l.filter fun x=>!f x).length=l.length:=by
 induction l with
 | nil=>rfl
 | cons x l ih=>
   cases e:f x with
   | true=>rw [List.filter_cons_of_pos (by simp [e]),List.filter_cons_of_neg (by simp [e]),List.length_cons,List.length_cons];omega
   | false=>rw [List.filter_cons_of_neg (by simp [e]),List.filter_cons_of_pos (by simp [e]),List.length_cons,List.length_cons];omega
theorem ZuB {u:Zb} (s:WN u) {x:Ze} (v:MvL u x x.Z9.toNat):∀ j,j <=x.qV.length ->(Yw u x j).2.length + (ZF (Yw u x j).1 x.Z9.toNat).length=j + (ZF u x.Z9.toNat).length:=by
 intro j
 induction j with
 | zero=>
   intro _;have:ZF (Yw u x 0).1 x.Z9.toNat=ZF u x.Z9.toNat:=by unfold ZF;rw [show(Yw u x 0).1.qJ=u.qJ from(Qs u x _).2.2.1]
   rw [this];rfl
 | succ j ih=>
   intro hj;have hs:=Kr s v j;have li:=KQ u x j;have ci:=Qs u x x.qV.length;have ih:=ih (by omega)
   have e:ZF (Yw u x (j + 1)).1 x.Z9.toNat= (ZF (Yw u x j).1 x.Z9.toNat).filter fun y=>!WH (WY x j) y:=by
    show ZF (ZaM (Yw u x j).1 x.Z9.toNat (WY x j)) x.Z9.toNat=_;rw [Zcg hs (by rw [li.2.2.2.1,ci.2.2.2.2.2];exact v.hm),if_pos rfl]
   have t:=Zrw (WH (WY x j)) (ZF (Yw u x j).1 x.Z9.toNat);rw [e];show((Yw u x j).2 ++ Zmy (Yw u x j).1 x.Z9.toNat (WY x j)).length + _=_;unfold Zmy;rw [List.length_append,List.length_cons,List.length_map];omega
section
variable {F:Nat} {w:Zb}
theorem ZCn (h:Wd w) (m:Nat):(ZF w m).length <=40:=by
 by_cases hm:m < w.qJ.length
 ·have:=h.msg.length_eq;rw [Qw] at this;have hs:=h.shr.sd2;unfold msgs at this;rw [List.length_append,List.length_append] at this;have t:=Ziw (L:=w.qJ.map fun x=>x.map fun y=>y.msg) (List.mem_map.2 ⟨ZF w m,Yj hm,rfl⟩);rw [List.length_map] at t;have t':(ZF w m).length <= (QA w.qJ).length:=t;omega
 ·unfold ZF;rw [List.getD_eq_getElem?_getD,List.getElem?_eq_none (by omega)];simp
theorem ZoK (h:Wd w) {k:Nat} (hk:k < w.qG.length):(XZ w k).2.length <=48:=by
 rcases Wq h.wm (x:=ZB w k) (Yj hk) with e | e | e
 ·rw [ZeK e];unfold Xu;split
  ·exact(by decide:1 <=48)
  ·split <;> exact(by decide:0 <=48)
 ·rw [ZeJ e];have v:=h.mvl (Yj hk) e;have t:=ZuB (h.shr.WT.Z7 k) (x:=ZB w k) ⟨v.Z9,v.hm,v.len,v.few,v.rng⟩ (ZB w k).qV.length (Nat.le_refl _);have f:(ZB w k).qV.length <=8:=v.few;have l:=ZCn h (ZB w k).Z9.toNat;have t':(ZdL (Z7 w k) (ZB w k)).2.length + (ZF (ZdL (Z7 w k) (ZB w k)).1 (ZB w k).Z9.toNat).length= (ZB w k).qV.length + (ZF w (ZB w k).Z9.toNat).length:=t;omega
 ·rw [ZeI e];exact(by decide:0 <=48)
theorem Zz0 (h:Wd w) {s:Zx} (m:May w s):(doW w s).2.length <=48:=by
 rcases m.act with c | c | c | c | c
 ·rw [do1 c];unfold Xu;split
  ·exact(by decide:1 <=48)
  ·split <;> exact(by decide:0 <=48)
 ·rw [do2 c];have h8:=h.shr.WT.p2;have:=Zfr w s.a.toNat w.Zv.length;show((Yx w s.a.toNat).map _).length <=48;rw [List.length_map];have:(Yx w s.a.toNat).length <=w.Zv.length:=this;omega
 ·rw [do3 c];exact(by decide:0 <=48)
 ·rw [do4 c];exact(by decide:0 <=48)
 ·rw [do5 c];exact ZoK h (m.lnd c)
theorem ZtB (hF:400000 <=F) (hM:F <=1000000) (h:Wd w) (sm:WM 400 w) {s:Zx} (ha:Ask w s):
 Zpu F w s=some (if ZbE w s=0 then((doW w s).1,(doW w s).2,0) else(ZzV,[],ZbE w s)):=by
 have sm':=sm.mono (show 400 <=900 by omega);unfold Zpu;rw [ZpM hF hM sm h];simp only [Bq0];rw [ZpT,decide_eq_true ha,QE];simp only [Bool.not_false,YR,Bq0,Bool.not_true,Bool.or_self,Cq0];rw [Zog (by omega) hM h sm' ha];simp only [Bq0];by_cases e:ZbE w s=0
 ·have l:=ZIu.1 e;rw [e,QE,Cq0,if_pos rfl,Zve (by omega) sm'];simp only [Bq0];rw [Zvc (by omega) hM h sm' ha l.1 l.2 (by simp)]
  rfl
 ·rw [if_neg e,QZ,decide_eq_true e];rfl
theorem ZDa (hF:400000 <=F) (hM:F <=1000000) (sm:WM 400 w) {s:Zx} (h:¬ (Wd w∧Ask w s)):Zpu F w s=some (ZzV,[],2):=by
 unfold Zpu;by_cases hw:Wd w
 ·rw [ZpM hF hM sm hw];simp only [Bq0];rw [ZpT,decide_eq_false fun z=>h ⟨hw,z⟩]
  rfl
 ·rw [Zz4 hF hM sm hw];rfl
end
end Go.Proofs.YtbmbbcaaimehkaaGreat
end
section
namespace Go.Proofs.YtbmbbcaaimehkaaGreat
open Go.Lf
def Zn1 (st:Zb×List ZI×List Int) (i:Nat) (s:Zx):Zb×List ZI×List Int:=
 if Ask st.1 s∧ZbE st.1 s=0 then((doW st.1 s).1,st.2.1 ++ (doW st.1 s).2,st.2.2 ++ [(i:Int)]) else st
def KI (w:Zb) (l:List Zx):Nat ->Zb×List ZI×List Int
 | 0=>(w,[],[])
 | k + 1=>Zn1 (KI w l k) k (l.getD k default)
structure PlI (w:Zb) (k:Nat) (st:Zb×List ZI×List Int):Prop where
 wd:Wd st.1
 qG:st.1.qG.length <=w.qG.length + k
 ev:st.2.1.length <=48 * k
 dn:st.2.2.length <=k
 inl:st.1.Zv.length=w.Zv.length
 enl:st.1.qQ.length=w.qQ.length
section
variable {F:Nat} {w:Zb}
theorem ZsJ (h:Wd w) (l:List Zx):∀ k,PlI w k (KI w l k):=by
 intro k
 induction k with
 | zero=>exact⟨h,Nat.le_refl _,Nat.le_refl _,Nat.le_refl _,rfl,rfl⟩
 | succ k ih=>
   show PlI w (k + 1) (Zn1 (KI w l k) k (l.getD k default));unfold Zn1;split
   ·rename_i c;have m:May (KI w l k).1 (l.getD k default):=Zmd.2 c;have s:=ZhF ih.wd.wm m;have e:=Zz0 ih.wd m;have i1:=ih.qG;have i2:=ih.ev;have i3:=ih.dn;exact⟨ZzZ ih.wd m,by dsimp only;omega,by dsimp only;rw [List.length_append];omega,by dsimp only;rw [List.length_append,List.length_singleton];omega,by dsimp only;rw [s.1,ih.inl],by dsimp only;rw [s.2.1,ih.enl]⟩
   ·exact⟨ih.wd,by have:=ih.qG;omega,by have:=ih.ev;omega,by have:=ih.dn;omega,ih.inl,ih.enl⟩
end
end Go.Proofs.YtbmbbcaaimehkaaGreat
end
section
namespace Go.Proofs.YtbmbbcaaimehkaaGreat
open Go.Lf
def ZaI (w:Zb) (x:Ze):Nat:=if x.kind=1 then 2 * ((sp w x.Yb.place.toNat).age - x.Yb.age).toNat else 0
def Kh (w:Zb) (l:List Ze):Nat:= (l.map (ZaI w)).sum
def ZjM (w:Zb):Nat:=w.qG.length + Kh w w.qG
theorem Zax (w:Zb) (a b:List Ze):Kh w (a ++ b)=Kh w a + Kh w b:=by unfold Kh;rw [List.map_append,List.sum_append]
theorem Zeq (w:Zb) (x:Ze):Kh w [x]=ZaI w x:=by unfold Kh;simp
section
variable {w:Zb}
theorem Zqr {k:Nat} (hk:k < w.qG.length) (u:Zb):Kh u w.qG=Kh u (Z7 w k).qG + ZaI u (ZB w k):=by
 have:=congrArg (Kh u) (KA hk);rw [this,show ZB w k::w.qG.drop (k + 1)= [ZB w k] ++ w.qG.drop (k + 1) from rfl,Zax,Zax,Zeq];show _=Kh u (w.qG.take k ++ w.qG.drop (k + 1)) + _;rw [Zax];omega
theorem ZgL (u:Zb) (m:Nat) (x:Zr) (now:Bool) (p:Nat):YC (Xu u m x now).1 p=YC u p:=by
 have s:=Zaa u m x now;refine Zca (by rw [s.2.1];exact Zad fun m' _=>Zqa s.2.1 m' p) ?_;unfold Xu;split
 ·rfl
 ·split
  ·rfl
  ·show X3 (u.qG ++ _::told _ _ _ _) p=_;rw [Zaw]
   have:X3 (Zbv (E u m x.place.toNat).Z9 (Wh x (E u m x.place.toNat))::told (m:Int) x (E u m x.place.toNat) now) p= []:=by
    apply Zsr;intro y hy;rcases List.mem_cons.1 hy with z | z
    ·rw [z];show(1:Int) ≠ 2;omega
    ·unfold told at z;split at z
     ·rw [List.mem_singleton.1 z];show(3:Int) ≠ 2;omega
     ·cases z
   rw [this,List.append_nil]
theorem ZqG (h:Wm w) {k:Nat} (hk:k < w.qG.length) (e:(ZB w k).kind=3) (p:Nat):YC (JC (Z7 w k) (ZB w k)) p=YC (Z7 w k) p:=by
 have hl:=h.shr.Xd (ZB w k) (Yj hk);have t1:=hl.to1;have t2:=hl.to2;have hn:=hl.ntd e;unfold JC;split
 ·rename_i c;refine Zca ?_ rfl;rw [ZbU];refine ZiG fun m' _=>?_
  rw [ZnD (h.shr.WT.Z7 k) (by show _ < w.qQ.length;omega) (by show _ < w.Zv.length;omega)];by_cases d:m'= (ZB w k).Z9.toNat∧p= (ZB w k).place.toNat
  ·rw [if_pos d,d.1,d.2];exact .inr ⟨rfl,c.1⟩
  ·rw [if_neg d];exact .inl rfl
 ·rfl
theorem Zmf (h:Wm w) {k:Nat} (hk:k < w.qG.length) {p:Nat} (hp:p < w.Zv.length):(sp (XZ w k).1 p).machine= (sp w p).machine∧(sp (XZ w k).1 p).age= (sp w p).age:=by
 rcases Wq h (x:=ZB w k) (Yj hk) with e | e | e
 ·rw [ZeK e,Jk (ZgL _ _ _ _ p),Jk (Ze3 hk (by omega) p)];exact⟨rfl,rfl⟩
 ·rw [ZeJ e];exact ZsV h ⟨hk,e⟩ hp
 ·rw [ZeI e];dsimp only;rw [Jk (ZqG h hk e p),Jk (Ze3 hk (by omega) p)];exact⟨rfl,rfl⟩
theorem Zxr (h:Wm w) {u:Zb} (hs:∀ p,p < w.Zv.length ->(sp u p).age= (sp w p).age) {x:Ze} (hx:x ∈ w.qG):ZaI u x=ZaI w x:=by
 unfold ZaI;by_cases e:x.kind=1
 ·have m:=h.mai x hx e;have a:=m.1;have b:=m.2.1;rw [if_pos e,if_pos e,hs _ (by omega)]
 ·rw [if_neg e,if_neg e]
theorem ZBt (h:Wm w) {u:Zb} (hs:∀ p,p < w.Zv.length ->(sp u p).age= (sp w p).age) {l:List Ze} (hl:∀ x ∈ l,x ∈ w.qG):Kh u l=Kh w l:=by
 unfold Kh;congr 1;exact List.map_congr_left fun x hx=>Zxr h hs (hl x hx)
theorem Zxv (h:Wm w) {k:Nat} (hk:k < w.qG.length):ZjM (XZ w k).1 + 1 <=ZjM w:=by
 have dl:=Zgl w hk;have hs:=fun p (hp:p < w.Zv.length)=>(Zmf h hk hp).2
 have hd:∀ x ∈ (Z7 w k).qG,x ∈ w.qG:=fun x hx=>Wl hx
 have e0:=Zqr hk w;have e1:=ZBt h hs hd;unfold ZjM;rcases Wq h (x:=ZB w k) (Yj hk) with e | e | e
 ·have hm:=h.mai _ (Yj hk:ZB w k ∈ w.qG) e;have hr:=ZeH h hk e;rw [ZeK e] at e1 hs ⊢;obtain⟨p,ep,hp⟩:=hr.pl.nat;have hp':p < w.Zv.length:=hp;have ho:=hr.old rfl;unfold Xu at e1 hs ⊢;rw [ep,Int.toNat_natCast] at e1 hs ⊢;by_cases c1:(E (Z7 w k) (ZB w k).Z9.toNat p).here=true
  ·rw [if_pos c1] at e1 ⊢;show(Z7 w k).qG.length + Kh _ (Z7 w k).qG + 1 <=_;rw [e1];omega
  rw [if_neg c1] at e1 hs ⊢;by_cases c2:false=false∧(E (Z7 w k) (ZB w k).Z9.toNat p).age <= (ZB w k).Yb.age
  ·rw [if_pos c2] at e1 ⊢;show(Z7 w k).qG.length + Kh _ (Z7 w k).qG + 1 <=_;rw [e1];omega
  rw [if_neg c2] at e1 hs ⊢;dsimp only at e1 hs ⊢
  have ag:(E (Z7 w k) (ZB w k).Z9.toNat p).age > (ZB w k).Yb.age:=by
   have:¬ (E (Z7 w k) (ZB w k).Z9.toNat p).age <= (ZB w k).Yb.age:=fun z=>c2 ⟨rfl,z⟩
   omega
  have wd:=ZhE h hk (by omega);have re:=wd.ent (ZB w k).Z9.toNat hr.hm p hp (by simpa using c1);have esp:sp (Z7 w k) p=sp w p:=Jk (Ze3 hk (by omega) p);have r2:=re.2.1;rw [esp] at r2;have o5:=ho.2.2.2.2.1;rw [ep,Int.toNat_natCast] at o5;have o2:=o5.2.1;rw [esp] at o2;rw [Zax,e1];rw [show(Zbv (E (Z7 w k) (ZB w k).Z9.toNat p).Z9 (Wh (ZB w k).Yb (E (Z7 w k) (ZB w k).Z9.toNat p))::told ((ZB w k).Z9.toNat:Int) (ZB w k).Yb (E (Z7 w k) (ZB w k).Z9.toNat p) false)= [Zbv (E (Z7 w k) (ZB w k).Z9.toNat p).Z9 (Wh (ZB w k).Yb (E (Z7 w k) (ZB w k).Z9.toNat p))] ++ told ((ZB w k).Z9.toNat:Int) (ZB w k).Yb (E (Z7 w k) (ZB w k).Z9.toNat p) false from rfl,Zax,Zeq]
  have t1:∀ u,Kh u (told ((ZB w k).Z9.toNat:Int) (ZB w k).Yb (E (Z7 w k) (ZB w k).Z9.toNat p) false)=0∧(told ((ZB w k).Z9.toNat:Int) (ZB w k).Yb (E (Z7 w k) (ZB w k).Z9.toNat p) false).length <=1:=fun u=>by
   unfold told;split
   ·rw [Zeq];unfold ZaI;rw [if_neg (by show ¬ (3:Int)=1;omega)];exact⟨rfl,Nat.le_refl _⟩
   ·exact⟨rfl,Nat.zero_le _⟩
  rw [(t1 _).1];have b1:= (t1 w).2
  have m1:ZaI w (ZB w k)=2 * ((sp w p).age - (ZB w k).Yb.age).toNat:=by
   unfold ZaI;rw [if_pos e,ep,Int.toNat_natCast]
  have m2:∀ u:Zb,(sp u p).age= (sp w p).age ->ZaI u (Zbv (E (Z7 w k) (ZB w k).Z9.toNat p).Z9 (Wh (ZB w k).Yb (E (Z7 w k) (ZB w k).Z9.toNat p)))=2 * ((sp w p).age - (E (Z7 w k) (ZB w k).Z9.toNat p).age).toNat:=fun u hu=>by
   unfold ZaI;rw [if_pos (show(Zbv (E (Z7 w k) (ZB w k).Z9.toNat p).Z9 (Wh (ZB w k).Yb (E (Z7 w k) (ZB w k).Z9.toNat p))).kind=1 from rfl)];show 2 * ((sp u (ZB w k).Yb.place.toNat).age - (E (Z7 w k) (ZB w k).Z9.toNat p).age).toNat=_;rw [ep,Int.toNat_natCast,hu]
  rw [m2 _ (by exact hs p hp')];simp only [List.length_append,List.length_singleton];omega
 ·rw [ZeJ e] at e1 ⊢;have i:=Zb7 w k;show(WB w k).qG.length + Kh (WB w k) (WB w k).qG + 1 <=_;rw [i.2.1];have e1':Kh (WB w k) (Z7 w k).qG=Kh w (Z7 w k).qG:=e1;omega
 ·rw [ZeI e] at e1 ⊢;have n:=KM (Z7 w k) (ZB w k);show(JC (Z7 w k) (ZB w k)).qG.length + Kh (JC (Z7 w k) (ZB w k)) (JC (Z7 w k) (ZB w k)).qG + 1 <=_;rw [n.2.2.2.1];have e1':Kh (JC (Z7 w k) (ZB w k)) (Z7 w k).qG=Kh w (Z7 w k).qG:=e1;omega
theorem ZBM (h:Wd w) {k:Nat} (hk:k < w.qG.length):Wd (XZ w k).1:=by
 refine(Zs0 h.wm hk).wd ?_;have e:(owes (XZ w k).1).Perm (owes w):=List.perm_iff_count.2 fun a=>Zmg h.wm hk a
 have e:=e.map Prod.fst;rw [Zb3,Zb3] at e;rw [(ZfM h.wm hk).2.2.1];exact e.trans h.msg
def ZgN (w:Zb) (picks:List Int) (n:Nat):Nat:=if n < picks.length then(picks.getD n 0).toNat % w.qG.length else 0
def Kt (w:Zb) (picks:List Int):Nat ->Zb×List ZI
 | 0=>(w,[])
 | n + 1=>if(Kt w picks n).1.qG= [] then Kt w picks n else((XZ (Kt w picks n).1 (ZgN (Kt w picks n).1 picks n)).1,(Kt w picks n).2 ++ (XZ (Kt w picks n).1 (ZgN (Kt w picks n).1 picks n)).2)
theorem ZlX {u:Zb} (h:u.qG ≠ []) (picks:List Int) (n:Nat):ZgN u picks n < u.qG.length:=by
 have:=List.length_pos_iff.2 h;unfold ZgN;split
 ·exact Nat.mod_lt _ this
 ·exact this
structure DrI (w:Zb) (n:Nat) (s:Zb×List ZI):Prop where
 wd:Wd s.1
 Zv:s.1.Zv=w.Zv
 enl:s.1.qQ.length=w.qQ.length
 said:s.1.said=w.said
 sp:∀ p,p < w.Zv.length ->(Proofs.YtbmbbcaaimehkaaGreat.sp s.1 p).machine= (Proofs.YtbmbbcaaimehkaaGreat.sp w p).machine∧(Proofs.YtbmbbcaaimehkaaGreat.sp s.1 p).age= (Proofs.YtbmbbcaaimehkaaGreat.sp w p).age
 ow:(owes s.1).Perm (owes w)
 ev:s.2.length <=48 * n
 qG:s.1.qG.length <=w.qG.length + n
theorem drI (h:Wd w) (picks:List Int):∀ n,DrI w n (Kt w picks n):=by
 intro n
 induction n with
 | zero=>exact⟨h,rfl,rfl,rfl,fun p _=>⟨rfl,rfl⟩,List.Perm.refl _,Nat.le_refl _,Nat.le_refl _⟩
 | succ n ih=>
   have i1:=ih.ev;have i2:=ih.qG;show DrI w (n + 1) (if(Kt w picks n).1.qG= [] then _ else _);split
   ·exact⟨ih.wd,ih.Zv,ih.enl,ih.said,ih.sp,ih.ow,by omega,by omega⟩
   ·rename_i c;have hk:=ZlX c picks n;have s:=ZfM ih.wd.wm hk;have e:=ZoK ih.wd hk;refine⟨ZBM ih.wd hk,s.1.trans ih.Zv,s.2.1.trans ih.enl,s.2.2.1.trans ih.said,fun p hp=>?_,(List.perm_iff_count.2 fun a=>Zmg ih.wd.wm hk a).trans ih.ow,?_,?_⟩
    ·have a:=Zmf ih.wd.wm hk (p:=p) (by rw [ih.Zv];exact hp);have b:=ih.sp p hp;exact⟨a.1.trans b.1,a.2.trans b.2⟩
    ·dsimp only;rw [List.length_append];omega
    ·dsimp only;omega
theorem ZIy (h:Wd w) (picks:List Int):∀ n,(∀ i,i < n ->(Kt w picks i).1.qG ≠ []) ->ZjM (Kt w picks n).1 + n <=ZjM w:=by
 intro n
 induction n with
 | zero=>intro _;exact Nat.le_refl _
 | succ n ih=>
   intro hn;have i1:=ih fun i hi=>hn i (by omega)
   have c:=hn n (by omega);have hk:=ZlX c picks n;have:=Zxv (drI h picks n).wd.wm hk;show ZjM (if(Kt w picks n).1.qG= [] then Kt w picks n else _).1 + (n + 1) <=_;rw [if_neg c];dsimp only;omega
theorem ZC9 (h:Wd w) (picks:List Int):∃ n,n <=ZjM w∧(Kt w picks n).1.qG= []∧∀ i,i < n ->(Kt w picks i).1.qG ≠ []:=by
 by_cases hz:∃ n,n <=ZjM w∧(Kt w picks n).1.qG= []
 ·obtain⟨n,hn,e⟩:=hz;obtain⟨m,hm,hc,hlt⟩:=X5 (c:=fun i=>(Kt w picks i).1.qG= []) e;exact⟨m,by omega,hc,hlt⟩
 ·have:=ZIy h picks (ZjM w + 1) fun i hi q=>hz ⟨i,by omega,q⟩
  omega
end
end Go.Proofs.YtbmbbcaaimehkaaGreat
end
section
namespace Go.Proofs.YtbmbbcaaimehkaaGreat
open Go.Lf
section
variable {F:Nat} {w:Zb}
theorem Zux (h:Wm w) {k:Nat} (hk:k < w.qG.length):∃ tl,(XZ w k).1.qG= (Z7 w k).qG ++ tl∧tl.length <=2 * (owL [ZB w k]).length:=by
 rcases Wq h (x:=ZB w k) (Yj hk) with e | e | e
 ·rw [ZeK e,ZeA e];unfold Xu;split
  ·exact⟨[],by simp,by simp⟩
  ·split
   ·exact⟨[],by simp,by simp⟩
   ·refine⟨_,rfl,?_⟩;rw [List.length_cons];unfold told;split <;> simp
 ·rw [ZeJ e];exact⟨[],by rw [List.append_nil];exact(Zb7 w k).2.1,by simp⟩
 ·rw [ZeI e];exact⟨[],by rw [List.append_nil];exact(KM _ _).2.2.2.1,by simp⟩
theorem ZqE (h:Wd w):(owL w.qG).length <=40:=by
 have:=h.msg.length_eq;rw [Qw,← Zb3,List.length_map] at this;have hs:=h.shr.sd2;unfold owes at this;rw [List.length_append,List.length_append] at this;omega
theorem ZzY {picks:List Int} {n:Nat} (c:(Kt w picks n).1.qG ≠ []):Kt w picks (n + 1)= ((XZ (Kt w picks n).1 (ZgN (Kt w picks n).1 picks n)).1,(Kt w picks n).2 ++ (XZ (Kt w picks n).1 (ZgN (Kt w picks n).1 picks n)).2):=by
 show(if(Kt w picks n).1.qG= [] then Kt w picks n else _)=_;rw [if_neg c]
theorem ZRW (h:Wd w) (picks:List Int) {M:Nat} (hM:80 <=M) (hw:w.qG.length + picks.length <=M):∀ d,∃ old new,(Kt w picks (picks.length + d)).1.qG=old ++ new∧old.length <=M∧new.length + 2 * (owL old).length <=80:=by
 intro d
 induction d with
 | zero=>
   have I:=drI h picks picks.length;have i2:=I.qG;have:=ZqE I.wd;exact⟨(Kt w picks picks.length).1.qG,[],by simp,by omega,by simp;omega⟩
 | succ d ih=>
   have I:=drI h picks (picks.length + d);by_cases c:(Kt w picks (picks.length + d)).1.qG= []
   ·have:Kt w picks (picks.length + (d + 1))=Kt w picks (picks.length + d):=by
     show(if(Kt w picks (picks.length + d)).1.qG= [] then Kt w picks (picks.length + d) else _)=_;rw [if_pos c]
    rw [this];exact ih
   ·have ih':∃ x old new,(Kt w picks (picks.length + d)).1.qG=x::old ++ new∧(x::old).length <=M∧new.length + 2 * (owL (x::old)).length <=80:=by
     obtain⟨old,new,e,h1,h2⟩:=ih;cases old with
     | cons x old=>exact⟨x,old,new,e,h1,h2⟩
     | nil=>
       rw [List.nil_append] at e;have ol:=ZqE I.wd;rw [e] at ol c;cases new with
       | nil=>exact absurd rfl c
       | cons x new=>
         have h2':(x::new).length <=80:=by have:(x::new).length + 2 * (owL []).length <=80:=h2;omega
         exact⟨x,new,[],by rw [e,List.append_nil],by omega,by rw [List.length_nil];omega⟩
    obtain⟨x,old,new,e,h1,h2⟩:=ih';have hk:=ZlX c picks (picks.length + d);have p0:ZgN (Kt w picks (picks.length + d)).1 picks (picks.length + d)=0:=by unfold ZgN;rw [if_neg (by omega)]
    rw [p0] at hk;have e1:=ZzY c;rw [p0] at e1;obtain⟨tl,et,ht⟩:=Zux I.wd.wm hk
    have ed:(Z7 (Kt w picks (picks.length + d)).1 0).qG=old ++ new:=by
     show(Kt w picks (picks.length + d)).1.qG.take 0 ++ (Kt w picks (picks.length + d)).1.qG.drop (0 + 1)=_;rw [e];rfl
    have ex:ZB (Kt w picks (picks.length + d)).1 0=x:=by unfold ZB;rw [e];rfl
    rw [ed] at et;rw [ex] at ht;have o:owL (x::old)=owL [x] ++ owL old:=Zab [x] old;rw [o,List.length_append] at h2;rw [List.length_cons] at h1;refine⟨old,new ++ tl,?_,by omega,by rw [List.length_append];omega⟩;rw [show picks.length + (d + 1)=picks.length + d + 1 from rfl,e1,← List.append_assoc,← et]
theorem ZC8 (h:Wd w) (picks:List Int) {M:Nat} (hM:80 <=M) (hw:w.qG.length + picks.length <=M) (n:Nat):(Kt w picks n).1.qG.length <=M + 80:=by
 by_cases c:n < picks.length
 ·have:= (drI h picks n).qG;omega
 ·obtain⟨d,rfl⟩:∃ d,n=picks.length + d:= ⟨n - picks.length,by omega⟩
  obtain⟨old,new,e,h1,h2⟩:=ZRW h picks hM hw d;rw [e,List.length_append];omega
def ZAO (picks:List Int):Prop:=picks.length <=80∧∀ x ∈ picks,0 <=x
theorem ZkZ {picks:List Int}:((List.range picks.length).any fun k=>decide (picks.getD k 0 < 0))=true↔¬ ∀ x ∈ picks,0 <=x:=by
 rw [ZkI picks (fun x=>decide (x < 0)) 0,List.any_eq_true]
 constructor
 ·rintro⟨x,hx,e⟩ z;have:=z x hx;simp at e;omega
 ·intro z;obtain⟨x,hx⟩:=Classical.not_forall.1 z;obtain⟨h1,h2⟩:=Classical.not_imp.1 hx;exact⟨x,h1,by simp;omega⟩
theorem ZPB {k n:Nat} (h:k < n) (hn:n <=9223372036854775807):Xa ((k:Int) + 1)= ((k + 1:Nat):Int):=by rw [Zah (by omega) (by omega)];rfl
theorem Zuk {picks:List Int} (hF:picks.length < F) (hm:picks.length <=9223372036854775807):∃ b,Zu4 F picks=some b∧(b=true↔ZAO picks):=by
 have e:=ZoG (body:=Zjt picks) (r1:=some false) (r2:=some (decide ((picks.length:Int) <=80))) (fun k=>(k:Int)) (fun k=>decide (picks.getD k 0 < 0)) (n:=picks.length) (F:=F) hF (fun k hk next=>by
  unfold Zjt;rw [ZO hk,Cq1,YM 0 hk];simp only [Bq0];rw [ZPB hk hm]) (fun next=>by
  unfold Zjt;rw [ZT,Cq0])
 have e':Zu4 F picks=_:=e;rw [e'];cases c:(List.range picks.length).any fun k=>decide (picks.getD k 0 < 0) with
 | true=>
   have:=ZkZ.1 c;exact⟨false,rfl,⟨fun z=>(by cases z),fun z=>absurd z.2 this⟩⟩
 | false=>
   have:∀ x ∈ picks,0 <=x:=Classical.byContradiction fun z=>by rw [ZkZ.2 z] at c;cases c
   refine⟨_,rfl,?_⟩;rw [decide_eq_true_eq];exact⟨fun z=>⟨by omega,this⟩,fun z=>by have:=z.1;omega⟩
theorem ZBs (h:Wm w) (l:List Ze) (hl:∀ x ∈ l,x ∈ w.qG):Kh w l <=60 * (owL l).length:=by
 induction l with
 | nil=>exact Nat.le_refl _
 | cons x l ih=>
   have i:=ih fun y hy=>hl y (List.mem_cons_of_mem _ hy)
   rw [show x::l= [x] ++ l from rfl,Zax,Zeq,Zab,List.length_append]
   have:ZaI w x <=60 * (owL [x]).length:=by
    unfold ZaI;split
    ·rename_i e;rw [ZeA e,List.length_singleton];have m:=h.mai x (hl x (by simp)) e;have a:=h.ZbS (p:=x.Yb.place.toNat) (by have:=m.1;have:=m.2.1;omega);have b:=m.2.2.2.2.1.1;omega
    ·omega
   omega
theorem ZIL (h:Wd w):ZjM w <=w.qG.length + 2400:=by
 have:=ZBs h.wm w.qG fun x hx=>hx
 have:=ZqE h;unfold ZjM;omega
end
end Go.Proofs.YtbmbbcaaimehkaaGreat
end
section
namespace Go.Proofs.YtbmbbcaaimehkaaGreat
open Go.Lf
section
variable {κ ν:Type} [DecidableEq κ]
theorem Zun {l:List (κ×ν)} {k:κ} (h:k ∉ l.map (·.1)):QI l k=none:=by
 unfold QI;rw [KP.2 fun p hp e=>h (List.mem_map.2 ⟨p,hp,e⟩)];rfl
theorem ZoB (p:κ×ν) (l:List (κ×ν)) (k:κ):Y4 (p::l) k=if p.1=k then some (0,p.2) else(Y4 l k).map fun q=>(q.1 + 1,q.2):=rfl
theorem Zxo {l:List (κ×ν)} {k:κ} {x:ν} (h:QI l k=some x):(k,x) ∈ l:=by
 unfold QI at h;cases e:Y4 l k with
 | none=>rw [e] at h;cases h
 | some q=>
   rw [e] at h;have:=Zba e;cases h;exact List.mem_of_getElem? this
end
section
variable {F:Nat} {w:Zb}
theorem ZCX (hF:400000 <=F) (w:Zb):∃ b,ZzN F w=some b∧(b=true ->WM 201 w∧Wd w):=by
 obtain⟨b,eb,ib⟩:=Zwn hF w;unfold ZzN;rw [eb];simp only [Bq0];cases b with
 | false=>exact⟨false,rfl,fun z=>by cases z⟩
 | true=>
   have sm:=ib rfl;obtain⟨c,ec,ic⟩:=ZkN hF (sm.mono (show 201 <=400 by omega));rw [YR,ec];exact⟨c,rfl,fun z=>⟨sm,ic.1 z⟩⟩
theorem Zzc (hF:400000 <=F) (w:Zb) (l:List Zx) (ps:List (List Int)) (hn:ps.length <=1000) (hp:∀ p ∈ ps,p.length < F∧p.length <=9223372036854775807):
 ∃ b,ZzP F w l ps=some b∧(b=true ->WM 201 w∧Wd w∧l.length <=80∧∀ p ∈ ps,ZAO p):=by
 obtain⟨c,ec,ic⟩:=ZCX hF w
 have hpk:∀ k,k < ps.length ->∃ b,Zu4 F (ps.getD k [])=some b∧(b=true↔ZAO (ps.getD k [])):=fun k hk=>by
  have:=hp _ (Yj (d:= []) hk);exact Zuk this.1 this.2
 have e:=J2 (body:=Zjv F w l ps) (r1:=some false) (r2:=some (c && decide ((l.length:Int) <=80))) (s0:= (0:Int)) (fun k=>(k:Int)) rfl (fun k=>ZAO (ps.getD k [])) (n:=ps.length) (F:=F) (by omega) (fun k hk next=>by
  obtain⟨b,eb,ib⟩:=hpk k hk;unfold Zjv;rw [ZO hk,Cq1,YM [] hk];simp only [Bq0];rw [eb];simp only [Bq0];rw [ZdI ib,YD (by omega)]) (fun next=>by
  unfold Zjv;rw [ZT,Cq0,ec];rfl)
 have e':ZzP F w l ps=_:=e;rw [e'];by_cases q:∀ k,k < ps.length ->ZAO (ps.getD k [])
 ·rw [Xn q];refine⟨_,rfl,fun z=>?_⟩;rw [Ba0,decide_eq_true_eq] at z;have:=ic z.1;exact⟨this.1,this.2,by omega,WG.1 q⟩
 ·rw [Xz q];exact⟨false,rfl,fun z=>by cases z⟩
end
end Go.Proofs.YtbmbbcaaimehkaaGreat
end
section
namespace Go.Proofs.YtbmbbcaaimehkaaGreat
open Go.Lf
section
variable {F:Nat} {w:Zb}
end
end Go.Proofs.YtbmbbcaaimehkaaGreat
end
section
namespace Go.Proofs.YtbmbbcaaimehkaaGreat
open Go.Lf
def InM (w:Zb) (y:Zr):Prop:= (∃ m,m < w.qQ.length∧y ∈ ZF w m)∨∃ x ∈ w.qG,x.kind=1∧x.Yb=y
def Goes (w u:Zb):Prop:=∀ y,InM u y ->InM w y∨∃ z e,InM w z∧y=Wh z e∧z.age < e.age
section
variable {F:Nat} {w:Zb}
theorem InM.ok (h:Wm w) {y:Zr} (hy:InM w y):Uh y.place w.Zv.length∧0 <=y.age∧y.age <= (sp w y.place.toNat).age∧1 <=y.hops∧(∃ m,QR w m y):=by
 have:∃ m,QR w m y:=by
  rcases hy with⟨m,hm,z⟩ | ⟨x,hx,k,e⟩
  ·exact⟨_,(h.hel m hm y z).1⟩
  ·exact⟨_,e ▸ h.mai x hx k⟩
 obtain⟨m,a⟩:=this;exact⟨⟨a.1,a.2.1⟩,a.2.2.2.2.1.1,a.2.2.2.2.1.2.1,a.2.2.2.2.2.1,m,a⟩
theorem InM.msg (h:Wd w) {y:Zr} (hy:InM w y):y.msg < w.said:=by
 have:y.msg ∈ msgs w:=by
  unfold msgs;rcases hy with⟨m,hm,z⟩ | ⟨x,hx,k,e⟩
  ·refine List.mem_append.2 (.inl (List.mem_append.2 (.inr ?_)));unfold QA;exact List.mem_flatMap.2 ⟨ZF w m,Yj (by rw [h.shr.WT.hd];exact hm),List.mem_map.2 ⟨y,z,rfl⟩⟩
  ·refine List.mem_append.2 (.inr ?_);unfold QW;exact List.mem_map.2 ⟨x,List.mem_filter.2 ⟨hx,by simp [k]⟩,by rw [e]⟩
 have:=h.msg.mem_iff.1 this;unfold Xl at this;obtain⟨a,b,c⟩:=List.mem_map.1 this;have b:=List.mem_range.1 b;have c:(a:Int)=y.msg:=c;have:=h.shr.sd1;omega
theorem ZzX {k:Nat} {y:Zr} (hy:InM (Z7 w k) y):InM w y:=by
 rcases hy with⟨m,hm,z⟩ | ⟨x,hx,e⟩
 ·exact .inl ⟨m,hm,z⟩
 ·exact .inr ⟨x,Wl hx,e⟩
theorem ZkY {u:Zb} (hd:u.qJ.length=u.qQ.length) {m:Nat} (hm:m < u.qQ.length) {x:Zr} {now:Bool} {y:Zr} (hy:InM (Xu u m x now).1 y):
 InM u y∨(now=false∧y=x)∨((E u m x.place.toNat).here=false∧y=Wh x (E u m x.place.toNat)∧(now=false ->x.age < (E u m x.place.toNat).age)):=by
 unfold Xu at hy;by_cases c:(E u m x.place.toNat).here=true
 ·rw [if_pos c] at hy;rcases hy with⟨m',hm',z⟩ | ⟨x',hx',e⟩
  ·exact .inl (.inl ⟨m',hm',z⟩)
  ·exact .inl (.inr ⟨x',hx',e⟩)
 rw [if_neg c] at hy;by_cases d:now=false∧(E u m x.place.toNat).age <=x.age
 ·rw [if_pos d] at hy;rcases hy with⟨m',hm',z⟩ | ⟨x',hx',e⟩
  ·have hb:ZF {u with qJ:=Yv u.qJ (m:Int) (ZF u m ++ [x])} m'=if m'=m then ZF u m ++ [x] else ZF u m':=QH (by rw [hd];exact hm)
   have z':y ∈ ZF {u with qJ:=Yv u.qJ (m:Int) (ZF u m ++ [x])} m':=z;rw [hb] at z';by_cases e:m'=m
   ·rw [if_pos e] at z';rcases List.mem_append.1 z' with q | q
    ·exact .inl (.inl ⟨m,hm,q⟩)
    ·exact .inr (.inl ⟨d.1,List.mem_singleton.1 q⟩)
   ·rw [if_neg e] at z';exact .inl (.inl ⟨m',hm',z'⟩)
  ·exact .inl (.inr ⟨x',hx',e⟩)
 ·rw [if_neg d] at hy;rcases hy with⟨m',hm',z⟩ | ⟨x',hx',k,e⟩
  ·exact .inl (.inl ⟨m',hm',z⟩)
  ·rcases List.mem_append.1 hx' with q | q
   ·exact .inl (.inr ⟨x',q,k,e⟩)
   ·rcases List.mem_cons.1 q with q | q
    ·rw [q] at e;refine .inr (.inr ⟨by simpa using c,e.symm,fun hn=>?_⟩);have:¬ (E u m x.place.toNat).age <=x.age:=fun z=>d ⟨hn,z⟩
     omega
    ·unfold told at q;split at q
     ·rw [List.mem_singleton.1 q] at k;exact absurd (show(3:Int)=1 from k) (by omega)
     ·cases q
theorem Zuz (h:Wm w) {k:Nat} (hk:k < w.qG.length):Goes w (XZ w k).1:=by
 intro y hy;rcases Wq h (x:=ZB w k) (Yj hk) with e | e | e
 ·rw [ZeK e] at hy;have own:InM w (ZB w k).Yb:= .inr ⟨ZB w k,Yj hk,e,rfl⟩;rcases ZkY (u:=Z7 w k) h.shr.WT.hd (ZeH h hk e).hm hy with q | ⟨_,q⟩ | ⟨_,q,r⟩
  ·exact .inl (ZzX q)
  ·exact .inl (q ▸ own)
  ·exact .inr ⟨_,_,own,q,r rfl⟩
 ·rw [ZeJ e] at hy;have hy:InM (WB w k) y:=hy;have i:=Zb7 w k;rcases hy with⟨m,hm,z⟩ | ⟨x,hx,r⟩
  ·rw [i.2.2.2.2.2.2] at hm;exact .inl (.inl ⟨m,hm,(ZoA h ⟨hk,e⟩ z).1⟩)
  ·rw [i.2.1] at hx;exact .inl (.inr ⟨x,Wl hx,r⟩)
 ·rw [ZeI e] at hy;have n:=KM (Z7 w k) (ZB w k);rcases hy with⟨m,hm,z⟩ | ⟨x,hx,r⟩
  ·have hm:m < (JC (Z7 w k) (ZB w k)).qQ.length:=hm;rw [n.2.2.2.2.2] at hm;refine .inl (.inl ⟨m,hm,?_⟩);have:ZF (JC (Z7 w k) (ZB w k)) m=ZF w m:=by unfold ZF;rw [n.2.2.1];rfl
   rw [← this];exact z
  ·have hx:x ∈ (JC (Z7 w k) (ZB w k)).qG:=hx;rw [n.2.2.2.1] at hx;exact .inl (.inr ⟨x,Wl hx,r⟩)
def Gets (w:Zb) (ev:List ZI):Prop:=∀ e ∈ ev,e.deed=1 ->∃ y,InM w y∧e.n=y.msg∧e.hops=y.hops∧e.place=y.place
theorem ZqQ (u:Zb) (x:Ze) (s:WN u) (v:MvL u x x.Z9.toNat):∀ j,j <=x.qV.length ->∀ e ∈ (Yw u x j).2,e.deed=1 ->∃ y ∈ ZF u x.Z9.toNat,e.n=y.msg∧e.hops=y.hops∧e.place=y.place:=by
 intro j
 induction j with
 | zero=>intro _ e he;cases he
 | succ j ih=>
   intro hj e he hd;have he:e ∈ (Yw u x j).2 ++ Zmy (Yw u x j).1 x.Z9.toNat (WY x j):=he;rcases List.mem_append.1 he with q | q
   ·exact ih (by omega) e q hd
   ·rcases List.mem_cons.1 q with q | q
    ·rw [q] at hd;exact absurd (show(3:Int)=1 from hd) (by omega)
    ·obtain⟨y,hy,rfl⟩:=List.mem_map.1 q;have:= (ZiH u x s v j (by omega) _ y (List.mem_filter.1 hy).1).1;exact⟨y,this,rfl,rfl,rfl⟩
theorem ZuA (h:Wm w) {k:Nat} (hk:k < w.qG.length):Gets w (XZ w k).2:=by
 intro ev he hd;rcases Wq h (x:=ZB w k) (Yj hk) with e | e | e
 ·rw [ZeK e] at he;have own:InM w (ZB w k).Yb:= .inr ⟨ZB w k,Yj hk,e,rfl⟩;unfold Xu at he;split at he
  ·rw [List.mem_singleton.1 he];exact⟨_,own,rfl,rfl,rfl⟩
  ·split at he <;> cases he
 ·rw [ZeJ e] at he;have v:=h.mvl (Yj hk:ZB w k ∈ w.qG) e;obtain⟨y,hy,r⟩:=ZqQ (Z7 w k) (ZB w k) (h.shr.WT.Z7 k) ⟨v.Z9,v.hm,v.len,v.few,v.rng⟩ (ZB w k).qV.length (Nat.le_refl _) ev he hd;exact⟨y,.inl ⟨_,v.hm,hy⟩,r⟩
 ·rw [ZeI e] at he;cases he
abbrev Zd9:=List (Int×Int)
abbrev Zd8:=List (Int×Bool)
structure HI (w:Zb) (A:Zd9) (B:Zd8):Prop where
 ka:∀ x ∈ A,x.1 < w.said∧0 <=x.2∧x.2 <=30
 kb:∀ x ∈ B,x.1 < w.said
 ml:∀ y,InM w y ->∀ a,QI A y.msg=some a ->y.hops <=1 + y.age - a∧(QI B y.msg).getD false=false
def ZAS (x:Zb) (A:Zd9) (B:Zd8) (e:ZI):Prop:=Uh e.place x.Zv.length∧∀ a,QI A e.n=some a ->0 <=a∧a <=30∧e.hops <=1 + (sp x e.place.toNat).age - a∧(QI B e.n).getD false= (e.hops==0)
theorem HI.goes {u:Zb} {A:Zd9} {B:Zd8} (i:HI w A B) (hs:w.said <=u.said) (g:Goes w u):HI u A B:=by
 refine⟨fun x hx=>by have:=i.ka x hx;omega,fun x hx=>by have:=i.kb x hx;omega,fun y hy a ha=>?_⟩;rcases g y hy with q | ⟨z,e,q,r,s⟩
 ·exact i.ml y q a ha
 ·rw [r] at ha;have:=i.ml z q a ha;rw [r];refine⟨?_,this.2⟩;show z.hops + 1 <=1 + e.age - a;omega
theorem HI.gets {u:Zb} {A:Zd9} {B:Zd8} (h:Wm w) (i:HI w A B) {ev:List ZI} (g:Gets w ev) (hin:u.Zv.length=w.Zv.length) (hs:∀ p,p < w.Zv.length ->(sp w p).age <= (sp u p).age):∀ e ∈ ev,e.deed=1 ->ZAS u A B e:=by
 intro e he hd;obtain⟨y,hy,e1,e2,e3⟩:=g e he hd;have o:=hy.ok h;have o1:=o.1;unfold Uh at o1;have s:=hs y.place.toNat (by omega);refine⟨by rw [e3,hin];exact o.1,fun a ha=>?_⟩;rw [e1] at ha ⊢;have m:=i.ml y hy a ha;have k:=i.ka _ (Zxo ha);rw [e2,e3];refine⟨k.2.1,k.2.2,by omega,?_⟩;rw [m.2,Yg,decide_eq_false (by omega)]
theorem Zk2 {ν:Type} {l:List (Int×ν)} {k:Int} (h:k ∉ l.map (·.1)) (z x:ν):Uw (Zhd l k z) k x=l ++ [(k,x)]:=by
 have e:Zhd l k z=l ++ [(k,z)]:=by
  unfold Zhd;rw [KP.2 fun p hp e=>h (List.mem_map.2 ⟨p,hp,e⟩)]
 rw [e]
 have e2:Y4 (l ++ [(k,z)]) k=some (0 + l.length,z):=by
  rw [Zbb (KP.2 fun p hp e=>h (List.mem_map.2 ⟨p,hp,e⟩))];have:Y4 [(k,z)] k=some (0,z):=by rw [ZoB,if_pos rfl]
  rw [this];rfl
 unfold Uw;rw [e2];dsimp only;rw [Nat.zero_add,List.modify_eq_take_cons_drop (by simp)];simp
theorem Kq {ν:Type} {l:List (Int×ν)} {k n:Int} {x:ν} (h:k ∉ l.map (·.1)):QI (l ++ [(k,x)]) n=if n=k then some x else QI l n:=by
 by_cases e:n=k
 ·rw [if_pos e,e,ZaH (Zun h)];unfold QI Y4;rw [if_pos rfl];rfl
 ·rw [if_neg e];cases q:QI l n with
  | some v=>exact ZfJ q
  | none=>
    rw [ZaH q];unfold QI Y4;rw [if_neg (fun z=>e z.symm)];rfl
def Zb9 (w:Zb) (A:Zd9) (B:Zd8) (s:Zx):Zd9×Zd8:=if s.act=1 then(A ++ [(w.said,(E w s.a.toNat s.b.toNat).age)],B ++ [(w.said,(E w s.a.toNat s.b.toNat).here)]) else(A,B)
theorem ZqF (h:Wm w) {s:Zx} (m:May w s) (c1:s.act ≠ 1) (c5:s.act ≠ 5):Goes w (doW w s).1∧(∀ e ∈ (doW w s).2,e.deed ≠ 1):=by
 rcases m.act with c | c | c | c | c
 ·exact absurd c c1
 ·rw [do2 c];refine⟨fun y hy=>.inl ?_,fun e he=>?_⟩
  ·rcases hy with⟨m',hm,z⟩ | ⟨x,hx,k,r⟩
   ·rw [ZbQ] at hm;exact .inl ⟨m',hm,z⟩
   ·rcases List.mem_append.1 hx with q | q
    ·exact .inr ⟨x,q,k,r⟩
    ·rw [List.mem_singleton.1 q] at k;exact absurd (show(2:Int)=1 from k) (by omega)
  ·obtain⟨q,_,rfl⟩:=List.mem_map.1 he;show(2:Int) ≠ 1;omega
 ·rw [do3 c];exact⟨fun y hy=>.inl hy,fun e he=>by cases he⟩
 ·rw [do4 c];exact⟨fun y hy=>.inl hy,fun e he=>by cases he⟩
 ·exact absurd c c5
theorem Zsu (h:Wd w) {A:Zd9} {B:Zd8} (i:HI w A B) {s:Zx} (m:May w s):
 HI (doW w s).1 (Zb9 w A B s).1 (Zb9 w A B s).2∧∀ e ∈ (doW w s).2,e.deed=1 ->ZAS (doW w s).1 (Zb9 w A B s).1 (Zb9 w A B s).2 e:=by
 have ds:=ZhF h.wm m;by_cases c:s.act=1
 ·have a:=m.say c;obtain⟨k,ek,hk⟩:=a.1.nat;obtain⟨p,ep,hp⟩:=a.2.nat
  have fa:w.said ∉ A.map (·.1):=fun z=>by
   obtain⟨x,hx,e⟩:=List.mem_map.1 z;have:= (i.ka x hx).1;have e:x.1=w.said:=e;omega
  have fb:w.said ∉ B.map (·.1):=fun z=>by
   obtain⟨x,hx,e⟩:=List.mem_map.1 z;have:=i.kb x hx;have e:x.1=w.said:=e;omega
  have hE:=h.shr.ent k hk p hp;unfold Zb9;rw [if_pos c] at ds ⊢;dsimp only;have sa:=ds.2.2.1;rw [do1 c] at sa ⊢;have eS:E (ZaC w) s.a.toNat (ZlR w s).place.toNat=E w s.a.toNat s.b.toNat:=rfl;have eE:E w s.a.toNat s.b.toNat=E w k p:=by rw [ek,ep,Int.toNat_natCast,Int.toNat_natCast]
  refine⟨⟨fun x hx=>?_,fun x hx=>?_,fun y hy n hn=>?_⟩,fun e he hd=>?_⟩
  ·rcases List.mem_append.1 hx with q | q
   ·have:=i.ka x q;omega
   ·rw [List.mem_singleton.1 q,eE];exact⟨by dsimp only;omega,hE.1,hE.2.1⟩
  ·rcases List.mem_append.1 hx with q | q
   ·have:=i.kb x q;omega
   ·rw [List.mem_singleton.1 q];dsimp only;omega
  ·rcases ZkY (u:=ZaC w) h.shr.WT.hd (by rw [ek,Int.toNat_natCast];exact hk) hy with q | ⟨q,_⟩ | ⟨q1,q2,_⟩
   ·have ms:=InM.msg h (y:=y) (by rcases q with⟨m',a1,a2⟩ | ⟨x',a1,a2⟩;exact .inl ⟨m',a1,a2⟩;exact .inr ⟨x',a1,a2⟩);rw [Kq fa,if_neg (by omega)] at hn;rw [Kq fb,if_neg (by omega)];exact i.ml y (by rcases q with⟨m',a1,a2⟩ | ⟨x',a1,a2⟩;exact .inl ⟨m',a1,a2⟩;exact .inr ⟨x',a1,a2⟩) n hn
   ·cases q
   ·rw [eS] at q1 q2;have my:y.msg=w.said:=by rw [q2];rfl
    rw [my,Kq fa,if_pos rfl] at hn;rw [my,Kq fb,if_pos rfl];have hn:=Oi0 hn;refine⟨?_,q1⟩;rw [← hn,q2];show(0:Int) + 1 <=1 + (E w s.a.toNat s.b.toNat).age - (E w s.a.toNat s.b.toNat).age;omega
  ·have hl:=fun q=>Jk ((ZgL (ZaC w) s.a.toNat (ZlR w s) true q).trans (show YC (ZaC w) q=YC w q from rfl))
   have hin:(Xu (ZaC w) s.a.toNat (ZlR w s) true).1.Zv=w.Zv:= (Zaa _ _ _ _).1;unfold Xu at he;rw [eS] at he;by_cases d:(E w s.a.toNat s.b.toNat).here=true
   ·rw [if_pos d] at he;rw [List.mem_singleton.1 he];refine⟨by rw [hin];exact a.2,fun n hn=>?_⟩;have hn:QI (A ++ [(w.said,(E w s.a.toNat s.b.toNat).age)]) w.said=some n:=hn;rw [Kq fa,if_pos rfl] at hn;have hn:=Oi0 hn;show 0 <=n∧n <=30∧(0:Int) <=1 + (sp _ s.b.toNat).age - n∧(QI (B ++ [(w.said,(E w s.a.toNat s.b.toNat).here)]) w.said).getD false= ((0:Int)==0);rw [hl,Kq fb,if_pos rfl,d,← hn,eE];have o:=h.wm.only hp hk (by rw [← eE];exact d);rw [ep,Int.toNat_natCast,o.1];refine⟨hE.1,hE.2.1,?_,rfl⟩;dsimp only;omega
   ·rw [if_neg d,if_neg (by simp)] at he;cases he
 ·have e0:Zb9 w A B s= (A,B):=by unfold Zb9;rw [if_neg c]
  rw [if_neg c] at ds;rw [e0];by_cases c5:s.act=5
  ·have hk:=m.lnd c5;rw [do5 c5] at ds ⊢;have sd:=ds.2.2.1;exact⟨i.goes (by omega) (Zuz h.wm hk),i.gets h.wm (ZuA h.wm hk) ds.1 fun p hp=>by rw [(Zmf h.wm hk hp).2];exact Int.le_refl _⟩
  ·have o:=ZqF h.wm m c c5;have sd:=ds.2.2.1;exact⟨i.goes (by omega) o.1,fun e he hd=>absurd hd (o.2 e he)⟩
theorem Zle (hF:400000 <=F) (hM:F <=1000000) {x:Zb} (hd:Wd x) (smx:WM 400 x) {ev:List ZI} (hl:ev.length <=1000) {A:Zd9} {B:Zd8} (hg:∀ e ∈ ev,e.deed=1 ->ZAS x A B e) (v15:Int) (err:Int) (next:Int×List Int×List (List Int)×List (List Zw)×List (List Zr)×List Ze×Int×Zd9×Zd8 ->Option Bool):
 Zlh F v15 next (x,ev,err) (A,B)=next (Xa (v15 + 1),x.Zv,x.qK,x.qQ,x.qJ,x.qG,x.said,A,B):=by
 unfold Zlh;refine Yp (fun k=>(k:Int)) rfl (n:=ev.length) (by omega) (fun k hk nx=>?_) (fun nx=>?_)
 ·have hg:=hg _ (Yj (d:=default) hk);unfold Ztr;dsimp only;rw [ZO hk,Cq1,YM default hk];simp only [Bq0];generalize ev.getD k default=e at hg ⊢;by_cases d:e.deed=1
  ·obtain⟨hr,ha⟩:=hg d;obtain⟨p,ep,hp⟩:=hr.nat;have ag:=hd.wm.ZbS hp;rw [d,QE,Cq0,ZKe,decide_eq_true ⟨hr.1,hr.2⟩];simp only [Bq0];rw [Bool.not_true,Cq0,ep,ZtX hF smx hd hp];rw [ep,Int.toNat_natCast] at ha;unfold ZwU ZFK Zlg;simp only [Bq0];cases q:QI A e.n with
   | none=>simp only [Option.getD_none,Option.isSome_none,Bool.false_and,Xv,Bq0,Cq0,YD (show k < 4611686018427387904 by omega)]
   | some a=>
     obtain⟨a0,a1,a2,a3⟩:=ha a q
     have g0:0 <= (sp x p).age:=by
      rcases Zaz (hd.loc p hp) with⟨m,hm,_,e⟩ | ⟨y,hy,hk2,i,hi,hpi,e⟩
      ·rw [e];exact(hd.shr.ent m hm p hp).1
      ·rw [e];have:= (hd.shr.Xd y hy).WY i hi;unfold Ke at this;dsimp only;omega
     have ew:Xa (Xa (1 + (sp x p).age) - a)=1 + (sp x p).age - a:=by
      rw [Zah (n:=1 + (sp x p).age) (by omega) (by omega),Zah (by omega) (by omega)]
     have ed:decide (e.hops > Xa (Xa (1 + (sp x p).age) - a))=false:=decide_eq_false (by rw [ew];omega);show((gd (true && !decide (e.hops > Xa (Xa (1 + (sp x p).age) - a))) (some ((QI B e.n).getD false)) default).bind fun Zee=>(bif(true && (decide (e.hops > Xa (Xa (1 + (sp x p).age) - a)) || (Zee != (e.hops==0)))) then some false else nx (Xa ((k:Int) + 1))))=_;rw [ed,Bool.not_false,Bool.and_self,YR];simp only [Bq0];rw [a3,QE,Bool.or_self,Bool.and_false,Cq0,YD (by omega)]
  ·rw [QZ,decide_eq_true d,Cq1];unfold Zlg;rw [YD (by omega)]
 ·unfold Ztr Zlj;dsimp only;rw [ZT,Cq0]
def Zan (l:List Zx) (k:Nat):Zx:=if k < l.length then l.getD k default else⟨5,0,0⟩
def Zkn (st:Zb×Zd9×Zd8) (s:Zx):Zb×Zd9×Zd8:=if Ask st.1 s∧ZbE st.1 s=0 then((doW st.1 s).1,Zb9 st.1 st.2.1 st.2.2 s) else st
def Q9 (w:Zb) (l:List Zx):Nat ->Zb×Zd9×Zd8
 | 0=>(w,[],[])
 | k + 1=>Zkn (Q9 w l k) (Zan l k)
theorem Zo2 (w:Zb) (l:List Zx):∀ k,k <=l.length ->(Q9 w l k).1= (KI w l k).1:=by
 intro k
 induction k with
 | zero=>intro _;rfl
 | succ k ih=>
   intro hk;have e:=ih (by omega);have t:Zan l k=l.getD k default:=by unfold Zan;rw [if_pos (by omega)]
   show(Zkn (Q9 w l k) (Zan l k)).1= (Zn1 (KI w l k) k (l.getD k default)).1;rw [t];generalize Q9 w l k=st at e ⊢;generalize KI w l k=sp at e ⊢;obtain⟨v,m⟩:=st;obtain⟨v',m'⟩:=sp;have e:v=v':=e;subst e;unfold Zn1 Zkn;dsimp only;split
   ·rfl
   ·rfl
theorem Zxx {v:Zb}:Ask v ⟨5,0,0⟩∧ZbE v ⟨5,0,0⟩=0↔v.qG ≠ []:=by
 have e0:ZbE v ⟨5,0,0⟩=0:=ZIu.2 ⟨rfl,⟨fun z=>absurd (show(5:Int)=2 from z) (by omega),fun z=>absurd (show(5:Int)=3 from z) (by omega),fun z=>absurd (show(5:Int)=4 from z) (by omega)⟩⟩
 constructor
 ·rintro⟨a,_⟩ z;rcases a with⟨q,_⟩ | ⟨q,_⟩ | ⟨q,_⟩ | ⟨q,_⟩ | ⟨_,q⟩
  ·exact absurd (show(5:Int)=1 from q) (by omega)
  ·exact absurd (show(5:Int)=2 from q) (by omega)
  ·exact absurd (show(5:Int)=3 from q) (by omega)
  ·exact absurd (show(5:Int)=4 from q) (by omega)
  ·rw [z] at q;exact absurd q.2 (by show ¬ (0:Int) < 0;omega)
 ·intro z;have:=List.length_pos_iff.2 z;exact⟨.inr (.inr (.inr (.inr ⟨rfl,by show(0:Int) <=0;omega,by show(0:Int) < _;omega⟩))),e0⟩
theorem ZfR (w:Zb) (l:List Zx):∀ d,(Q9 w l (l.length + d)).1= (Kt (KI w l l.length).1 [] d).1:=by
 intro d
 induction d with
 | zero=>exact Zo2 w l l.length (Nat.le_refl _)
 | succ d ih=>
   have t:Zan l (l.length + d)= ⟨5,0,0⟩:=by unfold Zan;rw [if_neg (by omega)]
   have es:Q9 w l (l.length + (d + 1))=Zkn (Q9 w l (l.length + d)) (Zan l (l.length + d)):=rfl;have ed:Kt (KI w l l.length).1 [] (d + 1)=if(Kt (KI w l l.length).1 [] d).1.qG= [] then Kt (KI w l l.length).1 [] d else((XZ (Kt (KI w l l.length).1 [] d).1 0).1,(Kt (KI w l l.length).1 [] d).2 ++ (XZ (Kt (KI w l l.length).1 [] d).1 0).2):=rfl
   rw [es,ed,t];generalize Q9 w l (l.length + d)=st at ih ⊢;generalize Kt (KI w l l.length).1 [] d=sp at ih ⊢;obtain⟨v,m⟩:=st;obtain⟨v',m'⟩:=sp;have e:v=v':=ih;subst e;unfold Zkn;dsimp only;by_cases c:v.qG= []
   ·rw [if_pos c,if_neg fun z=>Zxx.1 z c]
   ·rw [if_neg c,if_pos (Zxx.2 c),do5 rfl]
    rfl
theorem ZQO (h:Wd w) (l:List Zx):∀ k,Wd (Q9 w l k).1∧HI (Q9 w l k).1 (Q9 w l k).2.1 (Q9 w l k).2.2:=by
 intro k
 induction k with
 | zero=>exact⟨h,⟨fun x hx=>(by cases hx),fun x hx=>(by cases hx),fun y _ a ha=>by cases ha⟩⟩
 | succ k ih=>
   show Wd (Zkn (Q9 w l k) (Zan l k)).1∧HI (Zkn (Q9 w l k) (Zan l k)).1 (Zkn (Q9 w l k) (Zan l k)).2.1 (Zkn (Q9 w l k) (Zan l k)).2.2;unfold Zkn;by_cases c:Ask (Q9 w l k).1 (Zan l k)∧ZbE (Q9 w l k).1 (Zan l k)=0
   ·rw [if_pos c];have m:=Zmd.2 c;exact⟨ZzZ ih.1 m,(Zsu ih.1 ih.2 m).1⟩
   ·rw [if_neg c];exact ih
theorem ZxV (h:Wd w) {l:List Zx} (hl:l.length <=80) (hw:w.qG.length <=200) (k:Nat):(Q9 w l k).1.qG.length <=360:=by
 by_cases c:k <=l.length
 ·rw [Zo2 w l k c];have:= (ZsJ h l k).qG;omega
 ·obtain⟨d,rfl⟩:∃ d,k=l.length + d:= ⟨k - l.length,by omega⟩
  rw [ZfR];have:= (ZsJ h l l.length).qG;exact ZC8 (ZsJ h l l.length).wd [] (M:=280) (by omega) (by rw [List.length_nil];omega) d
theorem Zk9 (hF:400000 <=F) (hM:F <=1000000) {v:Zb} (h:Wd v) (hw:v.qG.length <=360) {A:Zd9} {B:Zd8} (i:HI v A B) (l:List Zx) (s:Zx) {k:Nat} (hk:k < 100000) (hlt:Ask v s∧ZbE v s=0∨k < l.length) (next:Int×List Int×List (List Int)×List (List Zw)×List (List Zr)×List Ze×Int×Zd9×Zd8 ->Option Bool):
 Zli F l (k:Int) v.Zv v.qK v.qQ v.qJ v.qG v.said A B next (s.act,s.a,s.b)=
  (fun st:Zb×Zd9×Zd8=>next (((k + 1:Nat):Int),st.1.Zv,st.1.qK,st.1.qQ,st.1.qJ,st.1.qG,st.1.said,st.2.1,st.2.2)) (if Ask v s∧ZbE v s=0 then((doW v s).1,Zb9 v A B s) else(v,A,B)):=by
 have sm:WM 400 v:=ZnN h (by omega) (by omega);unfold Zli;dsimp only;rw [show Zb.mk v.Zv v.qK v.qQ v.qJ v.qG v.said=v from rfl,show Zx.mk s.act s.a s.b=s from rfl];by_cases c:Ask v s∧ZbE v s=0
 ·have m:=Zmd.2 c;have ds:=ZhF h.wm m;have hd:=ZzZ h m;have en:=Zz0 h m;have si:=Zsu h i m;have smx:WM 400 (doW v s).1:=ZnN hd (by omega) (by omega);rw [if_pos c,ZtB hF hM h sm c.1,if_pos c.2];simp only [Bq0];rw [QE,Cq0,Zv0 hF smx hd];simp only [Bq0];rw [Bool.not_true,ds.1,ds.2.1,QE,QE,Bool.or_self,Bool.or_self,Cq0];have mp:Zb9 v A B s=if s.act=1 then(A ++ [(v.said,(E v s.a.toNat s.b.toNat).age)],B ++ [(v.said,(E v s.a.toNat s.b.toNat).here)]) else(A,B):=rfl
  by_cases a:s.act=1
  ·rw [if_pos a] at mp;rw [mp] at si ⊢;have sy:=m.say a;obtain⟨q,eq,hq⟩:=sy.1.nat;obtain⟨p,ep,hp⟩:=sy.2.nat
   have fa:v.said ∉ A.map (·.1):=fun z=>by
    obtain⟨x,hx,e⟩:=List.mem_map.1 z;have:= (i.ka x hx).1;have e:x.1=v.said:=e;omega
   have fb:v.said ∉ B.map (·.1):=fun z=>by
    obtain⟨x,hx,e⟩:=List.mem_map.1 z;have:=i.kb x hx;have e:x.1=v.said:=e;omega
   rw [Yg,decide_eq_true a,Cq1,ZDs,decide_eq_true c.1];simp only [Bq0];rw [Bool.not_true,Cq0,eq,ep,h.shr.WT.row hq];simp only [Bq0];rw [h.shr.WT.ent hq hp];simp only [Bq0];rw [Zk2 fa,Zk2 fb];rw [eq,ep,Int.toNat_natCast,Int.toNat_natCast] at si;rw [Int.toNat_natCast,Int.toNat_natCast,Zle hF hM hd smx (by omega) si.2,YD (by omega)]
  ·rw [if_neg a] at mp;rw [mp] at si ⊢;rw [Yg,decide_eq_false a,Cq0,Zle hF hM hd smx (by omega) si.2,YD (by omega)]
 ·have hkl:k < l.length:=by
   rcases hlt with q | q
   ·exact absurd q c
   ·exact q
  have:∃ e x ev,Zpu F v s=some (x,ev,e)∧e ≠ 0:=by
   by_cases a:Ask v s
   ·have ne:ZbE v s ≠ 0:=fun z=>c ⟨a,z⟩
    exact⟨_,_,_,by rw [ZtB hF hM h sm a,if_neg ne],ne⟩
   ·exact⟨2,_,_,ZDa hF hM sm fun z=>a z.2,by omega⟩
  obtain⟨e,x,ev,ef,ne⟩:=this;rw [if_neg c,ef];simp only [Bq0];rw [QZ,decide_eq_true ne,Cq1,decide_eq_false (by omega),Cq0];unfold Zlj;dsimp only;rw [YD (by omega)]
theorem ZkL (F:Nat) (hF:400000 <=F) (hM:F <=1000000) (w:Zb) (l:List Zx):f7L F w l=some true:=by
 obtain⟨b,eb,ib⟩:=Zzc hF w l [] (by simp) (fun p hp=>by cases hp);unfold f7L;rw [eb];simp only [Bq0];cases b with
 | false=>rfl
 | true=>
 obtain⟨sm0,h,hl,_⟩:=ib rfl;have hwl:=sm0.qG;have P:=ZsJ h l l.length;have pw:=P.qG;obtain⟨n,hn,he,hlt⟩:=ZC9 P.wd [];have hb:=ZIL P.wd;rw [Bool.not_true,Cq0];refine Yp (fun k=>((k:Int),(Q9 w l k).1.Zv,(Q9 w l k).1.qK,(Q9 w l k).1.qQ,(Q9 w l k).1.qJ,(Q9 w l k).1.qG,(Q9 w l k).1.said,(Q9 w l k).2.1,(Q9 w l k).2.2)) rfl (n:=l.length + n) (by omega) (fun k hk next=>?_) (fun next=>?_)
 ·have I:=ZQO h l k;have hw:=ZxV h hl (by omega) k;have st:Q9 w l (k + 1)=if Ask (Q9 w l k).1 (Zan l k)∧ZbE (Q9 w l k).1 (Zan l k)=0 then((doW (Q9 w l k).1 (Zan l k)).1,Zb9 (Q9 w l k).1 (Q9 w l k).2.1 (Q9 w l k).2.2 (Zan l k)) else Q9 w l k:=rfl
  unfold Zts;dsimp only;by_cases c:k < l.length
  ·have t:Zan l k=l.getD k default:=by unfold Zan;rw [if_pos c]
   rw [ZO c,Bool.true_or,Cq1,Cq1,YM default c];simp only [Bq0];rw [Zk9 hF hM I.1 hw I.2 l (l.getD k default) (by omega) (.inr c),st,t]
  ·have t:Zan l k= ⟨5,0,0⟩:=by unfold Zan;rw [if_neg c]
   obtain⟨d,rfl⟩:∃ d,k=l.length + d:= ⟨k - l.length,by omega⟩
   have nw:(Q9 w l (l.length + d)).1.qG ≠ []:=by rw [ZfR];exact hlt d (by omega)
   have pos:=List.length_pos_iff.2 nw;rw [decide_eq_false (show ¬ ((l.length + d:Nat):Int) < (l.length:Int) by omega),decide_eq_true (show((Q9 w l (l.length + d)).1.qG.length:Int) > 0 by omega),decide_eq_true (show((l.length + d:Nat):Int) < 3000 by omega),Bool.and_self,Bool.or_true,Cq1,Cq0];have:=Zk9 hF hM I.1 hw I.2 l ⟨5,0,0⟩ (k:=l.length + d) (by omega) (.inl (Zxx.2 nw)) next;rw [this,st,t]
 ·have ew:(Q9 w l (l.length + n)).1.qG= []:=by rw [ZfR];exact he
  unfold Zts;dsimp only;rw [decide_eq_false (show ¬ ((l.length + n:Nat):Int) < (l.length:Int) by omega),ew,decide_eq_false (show ¬ (([]:List Ze).length:Int) > 0 by simp),Bool.false_and,Bool.or_self,Cq0]
  rfl
end
end Go.Proofs.YtbmbbcaaimehkaaGreat
end
