/- Together Part 14 of the proof. -/
import Derived.Test.YtbmbbcaaimehkaaGreatTa13
set_option linter.all false
set_option maxHeartbeats 2000000
section
namespace Go.Proofs.YtbmbbcaaimehkaaGreat
open Go.Lf
def Wth (w:Zb) (p x:Nat):Prop:=∃ j,up w j (x:Int)= (p:Int)
theorem Wth.bound {w:Zb} (hi:Inn w) {p x:Nat} (hx:x < w.Zv.length) (h:Wth w p x):∃ j,j < w.Zv.length∧up w j (x:Int)= (p:Int):=by
 obtain⟨j,e⟩:=h;refine⟨j,Classical.byContradiction fun q=>?_,e⟩;have:=Un (hi.acy x hx) (show w.Zv.length <=j by omega);omega
def ZAz (w:Zb) (p x:Nat):Bool:= (List.range w.Zv.length).any fun j=>up w j (x:Int)== (p:Int)
theorem ZdV {w:Zb} (hi:Inn w) {p x:Nat} (hx:x < w.Zv.length):ZAz w p x=true↔Wth w p x:=by
 unfold ZAz;rw [List.any_eq_true]
 constructor
 ·rintro⟨j,_,e⟩;exact⟨j,beq_iff_eq.1 e⟩
 ·intro h;obtain⟨j,hj,e⟩:=h.bound hi hx;exact⟨j,List.mem_range.2 hj,beq_iff_eq.2 e⟩
def Zgh (w:Zb) (p k:Nat):List Int:= ((List.range k).filter (ZAz w p)).map Int.ofNat
def Yq (w:Zb) (p:Nat):List Int:=Zgh w p w.Zv.length
theorem ZeZ (w:Zb) (p k:Nat):(Zgh w p k).length <=k:=by
 unfold Zgh;rw [List.length_map];have:=List.length_filter_le (ZAz w p) (List.range k)
 rwa [List.length_range] at this
theorem Zko {w:Zb} (hi:Inn w) {p:Nat} {y:Int}:y ∈ Yq w p↔∃ x:Nat,y= (x:Int)∧x < w.Zv.length∧Wth w p x:=by
 unfold Yq Zgh;rw [List.mem_map]
 constructor
 ·rintro⟨x,h1,rfl⟩;obtain⟨h2,h3⟩:=List.mem_filter.1 h1;have:=List.mem_range.1 h2;exact⟨x,rfl,this,(ZdV hi this).1 h3⟩
 ·rintro⟨x,rfl,h1,h2⟩;exact⟨x,List.mem_filter.2 ⟨List.mem_range.2 h1,(ZdV hi h1).2 h2⟩,rfl⟩
theorem ZdW (w:Zb) (p:Nat):(Yq w p).Pairwise (· <=·):=by
 unfold Yq Zgh;rw [List.pairwise_map];exact(List.pairwise_lt_range.filter _).imp fun{a b} h=>by show(a:Int) <= (b:Int);omega
theorem J8 (w:Zb) (p:Nat):(Yq w p).Nodup:=by
 unfold Yq Zgh;exact List.Pairwise.map _ (fun a b h q=>h (by have:((a:Nat):Int)= ((b:Nat):Int):=q;omega)) (List.nodup_range.filter _)
def desc (w:Zb):Nat ->Nat ->List Int
 | 0,_=>[]
 | d + 1,v=>(v:Int)::(List.range w.Zv.length).flatMap fun k:Nat=>if inn w (k:Int)= (v:Int) then desc w d k else []
def ZeO (w:Zb) (d v:Nat):Prop:=∀ k,k < w.Zv.length ->∀ j,d <=j ->up w j (k:Int) ≠ (v:Int)
theorem ZeO.all {w:Zb} (hi:Inn w) {v:Nat}:ZeO w w.Zv.length v:=fun k hk j hj q=>by
 have:=Un (hi.acy k hk) hj;omega
theorem Zd1 {w:Zb} {x k v j:Nat} (h1:up w j (x:Int)= (k:Int)) (h2:inn w (k:Int)= (v:Int)):up w (j + 1) (x:Int)= (v:Int):=by
 rw [Qx,h1,if_neg (by omega),h2]
theorem ZeO.kid {w:Zb} {d v k:Nat} (h:ZeO w (d + 1) v) (h2:inn w (k:Int)= (v:Int)):ZeO w d k:=fun x hx j hj q=>h x hx (j + 1) (by omega) (Zd1 q h2)
theorem ZeC {w:Zb} (hi:Inn w):∀ d v,v < w.Zv.length ->ZeO w d v ->∀ y:Int,y ∈ desc w d v↔∃ x:Nat,y= (x:Int)∧x < w.Zv.length∧Wth w v x:=by
 intro d
 induction d with
 | zero=>intro v hv hs;exact absurd rfl (hs v hv 0 (Nat.le_refl _))
 | succ d ih=>
   intro v hv hs y;unfold desc;rw [List.mem_cons,List.mem_flatMap]
   constructor
   ·rintro(h | ⟨k,hk,h⟩)
    ·exact⟨v,h,hv,0,rfl⟩
    ·by_cases e:inn w (k:Int)= (v:Int)
     ·rw [if_pos e] at h;obtain⟨x,h1,h2,j,h3⟩:= (ih k (List.mem_range.1 hk) (hs.kid e) y).1 h;exact⟨x,h1,h2,j + 1,Zd1 h3 e⟩
     ·rw [if_neg e] at h;cases h
   ·rintro⟨x,rfl,hx,j,hj⟩;cases j with
    | zero=>exact .inl hj
    | succ j=>
      right;rw [Qx] at hj;by_cases hn:up w j (x:Int) < 0
      ·rw [if_pos hn] at hj;omega
      ·rw [if_neg hn] at hj;obtain⟨k,e,hk⟩:=QN (hi.up (q:= (x:Int)) ⟨by omega,by omega⟩ j) hn;rw [e] at hj;refine⟨k,List.mem_range.2 hk,?_⟩;rw [if_pos hj];exact(ih k hk (hs.kid hj) _).2 ⟨x,rfl,hx,j,e⟩
theorem ZhO {w:Zb} (hi:Inn w) {v j:Nat} (hv:v < w.Zv.length) (hj:0 < j):up w j (v:Int) ≠ (v:Int):=by
 intro e
 have h:∀ m,up w (m * j) (v:Int)= (v:Int):=by
  intro m
  induction m with
  | zero=>rw [Nat.zero_mul];rfl
  | succ m ih=>rw [Nat.succ_mul,up_add,ih,e]
 have:=h w.Zv.length;have h2:=Un (hi.acy v hv) (show w.Zv.length <=w.Zv.length * j from Nat.le_mul_of_pos_right _ hj);omega
theorem Zrm {w:Zb} (hi:Inn w):∀ d v,v < w.Zv.length ->ZeO w d v ->(desc w d v).Nodup:=by
 intro d
 induction d with
 | zero=>intro v hv hs;exact absurd rfl (hs v hv 0 (Nat.le_refl _))
 | succ d ih=>
   intro v hv hs;unfold desc;rw [List.nodup_cons];refine⟨fun h=>?_,?_⟩
   ·obtain⟨k,hk,h⟩:=List.mem_flatMap.1 h;by_cases e:inn w (k:Int)= (v:Int)
    ·rw [if_pos e] at h;obtain⟨x,h1,h2,j,h3⟩:= (ZeC hi d k (List.mem_range.1 hk) (hs.kid e) _).1 h;have:x=v:=by omega
     subst this;exact ZhO hi hv (Nat.succ_pos j) (Zd1 h3 e)
    ·rw [if_neg e] at h;cases h
   ·unfold List.Nodup;rw [List.pairwise_flatMap];refine⟨fun k hk=>?_,?_⟩
    ·by_cases e:inn w (k:Int)= (v:Int)
     ·rw [if_pos e];exact ih k (List.mem_range.1 hk) (hs.kid e)
     ·rw [if_neg e];exact List.Pairwise.nil
    ·refine List.Pairwise.imp_of_mem (R:= (· < ·)) (fun{a b} ha hb hab y hy z hz e=>?_) List.pairwise_lt_range;subst e;by_cases ea:inn w (a:Int)= (v:Int)
     ·rw [if_pos ea] at hy;by_cases eb:inn w (b:Int)= (v:Int)
      ·rw [if_pos eb] at hz;obtain⟨x,h1,h2,j1,h3⟩:= (ZeC hi d a (List.mem_range.1 ha) (hs.kid ea) _).1 hy;obtain⟨x',h1',h2',j2,h4⟩:= (ZeC hi d b (List.mem_range.1 hb) (hs.kid eb) _).1 hz;have:x=x':=by omega
       subst this;have u1:=Zd1 h3 ea;have u2:=Zd1 h4 eb;rcases Nat.lt_trichotomy j1 j2 with q | q | q
       ·rw [show j2 + 1= (j1 + 1) + (j2 - j1) by omega,up_add,u1] at u2;exact ZhO hi hv (by omega) u2
       ·subst q;rw [h3] at h4;omega
       ·rw [show j1 + 1= (j2 + 1) + (j1 - j2) by omega,up_add,u2] at u1;exact ZhO hi hv (by omega) u1
      ·rw [if_neg eb] at hz;cases hz
     ·rw [if_neg ea] at hy;cases hy
theorem ZcN {w:Zb} (hi:Inn w) {v:Nat} (hv:v < w.Zv.length):(desc w w.Zv.length v).Perm (Yq w v):=
 (List.perm_ext_iff_of_nodup (Zrm hi _ v hv (ZeO.all hi)) (J8 w v)).2 fun a=>by rw [ZeC hi _ v hv (ZeO.all hi),Zko hi]
theorem ZuC {w:Zb} (hi:Inn w) {v:Nat} (hv:v < w.Zv.length):Ub (desc w w.Zv.length v)=Yq w v:=Zc0 (ZcN hi hv) (ZdW w v)
theorem Zjd {w:Zb} (hi:Inn w) {v:Nat} (hv:v < w.Zv.length):(desc w w.Zv.length v).length <=w.Zv.length:=by
 rw [(ZcN hi hv).length_eq];exact ZeZ _ _ _
def kids (w:Zb) (d v k:Nat):List Int:= (List.range k).flatMap fun k:Nat=>if inn w (k:Int)= (v:Int) then desc w d k else []
theorem Zfp (w:Zb) (d v k:Nat):kids w d v (k + 1)=kids w d v k ++ (if inn w (k:Int)= (v:Int) then desc w d k else []):=by
 unfold kids;rw [List.range_succ,List.flatMap_append];simp
theorem ZA9 {w:Zb} {d v a b:Nat} (h:a <=b):(kids w d v a).length <= (kids w d v b).length:=by
 obtain⟨c,rfl⟩:∃ c,b=a + c:= ⟨b - a,by omega⟩
 induction c with
 | zero=>exact Nat.le_refl _
 | succ c ih=>
   rw [show a + (c + 1)= (a + c) + 1 by omega,Zfp,List.length_append];have:=ih (by omega);omega
theorem gather {F:Nat} (hF:1000 <=F) {w:Zb} (h8:w.Zv.length <=8)
 {B:Int ->(Int×List Int ->Option (Bool×List Int)) ->Int×List Int ->(Int×List Int ->Option (Bool×List Int)) ->Option (Bool×List Int)}
 {R:Int×List Int ->(Int×List Int ->Option (Bool×List Int)) ->Option (Bool×List Int)}
 (hR:∀ v l next,R (v,l) next= (app 8 l [v]).bind fun z=>loop F (B v next) (0,z))
 (hB:∀ v next k l nx,B v next (k,l) nx=bif decide (k < (w.Zv.length:Int)) then(ZQ w.Zv k).bind fun x=>(bif x==v then(next (k,l)).bind fun p=>(bif !p.1 then some (false,p.2) else nx (Xa (k + 1),p.2)) else nx (Xa (k + 1),l)) else some (true,l)):
 ∀ d v l F',d < F' ->v < w.Zv.length ->ZeO w d v ->l.length + (desc w d v).length <=800000 ->loop F' R ((v:Int),l)=some (true,l ++ desc w d v):=by
 intro d
 induction d with
 | zero=>intro v l F' _ hv hs;exact absurd rfl (hs v hv 0 (Nat.le_refl _))
 | succ d ih=>
   intro v l F' hF' hv hs hlen;have ed:desc w (d + 1) v= (v:Int)::kids w d v w.Zv.length:=rfl;rw [ed,List.length_cons] at hlen;cases F' with
   | zero=>omega
   | succ F'=>
     rw [ZcC,hR,ZrE (by rw [List.length_singleton];omega)];simp only [Bq0];refine Yj (fun k=>((k:Int),l ++ [(v:Int)] ++ kids w d v k)) (by simp [kids]) (n:=w.Zv.length) (by omega) (fun k hk next=>?_) (fun next=>?_)
     ·have hle:=ZA9 (w:=w) (d:=d) (v:=v) (show k + 1 <=w.Zv.length by omega);rw [Zfp] at hle ⊢;rw [hB,ZM hk,Cq1,Xt hk];simp only [Bq0];by_cases e:inn w (k:Int)= (v:Int)
      ·rw [Yc,decide_eq_true e,Cq1,if_pos e];rw [if_pos e,List.length_append] at hle;rw [ih k _ F' (by omega) hk (hs.kid e) (by simp only [List.length_append,List.length_singleton];omega)];simp only [Bq0,Bool.not_true,Cq0];rw [Yz (by omega),← List.append_assoc]
      ·rw [Yc,decide_eq_false e,Cq0,if_neg e,List.append_nil,Yz (by omega)]
     ·rw [hB,ZT,Cq0,ed,List.append_assoc];rfl
def old (w:Zb) (q:Int):Bool:=decide ((sp w q.toNat).age >=30)
def lim (w:Zb) (s:ZH):Bool:=if s.act=1 then decide (w.said >=40) else if s.act=2 then(Yq w s.a.toNat).any (old w) else false
def Alw (w:Zb) (s:ZH):Prop:=
 (s.act=2 ->(sp w s.a.toNat).here=true∧(sp w s.a.toNat).machine ≠ s.b)∧
 (s.act=3 ->s.b ∉ Yq w s.a.toNat∧inn w s.a=-1∧(sp w s.a.toNat).here=true∧(sp w s.b.toNat).here=true∧(sp w s.a.toNat).machine= (sp w s.b.toNat).machine)∧
 (s.act=4 ->(sp w s.a.toNat).here=true∧inn w s.a ≠ -1)
instance (w:Zb) (s:ZH):Decidable (Alw w s):=by unfold Alw;infer_instance
def Zkc (w:Zb) (s:ZH):Int:=if lim w s then 3 else if Alw w s then 0 else 7
section
variable {F:Nat} {w:Zb}
theorem Wt.nat {p:Int} {n:Nat} (h:Wt p n):∃ k:Nat,p= (k:Int)∧k < n:= ⟨p.toNat,by have:=h.1;omega,by have h1:=h.1;have h2:=h.2;omega⟩
end
end Go.Proofs.YtbmbbcaaimehkaaGreat
end
section
namespace Go.Proofs.YtbmbbcaaimehkaaGreat
open Go.Lf
section
variable {F:Nat} {w:Zb}
theorem ZjQ (w:Zb) (f:Int ->Bool) (d v k:Nat):(kids w d v (k + 1)).any f= ((kids w d v k).any f || (if inn w (k:Int)= (v:Int) then(desc w d k).any f else false)):=by
 rw [Zfp,List.any_append];by_cases e:inn w (k:Int)= (v:Int)
 ·rw [if_pos e,if_pos e]
 ·rw [if_neg e,if_neg e];rfl
theorem oldest (hF:1000 <=F) (hM:F <=1000000) (h:Wd w) (sm:WH 900 w):∀ d v (x:Int) F',d < F' ->v < w.Zv.length ->ZeO w d v ->loop F' (Zca F w) ((v:Int),x,false)=some (if(desc w d v).any (old w) then(false,3,true) else(true,x,false)):=by
 have h8:=h.shr.KT.p2;intro d
 induction d with
 | zero=>intro v x F' _ hv hs;exact absurd rfl (hs v hv 0 (Nat.le_refl _))
 | succ d ih=>
   intro v x F' hF' hv hs;have ed:(desc w (d + 1) v).any (old w)= (old w (v:Int) || (kids w d v w.Zv.length).any (old w)):=rfl;rw [ed];cases F' with
   | zero=>omega
   | succ F'=>
     rw [ZcC];unfold Zca;dsimp only;rw [Cq0,Zak hF hM h sm hv];simp only [Bq0];have eo:old w (v:Int)=decide ((sp w v).age >=30):=rfl;by_cases ho:(sp w v).age >=30
     ·rw [eo,decide_eq_true ho,Cq1,Bool.not_false,Cq1,Bool.true_or];rfl
     ·rw [eo,decide_eq_false ho,Cq0,Bool.not_true,Cq0,Bool.false_or]
      change loop F (ZdD w (v:Int) (loop F' (Zca F w))) (0,x,false)=_
      have step:∀ k,k < w.Zv.length ->∀ nx,ZdD w (v:Int) (loop F' (Zca F w)) ((k:Int),x,false) nx=bif(if inn w (k:Int)= (v:Int) then(desc w d k).any (old w) else false) then some (false,3,true) else nx (((k + 1:Nat):Int),x,false):=fun k hk nx=>by
       unfold ZdD;dsimp only;rw [ZM hk,Cq1,Xt hk];simp only [Bq0];by_cases e:inn w (k:Int)= (v:Int)
       ·rw [Yc,decide_eq_true e,Cq1,if_pos e,ih k x F' (by omega) hk (hs.kid e)];simp only [Bq0];cases (desc w d k).any (old w) with
        | true=>rfl
        | false=>
          simp only [Bool.false_eq_true,if_false,Bool.not_true,Cq0];rw [Yz (by omega)]
       ·rw [Yc,decide_eq_false e,Cq0,if_neg e,Cq0,Yz (by omega)]
      have:=Zoi (F:=F) (body:=ZdD w (v:Int) (loop F' (Zca F w))) (r1:=some (false,3,true)) (r2:=some (true,x,false)) (fun k=>((k:Int),x,false)) (fun k=>if inn w (k:Int)= (v:Int) then(desc w d k).any (old w) else false) (n:=w.Zv.length) (by omega) step (fun next=>by unfold ZdD;dsimp only;rw [ZT];rfl);refine this.trans ?_
      have e2:∀ n,(List.range n).any (fun k:Nat=>if inn w (k:Int)= (v:Int) then(desc w d k).any (old w) else false)= (kids w d v n).any (old w):=by
       intro n
       induction n with
       | zero=>rfl
       | succ n ihn=>rw [List.range_succ,List.any_append,ihn,ZjQ];simp
      rw [e2];cases (kids w d v w.Zv.length).any (old w) <;> rfl
theorem ZzL {α:Type} {l l':List α} (h:l.Perm l') (f:α ->Bool):l.any f=l'.any f:=by
 rw [Bool.eq_iff_iff,List.any_eq_true,List.any_eq_true];exact⟨fun⟨x,a,b⟩=>⟨x,h.mem_iff.1 a,b⟩,fun⟨x,a,b⟩=>⟨x,h.mem_iff.2 a,b⟩⟩
theorem ZnO (hF:1000 <=F) (hM:F <=1000000) (h:Wd w) (sm:WH 900 w) {s:ZH} (ha:Ask w s):Zut F w s=some (Zkc w s):=by
 have e:∀ k:Int,(s.act==k)=decide (s.act=k):=fun k=>Yc _ _
 have h8:=h.shr.KT.p2;unfold Zut Zkc;by_cases h1:s.act=1
 ·rw [e,decide_eq_true h1,Cq1];have hA:Alw w s:= ⟨fun z=>by omega,fun z=>by omega,fun z=>by omega⟩
  unfold lim;rw [if_pos h1,if_pos hA];by_cases q:w.said >=40
  ·rw [decide_eq_true q];rfl
  ·rw [decide_eq_false q];rfl
 rw [e 1,decide_eq_false h1,Cq0];by_cases h2:s.act=2
 ·have hin:Wt s.a w.Zv.length:=by
   rcases ha with q | q | q | q | q
   ·omega
   ·exact q.2.1
   ·omega
   ·omega
   ·omega
  obtain⟨p,ep,hp⟩:=hin.nat;rw [e,decide_eq_true h2,Cq1,ep,oldest hF hM h sm w.Zv.length p 0 F (by omega) hp (ZeO.all h.shr.inn),ZzL (ZcN h.shr.inn hp)];unfold lim;rw [if_neg h1,if_pos h2,ep,Int.toNat_natCast];cases (Yq w p).any (old w) with
  | true=>rfl
  | false=>
    simp only [Bool.false_eq_true,if_false,Bq0];unfold Zmu;dsimp only;rw [Cq0,ep,Zak hF hM h sm hp];simp only [Bq0]
    have hA:Alw w s↔(sp w p).here=true∧(sp w p).machine ≠ s.b:=by
     unfold Alw;rw [ep,Int.toNat_natCast];exact⟨fun q=>q.1 h2,fun q=>⟨fun _=>q,fun z=>by omega,fun z=>by omega⟩⟩
    cases hh:(sp w p).here with
    | true=>
      by_cases q:(sp w p).machine=s.b
      ·rw [Yc,decide_eq_true q,if_neg (fun z=>(hA.1 z).2 q)];rfl
      ·rw [Yc,decide_eq_false q,if_pos (hA.2 ⟨hh,q⟩)];rfl
    | false=>
      rw [if_neg (fun z=>by have:= (hA.1 z).1;rw [hh] at this;cases this)];rfl
 have hl:lim w s=false:=by unfold lim;rw [if_neg h1,if_neg h2]
 rw [e 2,decide_eq_false h2,Cq0,hl];simp only [Bool.false_eq_true,if_false];by_cases h3:s.act=3
 ·have hin:Wt s.a w.Zv.length∧Wt s.b w.Zv.length:=by
   rcases ha with q | q | q | q | q
   ·omega
   ·omega
   ·exact q.2
   ·omega
   ·omega
  obtain⟨p,ep,hp⟩:=hin.1.nat;obtain⟨r,er,hr⟩:=hin.2.nat
  have hA:Alw w s↔s.b ∉ Yq w p∧inn w (p:Int)=-1∧(sp w p).here=true∧(sp w r).here=true∧(sp w p).machine= (sp w r).machine:=by
   unfold Alw;rw [ep,er,Int.toNat_natCast,Int.toNat_natCast];exact⟨fun q=>q.2.1 h3,fun q=>⟨fun z=>by omega,fun _=>q,fun z=>by omega⟩⟩
  rw [e,decide_eq_true h3,Cq1,ep,er,Zak hF hM h sm hp,Zak hF hM h sm hr];simp only [Bq0];rw [Xt hp];simp only [Bq0];by_cases g:inn w (p:Int)=-1∧(sp w p).here=true∧(sp w r).here=true∧(sp w p).machine= (sp w r).machine
  ·obtain⟨g1,g2,g3,g4⟩:=g;rw [g1,g2,g3,g4,Xl,Xl];simp only [Bool.not_true,Bool.or_self,Bool.not_false,Cq1];unfold Zms;simp only [Bq0]
   have hg:loop F (ZiX F w) (s.a,[])=some (true,desc w w.Zv.length p):=by
    rw [ep];have hdl:=Zjd h.shr.inn hp;exact gather hF h8 (B:=fun v next=>Zrf w v next) (R:=ZiX F w) (fun v l next=>rfl) (fun v next k l nx=>rfl) w.Zv.length p [] F (by omega) hp (ZeO.all h.shr.inn) (by simp;omega)
   unfold Zmr;rw [hg];simp only [Bq0];unfold Zmt;simp only [Bq0];have hdl:=Zjd h.shr.inn hp;obtain⟨b,eb,ib⟩:=Zag (F:=F) hF (l:=desc w w.Zv.length p) (by omega) s.b;rw [er] at eb;rw [eb];simp only [Bq0];have hm:s.b ∈ desc w w.Zv.length p↔s.b ∈ Yq w p:= (ZcN h.shr.inn hp).mem_iff;cases b with
   | true=>rw [if_neg (fun z=>(hA.1 z).1 (hm.1 (ib.1 rfl)))];rfl
   | false=>
     rw [if_pos (hA.2 ⟨fun z=>(by have:=ib.2 (hm.2 z);cases this),g1,g2,g3,g4⟩)];rfl
  ·have:(((inn w (p:Int) != (-1)) || !(sp w p).here) || !(sp w r).here || ((sp w p).machine != (sp w r).machine))=true:=by
    rw [← Bool.not_eq_false];intro z;simp only [Bool.or_eq_false_iff,bne_eq_false_iff_eq,Bool.not_eq_false'] at z;exact g ⟨z.1.1.1,z.1.1.2,z.1.2,z.2⟩
   rw [this,Bool.not_true,Cq0,if_neg (fun z=>g (hA.1 z).2)]
 rw [e 3,decide_eq_false h3,Cq0];by_cases h4:s.act=4
 ·have hin:Wt s.a w.Zv.length:=by
   rcases ha with q | q | q | q | q
   ·omega
   ·omega
   ·omega
   ·exact q.2
   ·omega
  obtain⟨p,ep,hp⟩:=hin.nat
  have hA:Alw w s↔(sp w p).here=true∧inn w (p:Int) ≠ -1:=by
   unfold Alw;rw [ep,Int.toNat_natCast];exact⟨fun q=>q.2.2 h4,fun q=>⟨fun z=>by omega,fun z=>by omega,fun _=>q⟩⟩
  rw [e,decide_eq_true h4,Cq1,ep,Zak hF hM h sm hp];simp only [Bq0];cases hh:(sp w p).here with
  | true=>
    simp only [Bool.not_true,Bool.not_false,YI,Bool.false_or];rw [Xt hp];simp only [Bq0];by_cases q:inn w (p:Int)=-1
    ·rw [Yc,decide_eq_true q,if_neg (fun z=>(hA.1 z).2 q)];rfl
    ·rw [Yc,decide_eq_false q,if_pos (hA.2 ⟨hh,q⟩)];rfl
  | false=>
    rw [if_neg (fun z=>by have:= (hA.1 z).1;rw [hh] at this;cases this)];rfl
 rw [e 4,decide_eq_false h4,Cq0,if_pos (show Alw w s from⟨fun z=>absurd z h2,fun z=>absurd z h3,fun z=>absurd z h4⟩)]
end
end Go.Proofs.YtbmbbcaaimehkaaGreat
end
section
namespace Go.Proofs.YtbmbbcaaimehkaaGreat
open Go.Lf
def Qq (w:Zb) (p:Nat):List Int:=w.qK.getD p []
def Zgu (to:Int) (y:Zr):Ze:= ⟨1,to,y,[],[],0,0,0⟩
def Zwr (to p at_ age:Int):Ze:= ⟨3,to,⟨0,0,0,0,0⟩,[],[],p,at_,age⟩
def ZwL (to:Int) (qV Yh:List Int):Ze:= ⟨2,to,⟨0,0,0,0,0⟩,qV,Yh,0,0,0⟩
def Zds (x:Zr) (e:Zw):Zr:= ⟨x.msg,x.place,x.from_,e.age,x.hops + 1⟩
def told (m:Int) (x:Zr) (e:Zw) (now:Bool):List Ze:=if now=false∧x.from_ ≠ m∧x.from_ ≠ e.Z8 then [Zwr x.from_ x.place e.Z8 e.age] else []
def XI (w:Zb) (m:Nat) (x:Zr) (now:Bool):Zb×List ZG:=
 if(E w m x.place.toNat).here=true then({w with qK:=Yr w.qK x.place (Qq w x.place.toNat ++ [x.msg])},[⟨1,x.place,(m:Int),x.msg,x.hops⟩])
 else if now=false∧(E w m x.place.toNat).age <=x.age then({w with qJ:=Yr w.qJ (m:Int) (ZF w m ++ [x])},[])
 else({w with qG:=w.qG ++ Zgu (E w m x.place.toNat).Z8 (Zds x (E w m x.place.toNat))::told (m:Int) x (E w m x.place.toNat) now},[])
section
variable {F:Nat} {w:Zb}
theorem Zzv (s:WN w) {p:Nat} (hp:p < w.Zv.length):ZQ w.qK (p:Int)=some (Qq w p):=YN [] (by rw [s.bx];exact hp)
theorem ZkJ (s:WN w) {m:Nat} (hm:m < w.qQ.length):ZQ w.qJ (m:Int)=some (ZF w m):=YN [] (by rw [s.hd];exact hm)
theorem Zta (s:WN w) (sm:WH 900 w) {p:Nat} (hp:p < w.Zv.length):(Qq w p).length < 900:=sm.box _ (YC (by rw [s.bx];exact hp))
theorem ZoL (s:WN w) (sm:WH 900 w) {m:Nat} (hm:m < w.qQ.length):(ZF w m).length < 900:=sm.hel _ (YC (by rw [s.hd];exact hm))
theorem Zv6 (s:WN w) (sm:WH 900 w) {m:Nat} {x:Zr} {p:Nat} (hx:x.place= (p:Int)) (hp:p < w.Zv.length) {ev:List ZG} (he:ev.length <=800000):
 ZgA ⟨w,ev⟩ (m:Int) x=some ⟨{w with qK:=Yr w.qK x.place (Qq w p ++ [x.msg])},ev ++ [⟨1,x.place,(m:Int),x.msg,x.hops⟩]⟩:=by
 have h1:=Zta s sm hp;unfold ZgA;rw [hx,Zzv s hp];simp only [Bq0];rw [app1 (by omega) (by omega)];simp only [Bq0];rw [app1 (by omega) (by omega)]
 rfl
theorem ZhB (s:WN w) (sm:WH 900 w) {m:Nat} (hm:m < w.qQ.length) {x:Zr} (hp:x.place.toNat < w.Zv.length) (h0:0 <=x.place) (hh:0 <=x.hops) (hh2:x.hops <=1000) (now:Bool) {ev:List ZG} (he:ev.length <=800000):
 Zo3 ⟨w,ev⟩ (m:Int) x now=some ⟨(XI w m x now).1,ev ++ (XI w m x now).2⟩:=by
 obtain⟨p,hx⟩:∃ p:Nat,x.place= (p:Int):= ⟨x.place.toNat,by omega⟩
 have h1:=ZoL s sm hm;have h2:=sm.qG;rw [hx,Int.toNat_natCast] at hp;unfold Zo3 XI;dsimp only;rw [s.row hm];simp only [Bq0];rw [hx,s.ent hm hp];simp only [Bq0];rw [Int.toNat_natCast];cases hE:(E w m p).here with
 | true=>
   rw [Cq1,Zv6 s sm hx hp he,if_pos rfl,hx];rfl
 | false=>
   rw [Cq0,if_neg (by simp)];by_cases hc:now=false∧(E w m p).age <=x.age
   ·rw [if_pos hc,hc.1,decide_eq_false (show ¬ (E w m p).age > x.age by have:=hc.2;omega),Bool.or_self,Cq0,ZkJ s hm];simp only [Bq0];rw [app1 (by omega) (by omega)];simp only [Bq0,List.append_nil]
   ·have e:(decide ((E w m p).age > x.age) || now)=true:=by
     rw [← Bool.not_eq_false];intro z;simp only [Bool.or_eq_false_iff,decide_eq_false_iff_not] at z;exact hc ⟨z.2,by omega⟩
    rw [if_neg hc,e,Cq1,app1 (by omega) (by omega)];simp only [Bq0];rw [Zby (by omega) (by omega)];unfold told Zgu Zds Zwr;rw [hx];by_cases ht:now=false∧x.from_ ≠ (m:Int)∧x.from_ ≠ (E w m p).Z8
    ·rw [if_pos ht,ht.1,Ja,Ja,decide_eq_true ht.2.1,decide_eq_true ht.2.2];simp only [Bool.not_false,Bool.and_self,Cq1];rw [app1 (by rw [List.length_append,List.length_singleton];omega) (by omega)];simp only [Bq0,List.append_nil,List.append_assoc]
     rfl
    ·have e2:(((!now) && (x.from_ != (m:Int))) && (x.from_ != (E w m p).Z8))=false:=by
      rw [← Bool.not_eq_true];intro z;simp only [Ba0,Bool.not_eq_true',bne_iff_ne] at z;exact ht ⟨z.1.1,z.1.2,z.2⟩
     rw [e2,Cq0,if_neg ht,List.append_nil]
end
end Go.Proofs.YtbmbbcaaimehkaaGreat
end
section
namespace Go.Proofs.YtbmbbcaaimehkaaGreat
open Go.Lf
theorem Xb {α:Type} (l:List α) (k:Int) (x:α):(Yr l k x).length=l.length:=by simp [Yr]
theorem QX {α:Type} {l:List α} {k j:Nat} {x d:α} (h:k < l.length):(Yr l (k:Int) x).getD j d=if j=k then x else l.getD j d:=by
 unfold Yr;rw [Int.toNat_natCast,List.getD_eq_getElem?_getD,List.getElem?_set,List.getD_eq_getElem?_getD];by_cases e:k=j
 ·subst e;simp [h]
 ·rw [if_neg e,if_neg (fun q=>e q.symm)]
theorem Zap {α:Type} {l:List α} {k:Nat} {x:α} (h:k < l.length):ZQ (Yr l (k:Int) x) (k:Int)=some x:=by
 rw [YN x (by rw [Xb];exact h),QX h,if_pos rfl]
theorem Zkx {α:Type} (l:List α) (k:Int) (x y:α):Yr (Yr l k x) k y=Yr l k y:=by simp [Yr]
theorem ZtD {α:Type} {l:List α} {k:Nat} (d:α) (h:k < l.length):Yr l (k:Int) (l.getD k d)=l:=by
 unfold Yr;rw [Int.toNat_natCast];apply List.ext_getElem?;intro i;rw [List.getElem?_set];by_cases e:k=i
 ·subst e;rw [if_pos rfl,if_pos h,List.getD_eq_getElem?_getD,List.getElem?_eq_getElem h];rfl
 ·rw [if_neg e]
def setW (w:Zb) (m p:Nat) (e:Zw):Zb:= {w with qQ:=Yr w.qQ (m:Int) (Yr (row w m) (p:Int) e)}
theorem WN.setW {w:Zb} (s:WN w) {m p:Nat} (hm:m < w.qQ.length) (e:Zw):WN (setW w m p e):=by
 refine⟨by show 1 <= (Yr _ _ _).length;rw [Xb];exact s.m1,by show(Yr _ _ _).length <=5;rw [Xb];exact s.m2,s.p1,s.p2,s.bx,by show w.qJ.length= (Yr _ _ _).length;rw [Xb];exact s.hd,fun l hl=>?_⟩;have hl':l ∈ Yr w.qQ (m:Int) (Yr (Proofs.YtbmbbcaaimehkaaGreat.row w m) (p:Int) e):=hl;unfold Yr at hl';rcases List.mem_or_eq_of_mem_set hl' with q | q
 ·exact s.rw_ _ q
 ·rw [q];simp only [List.length_set];exact s.len hm
theorem ZbD (w:Zb) (m p:Nat) (e:Zw):(setW w m p e).qQ.length=w.qQ.length:=Xb _ _ _
theorem Zm8 {w:Zb} (s:WN w) {m p:Nat} (hm:m < w.qQ.length) (hp:p < w.Zv.length) (e:Zw) (m' p':Nat):E (setW w m p e) m' p'=if m'=m∧p'=p then e else E w m' p':=by
 have hr:row (setW w m p e) m'=if m'=m then Yr (row w m) (p:Int) e else row w m':=QX hm
 unfold E;rw [hr];by_cases h:m'=m
 ·subst h;rw [if_pos rfl,QX (by rw [s.len hm];exact hp)];by_cases h2:p'=p
  ·rw [if_pos h2,if_pos ⟨rfl,h2⟩]
  ·rw [if_neg h2,if_neg (fun q=>h2 q.2)]
 ·rw [if_neg h,if_neg (fun q=>h q.1)]
structure MvL (w:Zb) (x:Ze) (m:Nat):Prop where
 Z8:x.Z8= (m:Int)
 hm:m < w.qQ.length
 len:x.Yh.length=x.qV.length
 few:x.qV.length <=8
 rng:∀ i,i < x.qV.length ->Wt (x.qV.getD i 0) w.Zv.length
def U4 (x:Ze) (i:Nat):Nat:= (x.qV.getD i 0).toNat
theorem MvL.U4 {w:Zb} {x:Ze} {m:Nat} (v:MvL w x m) {i:Nat} (hi:i < x.qV.length):x.qV.getD i 0= (Proofs.YtbmbbcaaimehkaaGreat.U4 x i:Int)∧Proofs.YtbmbbcaaimehkaaGreat.U4 x i < w.Zv.length:=by
 have:=v.rng i hi;unfold Wt at this;unfold Proofs.YtbmbbcaaimehkaaGreat.U4;omega
def X9 (w:Zb) (x:Ze):Nat ->Zb
 | 0=>w
 | k + 1=>setW (X9 w x k) x.Z8.toNat (U4 x k) ⟨true,x.Z8,x.Yh.getD k 0⟩
theorem Qp (w:Zb) (x:Ze):∀ k,(X9 w x k).Zv=w.Zv∧(X9 w x k).qK=w.qK∧(X9 w x k).qJ=w.qJ∧(X9 w x k).qG=w.qG∧(X9 w x k).said=w.said∧(X9 w x k).qQ.length=w.qQ.length:=by
 intro k
 induction k with
 | zero=>exact⟨rfl,rfl,rfl,rfl,rfl,rfl⟩
 | succ k ih=>exact⟨ih.1,ih.2.1,ih.2.2.1,ih.2.2.2.1,ih.2.2.2.2.1,(ZbD _ _ _ _).trans ih.2.2.2.2.2⟩
theorem ZfZ {w:Zb} (s:WN w) {x:Ze} {m:Nat} (v:MvL w x m):∀ k,WN (X9 w x k):=by
 intro k
 induction k with
 | zero=>exact s
 | succ k ih=>exact ih.setW (by rw [(Qp w x k).2.2.2.2.2,v.Z8,Int.toNat_natCast];exact v.hm) _
def U7 (p:Nat) (y:Zr):Bool:=y.place== (p:Int)
def Zyw (m:Nat) (y:Zr):ZG:= ⟨1,y.place,(m:Int),y.msg,y.hops⟩
def Zax (w:Zb) (m p:Nat):Zb:=
 {w with qK:=Yr w.qK (p:Int) (Qq w p ++ ((ZF w m).filter (U7 p)).map (fun y=>y.msg)),qJ:=Yr w.qJ (m:Int) ((ZF w m).filter fun y=>!U7 p y)}
def ZjV (w:Zb) (m p:Nat):List ZG:= ⟨3,(p:Int),(m:Int),0,0⟩::((ZF w m).filter (U7 p)).map (Zyw m)
def Yn (w:Zb) (x:Ze):Nat ->Zb×List ZG
 | 0=>(X9 w x x.qV.length,[])
 | k + 1=>(Zax (Yn w x k).1 x.Z8.toNat (U4 x k),(Yn w x k).2 ++ ZjV (Yn w x k).1 x.Z8.toNat (U4 x k))
def ZbR (w:Zb) (x:Ze):Zb×List ZG:=Yn w x x.qV.length
theorem KF (w:Zb) (x:Ze):∀ k,(Yn w x k).1.Zv=w.Zv∧(Yn w x k).1.qG=w.qG∧(Yn w x k).1.said=w.said∧(Yn w x k).1.qQ= (X9 w x x.qV.length).qQ∧(Yn w x k).1.qK.length=w.qK.length∧(Yn w x k).1.qJ.length=w.qJ.length:=by
 intro k
 induction k with
 | zero=>
   have:=Qp w x x.qV.length;exact⟨this.1,this.2.2.2.1,this.2.2.2.2.1,rfl,by rw [show(Yn w x 0).1=X9 w x x.qV.length from rfl,this.2.1],by rw [show(Yn w x 0).1=X9 w x x.qV.length from rfl,this.2.2.1]⟩
 | succ k ih=>exact⟨ih.1,ih.2.1,ih.2.2.1,ih.2.2.2.1,(Xb _ _ _).trans ih.2.2.2.2.1,(Xb _ _ _).trans ih.2.2.2.2.2⟩
theorem Kl {w:Zb} (s:WN w) {x:Ze} {m:Nat} (v:MvL w x m) (k:Nat):WN (Yn w x k).1:=by
 have c:=ZfZ s v x.qV.length;have h:=KF w x k;have h2:=Qp w x x.qV.length;exact⟨by rw [h.2.2.2.1];exact c.m1,by rw [h.2.2.2.1];exact c.m2,by rw [h.1];exact s.p1,by rw [h.1];exact s.p2,by rw [h.2.2.2.2.1,h.1];exact s.bx,by rw [h.2.2.2.2.2,h.2.2.2.1,h2.2.2.2.2.2];exact s.hd,by rw [h.2.2.2.1,h.1,← h2.1];exact c.rw_⟩
theorem ZAX {u:Zb} {ev:List ZG} {x:Zr} {b:List Int} (hb:ZQ u.qK x.place=some b) (h1:b.length <=800000) (he:ev.length <=800000) (m:Int):
 ZgA ⟨u,ev⟩ m x=some ⟨{u with qK:=Yr u.qK x.place (b ++ [x.msg])},ev ++ [⟨1,x.place,m,x.msg,x.hops⟩]⟩:=by
 unfold ZgA;rw [hb];simp only [Bq0];rw [app1 (by omega) (by omega)];simp only [Bq0];rw [app1 (by omega) (by omega)]
 rfl
theorem Zgy {α:Type} {f:α ->Bool} {l:List α} {j:Nat} (h:j < l.length):(l.take (j + 1)).filter f= (l.take j).filter f ++ (if f l[j] then [l[j]] else []):=by
 rw [List.take_add_one,List.getElem?_eq_getElem h,List.filter_append];congr 1;show List.filter f [l[j]]=_;by_cases q:f l[j]=true
 ·rw [if_pos q,List.filter_cons,if_pos q];rfl
 ·rw [if_neg q,List.filter_cons,if_neg q];rfl
theorem Zda {α:Type} (f:α ->Bool) (l:List α) (j:Nat):((l.take j).filter f).length <=l.length:=Nat.le_trans (List.length_filter_le _ _) (by rw [List.length_take];omega)
section
variable {F:Nat}
theorem Zxx (hF:1000 <=F) {u:Zb} (s:WN u) {m p:Nat} (hm:m < u.qQ.length) (hp:p < u.Zv.length) (hl:(ZF u m).length <=900) (hb:(Qq u p).length <=100000) {x:Ze} (hx:x.Z8= (m:Int)) {ev:List ZG} (he:ev.length <=700000) (i:Int)
 (next:Int×(List Int)×(List (List Int))×(List (List Zw))×(List (List Zr))×(List Ze)×Int×(List ZG) ->Option Z6):
 loop F (ZiN x i next (p:Int) (ZF u m)) (0,u.Zv,u.qK,u.qQ,Yr u.qJ (m:Int) [],u.qG,u.said,ev)=
  next (Xa (i + 1),(Zax u m p).Zv,(Zax u m p).qK,(Zax u m p).qQ,(Zax u m p).qJ,(Zax u m p).qG,(Zax u m p).said,ev ++ ((ZF u m).filter (U7 p)).map (Zyw m)):=by
 have hbl:p < u.qK.length:=by rw [s.bx];exact hp
 have hhl:m < u.qJ.length:=by rw [s.hd];exact hm
 refine Yj (fun j=>((j:Int),u.Zv,Yr u.qK (p:Int) (Qq u p ++ (((ZF u m).take j).filter (U7 p)).map (fun y=>y.msg)),u.qQ,Yr u.qJ (m:Int) (((ZF u m).take j).filter fun y=>!U7 p y),u.qG,u.said,ev ++ (((ZF u m).take j).filter (U7 p)).map (Zyw m))) ?_ (n:= (ZF u m).length) (by omega) (fun j hj nx=>?_) (fun nx=>?_)
 ·simp only [List.take_zero,List.filter_nil,List.map_nil,List.append_nil];unfold Qq;rw [ZtD [] hbl];rfl
 ·have l1:=Zda (U7 p) (ZF u m) j;have l2:=Zda (fun y=>!U7 p y) (ZF u m) j;unfold ZiN ZiM;dsimp only;rw [ZM hj,Cq1,XJ hj];simp only [Bq0];rw [Zgy hj,Zgy hj,Yz (by omega)];by_cases h:(ZF u m)[j].place= (p:Int)
  ·have e:U7 p (ZF u m)[j]=true:=beq_iff_eq.2 h;rw [e,if_pos rfl,h,Xl,Cq0];simp only [Bool.not_true,Bool.false_eq_true,if_false,List.append_nil];rw [ZAX (b:=Qq u p ++ (((ZF u m).take j).filter (U7 p)).map (fun y=>y.msg)) (by rw [h];exact Zap hbl) (by rw [List.length_append,List.length_map];omega) (by rw [List.length_append,List.length_map];omega)];simp only [Bq0];rw [h,Zkx,List.map_append,List.map_append,List.append_assoc,List.append_assoc];unfold Zyw;simp only [List.map_cons,List.map_nil,h,hx]
  ·have e:U7 p (ZF u m)[j]=false:=beq_eq_false_iff_ne.2 h;rw [e,Ja,decide_eq_true h,Cq1,hx];simp only [Bool.not_false,if_true,Bool.false_eq_true,if_false,List.append_nil];rw [Zap hhl];simp only [Bq0];rw [app1 (by omega) (by omega)];simp only [Bq0];rw [Zkx]
 ·unfold ZiN;dsimp only;rw [ZT,Cq0,List.take_of_length_le (Nat.le_refl _)]
  rfl
end
end Go.Proofs.YtbmbbcaaimehkaaGreat
end
section
namespace Go.Proofs.YtbmbbcaaimehkaaGreat
open Go.Lf
theorem ZbZ {u:Zb} (s:WN u) {m p:Nat} (hm:m < u.qQ.length) (m':Nat):ZF (Zax u m p) m'=if m'=m then(ZF u m).filter (fun y=>!U7 p y) else ZF u m':=
 QX (by rw [s.hd];exact hm)
theorem Zru {u:Zb} (s:WN u) {m p:Nat} (hp:p < u.Zv.length) (p':Nat):Qq (Zax u m p) p'=if p'=p then Qq u p ++ ((ZF u m).filter (U7 p)).map (fun y=>y.msg) else Qq u p':=
 QX (by rw [s.bx];exact hp)
structure ZNT (w:Zb) (x:Ze) (k:Nat):Prop where
 hl:∀ m,m < w.qQ.length ->(ZF (Yn w x k).1 m).length <=900
 bx:∀ p,p < w.Zv.length ->(Qq (Yn w x k).1 p).length <=900 * (k + 1)
 ev:(Yn w x k).2.length <=901 * k
theorem ZJg {w:Zb} (s:WN w) (sm:WH 900 w) {x:Ze} {m:Nat} (v:MvL w x m):∀ k,k <=x.qV.length ->ZNT w x k:=by
 intro k;have hin:=Qp w x x.qV.length
 induction k with
 | zero=>
   intro _;refine⟨fun m' hm'=>?_,fun p hp=>?_,Nat.zero_le _⟩
   ·have:ZF (Yn w x 0).1 m'=ZF w m':=by unfold ZF;rw [show(Yn w x 0).1=X9 w x x.qV.length from rfl,hin.2.2.1]
    rw [this];exact Nat.le_of_lt (ZoL s sm hm')
   ·have:Qq (Yn w x 0).1 p=Qq w p:=by unfold Qq;rw [show(Yn w x 0).1=X9 w x x.qV.length from rfl,hin.2.1]
    rw [this];have:=Zta s sm hp;omega
 | succ k ih=>
   intro hk;have b:=ih (by omega);have hs:=Kl s v k;have hi:=KF w x k;have hM:(Yn w x k).1.qQ.length=w.qQ.length:=by rw [hi.2.2.2.1,hin.2.2.2.2.2]
   have hp:= (v.U4 (i:=k) (by omega)).2;have hm:x.Z8.toNat < (Yn w x k).1.qQ.length:=by rw [hM,v.Z8,Int.toNat_natCast];exact v.hm
   have hp':U4 x k < (Yn w x k).1.Zv.length:=by rw [hi.1];exact hp
   have hl0:=b.hl x.Z8.toNat (by rw [← hM];exact hm);refine⟨fun m' hm'=>?_,fun p hp1=>?_,?_⟩
   ·show(ZF (Zax (Yn w x k).1 x.Z8.toNat (U4 x k)) m').length <=900;rw [ZbZ hs hm];by_cases e:m'=x.Z8.toNat
    ·rw [if_pos e];exact Nat.le_trans (List.length_filter_le _ _) hl0
    ·rw [if_neg e];exact b.hl m' hm'
   ·show(Qq (Zax (Yn w x k).1 x.Z8.toNat (U4 x k)) p).length <=900 * (k + 1 + 1);rw [Zru hs hp'];by_cases e:p=U4 x k
    ·rw [if_pos e,List.length_append,List.length_map];have h1:=b.bx (U4 x k) hp;have h2:=List.length_filter_le (U7 (U4 x k)) (ZF (Yn w x k).1 x.Z8.toNat);omega
    ·rw [if_neg e];have:=b.bx p hp1;omega
   ·show((Yn w x k).2 ++ ZjV (Yn w x k).1 x.Z8.toNat (U4 x k)).length <=901 * (k + 1);have h1:=b.ev;have h2:=List.length_filter_le (U7 (U4 x k)) (ZF (Yn w x k).1 x.Z8.toNat);rw [List.length_append];unfold ZjV;rw [List.length_cons,List.length_map];omega
theorem ZuF {F:Nat} (hF:1000 <=F) {w:Zb} (s:WN w) {x:Ze} {m:Nat} (v:MvL w x m) {r:Option Z6} {l:List Ze} {ev:List ZG}
 (hr:loop F (ZfD F x) (0,w.Zv,w.qK,(X9 w x x.qV.length).qQ,w.qJ,l,w.said,ev)=r):loop F (ZiO F ⟨w,ev⟩ x l) (0,w.qQ)=r:=by
 have h8:=v.few;refine Yj (fun k=>((k:Int),(X9 w x k).qQ)) rfl (n:=x.qV.length) (by omega) (fun k hk next=>?_) (fun next=>?_)
 ·obtain⟨e,hp⟩:=v.U4 hk;have hs:=ZfZ s v k;have hi:=Qp w x k;have hm:m < (X9 w x k).qQ.length:=by rw [hi.2.2.2.2.2];exact v.hm
  unfold ZiO;dsimp only;rw [ZM hk,Cq1,YN 0 hk];simp only [Bq0];rw [v.Z8,hs.row hm];simp only [Bq0];rw [YN 0 (by rw [v.len];exact hk)];simp only [Bq0];rw [e,hs.ent hm (by rw [hi.1];exact hp)];simp only [Bq0];rw [Yz (by omega)]
  have:X9 w x (k + 1)=setW (X9 w x k) m (U4 x k) ⟨true,(m:Int),x.Yh.getD k 0⟩:=by
   show setW (X9 w x k) x.Z8.toNat (U4 x k) ⟨true,x.Z8,x.Yh.getD k 0⟩=_;rw [v.Z8,Int.toNat_natCast]
  rw [this];rfl
 ·unfold ZiO;dsimp only;rw [ZT,Cq0];exact hr
theorem Zqs {F:Nat} (hF:1000 <=F) {w:Zb} (s:WN w) (sm:WH 900 w) {x:Ze} {m:Nat} (v:MvL w x m) {ev:List ZG} (he:ev.length <=600000):
 loop F (ZfD F x) (0,w.Zv,w.qK,(X9 w x x.qV.length).qQ,w.qJ,w.qG,w.said,ev)=some ⟨(ZbR w x).1,ev ++ (ZbR w x).2⟩:=by
 have h8:=v.few;have h0:=Qp w x x.qV.length;refine Yj (fun k=>((k:Int),(Yn w x k).1.Zv,(Yn w x k).1.qK,(Yn w x k).1.qQ,(Yn w x k).1.qJ,(Yn w x k).1.qG,(Yn w x k).1.said,ev ++ (Yn w x k).2)) ?_ (n:=x.qV.length) (by omega) (fun k hk next=>?_) (fun next=>?_)
 ·show((0:Int),(X9 w x x.qV.length).Zv,(X9 w x x.qV.length).qK,_,(X9 w x x.qV.length).qJ,(X9 w x x.qV.length).qG,(X9 w x x.qV.length).said,ev ++ [])=_;rw [h0.1,h0.2.1,h0.2.2.1,h0.2.2.2.1,h0.2.2.2.2.1,List.append_nil];rfl
 ·obtain⟨e,hp⟩:=v.U4 hk;have hs:=Kl s v k;have hi:=KF w x k;have b:=ZJg s sm v k (by omega);have hM:(Yn w x k).1.qQ.length=w.qQ.length:=by rw [hi.2.2.2.1,h0.2.2.2.2.2]
  have hm:m < (Yn w x k).1.qQ.length:=by rw [hM];exact v.hm
  have hb:=b.bx _ hp;have hl:=b.hl m v.hm;have hev:=b.ev;unfold ZfD;dsimp only;rw [ZM hk,Cq1,YN 0 hk];simp only [Bq0];rw [app1 (by rw [List.length_append];omega) (by omega)];simp only [Bq0];rw [v.Z8,ZkJ hs hm];simp only [Bq0];rw [e,Zxx hF hs hm (by rw [hi.1];exact hp) hl (by omega) v.Z8 (by rw [List.length_append,List.length_append,List.length_singleton];omega),Yz (by omega)]
  have:Yn w x (k + 1)= (Zax (Yn w x k).1 m (U4 x k),(Yn w x k).2 ++ ZjV (Yn w x k).1 m (U4 x k)):=by
   show(Zax (Yn w x k).1 x.Z8.toNat (U4 x k),(Yn w x k).2 ++ ZjV (Yn w x k).1 x.Z8.toNat (U4 x k))=_;rw [v.Z8,Int.toNat_natCast]
  rw [this];unfold ZjV;simp only [List.append_assoc,List.singleton_append]
 ·unfold ZfD;dsimp only;rw [ZT,Cq0];rfl
theorem Zdj (x:Ze) (p:Nat):∀ k,k <=x.qV.length ->(Wv x p k).length= (x.qV.take k).count (p:Int):=by
 intro k
 induction k with
 | zero=>intro _;simp [Wv]
 | succ k ih=>
   intro hk;have hk':k < x.qV.length:=by omega
   rw [Ze0,List.length_append,ih (by omega),List.take_add_one,List.getElem?_eq_getElem hk',List.count_append,List.getD_eq_getElem?_getD,List.getElem?_eq_getElem hk'];congr 1;show _=List.count (p:Int) [x.qV[k]];rw [List.count_singleton];by_cases e:x.qV[k]= (p:Int)
   ·simp [e]
   ·simp [e]
theorem Zr0 {l:List Ze} {x:Ze} (hx:x ∈ l) (p:Nat):(WI x p).length <= (XZ l p).length:=by
 unfold XZ
 induction l with
 | nil=>cases hx
 | cons y l ih=>
   rw [List.flatMap_cons,List.length_append];rcases List.mem_cons.1 hx with q | q
   ·rw [q];omega
   ·have:=ih q;omega
theorem Wd.nodup {w:Zb} (h:Wd w) {x:Ze} (hx:x ∈ w.qG) (hk:x.kind=2):x.qV.Nodup:=by
 rw [List.nodup_iff_count];intro a;by_cases ha:a ∈ x.qV
 ·obtain⟨i,hi,rfl⟩:=List.getElem_of_mem ha;have e0:x.qV.getD i 0=x.qV[i]:=by rw [List.getD_eq_getElem?_getD,List.getElem?_eq_getElem hi];rfl
  have hp:= (h.shr.Xg x hx).U4 i hi
  have hr:0 <=x.qV[i]∧x.qV[i] < (w.Zv.length:Int):=by
   rw [← e0]
   first
    | exact⟨hp.1,hp.2.1⟩
    | exact⟨hp.2.1,hp.2.2.1⟩
  obtain⟨p,e⟩:∃ p:Nat,x.qV[i]= (p:Int):= ⟨x.qV[i].toNat,by omega⟩
  have hl:=h.loc p (by omega);unfold YB at hl;rw [List.length_append] at hl;have h1:=Zr0 hx p;have h2:WI x p=Wv x p x.qV.length:=by unfold WI;rw [if_pos hk]
  rw [h2,Zdj x p _ (Nat.le_refl _),List.take_of_length_le (Nat.le_refl _)] at h1;rw [e];omega
 ·rw [List.count_eq_zero_of_not_mem ha];omega
theorem Wd.mvl {w:Zb} (h:Wd w) {x:Ze} (hx:x ∈ w.qG) (hk:x.kind=2):MvL w x x.Z8.toNat:=by
 have hl:=h.shr.Xg x hx;have h8:=h.shr.KT.p2
 have Zxe:∀ i,i < x.qV.length ->Wt (x.qV.getD i 0) w.Zv.length:=fun i hi=>by
  have hp:=hl.U4 i hi
  first
   | exact⟨hp.1,hp.2.1⟩
   | exact⟨hp.2.1,hp.2.2.1⟩
 have hsub:x.qV ⊆ Xr w.Zv.length:=fun a ha=>by
  have:= (Wy (d:= (0:Int)) (P:=fun a=>Wt a w.Zv.length)).1 Zxe a ha;unfold Wt at this;unfold Xr;exact List.mem_map.2 ⟨a.toNat,List.mem_range.2 (by omega),by show((a.toNat:Nat):Int)=a;omega⟩
 have hlen:= (h.nodup hx hk).length_le_of_subset hsub;rw [QM] at hlen;exact⟨by have:=hl.to1;omega,by have:=hl.to1;have:=hl.to2;omega,hl.Y7.len,by omega,Zxe⟩
def YK (w:Zb) (k:Nat):Zb:= {w with qG:=w.qG.take k ++ w.qG.drop (k + 1)}
def WT (w:Zb) (x:Ze):Zb:=if(E w x.Z8.toNat x.place.toNat).here=false∧(E w x.Z8.toNat x.place.toNat).age < x.age then setW w x.Z8.toNat x.place.toNat ⟨false,x.at_,x.age⟩ else w
def UW (w:Zb) (k:Nat):Zb×List ZG:=
 if(ZJ w k).kind=1 then XI (YK w k) (ZJ w k).Z8.toNat (ZJ w k).Yi false
 else if(ZJ w k).kind=2 then ZbR (YK w k) (ZJ w k) else(WT (YK w k) (ZJ w k),[])
theorem WN.YK {w:Zb} (s:WN w) (k:Nat):WN (YK w k):= ⟨s.m1,s.m2,s.p1,s.p2,s.bx,s.hd,s.rw_⟩
theorem ZkT (w:Zb) {k:Nat} (hk:k < w.qG.length):(YK w k).qG.length + 1=w.qG.length:=by
 show(w.qG.take k ++ w.qG.drop (k + 1)).length + 1=_;rw [List.length_append,List.length_take,List.length_drop];omega
theorem ZfW {w:Zb} {k:Nat} {x:Ze} (h:x ∈ (YK w k).qG):x ∈ w.qG:=by
 rcases List.mem_append.1 h with q | q
 ·exact List.mem_of_mem_take q
 ·exact List.mem_of_mem_drop q
theorem WH.YK {n:Nat} {w:Zb} (sm:WH n w) {k:Nat} (hk:k < w.qG.length):WH n (YK w k):=
 ⟨sm.Zv,sm.qK,sm.qQ,sm.qJ,by have:=ZkT w hk;have:=sm.qG;omega,sm.box,sm.row,sm.hel,fun x hx=>sm.Xg x (ZfW hx)⟩
theorem Zp9 {α:Type} {l:List α} {a b:Nat} (h1:a <=b) (h2:b <=l.length):slL l (a:Int) (b:Int)=some ((l.take b).drop a):=by
 unfold slL;rw [decide_eq_true (show(0:Int) <= (a:Int) by omega),decide_eq_true (show(a:Int) <= (b:Int) by omega),decide_eq_true (show(b:Int) <= (l.length:Int) by omega)];rfl
section
variable {F:Nat} {w:Zb}
theorem Zzm (hF:1000 <=F) (sm:WH 900 w) {k:Nat} (hk:k < w.qG.length):ZyT w.qG (k:Int) (Xa ((k:Int) + 1))=some (YK w k).qG:=by
 have hw:=sm.qG;unfold ZyT;rw [Yz (by omega),Zp9 (by omega) (by omega)];simp only [Bq0];rw [Yc,decide_eq_false (by omega),Cq0,show slL w.qG 0 (k:Int)=some (w.qG.take k) from Zp9 (a:=0) (by omega) (by omega)];simp only [Bq0];rw [Zp9 (by omega) (by omega)];simp only [Bq0];rw [List.take_of_length_le (Nat.le_refl w.qG.length),ZmZ (by rw [List.length_take,List.length_drop];omega) (by omega)];rfl
theorem ZtS {k:Nat} (hk:k < w.qG.length):ZQ w.qG (k:Int)=some (ZJ w k):=YN default hk
theorem ZA8 (h:Wd w) {x:Ze} (hx:x ∈ w.qG):x.kind=1∨x.kind=2∨x.kind=3:=by
 rcases(h.shr.Xg x hx).Y7 with⟨q,_⟩ | ⟨q,_⟩ | ⟨q,_⟩
 ·exact .inl q
 ·exact .inr (.inl q)
 ·exact .inr (.inr q)
theorem Zog (h:Wd w) {m:Int} {y:Zr} (hy:QW w m y):y.place.toNat < w.Zv.length∧0 <=y.place∧0 <=y.age∧y.age <=30∧1 <=y.hops∧y.hops <=y.age + 1:=by
 obtain⟨a1,a2,a3,a4,a5,a6,a7⟩:=hy;have hp:y.place.toNat < w.Zv.length:=by omega
 have h1:=a5.1;have h2:=a5.2.1;have h3:=Ze6 h.shr hp (h.loc _ hp);rw [Int.add_comm,ZaN (by omega) (by omega)] at a7;exact⟨hp,a1,by omega,by omega,a6,a7⟩
theorem Zt0 (hF:1000 <=F) (h:Wd w) (sm:WH 900 w) {k:Nat} (hk:k < w.qG.length) {ev:List ZG} (he:ev.length <=600000):Zy3 F ⟨w,ev⟩ (k:Int)=some ⟨(UW w k).1,ev ++ (UW w k).2⟩:=by
 have hx:ZJ w k ∈ w.qG:=YC hk;have hl:=h.shr.Xg _ hx;have hto:(ZJ w k).Z8= ((ZJ w k).Z8.toNat:Int):=by have:=hl.to1;omega
 have htl:(ZJ w k).Z8.toNat < w.qQ.length:=by have:=hl.to1;have:=hl.to2;omega
 have su:=h.shr.KT.YK k;have smu:=sm.YK hk;unfold Zy3 UW;dsimp only;rw [ZtS hk];simp only [Bq0];rw [Zzm hF sm hk];simp only [Bq0];rcases ZA8 h hx with q | q | q
 ·have hb:=Zog h (h.mai _ hx q);rw [if_pos q,Yc,decide_eq_true q,Cq1];have e:=ZhB su smu (m:= (ZJ w k).Z8.toNat) htl (x:= (ZJ w k).Yi) hb.1 hb.2.1 (by omega) (by omega) false (ev:=ev) (by omega);rw [← hto] at e
  change ((Zo3 ⟨YK w k,ev⟩ (ZJ w k).Z8 (ZJ w k).Yi false).bind fun Ki=>some Ki)=_
  rw [e];rfl
 ·have v:MvL (YK w k) (ZJ w k) (ZJ w k).Z8.toNat:=by
   have:=h.mvl hx q;exact⟨this.Z8,this.hm,this.len,this.few,this.rng⟩
  rw [if_neg (by omega),if_pos q,Yc,decide_eq_false (by omega),Cq0,Yc,decide_eq_true q,Cq1];have e:=ZuF hF (w:=YK w k) su v (l:= (YK w k).qG) (ev:=ev) (Zqs hF su smu v he);exact e
 ·have hn:=hl.ntd q;obtain⟨p,hp⟩:∃ p:Nat,(ZJ w k).place= (p:Int):= ⟨(ZJ w k).place.toNat,by omega⟩
  have hpl:p < w.Zv.length:=by omega
  rw [if_neg (by omega),if_neg (by omega),Yc,decide_eq_false (by omega),Cq0,Yc,decide_eq_false (by omega),Cq0,Yc,decide_eq_true q,Cq1];unfold WT ZiL;rw [hto,Int.toNat_natCast,h.shr.KT.row htl];simp only [Bq0];rw [hp,Int.toNat_natCast,h.shr.KT.ent htl hpl];simp only [Bq0];have eE:E (YK w k) (ZJ w k).Z8.toNat p=E w (ZJ w k).Z8.toNat p:=rfl;rw [eE,List.append_nil];by_cases c:(E w (ZJ w k).Z8.toNat p).here=false∧(E w (ZJ w k).Z8.toNat p).age < (ZJ w k).age
  ·rw [if_pos c,c.1,decide_eq_true c.2];rfl
  ·rw [if_neg c]
   have:((!(E w (ZJ w k).Z8.toNat p).here) && decide ((E w (ZJ w k).Z8.toNat p).age < (ZJ w k).age))=false:=by
    rw [← Bool.not_eq_true];intro z;simp only [Ba0,Bool.not_eq_true',decide_eq_true_eq] at z;exact c z
   rw [this];rfl
end
end Go.Proofs.YtbmbbcaaimehkaaGreat
end
section
namespace Go.Proofs.YtbmbbcaaimehkaaGreat
open Go.Lf
def Zfg (w:Zb) (p:Nat):Zb:= {w with Zv:=Yr w.Zv (p:Int) (-1)}
theorem Zen {w:Zb} {p:Nat} (hp:p < w.Zv.length) (q:Nat):inn (Zfg w p) (q:Int)=if q=p then -1 else inn w (q:Int):=by
 unfold inn Zfg;rw [Int.toNat_natCast];exact QX hp
theorem KA (w:Zb) (p:Nat):(Zfg w p).Zv.length=w.Zv.length:=Xb _ _ _
theorem ZgW {w:Zb} (hi:Inn w) {p:Nat} (hp:p < w.Zv.length) {x:Nat} (hx:x < w.Zv.length):∀ j,(∀ i,i < j ->up w i (x:Int) ≠ (p:Int)) ->up (Zfg w p) j (x:Int)=up w j (x:Int):=by
 intro j
 induction j with
 | zero=>intro _;rfl
 | succ j ih=>
   intro h;have e:=ih fun i hi=>h i (by omega)
   rw [Qx,Qx,e];by_cases hn:up w j (x:Int) < 0
   ·rw [if_pos hn,if_pos hn]
   ·rw [if_neg hn,if_neg hn];obtain⟨q,eq,hq⟩:=QN (hi.up (q:= (x:Int)) ⟨by omega,by omega⟩ j) hn;rw [eq,Zen hp,if_neg (fun z=>h j (by omega) (by rw [eq,z]))]
theorem ZeQ {w:Zb} (hi:Inn w) {p:Nat} (hp:p < w.Zv.length):Inn (Zfg w p):=by
 refine⟨fun x hx=>?_,fun x hx=>?_⟩
 ·rw [KA] at hx;rw [Zen hp];unfold okN;rw [KA];by_cases e:x=p
  ·rw [if_pos e];omega
  ·rw [if_neg e];exact hi.rng x hx
 ·rw [KA] at hx ⊢;by_cases hz:∃ i,i < w.Zv.length∧up w i (x:Int)= (p:Int)
  ·obtain⟨i,hil,e⟩:=hz;obtain⟨m,hm,hc,hlt⟩:=Qn (c:=fun i=>up w i (x:Int)= (p:Int)) e;have e1:=ZgW hi hp hx m hlt
   have e2:up (Zfg w p) (m + 1) (x:Int)=-1:=by
    rw [Qx,e1,hc,if_neg (by omega),Zen hp,if_pos rfl]
   exact Un (by rw [e2];omega) (show m + 1 <=w.Zv.length by omega)
  ·rw [ZgW hi hp hx _ fun i h q=>hz ⟨i,h,q⟩];exact hi.acy x hx
theorem Zvp {w:Zb} (hi:Inn w) {p:Nat} (hp:p < w.Zv.length) {x:Nat} (hx:x < w.Zv.length):Wth (Zfg w p) p x↔Wth w p x:=by
 constructor
 ·rintro⟨j,e⟩;by_cases hz:∃ i,i < j∧up w i (x:Int)= (p:Int)
  ·obtain⟨i,_,q⟩:=hz;exact⟨i,q⟩
  ·exact⟨j,by rw [← ZgW hi hp hx j fun i h q=>hz ⟨i,h,q⟩];exact e⟩
 ·rintro⟨j,e⟩;obtain⟨m,hm,hc,hlt⟩:=Qn (c:=fun i=>up w i (x:Int)= (p:Int)) e;exact⟨m,by rw [ZgW hi hp hx m hlt];exact hc⟩
theorem ZpY {w:Zb} (hi:Inn w) {p:Nat} (hp:p < w.Zv.length):Yq (Zfg w p) p=Yq w p:=by
 unfold Yq Zgh;rw [KA];congr 1;apply List.filter_congr;intro x hx;have hx':=List.mem_range.1 hx;rw [Bool.eq_iff_iff,ZdV (ZeQ hi hp) (by rw [KA];exact hx'),ZdV hi hx',Zvp hi hp hx']
def goA (w:Zb) (m:Nat) (q:Int):Int:= (E w m q.toNat).age + 1
def goW (w:Zb) (m:Nat) (to:Int) (L:List Int):Nat ->Zb
 | 0=>w
 | k + 1=>setW (goW w m to L k) m (L.getD k 0).toNat ⟨false,to,goA w m (L.getD k 0)⟩
def Zss (m:Nat) (to:Int) (q:Int):ZG:= ⟨2,q,(m:Int),to,0⟩
def mOf (w:Zb) (p:Nat):Nat:= (sp w p).machine.toNat
def J9 (w:Zb) (p:Nat) (to:Int):Zb×List ZG:=
 ({w with Zv:=Yr w.Zv (p:Int) (-1),qQ:= (goW w (mOf w p) to (Yq w p) (Yq w p).length).qQ,qG:=w.qG ++ [ZwL to (Yq w p) ((Yq w p).map (goA w (mOf w p)))]},(Yq w p).map (Zss (mOf w p) to))
theorem Zfs (w:Zb) (m:Nat) (to:Int) (L:List Int):∀ k,(goW w m to L k).Zv=w.Zv∧(goW w m to L k).qK=w.qK∧(goW w m to L k).qJ=w.qJ∧(goW w m to L k).qG=w.qG∧(goW w m to L k).said=w.said∧(goW w m to L k).qQ.length=w.qQ.length:=by
 intro k
 induction k with
 | zero=>exact⟨rfl,rfl,rfl,rfl,rfl,rfl⟩
 | succ k ih=>exact⟨ih.1,ih.2.1,ih.2.2.1,ih.2.2.2.1,ih.2.2.2.2.1,(ZbD _ _ _ _).trans ih.2.2.2.2.2⟩
structure GoB (w:Zb) (m:Nat) (L:List Int):Prop where
 s:WN w
 hm:m < w.qQ.length
 rng:∀ q ∈ L,Wt q w.Zv.length
 nd:L.Nodup
 age:∀ q ∈ L,0 <= (E w m q.toNat).age∧(E w m q.toNat).age <=30
section
variable {w:Zb} {m:Nat} {L:List Int} {to:Int}
theorem Zl1 (g:GoB w m L):∀ k,WN (goW w m to L k):=by
 intro k
 induction k with
 | zero=>exact g.s
 | succ k ih=>exact ih.setW (by rw [(Zfs w m to L k).2.2.2.2.2];exact g.hm) _
theorem Znw {α:Type} [DecidableEq α] {l:List α} (nd:l.Nodup) {k:Nat} (h:k < l.length):l[k] ∉ l.take k:= (Zdu.1 nd) k h
theorem Qu {α:Type} {l:List α} {k:Nat} (h:k < l.length) {x:α}:x ∈ l.take (k + 1)↔x ∈ l.take k∨x=l[k]:=by
 rw [List.take_succ_eq_append_getElem h,List.mem_append,List.mem_singleton]
theorem YT {α:Type} {l:List α} {k:Nat} {d:α} (h:k < l.length):l.getD k d=l[k]:=by
 rw [List.getD_eq_getElem?_getD,List.getElem?_eq_getElem h];rfl
theorem ZD9 (g:GoB w m L):∀ k,k <=L.length ->∀ m' q':Nat,E (goW w m to L k) m' q'=if m'=m∧(q':Int) ∈ L.take k then⟨false,to,goA w m (q':Int)⟩ else E w m' q':=by
 intro k
 induction k with
 | zero=>intro _ m' q';rw [if_neg (by simp)];rfl
 | succ k ih=>
   intro hk m' q';have hq:=g.rng _ (List.getElem_mem (l:=L) (n:=k) (by omega));obtain⟨q,eq,hql⟩:=hq.nat;show E (setW (goW w m to L k) m (L.getD k 0).toNat _) m' q'=_;rw [YT (by omega),eq,Int.toNat_natCast,Zm8 (Zl1 g k) (by rw [(Zfs w m to L k).2.2.2.2.2];exact g.hm) (by rw [(Zfs w m to L k).1];exact hql),ih (by omega)];by_cases e:m'=m∧q'=q
   ·rw [if_pos e,if_pos ⟨e.1,(Qu (by omega)).2 (.inr (by rw [eq,e.2]))⟩,e.2]
   ·rw [if_neg e];by_cases c:m'=m∧(q':Int) ∈ L.take k
    ·rw [if_pos c,if_pos ⟨c.1,(Qu (by omega)).2 (.inl c.2)⟩]
    ·rw [if_neg c,if_neg];rintro⟨c1,c2⟩;rcases(Qu (by omega)).1 c2 with z | z
     ·exact c ⟨c1,z⟩
     ·rw [eq] at z;exact e ⟨c1,by omega⟩
theorem ZGO (g:GoB w m L) {k:Nat} (hk:k < L.length):E (goW w m to L k) m (L.getD k 0).toNat=E w m (L.getD k 0).toNat:=by
 obtain⟨q,eq,hql⟩:= (g.rng _ (List.getElem_mem (l:=L) (n:=k) hk)).nat;rw [ZD9 g k (by omega),if_neg];rintro⟨_,z⟩;rw [YT hk,eq,Int.toNat_natCast,← eq] at z;exact Znw g.nd hk z
theorem Zc7 {α β:Type} {l:List α} {f:α ->β} {k:Nat} (h:k < l.length) (d:α):(l.take (k + 1)).map f= (l.take k).map f ++ [f (l.getD k d)]:=by
 rw [List.take_succ_eq_append_getElem h,List.map_append,YT h];rfl
theorem Zyx (k:Nat):(goW w m to L (k + 1)).qQ=Yr (goW w m to L k).qQ (m:Int) (Yr (row (goW w m to L k) m) ((L.getD k 0).toNat:Int) ⟨false,to,goA w m (L.getD k 0)⟩):=rfl
theorem ZBV {F:Nat} (hF:1000 <=F) (g:GoB w m L) (hL:L.length <=8) (hw:w.qG.length < 900) {ev:List ZG} (he:ev.length <=700000) {w0:Zb} (hw0:w0.qG=w.qG) {p1:Int} {x1:Ym×Int} (hx:x1.1.machine= (m:Int)):
 loop F (ZiB ⟨w0,ev⟩ p1 to x1 L) (0,ev,[],w.qQ)=some ⟨⟨Yr w0.Zv p1 (-1),w0.qK,(goW w m to L L.length).qQ,w0.qJ,w.qG ++ [ZwL to L (L.map (goA w m))],w0.said⟩,ev ++ L.map (Zss m to)⟩:=by
 refine Yj (fun k=>((k:Int),ev ++ (L.take k).map (Zss m to),(L.take k).map (goA w m),(goW w m to L k).qQ)) (by simp [goW]) (n:=L.length) (by omega) (fun k hk next=>?_) (fun next=>?_)
 ·obtain⟨q,eq,hql⟩:= (g.rng _ (List.getElem_mem (l:=L) (n:=k) hk)).nat;have ha:=g.age _ (List.getElem_mem (l:=L) (n:=k) hk);have hi:=Zfs w m to L k;have hs:=Zl1 (to:=to) g k;have hm:m < (goW w m to L k).qQ.length:=by rw [hi.2.2.2.2.2];exact g.hm
  have eA:Xa ((E w m q).age + 1)=goA w m (q:Int):=by
   rw [eq,Int.toNat_natCast] at ha;unfold goA;rw [Int.toNat_natCast,Zby (by omega) (by omega)]
  have eE:=ZGO (to:=to) g hk;rw [YT hk,eq,Int.toNat_natCast] at eE;unfold ZiB;dsimp only;rw [ZM hk,Cq1,YN 0 hk,YT hk,eq,hx];simp only [Bq0];rw [hs.row hm];simp only [Bq0];rw [hs.ent hm (by rw [hi.1];exact hql),eE];simp only [Bq0];rw [app1 (by rw [List.length_map,List.length_take];omega) (by omega)];simp only [Bq0];rw [app1 (by rw [List.length_append,List.length_map,List.length_take];omega) (by omega)];simp only [Bq0];rw [Yz (by omega),eA,Zc7 hk 0,Zc7 hk 0,YT hk,eq,Zyx,YT hk,eq,Int.toNat_natCast,List.append_assoc]
  rfl
 ·unfold ZiB;dsimp only;rw [ZT,Cq0,hw0,app1 (by omega) (by omega),List.take_of_length_le (Nat.le_refl _)]
  rfl
end
end Go.Proofs.YtbmbbcaaimehkaaGreat
end
section
namespace Go.Proofs.YtbmbbcaaimehkaaGreat
open Go.Lf
def Ka (w:Zb) (p:Int) (q:Int):Zb:= {w with Zv:=Yr w.Zv p q}
def ZtH (w:Zb) (s:ZH):Zr:= ⟨w.said,s.b,s.a,0,0⟩
def Zc2 (w:Zb):Zb:= {w with said:=w.said + 1}
def doW (w:Zb) (s:ZH):Zb×List ZG:=
 if s.act=1 then XI (Zc2 w) s.a.toNat (ZtH w s) true
 else if s.act=2 then J9 w s.a.toNat s.b
 else if s.act=3 then(Ka w s.a s.b,[])
 else if s.act=4 then(Ka w s.a (-1),[])
 else UW w s.a.toNat
section
variable {F:Nat} {w:Zb}
theorem Kc (h:Wd w) {p:Nat} (hp:p < w.Zv.length) (hh:(sp w p).here=true):(sp w p).machine= (mOf w p:Int)∧mOf w p < w.qQ.length∧(E w (mOf w p) p).here=true∧(E w (mOf w p) p).age= (sp w p).age:=by
 rcases ZbB (h.loc p hp) with⟨m,hm,he,e⟩ | ⟨x,hx,hk,i,hi,hpi,e⟩
 ·unfold mOf;rw [e];exact⟨by simp,by simpa using hm,by simpa using he,by simp⟩
 ·rw [e] at hh;cases hh
theorem Zaj (w:Zb) (p:Nat):∀ q ∈ Yq w p,Wt q w.Zv.length:=by
 intro q hq;unfold Yq Zgh at hq;obtain⟨k,hk,rfl⟩:=List.mem_map.1 hq;have:=List.mem_range.1 (List.mem_filter.1 hk).1;exact⟨Int.natCast_nonneg k,by show(k:Int) < _;omega⟩
theorem Zyy (h:Wd w) {p:Nat} (hp:p < w.Zv.length) (hh:(sp w p).here=true):GoB w (mOf w p) (Yq w p):=by
 have a:=Kc h hp hh;refine⟨h.shr.KT,a.2.1,Zaj w p,J8 w p,fun q hq=>?_⟩;obtain⟨k,rfl,hk⟩:= (Zaj w p q hq).nat;have:=h.shr.ent _ a.2.1 k hk;rw [Int.toNat_natCast];exact⟨this.1,this.2.1⟩
theorem Ztw (hF:1000 <=F) (hM:F <=1000000) (h:Wd w) (sm:WH 900 w) {p:Nat} (hp:p < w.Zv.length) (hh:(sp w p).here=true) (to:Int) {ev:List ZG} (he:ev.length <=700000):
 ZyU F ⟨w,ev⟩ (p:Int) to=some ⟨(J9 w p to).1,ev ++ (J9 w p to).2⟩:=by
 have a:=Kc h hp hh;have g:=Zyy h hp hh;have h8:=h.shr.KT.p2;have hi:=ZeQ h.shr.inn hp;have hp':p < (Zfg w p).Zv.length:=by rw [KA];exact hp
 have hd:=Zjd hi hp';have hl:=KA w p
 have e1:loop F (ZiA F ⟨w,ev⟩ (p:Int)) ((p:Int),[])=some (true,desc (Zfg w p) (Zfg w p).Zv.length p):=by
  exact gather hF (w:=Zfg w p) (by rw [hl];exact h8) (B:=fun v next=>Zrb ⟨w,ev⟩ (p:Int) v next) (R:=ZiA F ⟨w,ev⟩ (p:Int)) (fun v l next=>rfl) (fun v next k l nx=>rfl) (Zfg w p).Zv.length p [] F (by omega) hp' (ZeO.all hi) (by simp;omega)
 unfold ZyU;dsimp only;rw [Zak hF hM h sm hp];simp only [Bq0];rw [Xt hp];simp only [Bq0];rw [e1];simp only [Bq0];unfold Zmc;rw [Znz (by omega),ZuC hi hp',ZpY h.shr.inn hp];simp only [Bq0];have hw:=sm.qG;have hlen:(Yq w p).length <=8:=Nat.le_trans (ZeZ _ _ _) h8;exact ZBV hF g hlen (by omega) he rfl (x1:= (sp w p,1)) a.1
theorem Zej {s:ZH} (h1:s.act=1) (hl:lim w s=false):w.said < 40:=by
 unfold lim at hl;rw [if_pos h1] at hl;have:=of_decide_eq_false hl;omega
theorem ZMJ {s:ZH}:Zkc w s=0↔lim w s=false∧Alw w s:=by
 unfold Zkc;cases lim w s with
 | true=>simp
 | false=>by_cases a:Alw w s <;> simp [a]
theorem ZtJ (s:WN w):WN (Zc2 w):= ⟨s.m1,s.m2,s.p1,s.p2,s.bx,s.hd,s.rw_⟩
theorem ZvS {n:Nat} (sm:WH n w):WH n (Zc2 w):= ⟨sm.Zv,sm.qK,sm.qQ,sm.qJ,sm.qG,sm.box,sm.row,sm.hel,sm.Xg⟩
theorem ZuB (hF:1000 <=F) (hM:F <=1000000) (h:Wd w) (sm:WH 900 w) {s:ZH} (ha:Ask w s) (hl:lim w s=false) (hA:Alw w s) {ev:List ZG} (he:ev.length <=600000):
 Zy8 F ⟨w,ev⟩ s=some ⟨(doW w s).1,ev ++ (doW w s).2⟩:=by
 have e:∀ k:Int,(s.act==k)=decide (s.act=k):=fun k=>Yc _ _
 have hs1:=h.shr.sd1;unfold Zy8 doW;rcases ha with⟨c,a,b⟩ | ⟨c,a,b⟩ | ⟨c,a,b⟩ | ⟨c,a⟩ | ⟨c,a⟩
 ·have hs:=Zej c hl;obtain⟨m,em,hm⟩:=a.nat;rw [e,decide_eq_true c,Cq1,if_pos c,em,Int.toNat_natCast];dsimp only;rw [Zby (by omega) (by omega)];have:=ZhB (ZtJ h.shr.KT) (ZvS sm) (m:=m) hm (x:=ZtH w s) (by have:=b.1;have:=b.2;show s.b.toNat < w.Zv.length;omega) b.1 (by show(0:Int) <=0;omega) (by show(0:Int) <=1000;omega) true (ev:=ev) (by omega);unfold ZtH at this ⊢;rw [em] at this ⊢
  change (Zo3 ⟨Zc2 w,ev⟩ (m:Int) _ true).bind _=_
  rw [this];rfl
 ·obtain⟨p,ep,hp⟩:=a.nat;rw [e,decide_eq_false (by omega),Cq0,e,decide_eq_true c,Cq1,if_neg (by omega),if_pos c,ep,Int.toNat_natCast];have hh:= (hA.1 c).1;rw [ep,Int.toNat_natCast] at hh;rw [Ztw hF hM h sm hp hh s.b (by omega)];rfl
 ·obtain⟨p,ep,hp⟩:=a.nat;rw [e,decide_eq_false (by omega),Cq0,e,decide_eq_false (by omega),Cq0,e,decide_eq_true c,Cq1,if_neg (by omega),if_neg (by omega),if_pos c,ep];dsimp only;rw [Xt hp];simp only [Bq0,List.append_nil]
  rfl
 ·obtain⟨p,ep,hp⟩:=a.nat;rw [e,decide_eq_false (by omega),Cq0,e,decide_eq_false (by omega),Cq0,e,decide_eq_false (by omega),Cq0,e,decide_eq_true c,Cq1,if_neg (by omega),if_neg (by omega),if_neg (by omega),if_pos c,ep];dsimp only;rw [Xt hp];simp only [Bq0,List.append_nil]
  rfl
 ·obtain⟨k,ek,hk⟩:=a.nat;rw [e,decide_eq_false (by omega),Cq0,e,decide_eq_false (by omega),Cq0,e,decide_eq_false (by omega),Cq0,e,decide_eq_false (by omega),Cq0,e,decide_eq_true c,Cq1,if_neg (by omega),if_neg (by omega),if_neg (by omega),if_neg (by omega),ek,Int.toNat_natCast];rw [Zt0 hF h sm hk he];rfl
end
end Go.Proofs.YtbmbbcaaimehkaaGreat
end
section
namespace Go.Proofs.YtbmbbcaaimehkaaGreat
open Go.Lf
theorem K6 {w w':Zb} {p:Nat}:∀ {k:Nat},(∀ m,m < k ->E w' m p=E w m p) ->Xc w' p k=Xc w p k:=by
 intro k
 induction k with
 | zero=>intro _;rfl
 | succ k ih=>intro h;rw [Jz,Jz,ih fun m hm=>h m (by omega),h k (by omega)]
theorem ZkI {w:Zb} {p:Nat}:∀ {k:Nat},(∀ m,m < k ->(E w m p).here=false) ->Xc w p k= []:=by
 intro k
 induction k with
 | zero=>intro _;rfl
 | succ k ih=>intro h;rw [Jz,ih fun m hm=>h m (by omega),h k (by omega)];simp
theorem Zub {w:Zb} {p m:Nat} (hh:(E w m p).here=true):∀ {k:Nat},m < k ->(∀ m',m' < k ->m' ≠ m ->(E w m' p).here=false) ->Xc w p k= [⟨(m:Int),true,(E w m p).age⟩]:=by
 intro k
 induction k with
 | zero=>intro h;omega
 | succ k ih=>
   intro hm ho;rw [Jz];by_cases e:m=k
   ·subst e;rw [ZkI fun m' hm'=>ho m' (by omega) (by omega),if_pos hh];rfl
   ·rw [ih (by omega) fun m' hm'=>ho m' (by omega),ho k (by omega) (fun z=>e z.symm)];simp
theorem ZoK {w:Zb} {p k:Nat} (h:Xc w p k= []):∀ m,m < k ->(E w m p).here=false:=by
 intro m hm;cases e:(E w m p).here with
 | false=>rfl
 | true=>
   have:Ym.mk (m:Int) true (E w m p).age ∈ Xc w p k:=ZcF.2 ⟨m,hm,e,rfl⟩;rw [h] at this;cases this
theorem Zam (a b:List Ze) (p:Nat):XZ (a ++ b) p=XZ a p ++ XZ b p:=by unfold XZ;exact List.flatMap_append
theorem Znl (x:Ze) (p:Nat):XZ [x] p=WI x p:=by unfold XZ;simp
theorem Zk8 {x:Ze} (h:x.kind ≠ 2) (p:Nat):WI x p= []:=by unfold WI;rw [if_neg h]
theorem ZrZ {l:List Ze} (h:∀ x ∈ l,x.kind ≠ 2) (p:Nat):XZ l p= []:=by
 unfold XZ;exact List.flatMap_eq_nil_iff.2 fun x hx=>Zk8 (h x hx) p
theorem ZaM {w:Zb} {k:Nat} (hk:k < w.qG.length):w.qG=w.qG.take k ++ ZJ w k::w.qG.drop (k + 1):=by
 have e:ZJ w k=w.qG[k]:=YT hk;rw [e,List.getElem_cons_drop,List.take_append_drop]
theorem Kt {w:Zb} {k:Nat} (hk:k < w.qG.length) (p:Nat):XZ w.qG p=XZ (w.qG.take k) p ++ WI (ZJ w k) p ++ XZ (w.qG.drop (k + 1)) p:=by
 have:=congrArg (fun l=>XZ l p) (ZaM hk);rw [this,Zam,show ZJ w k::w.qG.drop (k + 1)= [ZJ w k] ++ w.qG.drop (k + 1) from rfl,Zam,Znl,List.append_assoc]
theorem Ze1 {w:Zb} {k:Nat} (p:Nat):XZ (YK w k).qG p=XZ (w.qG.take k) p ++ XZ (w.qG.drop (k + 1)) p:=Zam _ _ _
theorem Zr2 {w:Zb} {p:Nat} {s:Ym} (h:YB w p= [s]):sp w p=s:=by unfold sp WU;rw [h];rfl
theorem ZbT {w w':Zb} {p:Nat} (e1:Xc w' p w'.qQ.length=Xc w p w.qQ.length) (e2:XZ w'.qG p=XZ w.qG p):YB w' p=YB w p:=by unfold YB;rw [e1,e2]
theorem Kv {w w':Zb} {p:Nat} (h:YB w' p=YB w p):sp w' p=sp w p:=by unfold sp;rw [h]
structure Wm (w:Zb):Prop where
 shr:ShR w
 loc:∀ p,p < w.Zv.length ->(YB w p).length=1
 tog:∀ p,p < w.Zv.length ->0 <=inn w p ->(sp w (inn w p).toNat).machine= (sp w p).machine∧(sp w (inn w p).toNat).here= (sp w p).here∧((sp w p).here=false ->Zjw w p (inn w p))
 ent:∀ m,m < w.qQ.length ->∀ p,p < w.Zv.length ->(E w m p).here=false ->RtX w p (E w m p).Z8 (E w m p).age
 hel:∀ m,m < w.qQ.length ->∀ x ∈ ZF w m,QW w m x∧sp w x.place.toNat= ⟨(m:Int),false,x.age⟩
 mai:∀ x ∈ w.qG,x.kind=1 ->QW w x.Z8 x.Yi
 ntd:∀ x ∈ w.qG,x.kind=3 ->RtX w x.place.toNat x.at_ x.age
theorem Wd.wm {w:Zb} (h:Wd w):Wm w:= ⟨h.shr,h.loc,h.tog,h.ent,h.hel,h.mai,h.ntd⟩
theorem Wm.wd {w:Zb} (h:Wm w) (hm:(msgs w).Perm (Xr w.said.toNat)):Wd w:= ⟨h.shr,h.loc,h.tog,h.ent,h.hel,h.mai,h.ntd,hm⟩
structure Mv (w w':Zb):Prop where
 inl:w'.Zv.length=w.Zv.length
 enl:w'.qQ.length=w.qQ.length
 rt:∀ p,p < w.Zv.length ->∀ m a,RtX w p m a ->RtX w' p m a
theorem Mv.of {w w':Zb} (inl:w'.Zv.length=w.Zv.length) (enl:w'.qQ.length=w.qQ.length) (hE:∀ m p,p < w.Zv.length ->(E w m p).age <= (E w' m p).age)
 (hs:∀ p,p < w.Zv.length ->((sp w' p).machine= (sp w p).machine∧(sp w' p).age= (sp w p).age)∨∃ m:Nat,(sp w p).machine= (m:Int)∧(sp w p).age < (sp w' p).age∧(sp w p).age < (E w' m p).age):Mv w w':=by
 refine⟨inl,enl,fun p hp m a h=>?_⟩;obtain⟨h1,h2,h3,h4,h5,h6⟩:=h;have hE':=hE m.toNat p hp;rcases hs p hp with⟨e1,e2⟩ | ⟨k,e1,e2,e3⟩
 ·refine⟨h1,by omega,h3,by omega,fun q=>?_,fun q=>?_⟩
  ·rw [e1];exact h5 (by omega)
  ·have:=h6 (by omega);omega
 ·refine⟨h1,by omega,h3,by omega,fun q=>by omega,fun q=>?_⟩;by_cases c:a= (sp w p).age
  ·have:=h5 c;have:m.toNat=k:=by omega
   rw [this];omega
  ·have:=h6 c;omega
theorem Mv.Yi {w w':Zb} (v:Mv w w') {m:Int} {y:Zr} (h:QW w m y):QW w' m y:=by
 obtain⟨h1,h2,h3,h4,h5,h6⟩:=h;exact⟨h1,by rw [v.inl];exact h2,h3,by rw [v.enl];exact h4,v.rt _ (by omega) _ _ h5,h6⟩
theorem Mv.Xg {w w':Zb} (v:Mv w w') {x:Ze} (h:Zjx w x):Zjx w' x:=
 ⟨h.to1,by rw [v.enl];exact h.to2,h.Y7,fun i hi=>by have:=h.U4 i hi;unfold KR at this ⊢;rw [v.inl];exact this,fun q=>by have:=h.ntd q;rw [v.inl];exact this⟩
theorem Mv.same {w w':Zb} (inl:w'.Zv.length=w.Zv.length) (enl:w'.qQ=w.qQ) (hs:∀ p,p < w.Zv.length ->YB w' p=YB w p):Mv w w':=
 Mv.of inl (by rw [enl]) (fun m p _=>by unfold E row;rw [enl];exact Int.le_refl _) fun p hp=>.inl (by rw [Kv (hs p hp)];exact⟨rfl,rfl⟩)
def owB (w:Zb):List (Int×Int):= (List.range w.qK.length).flatMap fun p=>(Qq w p).map fun n=>(n,(p:Int))
def owH (w:Zb):List (Int×Int):= (List.range w.qJ.length).flatMap fun m=>(ZF w m).map fun y=>(y.msg,y.place)
def owL (l:List Ze):List (Int×Int):= (l.filter fun x=>x.kind==1).map fun x=>(x.Yi.msg,x.Yi.place)
def owes (w:Zb):List (Int×Int):=owB w ++ owH w ++ owL w.qG
theorem Zn6 (w:Zb):(owes w).map Prod.fst=msgs w:=by
 unfold owes msgs;rw [List.map_append,List.map_append];congr 1
 ·congr 1
  ·unfold owB;rw [List.map_flatMap];have:=Zdr w.qK [] (fun l=>l);rw [List.flatMap_id'] at this;rw [← this];congr 1;funext p;rw [List.map_map];show(Qq w p).map (fun n=>n)=_;rw [List.map_id'];rfl
  ·unfold owH QA;rw [List.map_flatMap,← Zdr w.qJ [] (fun x=>x.map fun y=>y.msg)];congr 1;funext p;rw [List.map_map];rfl
 ·unfold owL Q0;rw [List.map_map];rfl
theorem ZoY {α:Type} [BEq α] {f g:Nat ->List α} {p:Nat} (h:∀ k,k ≠ p ->f k=g k) (a:α):∀ {n:Nat},p < n ->((List.range n).flatMap f).count a + (g p).count a= ((List.range n).flatMap g).count a + (f p).count a:=by
 intro n
 induction n with
 | zero=>intro h;omega
 | succ n ih=>
   intro hp;rw [List.range_succ,List.flatMap_append,List.flatMap_append,List.count_append,List.count_append];simp only [List.flatMap_cons,List.flatMap_nil,List.append_nil];by_cases e:p=n
   ·subst e
    have:(List.range p).flatMap f= (List.range p).flatMap g:=by
     unfold List.flatMap;congr 1;exact List.map_congr_left fun k hk=>h k (by have:=List.mem_range.1 hk;omega)
    rw [this];omega
   ·have:=ih (by omega);rw [h n (fun z=>e z.symm)];omega
theorem Zcx (a b:List Ze):owL (a ++ b)=owL a ++ owL b:=by unfold owL;rw [List.filter_append,List.map_append]
theorem ZtO {w:Zb} {k:Nat} (hk:k < w.qG.length):owL w.qG=owL (w.qG.take k) ++ owL [ZJ w k] ++ owL (w.qG.drop (k + 1)):=by
 have:=congrArg owL (ZaM hk);rw [this,Zcx,show ZJ w k::w.qG.drop (k + 1)= [ZJ w k] ++ w.qG.drop (k + 1) from rfl,Zcx,List.append_assoc]
theorem Zn7 {x:Ze} (h:x.kind=1):owL [x]= [(x.Yi.msg,x.Yi.place)]:=by unfold owL;simp [h]
theorem Zee {x:Ze} (h:x.kind ≠ 1):owL [x]= []:=by unfold owL;simp [h]
theorem Zsf (w w':Zb) {p:Nat} (hp:p < w.qK.length) {l:List Int} (h:w'.qK=Yr w.qK (p:Int) (Qq w p ++ l)) (a:Int×Int):(owB w').count a= (owB w).count a + (l.map fun n=>(n,(p:Int))).count a:=by
 have hb:∀ k,Qq w' k=if k=p then Qq w p ++ l else Qq w k:=fun k=>by unfold Qq;rw [h];exact QX hp
 have:=ZoY (f:=fun k=>(Qq w' k).map fun n=>(n,(k:Int))) (g:=fun k=>(Qq w k).map fun n=>(n,(k:Int))) (p:=p) (fun k hk=>by rw [hb,if_neg hk]) a (n:=w.qK.length) hp;rw [hb,if_pos rfl,List.map_append,List.count_append] at this;have e:w'.qK.length=w.qK.length:=by rw [h,Xb]
 unfold owB;rw [e];omega
theorem Zse (w w':Zb) {m:Nat} (hm:m < w.qJ.length) {l:List Zr} (h:w'.qJ=Yr w.qJ (m:Int) l) (a:Int×Int):(owH w').count a + ((ZF w m).map fun y=>(y.msg,y.place)).count a= (owH w).count a + (l.map fun y=>(y.msg,y.place)).count a:=by
 have hb:∀ k,ZF w' k=if k=m then l else ZF w k:=fun k=>by unfold ZF;rw [h];exact QX hm
 have:=ZoY (f:=fun k=>(ZF w' k).map fun y=>(y.msg,y.place)) (g:=fun k=>(ZF w k).map fun y=>(y.msg,y.place)) (p:=m) (fun k hk=>by rw [hb,if_neg hk]) a (n:=w.qJ.length) hm;rw [hb,if_pos rfl] at this;have e:w'.qJ.length=w.qJ.length:=by rw [h,Xb]
 unfold owH;rw [e];omega
theorem Zh5 {w w':Zb} (e:w'.Zv=w.Zv) (q:Int):inn w' q=inn w q:=by unfold inn;rw [e]
theorem ZIE {w w':Zb} (e:w'.Zv=w.Zv) (q:Int):∀ k,up w' k q=up w k q:=by
 intro k
 induction k with
 | zero=>rfl
 | succ k ih=>rw [Qx,Qx,ih,Zh5 e]
theorem Inn.eq {w w':Zb} (h:Inn w) (e:w'.Zv=w.Zv):Inn w':=
 ⟨fun p hp=>by have:=h.rng p (by rw [← e];exact hp);unfold okN at this ⊢;rw [Zh5 e,e];exact this,fun p hp=>by rw [ZIE e,e];exact h.acy p (by rw [← e];exact hp)⟩
theorem ZpM {w w':Zb} (e:w'.qQ=w.qQ) (m p:Nat):E w' m p=E w m p:=by unfold E row;rw [e]
theorem ZdR.eq {w w':Zb} (e:w'.qQ=w.qQ) {m p:Nat} (h:ZdR w m p):ZdR w' m p:=by
 unfold ZdR at h ⊢;rw [ZpM e,e];exact h
theorem Wm.upd {w w':Zb} (h:Wm w) (ZgO:w'.Zv=w.Zv) (ZgP:w'.qQ=w.qQ) (hbx:w'.qK.length=w.qK.length) (hhd:w'.qJ.length=w.qJ.length) (hs1:0 <=w'.said) (hs2:w'.said <=40)
 (ZPA:∀ p,XZ w'.qG p=XZ w.qG p) (hk2:∀ x ∈ w.qG,x.kind=2 ->x ∈ w'.qG)
 (hlet:∀ x ∈ w'.qG,x ∈ w.qG∨(Zjx w x∧(x.kind=1 ->QW w x.Z8 x.Yi)∧(x.kind=3 ->RtX w x.place.toNat x.at_ x.age)))
 (ZPU:∀ m,m < w.qQ.length ->∀ y ∈ ZF w' m,y ∈ ZF w m∨(QW w m y∧sp w y.place.toNat= ⟨(m:Int),false,y.age⟩)):Wm w':=by
 have hloc:∀ p,YB w' p=YB w p:=fun p=>ZbT (by rw [ZgP];exact K6 fun m _=>ZpM ZgP m p) (ZPA p)
 have v:Mv w w':=Mv.same (by rw [ZgO]) ZgP fun p _=>hloc p
 have hsp:∀ p,sp w' p=sp w p:=fun p=>Kv (hloc p)
 have S:=h.shr.KT;refine⟨⟨⟨by rw [ZgP];exact S.m1,by rw [ZgP];exact S.m2,by rw [ZgO];exact S.p1,by rw [ZgO];exact S.p2,by rw [hbx,ZgO];exact S.bx,by rw [hhd,ZgP];exact S.hd,by rw [ZgP,ZgO];exact S.rw_⟩,h.shr.inn.eq ZgO,hs1,hs2,fun m hm p hp=>(h.shr.ent m (by rw [← ZgP];exact hm) p (by rw [← ZgO];exact hp)).eq ZgP,fun x hx=>?_⟩,fun p hp=>?_,fun p hp hq=>?_,fun m hm p hp hh=>?_,fun m hm y hy=>?_,fun x hx hk=>?_,fun x hx hk=>?_⟩
 ·rcases hlet x hx with q | q
  ·exact v.Xg (h.shr.Xg x q)
  ·exact v.Xg q.1
 ·rw [hloc];exact h.loc p (by rw [← ZgO];exact hp)
 ·rw [Zh5 ZgO] at hq ⊢;rw [hsp,hsp];have:=h.tog p (by rw [← ZgO];exact hp) hq;refine⟨this.1,this.2.1,fun z=>?_⟩;obtain⟨x,hx,k,a,b⟩:=this.2.2 z;exact⟨x,hk2 x hx k,k,a,b⟩
 ·rw [ZpM ZgP] at hh ⊢;exact v.rt p (by rw [← ZgO];exact hp) _ _ (h.ent m (by rw [← ZgP];exact hm) p (by rw [← ZgO];exact hp) hh)
 ·rw [ZgP] at hm;rw [hsp];rcases ZPU m hm y hy with q | q
  ·have:=h.hel m hm y q;exact⟨v.Yi this.1,this.2⟩
  ·exact⟨v.Yi q.1,q.2⟩
 ·rcases hlet x hx with q | q
  ·exact v.Yi (h.mai x q hk)
  ·exact v.Yi (q.2.1 hk)
 ·rcases hlet x hx with q | q
  ·have hn:= (h.shr.Xg x q).ntd hk;exact v.rt _ (by omega) _ _ (h.ntd x q hk)
  ·have hn:=q.1.ntd hk;exact v.rt _ (by omega) _ _ (q.2.2 hk)
section
variable {w:Zb}
theorem Zhc (h:Wm w) {k:Nat} (hk:k < w.qG.length) (h2:(ZJ w k).kind ≠ 2):Wm (YK w k):=by
 refine h.upd rfl rfl rfl rfl h.shr.sd1 h.shr.sd2 (fun p=>?_) (fun x hx hk2=>?_) (fun x hx=>.inl (ZfW hx)) (fun m _ y hy=>.inl hy)
 ·rw [Kt hk,Zk8 h2,Ze1,List.append_nil]
 ·rw [ZaM hk] at hx;rcases List.mem_append.1 hx with q | q
  ·exact List.mem_append.2 (.inl q)
  ·rcases List.mem_cons.1 q with r | r
   ·rw [r] at hk2;exact absurd hk2 h2
   ·exact List.mem_append.2 (.inr r)
theorem Zln (h:Wm w) (hs:w.said < 40):Wm (Zc2 w):=
 h.upd rfl rfl rfl rfl (by have:=h.shr.sd1;show 0 <=w.said + 1;omega) (by show w.said + 1 <=40;omega) (fun _=>rfl) (fun x hx _=>hx) (fun x hx=>.inl hx) (fun m _ y hy=>.inl hy)
structure Rtd (w:Zb) (m:Nat) (x:Zr) (now:Bool):Prop where
 hm:m < w.qQ.length
 pl:Wt x.place w.Zv.length
 fr:Wt x.from_ w.qQ.length
 old:now=false ->QW w m x
 new:now=true ->x.age=0∧x.hops=0
theorem Wm.Ze6 (h:Wm w) {p:Nat} (hp:p < w.Zv.length):(sp w p).age <=30:=Proofs.YtbmbbcaaimehkaaGreat.Ze6 h.shr hp (h.loc p hp)
theorem ZtR {to:Int} {y:Zr} (h1:0 <=to) (h2:to < (w.qQ.length:Int)):Zjx w (Zgu to y):=
 ⟨h1,h2,.inl ⟨rfl,rfl,rfl,rfl,rfl,rfl⟩,fun i hi=>absurd hi (Nat.not_lt_zero i),fun q=>absurd (show(1:Int)=3 from q) (by omega)⟩
theorem ZtP {to p at_ age:Int} (h1:Wt to w.qQ.length) (h2:Wt p w.Zv.length) (h3:at_ ≠ to):Zjx w (Zwr to p at_ age):=
 ⟨h1.1,h1.2,.inr (.inr ⟨rfl,rfl,rfl,rfl⟩),fun i hi=>absurd hi (Nat.not_lt_zero i),fun _=>⟨h2.1,h2.2,h3⟩⟩
theorem ZnH (h:Wm w) {m:Nat} {x:Zr} {now:Bool} (r:Rtd w m x now):Wm (XI w m x now).1:=by
 obtain⟨p,ep,hp⟩:=r.pl.nat;have hm:=r.hm;have S:=h.shr.KT;unfold XI;rw [ep,Int.toNat_natCast];by_cases hh:(E w m p).here=true
 ·rw [if_pos hh];exact h.upd rfl rfl (Xb _ _ _) rfl h.shr.sd1 h.shr.sd2 (fun _=>rfl) (fun x hx _=>hx) (fun x hx=>.inl hx) (fun m _ y hy=>.inl hy)
 have hh':(E w m p).here=false:=by simpa using hh
 rw [if_neg hh];have re:=h.ent m hm p hp hh';by_cases hc:now=false∧(E w m p).age <=x.age
 ·rw [if_pos hc];have ho:=r.old hc.1;obtain⟨o1,o2,o3,o4,o5,o6,o7⟩:=id ho;refine h.upd rfl rfl rfl (Xb _ _ _) h.shr.sd1 h.shr.sd2 (fun _=>rfl) (fun x hx _=>hx) (fun x hx=>.inl hx) (fun m' hm' y hy=>?_);have hb:ZF {w with qJ:=Yr w.qJ (m:Int) (ZF w m ++ [x])} m'=if m'=m then ZF w m ++ [x] else ZF w m':=QX (by rw [S.hd];exact hm)
  rw [hb] at hy;by_cases e:m'=m
  ·rw [if_pos e] at hy;rcases List.mem_append.1 hy with q | q
   ·rw [e];exact .inl q
   ·rw [List.mem_singleton.1 q,e];refine .inr ⟨ho,?_⟩;rw [ep,Int.toNat_natCast] at o5 ⊢;obtain⟨a1,a2,a3,a4,a5,a6⟩:=o5;rw [Int.toNat_natCast] at a6;have e1:x.age= (sp w p).age:=Classical.byContradiction fun z=>by have:=a6 z;omega
    have e2:=a5 e1
    have e3:(sp w p).here=false:=by
     rcases ZbB (h.loc p hp) with⟨k,hk,he,es⟩ | ⟨y,hy,hk,i,hi,hpi,es⟩
     ·rw [es] at e2;have:m=k:=by have:(m:Int)= (k:Int):=e2;omega
      rw [← this,hh'] at he;cases he
     ·rw [es]
    rw [e1,e2,← e3]
  ·rw [if_neg e] at hy;exact .inl hy
 ·rw [if_neg hc];have ha:=h.Ze6 hp;obtain⟨a1,a2,a3,a4,a5,a6⟩:=id re;have hE:=h.shr.ent m hm p hp;refine h.upd rfl rfl rfl rfl h.shr.sd1 h.shr.sd2 (fun q=>?_) (fun x hx _=>List.mem_append.2 (.inl hx)) (fun y hy=>?_) (fun m _ y hy=>.inl hy)
  ·show XZ (w.qG ++ _::told (m:Int) x (E w m p) now) q=_
   have e0:XZ (Zgu (E w m p).Z8 (Zds x (E w m p))::told (m:Int) x (E w m p) now) q= []:=by
    apply ZrZ;intro y hy;rcases List.mem_cons.1 hy with z | z
    ·rw [z];show(1:Int) ≠ 2;omega
    ·unfold told at z;split at z
     ·rw [List.mem_singleton.1 z];show(3:Int) ≠ 2;omega
     ·cases z
   rw [Zam,e0,List.append_nil]
  ·rcases List.mem_append.1 hy with q | q
   ·exact .inl q
   refine .inr ?_;rcases List.mem_cons.1 q with z | z
   ·subst z;refine⟨ZtR a3 a4,fun _=>?_,fun q=>absurd (show(1:Int)=3 from q) (by omega)⟩;show QW w (E w m p).Z8 (Zds x (E w m p));refine⟨r.pl.1,r.pl.2,r.fr.1,r.fr.2,?_,?_,?_⟩
    ·show RtX w x.place.toNat (E w m p).Z8 (E w m p).age;rw [ep,Int.toNat_natCast];exact re
    ·show 1 <=x.hops + 1;cases hn:now with
     | true=>have:=r.new hn;omega
     | false=>have:= (r.old hn).2.2.2.2.2.1;omega
    ·show x.hops + 1 <=Xa (1 + (E w m p).age);rw [Int.add_comm 1,ZaN a1 (by omega)];cases hn:now with
     | true=>have:=r.new hn;omega
     | false=>
       have o:=r.old hn;have o1:=o.2.2.2.2.1.1;have o2:=o.2.2.2.2.1.2.1;have o3:=o.2.2.2.2.2.2;rw [ep,Int.toNat_natCast] at o2;rw [Int.add_comm,ZaN o1 (by omega)] at o3;have:¬ (E w m p).age <=x.age:=fun z=>hc ⟨hn,z⟩
       omega
   ·unfold told at z;split at z
    ·rename_i ht;rw [List.mem_singleton.1 z];refine⟨ZtP r.fr r.pl (fun q=>ht.2.2 q.symm),fun q=>absurd (show(3:Int)=1 from q) (by omega),fun _=>?_⟩;show RtX w x.place.toNat (E w m p).Z8 (E w m p).age;rw [ep,Int.toNat_natCast];exact re
    ·cases z
theorem ZAM (m:Int) (x:Zr) (e:Zw) (now:Bool):owL (told m x e now)= []:=by
 unfold told;split
 ·exact Zee (by show(3:Int) ≠ 1;omega)
 ·rfl
theorem ZnI (h:Wm w) {m:Nat} {x:Zr} {now:Bool} (r:Rtd w m x now) (a:Int×Int):(owes (XI w m x now).1).count a= (owes w).count a + [(x.msg,x.place)].count a:=by
 obtain⟨p,ep,hp⟩:=r.pl.nat;have S:=h.shr.KT;unfold XI owes;rw [ep,Int.toNat_natCast];simp only [List.count_append];by_cases hh:(E w m p).here=true
 ·rw [if_pos hh];have:=Zsf w {w with qK:=Yr w.qK (p:Int) (Qq w p ++ [x.msg])} (p:=p) (by rw [S.bx];exact hp) rfl a;simp only [List.map_cons,List.map_nil] at this;rw [this];show _ + (owH w).count a + (owL w.qG).count a=_;omega
 rw [if_neg hh];by_cases hc:now=false∧(E w m p).age <=x.age
 ·rw [if_pos hc];have:=Zse w {w with qJ:=Yr w.qJ (m:Int) (ZF w m ++ [x])} (m:=m) (by rw [S.hd];exact r.hm) rfl a;simp only [List.map_append,List.count_append,List.map_cons,List.map_nil,ep] at this;show(owB w).count a + (owH {w with qJ:=Yr w.qJ (m:Int) (ZF w m ++ [x])}).count a + (owL w.qG).count a=_;omega
 ·rw [if_neg hc];show(owB w).count a + (owH w).count a + (owL (w.qG ++ (Zgu _ _::told _ _ _ _))).count a=_;rw [Zcx,show(Zgu (E w m p).Z8 (Zds x (E w m p))::told (m:Int) x (E w m p) now)= [Zgu (E w m p).Z8 (Zds x (E w m p))] ++ told (m:Int) x (E w m p) now from rfl,Zcx,ZAM,Zn7 rfl,List.append_nil,List.count_append];show _ + (_ + List.count a [(x.msg,x.place)])=_;rw [ep];omega
end
end Go.Proofs.YtbmbbcaaimehkaaGreat
end
section
namespace Go.Proofs.YtbmbbcaaimehkaaGreat
open Go.Lf
theorem Zid {w w':Zb} {p:Nat}:∀ {k:Nat},(∀ m,m < k ->(E w' m p=E w m p)∨((E w' m p).here=false∧(E w m p).here=false)) ->Xc w' p k=Xc w p k:=by
 intro k
 induction k with
 | zero=>intro _;rfl
 | succ k ih=>
   intro h;rw [Jz,Jz,ih fun m hm=>h m (by omega)];rcases h k (by omega) with e | ⟨e1,e2⟩
   ·rw [e]
   ·rw [e1,e2];simp
section
variable {w:Zb}
theorem ZA1 (h:Wm w) {m p:Nat} (hm:m < w.qQ.length) (hp:p < w.Zv.length) {at_ age:Int} (hh:(E w m p).here=false) (ha:(E w m p).age < age) (hr:RtX w p at_ age) (hn:at_ ≠ (m:Int)):Wm (setW w m p ⟨false,at_,age⟩):=by
 have S:=h.shr.KT;have eE:=Zm8 S hm hp ⟨false,at_,age⟩;have hag:=h.Ze6 hp;have el:(setW w m p ⟨false,at_,age⟩).qQ.length=w.qQ.length:=ZbD _ _ _ _
 have hloc:∀ q,YB (setW w m p ⟨false,at_,age⟩) q=YB w q:=fun q=>by
  refine ZbT ?_ rfl;rw [el];refine Zid fun m' _=>?_
  rw [eE];by_cases c:m'=m∧q=p
  ·rw [if_pos c,c.1,c.2];exact .inr ⟨rfl,hh⟩
  ·rw [if_neg c];exact .inl rfl
 have hsp:∀ q,sp (setW w m p ⟨false,at_,age⟩) q=sp w q:=fun q=>Kv (hloc q)
 have v:Mv w (setW w m p ⟨false,at_,age⟩):=Mv.of rfl el (fun m' q _=>by
  rw [eE];by_cases c:m'=m∧q=p
  ·rw [if_pos c,c.1,c.2];exact Int.le_of_lt ha
  ·rw [if_neg c];exact Int.le_refl _) fun q _=>.inl (by rw [hsp];exact⟨rfl,rfl⟩)
 refine⟨⟨S.setW hm _,h.shr.inn.eq rfl,h.shr.sd1,h.shr.sd2,fun m' hm' q hq=>?_,fun x hx=>v.Xg (h.shr.Xg x hx)⟩,fun q hq=>by rw [hloc];exact h.loc q hq,fun q hq hi=>?_,fun m' hm' q hq hh'=>?_,fun m' hm' y hy=>?_,fun x hx hk=>v.Yi (h.mai x hx hk),fun x hx hk=>?_⟩
 ·rw [el] at hm';unfold ZdR;rw [eE,el];by_cases c:m'=m∧q=p
  ·rw [if_pos c,c.1];exact⟨hr.1,by have:=hr.2.1;show age <=30;omega,hr.2.2.1,hr.2.2.2.1,⟨fun z=>absurd z (by simp),fun z=>absurd z hn⟩⟩
  ·rw [if_neg c];exact h.shr.ent m' hm' q hq
 ·rw [hsp,hsp];exact h.tog q hq hi
 ·rw [el] at hm';rw [eE] at hh' ⊢;by_cases c:m'=m∧q=p
  ·rw [if_pos c,c.2];exact v.rt p hp _ _ hr
  ·rw [if_neg c] at hh' ⊢;exact v.rt q hq _ _ (h.ent m' hm' q hq hh')
 ·rw [el] at hm';have:=h.hel m' hm' y hy;rw [hsp];exact⟨v.Yi this.1,this.2⟩
 ·have hn:= (h.shr.Xg x hx).ntd hk;exact v.rt _ (by omega) _ _ (h.ntd x hx hk)
theorem Zem {p:Nat} {v:Int} (hp:p < w.Zv.length) (q:Nat):inn (Ka w (p:Int) v) (q:Int)=if q=p then v else inn w (q:Int):=by
 unfold inn Ka;rw [Int.toNat_natCast];exact QX hp
theorem Zd9 (p v:Int):(Ka w p v).Zv.length=w.Zv.length:=Xb _ _ _
theorem Zlc (hi:Inn w) {p:Nat} {v:Int} (hp:p < w.Zv.length) {x:Nat} (hx:x < w.Zv.length):∀ j,(∀ i,i < j ->up w i (x:Int) ≠ (p:Int)) ->up (Ka w (p:Int) v) j (x:Int)=up w j (x:Int):=by
 intro j
 induction j with
 | zero=>intro _;rfl
 | succ j ih=>
   intro h;have e:=ih fun i hi=>h i (by omega)
   rw [Qx,Qx,e];by_cases hn:up w j (x:Int) < 0
   ·rw [if_pos hn,if_pos hn]
   ·rw [if_neg hn,if_neg hn];obtain⟨q,eq,hq⟩:=QN (hi.up (q:= (x:Int)) ⟨by omega,by omega⟩ j) hn;rw [eq,Zem hp,if_neg (fun z=>h j (by omega) (by rw [eq,z]))]
theorem Zz8 (hi:Inn w) {p q:Nat} (hp:p < w.Zv.length) (hq:q < w.Zv.length) (hn:¬ Wth w p q):Inn (Ka w (p:Int) (q:Int)):=by
 have el:=Zd9 (w:=w) (p:Int) (q:Int)
 have hr:∀ x:Nat,x < (Ka w (p:Int) (q:Int)).Zv.length ->okN (Ka w (p:Int) (q:Int)) (inn (Ka w (p:Int) (q:Int)) (x:Int)):=fun x hx=>by
  rw [el] at hx;rw [Zem hp];unfold okN;rw [el];by_cases e:x=p
  ·rw [if_pos e];omega
  ·rw [if_neg e];exact hi.rng x hx
 refine⟨hr,(Zhj hr).2 fun x hx j hj hc=>?_⟩;rw [el] at hx hj;have old:∀ i,up (Ka w (p:Int) (q:Int)) i (q:Int)=up w i (q:Int):=fun i=>Zlc hi hp hq i fun k _ z=>hn ⟨k,z⟩
 by_cases hz:∃ i,i < j + 1∧up w i (x:Int)= (p:Int)
 ·obtain⟨i,hil,e⟩:=hz;obtain⟨n,hnn,hcn,hlt⟩:=Qn (c:=fun i=>up w i (x:Int)= (p:Int)) e;have e1:up (Ka w (p:Int) (q:Int)) n (x:Int)= (p:Int):=by rw [Zlc hi hp hx n hlt];exact hcn
  have e2:up (Ka w (p:Int) (q:Int)) (j + 1) (p:Int)= (p:Int):=by
   have t:=up_add (Ka w (p:Int) (q:Int)) n (j + 1) (x:Int);rw [e1,Nat.add_comm,up_add,hc,e1] at t;exact t.symm
  have e3:up (Ka w (p:Int) (q:Int)) (j + 1) (p:Int)=up (Ka w (p:Int) (q:Int)) j (q:Int):=by
   show(if(p:Int) < 0 then _ else up _ j (inn _ (p:Int)))=_;rw [if_neg (by omega),Zem hp,if_pos rfl]
  rw [e3,old] at e2;exact hn ⟨j,e2⟩
 ·rw [Zlc hi hp hx _ fun i h q=>hz ⟨i,h,q⟩] at hc;exact(Zhj hi.rng).1 hi.acy x hx j hj hc
theorem Zv5 (h:Wm w) {p:Nat} {v:Int} (hp:p < w.Zv.length) (hi:Inn (Ka w (p:Int) v)) (ht:0 <=v ->(sp w v.toNat).machine= (sp w p).machine∧(sp w v.toNat).here=true∧(sp w p).here=true):Wm (Ka w (p:Int) v):=by
 have el:=Zd9 (w:=w) (p:Int) v;have S:=h.shr.KT;have v':Mv w (Ka w (p:Int) v):=Mv.same el rfl fun _ _=>rfl
 refine⟨⟨⟨S.m1,S.m2,by rw [el];exact S.p1,by rw [el];exact S.p2,by rw [el];exact S.bx,S.hd,by rw [el];exact S.rw_⟩,hi,h.shr.sd1,h.shr.sd2,fun m hm q hq=>h.shr.ent m hm q (by rw [← el];exact hq),fun x hx=>v'.Xg (h.shr.Xg x hx)⟩,fun q hq=>h.loc q (by rw [← el];exact hq),fun q hq hz=>?_,fun m hm q hq hh=>v'.rt q (by rw [← el];exact hq) _ _ (h.ent m hm q (by rw [← el];exact hq) hh),fun m hm y hy=>⟨v'.Yi (h.hel m hm y hy).1,(h.hel m hm y hy).2⟩,fun x hx hk=>v'.Yi (h.mai x hx hk),fun x hx hk=>?_⟩
 ·rw [el] at hq;rw [Zem hp] at hz ⊢;by_cases e:q=p
  ·rw [if_pos e] at hz ⊢;have:=ht hz;rw [e];exact⟨this.1,this.2.1.trans this.2.2.symm,fun z=>by rw [show sp (Ka w (p:Int) v) p=sp w p from rfl,this.2.2] at z;cases z⟩
  ·rw [if_neg e] at hz ⊢;exact h.tog q hq hz
 ·have hn:= (h.shr.Xg x hx).ntd hk;exact v'.rt _ (by omega) _ _ (h.ntd x hx hk)
theorem ZEH (h:Wm w) {p:Nat} (hp:p < w.Zv.length):∀ (j q:Nat),q < w.Zv.length ->up w j (q:Int)= (p:Int) ->(sp w q).machine= (sp w p).machine∧(sp w q).here= (sp w p).here:=by
 intro j
 induction j with
 | zero=>intro q hq e;have:q=p:=by have:(q:Int)= (p:Int):=e;omega
         rw [this];exact⟨rfl,rfl⟩
 | succ j ih=>
   intro q hq e
   have e':up w j (inn w (q:Int))= (p:Int):=by
    have:(if(q:Int) < 0 then(q:Int) else up w j (inn w (q:Int)))= (p:Int):=e;rw [if_neg (by omega)] at this;exact this
   have h0:¬ inn w (q:Int) < 0:=fun z=>by rw [Zld z] at e';omega
   obtain⟨r,er,hr⟩:=QN (h.shr.inn.rng q hq) h0;have t:=h.tog q hq (by omega);rw [er] at e';have i:=ih r hr e';rw [er,Int.toNat_natCast] at t;exact⟨t.1 ▸ i.1,t.2.1 ▸ i.2⟩
theorem Znm {x:Ze} (hk:x.kind=2) (nd:x.qV.Nodup) {i p:Nat} (hi:i < x.qV.length) (hp:x.qV.getD i 0= (p:Int)):WI x p= [⟨x.Z8,false,x.Yh.getD i 0⟩]:=by
 unfold WI;rw [if_pos hk];have hl:=Zdj x p x.qV.length (Nat.le_refl _);rw [List.take_of_length_le (Nat.le_refl _)] at hl;have hm:(p:Int) ∈ x.qV:=by rw [← hp,YT hi];exact List.getElem_mem hi
 have hc:=List.nodup_iff_count.1 nd (p:Int);have hc2:=List.count_pos_iff.2 hm;obtain⟨s,e⟩:=List.length_eq_one_iff.1 (show(Wv x p x.qV.length).length=1 by omega);have:Ym.mk x.Z8 false (x.Yh.getD i 0) ∈ Wv x p x.qV.length:=Zal.2 ⟨i,hi,hp,rfl⟩;rw [e] at this ⊢;rw [List.mem_singleton.1 this]
theorem Zks {x:Ze} {p:Nat} (hm:(p:Int) ∉ x.qV):WI x p= []:=by
 unfold WI;split
 ·apply List.eq_nil_iff_forall_not_mem.2;intro s hs;obtain⟨i,hi,hp,_⟩:=Zal.1 hs;exact hm (by rw [← hp,YT hi];exact List.getElem_mem hi)
 ·rfl
theorem Zai (hi:Inn w) {p q:Nat}:(q:Int) ∈ Yq w p↔q < w.Zv.length∧Wth w p q:=by
 rw [Zko hi]
 exact⟨fun⟨x,e,hx,hw⟩=>by have:q=x:=by omega
                          subst this;exact⟨hx,hw⟩,fun⟨a,b⟩=>⟨q,rfl,a,b⟩⟩
end
end Go.Proofs.YtbmbbcaaimehkaaGreat
end
section
namespace Go.Proofs.YtbmbbcaaimehkaaGreat
open Go.Lf
section
variable {w:Zb}
theorem Wm.Kc (h:Wm w) {p:Nat} (hp:p < w.Zv.length) (hh:(sp w p).here=true):sp w p= ⟨(mOf w p:Int),true,(E w (mOf w p) p).age⟩∧mOf w p < w.qQ.length∧(E w (mOf w p) p).here=true:=by
 rcases ZbB (h.loc p hp) with⟨m,hm,he,e⟩ | ⟨x,hx,hk,i,hi,hpi,e⟩
 ·unfold mOf;rw [e];exact⟨by simp,by simpa using hm,by simpa using he⟩
 ·rw [e] at hh;cases hh
theorem Wm.only (h:Wm w) {p m:Nat} (hp:p < w.Zv.length) (hm:m < w.qQ.length) (hh:(E w m p).here=true):sp w p= ⟨(m:Int),true,(E w m p).age⟩∧Xc w p w.qQ.length= [⟨(m:Int),true,(E w m p).age⟩]∧XZ w.qG p= []∧∀ m',m' < w.qQ.length ->m' ≠ m ->(E w m' p).here=false:=by
 have hl:=h.loc p hp;have h1:Ym.mk (m:Int) true (E w m p).age ∈ Xc w p w.qQ.length:=ZcF.2 ⟨m,hm,hh,rfl⟩
 have h2:(Xc w p w.qQ.length).length=1∧(XZ w.qG p).length=0:=by
  unfold YB at hl;rw [List.length_append] at hl;have:=List.length_pos_of_mem h1;omega
 obtain⟨s,e⟩:=List.length_eq_one_iff.1 h2.1;have e3:=List.length_eq_zero_iff.1 h2.2;rw [e] at h1;have e4:=List.mem_singleton.1 h1;have e5:sp w p=s:=Zr2 (by unfold YB;rw [e,e3];rfl);refine⟨by rw [e5,e4],by rw [e,e4],e3,fun m' hm' hne=>?_⟩;cases q:(E w m' p).here with
 | false=>rfl
 | true=>
   have:Ym.mk (m':Int) true (E w m' p).age ∈ Xc w p w.qQ.length:=ZcF.2 ⟨m',hm',q,rfl⟩;rw [e,← e4] at this;have:=List.mem_singleton.1 this;injection this with a b c
   exact absurd (by omega) hne
structure Trv (w:Zb) (p:Nat) (to:Int):Prop where
 hp:p < w.Zv.length
 here:(sp w p).here=true
 off:(sp w p).machine ≠ to
 Z8:Wt to w.qQ.length
 old:∀ q:Nat,(q:Int) ∈ Yq w p ->(sp w q).age < 30
variable {p:Nat} {to:Int}
theorem K3 (h:Wm w) (t:Trv w p to) {q:Nat} (hq:(q:Int) ∈ Yq w p):q < w.Zv.length∧sp w q= ⟨(mOf w p:Int),true,(E w (mOf w p) q).age⟩∧(E w (mOf w p) q).here=true:=by
 obtain⟨hql,j,e⟩:= (Zai h.shr.inn).1 hq;have s:=ZEH h t.hp j q hql e;have a:=h.Kc t.hp t.here;have b:=h.Kc hql (s.2.trans t.here);have em:mOf w q=mOf w p:=by unfold mOf;rw [s.1]
 rw [em] at b;exact⟨hql,b.1,b.2.2⟩
theorem Ztv (h:Wm w) (t:Trv w p to):(p:Int) ∈ Yq w p:= (Zai h.shr.inn).2 ⟨t.hp,0,rfl⟩
theorem Zyz (h:Wm w) (t:Trv w p to):GoB w (mOf w p) (Yq w p):=by
 have a:=h.Kc t.hp t.here;refine⟨h.shr.KT,a.2.1,Zaj w p,J8 w p,fun q hq=>?_⟩;obtain⟨k,rfl,hk⟩:= (Zaj w p q hq).nat;have:=h.shr.ent _ a.2.1 k hk;rw [Int.toNat_natCast];exact⟨this.1,this.2.1⟩
theorem Ze5 (h:Wm w) (t:Trv w p to) (m' q:Nat):E (J9 w p to).1 m' q=if m'=mOf w p∧(q:Int) ∈ Yq w p then⟨false,to,(E w (mOf w p) q).age + 1⟩ else E w m' q:=by
 have:=ZD9 (to:=to) (Zyz h t) (Yq w p).length (Nat.le_refl _) m' q;rw [List.take_of_length_le (Nat.le_refl _)] at this;exact this
theorem Zd3 (w:Zb) (p:Nat) (to:Int):(J9 w p to).1.qQ.length=w.qQ.length:= (Zfs w _ to _ _).2.2.2.2.2
theorem Zhu (w:Zb) (p:Nat) (to:Int):(J9 w p to).1.Zv.length=w.Zv.length:=Xb _ _ _
def Zgj (w:Zb) (p:Nat) (to:Int):Ze:=ZwL to (Yq w p) ((Yq w p).map (goA w (mOf w p)))
theorem Zct (w:Zb) (p:Nat) (to:Int):(J9 w p to).1.qG=w.qG ++ [Zgj w p to]:=rfl
theorem Ztx (q:Nat):WI (Zgj w p to) q=if(q:Int) ∈ Yq w p then [⟨to,false,(E w (mOf w p) q).age + 1⟩] else []:=by
 by_cases hq:(q:Int) ∈ Yq w p
 ·rw [if_pos hq];obtain⟨i,hi,e⟩:=List.getElem_of_mem hq;have:=Znm (x:=Zgj w p to) rfl (J8 w p) (i:=i) (p:=q) hi (by rw [← e];exact YT hi);rw [this];show [Ym.mk to false (((Yq w p).map (goA w (mOf w p))).getD i 0)]=_;rw [YT (by rw [List.length_map];exact hi),List.getElem_map,e];unfold goA;rw [Int.toNat_natCast]
 ·rw [if_neg hq];exact Zks hq
theorem Zku (h:Wm w) (t:Trv w p to) {q:Nat} (hq:q < w.Zv.length):YB (J9 w p to).1 q=if(q:Int) ∈ Yq w p then [⟨to,false,(E w (mOf w p) q).age + 1⟩] else YB w q:=by
 have a:=h.Kc t.hp t.here;unfold YB;rw [Zct,Zam,Znl,Ztx,Zd3];by_cases c:(q:Int) ∈ Yq w p
 ·have b:=K3 h t c;have o:=h.only hq a.2.1 b.2.2
  have e0:Xc (J9 w p to).1 q w.qQ.length= []:=ZkI fun m' hm'=>by
   rw [Ze5 h t];by_cases e:m'=mOf w p∧(q:Int) ∈ Yq w p
   ·rw [if_pos e]
   ·rw [if_neg e];exact o.2.2.2 m' hm' fun z=>e ⟨z,c⟩
  rw [if_pos c,if_pos c,o.2.2.1,e0]
  rfl
 ·rw [if_neg c,if_neg c,List.append_nil,K6 (w:=w) fun m' _=>by rw [Ze5 h t,if_neg fun z=>c z.2]]
theorem ZaO (h:Wm w) (t:Trv w p to) {q:Nat} (hq:q < w.Zv.length):sp (J9 w p to).1 q=if(q:Int) ∈ Yq w p then⟨to,false,(E w (mOf w p) q).age + 1⟩ else sp w q:=by
 have:=Zku h t hq;by_cases c:(q:Int) ∈ Yq w p
 ·rw [if_pos c] at this ⊢;exact Zr2 this
 ·rw [if_neg c] at this ⊢;exact Kv this
theorem ZAL (h:Wm w) (t:Trv w p to):Mv w (J9 w p to).1:=by
 refine Mv.of (Zhu _ _ _) (Zd3 _ _ _) (fun m q hq=>?_) fun q hq=>?_
 ·rw [Ze5 h t];by_cases e:m=mOf w p∧(q:Int) ∈ Yq w p
  ·rw [if_pos e,e.1];show _ <=_ + 1;omega
  ·rw [if_neg e];exact Int.le_refl _
 ·rw [ZaO h t hq];by_cases c:(q:Int) ∈ Yq w p
  ·rw [if_pos c];have b:=K3 h t c;refine .inr ⟨mOf w p,by rw [b.2.1],by rw [b.2.1];dsimp only;omega,?_⟩;rw [Ze5 h t,if_pos ⟨rfl,c⟩,b.2.1];dsimp only;omega
  ·rw [if_neg c];exact .inl ⟨rfl,rfl⟩
theorem Zvr (w:Zb) (p:Nat) {i:Nat} (hi:i < (Yq w p).length) (h0:0 < i):(Yq w p).getD (i - 1) 0 < (Yq w p).getD i 0:=by
 rw [YT hi,YT (by omega)];have h1:=List.pairwise_iff_getElem.1 (ZdW w p) (i - 1) i (by omega) hi (by omega);have h2:=List.pairwise_iff_getElem.1 (J8 w p) (i - 1) i (by omega) hi (by omega);omega
theorem Znt (w:Zb) {p:Nat} (hp:p < w.Zv.length) (to:Int) (q:Nat):inn (J9 w p to).1 (q:Int)=if q=p then -1 else inn w (q:Int):=Zen hp q
theorem Zkn (h:Wm w) (t:Trv w p to) {q r:Nat} (hq:q < w.Zv.length) (hne:q ≠ p) (e:inn w (q:Int)= (r:Int)):(q:Int) ∈ Yq w p↔(r:Int) ∈ Yq w p:=by
 have hr:r < w.Zv.length:=by have:= (h.shr.inn.rng q hq).2;omega
 rw [Zai h.shr.inn,Zai h.shr.inn]
 constructor
 ·rintro⟨_,j,ej⟩;cases j with
  | zero=>exact absurd (by have:(q:Int)= (p:Int):=ej;omega) hne
  | succ j=>
    have:(if(q:Int) < 0 then(q:Int) else up w j (inn w (q:Int)))= (p:Int):=ej;rw [if_neg (by omega),e] at this;exact⟨hr,j,this⟩
 ·rintro⟨_,j,ej⟩;refine⟨hq,j + 1,?_⟩;show(if(q:Int) < 0 then(q:Int) else up w j (inn w (q:Int)))=_;rw [if_neg (by omega),e];exact ej
theorem Zty (h:Wm w) (t:Trv w p to):Zjx w (Zgj w p to):=by
 refine⟨t.Z8.1,t.Z8.2,.inr (.inl ⟨rfl,rfl,rfl,rfl,rfl,?_,?_⟩),fun i hi=>?_,fun q=>absurd (show(2:Int)=3 from q) (by omega)⟩
 ·intro z;have:=Ztv h t;rw [show Yq w p= [] from z] at this;cases this
 ·show(Yq w p).length= ((Yq w p).map _).length;rw [List.length_map]
 ·have hi':i < (Yq w p).length:=hi;have hm:=List.getElem_mem hi';obtain⟨q,eq,hq⟩:= (Zaj w p _ hm).nat;rw [eq] at hm;have b:=K3 h t hm;have a:=h.Kc t.hp t.here;have hx:=h.shr.ent _ a.2.1 q hq;have ho:=t.old q hm;rw [b.2.1] at ho;have ho':(E w (mOf w p) q).age < 30:=ho
  have eA:(Zgj w p to).Yh.getD i 0= (E w (mOf w p) q).age + 1:=by
   show((Yq w p).map (goA w (mOf w p))).getD i 0=_;rw [YT (by rw [List.length_map];exact hi'),List.getElem_map,eq];unfold goA;rw [Int.toNat_natCast]
  have e0:(Zgj w p to).qV.getD i 0= (q:Int):= (YT hi').trans eq;unfold KR;rw [eA,e0];have h1:=hx.1;refine⟨by omega,by omega,fun z=>?_,by omega,by omega⟩;rw [← e0];exact Zvr w p hi' z
theorem ZAJ (h:Wm w) (t:Trv w p to):Wm (J9 w p to).1:=by
 have a:=h.Kc t.hp t.here;have v:=ZAL h t;have S:=h.shr.KT;have el:=Zd3 w p to;have ei:=Zhu w p to;have g:=Zyz h t;have hi:Inn (J9 w p to).1:= (ZeQ h.shr.inn t.hp).eq rfl;refine⟨⟨⟨by rw [el];exact S.m1,by rw [el];exact S.m2,by rw [ei];exact S.p1,by rw [ei];exact S.p2,by rw [ei];exact S.bx,by rw [el];exact S.hd,?_⟩,hi,h.shr.sd1,h.shr.sd2,fun m hm q hq=>?_,fun x hx=>?_⟩,fun q hq=>?_,fun q hq hz=>?_,fun m hm q hq hh=>?_,fun m hm y hy=>?_,fun x hx hk=>?_,fun x hx hk=>?_⟩
 ·rw [ei,← (Zfs w (mOf w p) to (Yq w p) (Yq w p).length).1];exact(Zl1 g _).rw_
 ·rw [el] at hm;rw [ei] at hq;unfold ZdR;rw [Ze5 h t,el];by_cases c:m=mOf w p∧(q:Int) ∈ Yq w p
  ·rw [if_pos c];have b:=K3 h t c.2;have hx:=h.shr.ent _ a.2.1 q hq;have ho:=t.old q c.2;rw [b.2.1] at ho;have ho':(E w (mOf w p) q).age < 30:=ho;have h1:=hx.1;refine⟨by show 0 <=_ + 1;omega,by show _ + 1 <=_;omega,t.Z8.1,t.Z8.2,⟨fun z=>by simp at z,fun z=>absurd ?_ t.off⟩⟩;rw [a.1,← c.1];exact z.symm
  ·rw [if_neg c];exact h.shr.ent m hm q hq
 ·rw [Zct] at hx;rcases List.mem_append.1 hx with z | z
  ·exact v.Xg (h.shr.Xg x z)
  ·rw [List.mem_singleton.1 z];exact v.Xg (Zty h t)
 ·rw [ei] at hq;rw [Zku h t hq];by_cases c:(q:Int) ∈ Yq w p
  ·rw [if_pos c];rfl
  ·rw [if_neg c];exact h.loc q hq
 ·rw [ei] at hq;rw [Znt w t.hp] at hz ⊢;by_cases e:q=p
  ·rw [if_pos e] at hz;exact absurd hz (by omega)
  rw [if_neg e] at hz ⊢;obtain⟨r,er,hr⟩:=QN (h.shr.inn.rng q hq) (by omega);have tg:=h.tog q hq hz;rw [er,Int.toNat_natCast] at tg;rw [er,Int.toNat_natCast,ZaO h t hq,ZaO h t hr];have iff:=Zkn h t hq e er;by_cases c:(q:Int) ∈ Yq w p
  ·rw [if_pos c,if_pos (iff.1 c)];exact⟨rfl,rfl,fun _=>⟨Zgj w p to,List.mem_append.2 (.inr (List.mem_singleton.2 rfl)),rfl,c,iff.1 c⟩⟩
  ·rw [if_neg c,if_neg fun z=>c (iff.2 z)];refine⟨tg.1,tg.2.1,fun z=>?_⟩;obtain⟨x,hx,k,a1,b1⟩:=tg.2.2 z;exact⟨x,List.mem_append.2 (.inl hx),k,a1,b1⟩
 ·rw [el] at hm;rw [ei] at hq;rw [Ze5 h t] at hh ⊢;by_cases c:m=mOf w p∧(q:Int) ∈ Yq w p
  ·rw [if_pos c];have b:=K3 h t c.2;have hx:=h.shr.ent _ a.2.1 q hq;have h1:=hx.1;unfold RtX;rw [ZaO h t hq,if_pos c.2,el];exact⟨by show 0 <=_ + 1;omega,Int.le_refl _,t.Z8.1,t.Z8.2,fun _=>rfl,fun z=>absurd rfl z⟩
  ·rw [if_neg c] at hh ⊢;exact v.rt q hq _ _ (h.ent m hm q hq hh)
 ·rw [el] at hm;have b:=h.hel m hm y hy;have hp1:=b.1.1;have hp2:=b.1.2.1;obtain⟨q,eq⟩:∃ q:Nat,y.place= (q:Int):= ⟨y.place.toNat,by omega⟩
  have b2:=b.2;rw [eq,Int.toNat_natCast] at b2 ⊢
  have c:(q:Int) ∉ Yq w p:=fun z=>by
   have:= (K3 h t z).2.1;rw [b2] at this;injection this with _ e _
   cases e
  rw [ZaO h t (by omega),if_neg c];exact⟨v.Yi b.1,b2⟩
 ·rcases List.mem_append.1 hx with z | z
  ·exact v.Yi (h.mai x z hk)
  ·rw [List.mem_singleton.1 z] at hk;exact absurd (show(2:Int)=1 from hk) (by omega)
 ·rcases List.mem_append.1 hx with z | z
  ·have hn:= (h.shr.Xg x z).ntd hk;exact v.rt _ (by omega) _ _ (h.ntd x z hk)
  ·rw [List.mem_singleton.1 z] at hk;exact absurd (show(2:Int)=3 from hk) (by omega)
theorem ZAK (w:Zb) (p:Nat) (to:Int):owes (J9 w p to).1=owes w:=by
 unfold owes;rw [Zct,Zcx,Zee (show(Zgj w p to).kind ≠ 1 by show(2:Int) ≠ 1;omega),List.append_nil]
 rfl
end
end Go.Proofs.YtbmbbcaaimehkaaGreat
end
section
namespace Go.Proofs.YtbmbbcaaimehkaaGreat
open Go.Lf
section
variable {w:Zb}
theorem Wm.nodup (h:Wm w) {x:Ze} (hx:x ∈ w.qG) (hk:x.kind=2):x.qV.Nodup:=by
 rw [List.nodup_iff_count];intro a;by_cases ha:a ∈ x.qV
 ·obtain⟨i,hi,rfl⟩:=List.getElem_of_mem ha;have e0:x.qV.getD i 0=x.qV[i]:=YT hi;have hp:= (h.shr.Xg x hx).U4 i hi;unfold KR at hp;rw [e0] at hp;obtain⟨p,e⟩:∃ p:Nat,x.qV[i]= (p:Int):= ⟨x.qV[i].toNat,by omega⟩
  have hl:=h.loc p (by omega);unfold YB at hl;rw [List.length_append] at hl;have h1:=Zr0 hx p;have h2:WI x p=Wv x p x.qV.length:=by unfold WI;rw [if_pos hk]
  rw [h2,Zdj x p _ (Nat.le_refl _),List.take_of_length_le (Nat.le_refl _)] at h1;rw [e];omega
 ·rw [List.count_eq_zero_of_not_mem ha];omega
theorem Wm.mvl (h:Wm w) {x:Ze} (hx:x ∈ w.qG) (hk:x.kind=2):MvL w x x.Z8.toNat:=by
 have hl:=h.shr.Xg x hx;have h8:=h.shr.KT.p2;have Zxe:∀ i,i < x.qV.length ->Wt (x.qV.getD i 0) w.Zv.length:=fun i hi=>⟨(hl.U4 i hi).1,(hl.U4 i hi).2.1⟩
 have hsub:x.qV ⊆ Xr w.Zv.length:=fun a ha=>by
  have:= (Wy (d:= (0:Int)) (P:=fun a=>Wt a w.Zv.length)).1 Zxe a ha;unfold Wt at this;unfold Xr;exact List.mem_map.2 ⟨a.toNat,List.mem_range.2 (by omega),by show((a.toNat:Nat):Int)=a;omega⟩
 have hlen:= (h.nodup hx hk).length_le_of_subset hsub;rw [QM] at hlen;exact⟨by have:=hl.to1;omega,by have:=hl.to1;have:=hl.to2;omega,hl.Y7.len,by omega,Zxe⟩
structure Car (w:Zb) (k:Nat):Prop where
 hk:k < w.qG.length
 two:(ZJ w k).kind=2
theorem Car.mem {k:Nat} (c:Car w k):ZJ w k ∈ w.qG:=YC c.hk
theorem ZpZ (h:Wm w) {k:Nat} (c:Car w k) {i q:Nat} (hi:i < (ZJ w k).qV.length) (hq:(ZJ w k).qV.getD i 0= (q:Int)):
 q < w.Zv.length∧sp w q= ⟨(ZJ w k).Z8,false,(ZJ w k).Yh.getD i 0⟩∧Xc w q w.qQ.length= []∧XZ (w.qG.take k) q= []∧XZ (w.qG.drop (k + 1)) q= []:=by
 have hp:= (h.shr.Xg _ c.mem).U4 i hi;unfold KR at hp;rw [hq] at hp;have hql:q < w.Zv.length:=by omega
 have hl:=h.loc q hql;have e:=Znm c.two (h.nodup c.mem c.two) hi hq;unfold YB at hl;rw [Kt c.hk,e] at hl;simp only [List.length_append,List.length_singleton] at hl;have e1:=List.length_eq_zero_iff.1 (show(Xc w q w.qQ.length).length=0 by omega);have e2:=List.length_eq_zero_iff.1 (show(XZ (w.qG.take k) q).length=0 by omega);have e3:=List.length_eq_zero_iff.1 (show(XZ (w.qG.drop (k + 1)) q).length=0 by omega);refine⟨hql,Zr2 ?_,e1,e2,e3⟩;unfold YB;rw [Kt c.hk,e,e1,e2,e3];rfl
theorem ZlK {l:List Int} {q:Int} (h:q ∈ l):∃ i,i < l.length∧l.getD i 0=q:=by
 obtain⟨i,hi,e⟩:=List.getElem_of_mem h;exact⟨i,hi,(YT hi).trans e⟩
theorem Wi (h:Wm w) {k:Nat} (c:Car w k) {q:Nat} (hq:(q:Int) ∈ (ZJ w k).qV):
 q < w.Zv.length∧sp w q= ⟨(ZJ w k).Z8,false,(sp w q).age⟩∧Xc w q w.qQ.length= []∧XZ (w.qG.take k) q= []∧XZ (w.qG.drop (k + 1)) q= []:=by
 obtain⟨i,hi,e⟩:=ZlK hq;have:=ZpZ h c hi e;exact⟨this.1,by rw [this.2.1],this.2.2⟩
theorem ZaV (h:Wm w) {k j:Nat} (hk:k < w.qG.length) (hj:j < w.qG.length) {q:Nat} (hq:q < w.Zv.length) (h1:(q:Int) ∈ (ZJ w k).qV) (h2:(q:Int) ∈ (ZJ w j).qV):k=j:=by
 have hl:(Qz w q).length=1:=by rw [← len_eq h.shr.two];exact h.loc q hq
 have a:=Zd5 hl hk h1;have b:=Zd5 hl hj h2;rw [a] at b;omega
theorem ZHG (h:Wm w) {k:Nat} (c:Car w k):∀ j,j <= (ZJ w k).qV.length ->∀ m' q:Nat,E (X9 (YK w k) (ZJ w k) j) m' q=if m'= (ZJ w k).Z8.toNat∧(q:Int) ∈ (ZJ w k).qV.take j then⟨true,(ZJ w k).Z8,(sp w q).age⟩ else E w m' q:=by
 have v:=h.mvl c.mem c.two;have v':MvL (YK w k) (ZJ w k) (ZJ w k).Z8.toNat:= ⟨v.Z8,v.hm,v.len,v.few,v.rng⟩
 intro j
 induction j with
 | zero=>intro _ m' q;rw [if_neg (by simp)];rfl
 | succ j ih=>
   intro hj m' q;have hp:=v'.U4 (i:=j) (by omega);have hi:=Qp (YK w k) (ZJ w k) j;have wi:=ZpZ h c (i:=j) (q:=U4 (ZJ w k) j) (by omega) hp.1;show E (setW (X9 (YK w k) (ZJ w k) j) (ZJ w k).Z8.toNat (U4 (ZJ w k) j) ⟨true,(ZJ w k).Z8,(ZJ w k).Yh.getD j 0⟩) m' q=_;rw [Zm8 (ZfZ (h.shr.KT.YK k) v' j) (by rw [hi.2.2.2.2.2];exact v'.hm) (by rw [hi.1];exact hp.2),ih (by omega)];by_cases e:m'= (ZJ w k).Z8.toNat∧q=U4 (ZJ w k) j
   ·rw [if_pos e,if_pos ⟨e.1,(Qu (by omega)).2 (.inr (by rw [e.2,← hp.1,YT (by omega)]))⟩,e.2,wi.2.1]
   ·rw [if_neg e];by_cases d:m'= (ZJ w k).Z8.toNat∧(q:Int) ∈ (ZJ w k).qV.take j
    ·rw [if_pos d,if_pos ⟨d.1,(Qu (by omega)).2 (.inl d.2)⟩]
    ·rw [if_neg d,if_neg];rintro⟨d1,d2⟩;rcases(Qu (by omega)).1 d2 with z | z
     ·exact d ⟨d1,z⟩
     ·rw [← YT (d:= (0:Int)) (by omega),hp.1] at z;exact e ⟨d1,by omega⟩
def KV (w:Zb) (k:Nat):Zb:= (ZbR (YK w k) (ZJ w k)).1
theorem Zfl (w:Zb) (k:Nat):(KV w k).Zv=w.Zv∧(KV w k).qG= (YK w k).qG∧(KV w k).said=w.said∧(KV w k).qQ= (X9 (YK w k) (ZJ w k) (ZJ w k).qV.length).qQ∧(KV w k).qK.length=w.qK.length∧(KV w k).qJ.length=w.qJ.length∧(KV w k).qQ.length=w.qQ.length:=by
 have a:=KF (YK w k) (ZJ w k) (ZJ w k).qV.length;have b:=Qp (YK w k) (ZJ w k) (ZJ w k).qV.length;exact⟨a.1,a.2.1,a.2.2.1,a.2.2.2.1,a.2.2.2.2.1,a.2.2.2.2.2,by rw [show(KV w k).qQ=_ from a.2.2.2.1];exact b.2.2.2.2.2⟩
theorem ZkB (h:Wm w) {k:Nat} (c:Car w k) (m' q:Nat):E (KV w k) m' q=if m'= (ZJ w k).Z8.toNat∧(q:Int) ∈ (ZJ w k).qV then⟨true,(ZJ w k).Z8,(sp w q).age⟩ else E w m' q:=by
 rw [ZpM (Zfl w k).2.2.2.1,ZHG h c _ (Nat.le_refl _),List.take_of_length_le (Nat.le_refl _)]
theorem Zoa (h:Wm w) {k:Nat} (c:Car w k) {q:Nat} (hq:q < w.Zv.length):YB (KV w k) q=if(q:Int) ∈ (ZJ w k).qV then [⟨(ZJ w k).Z8,true,(sp w q).age⟩] else YB w q:=by
 have v:=h.mvl c.mem c.two;have i:=Zfl w k;unfold YB;rw [i.2.1,i.2.2.2.2.2.2,Ze1];by_cases d:(q:Int) ∈ (ZJ w k).qV
 ·have b:=Wi h c d;rw [if_pos d,b.2.2.2.1,b.2.2.2.2];have e1:E (KV w k) (ZJ w k).Z8.toNat q= ⟨true,(ZJ w k).Z8,(sp w q).age⟩:=by rw [ZkB h c,if_pos ⟨rfl,d⟩]
  have:=Zub (w:=KV w k) (p:=q) (m:= (ZJ w k).Z8.toNat) (by rw [e1]) (k:=w.qQ.length) v.hm fun m' hm' hne=>by
   rw [ZkB h c,if_neg fun z=>hne z.1];exact ZoK b.2.2.1 m' hm'
  rw [this,e1,← v.Z8];rfl
 ·rw [if_neg d,K6 (w:=w) fun m' _=>by rw [ZkB h c,if_neg fun z=>d z.2]];congr 1;rw [Kt c.hk,Zks d,List.append_nil]
theorem Zfk (h:Wm w) {k:Nat} (c:Car w k) {q:Nat} (hq:q < w.Zv.length):sp (KV w k) q=if(q:Int) ∈ (ZJ w k).qV then⟨(ZJ w k).Z8,true,(sp w q).age⟩ else sp w q:=by
 have:=Zoa h c hq;by_cases d:(q:Int) ∈ (ZJ w k).qV
 ·rw [if_pos d] at this ⊢;exact Zr2 this
 ·rw [if_neg d] at this ⊢;exact Kv this
theorem ZA3 (h:Wm w) {k:Nat} (c:Car w k) {q:Nat} (hq:q < w.Zv.length):(sp (KV w k) q).machine= (sp w q).machine∧(sp (KV w k) q).age= (sp w q).age:=by
 rw [Zfk h c hq];by_cases d:(q:Int) ∈ (ZJ w k).qV
 ·rw [if_pos d,(Wi h c d).2.1];exact⟨rfl,rfl⟩
 ·rw [if_neg d];exact⟨rfl,rfl⟩
theorem ZE9 (h:Wm w) {k:Nat} (c:Car w k):Mv w (KV w k):=by
 have i:=Zfl w k;have v:=h.mvl c.mem c.two;refine Mv.of (by rw [i.1]) i.2.2.2.2.2.2 (fun m q hq=>?_) fun q hq=>.inl (ZA3 h c hq)
 rw [ZkB h c];by_cases e:m= (ZJ w k).Z8.toNat∧(q:Int) ∈ (ZJ w k).qV
 ·rw [if_pos e,e.1];have b:=Wi h c e.2;exact(h.ent _ v.hm q hq (ZoK b.2.2.1 _ v.hm)).2.1
 ·rw [if_neg e];exact Int.le_refl _
theorem ZqG (u:Zb) (x:Ze) (s:WN u) (v:MvL u x x.Z8.toNat):∀ j,j <=x.qV.length ->∀ m',∀ y ∈ ZF (Yn u x j).1 m',y ∈ ZF u m'∧(m'=x.Z8.toNat ->y.place ∉ x.qV.take j):=by
 intro j
 induction j with
 | zero=>
   intro _ m' y hy;refine⟨?_,fun _=>by simp⟩;have:ZF (Yn u x 0).1 m'=ZF u m':=by unfold ZF;rw [show(Yn u x 0).1.qJ=u.qJ from(Qp u x _).2.2.1]
   rw [← this];exact hy
 | succ j ih=>
   intro hj m' y hy;have hs:=Kl s v j;have li:=KF u x j;have ci:=Qp u x x.qV.length;have hp:=v.U4 (i:=j) (by omega);have hy':y ∈ ZF (Zax (Yn u x j).1 x.Z8.toNat (U4 x j)) m':=hy;rw [ZbZ hs (by rw [li.2.2.2.1,ci.2.2.2.2.2];exact v.hm)] at hy';by_cases e:m'=x.Z8.toNat
   ·rw [if_pos e] at hy';have⟨h1,h2⟩:=List.mem_filter.1 hy';have:=ih (by omega) _ y h1;rw [e];refine⟨this.1,fun _ z=>?_⟩;rcases(Qu (by omega)).1 z with a | a
    ·exact this.2 rfl a
    ·rw [← YT (d:= (0:Int)) (by omega),hp.1] at a;unfold U7 at h2;rw [a] at h2;simp at h2
   ·rw [if_neg e] at hy';have:=ih (by omega) _ y hy';exact⟨this.1,fun z=>absurd z e⟩
theorem ZwM (h:Wm w) {k:Nat} (c:Car w k) {m':Nat} {y:Zr} (hy:y ∈ ZF (KV w k) m'):y ∈ ZF w m'∧(m'= (ZJ w k).Z8.toNat ->y.place ∉ (ZJ w k).qV):=by
 have v:=h.mvl c.mem c.two;have:=ZqG (YK w k) (ZJ w k) (h.shr.KT.YK k) ⟨v.Z8,v.hm,v.len,v.few,v.rng⟩ (ZJ w k).qV.length (Nat.le_refl _) m' y hy;rw [List.take_of_length_le (Nat.le_refl _)] at this;exact this
theorem ZE7 (h:Wm w) {k:Nat} (c:Car w k):Wm (KV w k):=by
 have v:=ZE9 h c;have vl:=h.mvl c.mem c.two;have i:=Zfl w k;have S:=h.shr.KT;have el:=i.2.2.2.2.2.2;have hx2:= (h.shr.Xg _ c.mem)
 have hs:=Kl (S.YK k) (x:=ZJ w k) (m:= (ZJ w k).Z8.toNat) ⟨vl.Z8,vl.hm,vl.len,vl.few,vl.rng⟩ (ZJ w k).qV.length;have hw:∀ x,x ∈ (KV w k).qG ->x ∈ w.qG:=fun x hx=>by rw [i.2.1] at hx;exact ZfW hx
 refine⟨⟨hs,h.shr.inn.eq i.1,by rw [i.2.2.1];exact h.shr.sd1,by rw [i.2.2.1];exact h.shr.sd2,fun m hm q hq=>?_,fun x hx=>v.Xg (h.shr.Xg x (hw x hx))⟩,fun q hq=>?_,fun q hq hz=>?_,fun m hm q hq hh=>?_,fun m hm y hy=>?_,fun x hx hk=>v.Yi (h.mai x (hw x hx) hk),fun x hx hk=>?_⟩
 ·rw [el] at hm;rw [i.1] at hq;unfold ZdR;rw [ZkB h c,el];by_cases e:m= (ZJ w k).Z8.toNat∧(q:Int) ∈ (ZJ w k).qV
  ·rw [if_pos e];obtain⟨j,hj,ej⟩:=ZlK e.2;have b:=ZpZ h c hj ej;have p:=hx2.U4 j hj;unfold KR at p;rw [b.2.1];exact⟨by dsimp only;omega,by dsimp only;omega,hx2.to1,hx2.to2,⟨fun _=>by rw [e.1];exact vl.Z8,fun _=>rfl⟩⟩
  ·rw [if_neg e];exact h.shr.ent m hm q hq
 ·rw [i.1] at hq;rw [Zoa h c hq];by_cases d:(q:Int) ∈ (ZJ w k).qV
  ·rw [if_pos d];rfl
  ·rw [if_neg d];exact h.loc q hq
 ·rw [i.1] at hq;rw [Zh5 i.1] at hz ⊢;obtain⟨r,er,hr⟩:=QN (h.shr.inn.rng q hq) (by omega);have tg:=h.tog q hq hz;rw [er,Int.toNat_natCast] at tg ⊢;rw [Zfk h c hq,Zfk h c hr]
  have iff:(q:Int) ∈ (ZJ w k).qV↔(r:Int) ∈ (ZJ w k).qV:=by
   have key:(sp w q).here=false ->∃ j,j < w.qG.length∧(q:Int) ∈ (ZJ w j).qV∧(r:Int) ∈ (ZJ w j).qV:=fun z=>by
    obtain⟨y,hy,_,a,b⟩:=tg.2.2 z;obtain⟨j,hj,e⟩:=List.getElem_of_mem hy;have e':ZJ w j=y:= (YT hj).trans e;exact⟨j,hj,by rw [e'];exact a,by rw [e'];exact b⟩
   constructor
   ·intro z;obtain⟨j,hj,a,b⟩:=key (by rw [(Wi h c z).2.1]);rw [ZaV h c.hk hj hq z a];exact b
   ·intro z;obtain⟨j,hj,a,b⟩:=key (by rw [← tg.2.1,(Wi h c z).2.1]);rw [ZaV h c.hk hj hr z b];exact a
  by_cases d:(q:Int) ∈ (ZJ w k).qV
  ·rw [if_pos d,if_pos (iff.1 d)];exact⟨rfl,rfl,fun z=>by cases z⟩
  ·rw [if_neg d,if_neg fun z=>d (iff.2 z)];refine⟨tg.1,tg.2.1,fun z=>?_⟩;obtain⟨x,hx,kk,a,b⟩:=tg.2.2 z;refine⟨x,?_,kk,a,b⟩;rw [i.2.1];rw [ZaM c.hk] at hx;rcases List.mem_append.1 hx with y | y
   ·exact List.mem_append.2 (.inl y)
   ·rcases List.mem_cons.1 y with y | y
    ·rw [y] at a;exact absurd a d
    ·exact List.mem_append.2 (.inr y)
 ·rw [el] at hm;rw [i.1] at hq;rw [ZkB h c] at hh ⊢;by_cases e:m= (ZJ w k).Z8.toNat∧(q:Int) ∈ (ZJ w k).qV
  ·rw [if_pos e] at hh;cases hh
  ·rw [if_neg e] at hh ⊢;exact v.rt q hq _ _ (h.ent m hm q hq hh)
 ·rw [el] at hm;have a:=ZwM h c hy;have b:=h.hel m hm y a.1;have hp1:=b.1.1;have hp2:=b.1.2.1;obtain⟨q,eq⟩:∃ q:Nat,y.place= (q:Int):= ⟨y.place.toNat,by omega⟩
  have b2:=b.2;rw [eq,Int.toNat_natCast] at b2 ⊢
  have d:(q:Int) ∉ (ZJ w k).qV:=fun z=>by
   have e:= (Wi h c z).2.1;rw [b2] at e;injection e with e1 _ _
   exact a.2 (by omega) (by rw [eq];exact z)
  rw [Zfk h c (by omega),if_neg d];exact⟨v.Yi b.1,b2⟩
 ·have hn:= (h.shr.Xg x (hw x hx)).ntd hk;exact v.rt _ (by omega) _ _ (h.ntd x (hw x hx) hk)
theorem ZFw {u:Zb} (s:WN u) {m p:Nat} (hm:m < u.qQ.length) (hp:p < u.Zv.length) (a:Int×Int):(owes (Zax u m p)).count a= (owes u).count a:=by
 have h1:=Zsf u (Zax u m p) (p:=p) (by rw [s.bx];exact hp) (l:= ((ZF u m).filter (U7 p)).map fun y=>y.msg) rfl a;have h2:=Zse u (Zax u m p) (m:=m) (by rw [s.hd];exact hm) (l:= (ZF u m).filter fun y=>!U7 p y) rfl a
 have h3:((ZF u m).map fun y=>(y.msg,y.place)).count a= (((ZF u m).filter (U7 p)).map fun y=>(y.msg,(p:Int))).count a + (((ZF u m).filter fun y=>!U7 p y).map fun y=>(y.msg,y.place)).count a:=by
  generalize ZF u m=l
  induction l with
  | nil=>rfl
  | cons y l ih=>
    cases e:U7 p y with
    | true=>
      have e':y.place= (p:Int):=by unfold U7 at e;simpa using e
      rw [List.filter_cons_of_pos (by simp [e]),List.filter_cons_of_neg (by simp [e]),List.map_cons,List.map_cons,List.count_cons,List.count_cons,ih,e'];omega
    | false=>rw [List.filter_cons_of_neg (by simp [e]),List.filter_cons_of_pos (by simp [e]),List.map_cons,List.map_cons,List.count_cons,List.count_cons,ih];omega
 rw [List.map_map] at h1;have h1':(owB (Zax u m p)).count a= (owB u).count a + (((ZF u m).filter (U7 p)).map fun y=>(y.msg,(p:Int))).count a:=h1;unfold owes;rw [List.count_append,List.count_append,List.count_append,List.count_append];show _ + _ + (owL u.qG).count a=_;omega
theorem ZwV {u:Zb} (s:WN u) {x:Ze} (v:MvL u x x.Z8.toNat) (a:Int×Int):∀ j,j <=x.qV.length ->(owes (Yn u x j).1).count a= (owes u).count a:=by
 intro j
 induction j with
 | zero=>
   intro _;have ci:=Qp u x x.qV.length
   have e:owes (Yn u x 0).1=owes u:=by
    show owes (X9 u x x.qV.length)=_;unfold owes owB owH Qq ZF;rw [ci.2.1,ci.2.2.1,ci.2.2.2.1]
   rw [e]
 | succ j ih=>
   intro hj;have hs:=Kl s v j;have li:=KF u x j;have ci:=Qp u x x.qV.length;have hp:=v.U4 (i:=j) (by omega);show(owes (Zax (Yn u x j).1 x.Z8.toNat (U4 x j))).count a=_;rw [ZFw hs (by rw [li.2.2.2.1,ci.2.2.2.2.2];exact v.hm) (by rw [li.1];exact hp.2),ih (by omega)]
theorem ZkA {k:Nat} (hk:k < w.qG.length) (a:Int×Int):(owes (YK w k)).count a + (owL [ZJ w k]).count a= (owes w).count a:=by
 unfold owes;rw [ZtO hk];show List.count a (owB w ++ owH w ++ owL (w.qG.take k ++ w.qG.drop (k + 1))) + _=_;rw [Zcx];simp only [List.count_append];omega
theorem ZE8 (h:Wm w) {k:Nat} (c:Car w k) (a:Int×Int):(owes (KV w k)).count a= (owes w).count a:=by
 have v:=h.mvl c.mem c.two;have e:=ZwV (h.shr.KT.YK k) (x:=ZJ w k) ⟨v.Z8,v.hm,v.len,v.few,v.rng⟩ a (ZJ w k).qV.length (Nat.le_refl _);have d:=ZkA c.hk a;rw [Zee (by rw [c.two];omega)] at d;show List.count a (owes (Yn (YK w k) (ZJ w k) (ZJ w k).qV.length).1)=_;rw [e]
 simpa using d
theorem Zoo {k:Nat} (e:(ZJ w k).kind=1):UW w k=XI (YK w k) (ZJ w k).Z8.toNat (ZJ w k).Yi false:=by unfold UW;rw [if_pos e]
theorem Zon {k:Nat} (e:(ZJ w k).kind=2):UW w k=ZbR (YK w k) (ZJ w k):=by unfold UW;rw [if_neg (by omega),if_pos e]
theorem Zom {k:Nat} (e:(ZJ w k).kind=3):UW w k= (WT (YK w k) (ZJ w k),[]):=by unfold UW;rw [if_neg (by omega),if_neg (by omega)]
theorem ZcE (h:Wm w) {x:Ze} (hx:x ∈ w.qG):x.kind=1∨x.kind=2∨x.kind=3:=by
 rcases(h.shr.Xg x hx).Y7 with⟨q,_⟩ | ⟨q,_⟩ | ⟨q,_⟩
 ·exact .inl q
 ·exact .inr (.inl q)
 ·exact .inr (.inr q)
theorem Zhd {k:Nat} (hk:k < w.qG.length) (h2:(ZJ w k).kind ≠ 2) (p:Nat):YB (YK w k) p=YB w p:=
 ZbT rfl (by rw [Kt hk,Zk8 h2,Ze1,List.append_nil])
theorem Zh4 (h:Wm w) {k:Nat} (hk:k < w.qG.length) (e:(ZJ w k).kind=1):Rtd (YK w k) (ZJ w k).Z8.toNat (ZJ w k).Yi false:=by
 have hx:ZJ w k ∈ w.qG:=YC hk;have hl:=h.shr.Xg _ hx;have hm:=h.mai _ hx e;have v:Mv w (YK w k):=Mv.same rfl rfl fun p _=>Zhd hk (by omega) p
 have t1:=hl.to1;have t2:=hl.to2;refine⟨by show(ZJ w k).Z8.toNat < w.qQ.length;omega,⟨hm.1,hm.2.1⟩,⟨hm.2.2.1,hm.2.2.2.1⟩,fun _=>?_,fun z=>by cases z⟩;rw [Int.toNat_of_nonneg t1];exact v.Yi hm
theorem Zwq (h:Wm w) {k:Nat} (hk:k < w.qG.length) (e:(ZJ w k).kind=3):Wm (WT (YK w k) (ZJ w k)):=by
 have hx:ZJ w k ∈ w.qG:=YC hk;have hl:=h.shr.Xg _ hx;have hd:=Zhc h hk (by omega);have v:Mv w (YK w k):=Mv.same rfl rfl fun p _=>Zhd hk (by omega) p
 have t1:=hl.to1;have t2:=hl.to2;have hn:=hl.ntd e;unfold WT;split
 ·rename_i c;refine ZA1 hd (by show _ < w.qQ.length;omega) (by show _ < w.Zv.length;omega) c.1 c.2 (v.rt _ (by omega) _ _ (h.ntd _ hx e)) ?_;rw [Int.toNat_of_nonneg t1];exact hn.2.2
 ·exact hd
theorem ZA6 (h:Wm w) {k:Nat} (hk:k < w.qG.length):Wm (UW w k).1:=by
 rcases ZcE h (x:=ZJ w k) (YC hk) with e | e | e
 ·rw [Zoo e];exact ZnH (Zhc h hk (by omega)) (Zh4 h hk e)
 ·rw [Zon e];exact ZE7 h ⟨hk,e⟩
 ·rw [Zom e];exact Zwq h hk e
theorem ZhM (u:Zb) (x:Ze):(WT u x).Zv=u.Zv∧(WT u x).qK=u.qK∧(WT u x).qJ=u.qJ∧(WT u x).qG=u.qG∧(WT u x).said=u.said∧(WT u x).qQ.length=u.qQ.length:=by
 unfold WT;split
 ·exact⟨rfl,rfl,rfl,rfl,rfl,ZbD _ _ _ _⟩
 ·exact⟨rfl,rfl,rfl,rfl,rfl,rfl⟩
theorem Zqg {u u':Zb} (h1:u'.qK=u.qK) (h2:u'.qJ=u.qJ) (h3:u'.qG=u.qG):owes u'=owes u:=by
 unfold owes owB owH Qq ZF;rw [h1,h2,h3]
theorem ZA7 (h:Wm w) {k:Nat} (hk:k < w.qG.length) (a:Int×Int):(owes (UW w k).1).count a= (owes w).count a:=by
 have d:=ZkA hk a;rcases ZcE h (x:=ZJ w k) (YC hk) with e | e | e
 ·rw [Zoo e,ZnI (Zhc h hk (by omega)) (Zh4 h hk e)];rw [Zn7 e] at d;exact d
 ·rw [Zon e];exact ZE8 h ⟨hk,e⟩ a
 ·rw [Zom e];have n:=ZhM (YK w k) (ZJ w k);rw [Zee (by omega)] at d;show(owes (WT (YK w k) (ZJ w k))).count a=_;rw [Zqg n.2.1 n.2.2.1 n.2.2.2.1];simpa using d
theorem ZbE (u:Zb) (m:Nat) (x:Zr) (now:Bool):(XI u m x now).1.Zv=u.Zv∧(XI u m x now).1.qQ=u.qQ∧(XI u m x now).1.said=u.said∧(XI u m x now).1.qG.length <=u.qG.length + 2∧(now=true ->(XI u m x now).1.qG.length <=u.qG.length + 1):=by
 unfold XI;split
 ·exact⟨rfl,rfl,rfl,by dsimp only;omega,fun _=>by dsimp only;omega⟩
 ·split
  ·exact⟨rfl,rfl,rfl,by dsimp only;omega,fun _=>by dsimp only;omega⟩
  ·refine⟨rfl,rfl,rfl,?_,fun e=>?_⟩
   ·show(u.qG ++ _::told _ _ _ _).length <=_;rw [List.length_append,List.length_cons];unfold told;split <;> simp
   ·show(u.qG ++ _::told _ _ _ _).length <=_;rw [List.length_append,List.length_cons];unfold told;rw [e,if_neg (by simp)];simp
theorem ZtZ (h:Wm w) {k:Nat} (hk:k < w.qG.length):(UW w k).1.Zv=w.Zv∧(UW w k).1.qQ.length=w.qQ.length∧(UW w k).1.said=w.said∧(UW w k).1.qG.length <=w.qG.length + 1:=by
 have dl:=ZkT w hk;rcases ZcE h (x:=ZJ w k) (YC hk) with e | e | e
 ·rw [Zoo e];have r:=ZbE (YK w k) (ZJ w k).Z8.toNat (ZJ w k).Yi false;exact⟨r.1,by rw [r.2.1];rfl,r.2.2.1,by omega⟩
 ·rw [Zon e];have r:=Zfl w k;exact⟨r.1,r.2.2.2.2.2.2,r.2.2.1,by show(KV w k).qG.length <=_;rw [r.2.1];omega⟩
 ·rw [Zom e];have r:=ZhM (YK w k) (ZJ w k);exact⟨r.1,r.2.2.2.2.2,r.2.2.2.2.1,by show(WT _ _).qG.length <=_;rw [r.2.2.2.1];omega⟩
structure May (w:Zb) (s:ZH):Prop where
 ask:Ask w s
 lim:lim w s=false
 alw:Alw w s
theorem Zsp {s:ZH}:May w s↔Ask w s∧Zkc w s=0:=by
 rw [ZMJ];exact⟨fun a=>⟨a.ask,a.lim,a.alw⟩,fun a=>⟨a.1,a.2.1,a.2.2⟩⟩
theorem Zlm (h:Wm w) {s:ZH} (ha:Wt s.a w.qQ.length) (hb:Wt s.b w.Zv.length):Rtd (Zc2 w) s.a.toNat (ZtH w s) true:=
 ⟨by obtain⟨x,y⟩:=ha;show s.a.toNat < w.qQ.length;omega,hb,ha,fun z=>(by cases z),fun _=>⟨rfl,rfl⟩⟩
theorem May.trv {s:ZH} (m:May w s) (c:s.act=2):Trv w s.a.toNat s.b:=by
 have hin:Wt s.a w.Zv.length∧Wt s.b w.qQ.length:=by
  rcases m.ask with q | q | q | q | q
  ·omega
  ·exact q.2
  ·omega
  ·omega
  ·omega
 have hA:=m.alw.1 c;obtain⟨⟨a1,a2⟩,hb⟩:=hin;refine⟨by omega,hA.1,hA.2,hb,fun q hq=>?_⟩;have hl:=m.lim;unfold Proofs.YtbmbbcaaimehkaaGreat.lim at hl;rw [if_neg (by omega),if_pos c] at hl;have:=List.any_eq_false.1 hl (q:Int) hq;unfold old at this;rw [Int.toNat_natCast,decide_eq_true_eq] at this;omega
theorem May.ent {s:ZH} (m:May w s) (c:s.act=3):∃ p q:Nat,s.a= (p:Int)∧s.b= (q:Int)∧p < w.Zv.length∧q < w.Zv.length∧(q:Int) ∉ Yq w p∧inn w (p:Int)=-1∧(sp w p).here=true∧(sp w q).here=true∧(sp w p).machine= (sp w q).machine:=by
 have hin:Wt s.a w.Zv.length∧Wt s.b w.Zv.length:=by
  rcases m.ask with q | q | q | q | q
  ·omega
  ·omega
  ·exact q.2
  ·omega
  ·omega
 obtain⟨p,ep,hp⟩:=hin.1.nat;obtain⟨q,eq,hq⟩:=hin.2.nat;have hA:=m.alw.2.1 c;rw [ep,eq,Int.toNat_natCast,Int.toNat_natCast] at hA;exact⟨p,q,ep,eq,hp,hq,hA.1,hA.2.1,hA.2.2.1,hA.2.2.2.1,hA.2.2.2.2⟩
theorem May.lev {s:ZH} (m:May w s) (c:s.act=4):∃ p:Nat,s.a= (p:Int)∧p < w.Zv.length∧(sp w p).here=true∧inn w (p:Int) ≠ -1:=by
 have hin:Wt s.a w.Zv.length:=by
  rcases m.ask with q | q | q | q | q
  ·omega
  ·omega
  ·omega
  ·exact q.2
  ·omega
 obtain⟨p,ep,hp⟩:=hin.nat;have hA:=m.alw.2.2 c;rw [ep,Int.toNat_natCast] at hA;exact⟨p,ep,hp,hA⟩
theorem May.lnd {s:ZH} (m:May w s) (c:s.act=5):s.a.toNat < w.qG.length:=by
 rcases m.ask with q | q | q | q | q
 ·omega
 ·omega
 ·omega
 ·omega
 ·obtain⟨_,a,b⟩:=q;omega
theorem May.say {s:ZH} (m:May w s) (c:s.act=1):Wt s.a w.qQ.length∧Wt s.b w.Zv.length:=by
 rcases m.ask with q | q | q | q | q
 ·exact q.2
 ·omega
 ·omega
 ·omega
 ·omega
theorem May.act {s:ZH} (m:May w s):s.act=1∨s.act=2∨s.act=3∨s.act=4∨s.act=5:=by
 rcases m.ask with q | q | q | q | q
 ·exact .inl q.1
 ·exact .inr (.inl q.1)
 ·exact .inr (.inr (.inl q.1))
 ·exact .inr (.inr (.inr (.inl q.1)))
 ·exact .inr (.inr (.inr (.inr q.1)))
theorem do1 {s:ZH} (c:s.act=1):doW w s=XI (Zc2 w) s.a.toNat (ZtH w s) true:=by unfold doW;rw [if_pos c]
theorem do2 {s:ZH} (c:s.act=2):doW w s=J9 w s.a.toNat s.b:=by unfold doW;rw [if_neg (by omega),if_pos c]
theorem do3 {s:ZH} (c:s.act=3):doW w s= (Ka w s.a s.b,[]):=by unfold doW;rw [if_neg (by omega),if_neg (by omega),if_pos c]
theorem do4 {s:ZH} (c:s.act=4):doW w s= (Ka w s.a (-1),[]):=by unfold doW;rw [if_neg (by omega),if_neg (by omega),if_neg (by omega),if_pos c]
theorem do5 {s:ZH} (c:s.act=5):doW w s=UW w s.a.toNat:=by unfold doW;rw [if_neg (by omega),if_neg (by omega),if_neg (by omega),if_neg (by omega)]
theorem ZMY (h:Wm w) {s:ZH} (m:May w s):Wm (doW w s).1:=by
 rcases m.act with c | c | c | c | c
 ·rw [do1 c];have:=m.say c;exact ZnH (Zln h (Zej c m.lim)) (Zlm h this.1 this.2)
 ·rw [do2 c];exact ZAJ h (m.trv c)
 ·rw [do3 c];obtain⟨p,q,ep,eq,hp,hq,hn,hi,h1,h2,h3⟩:=m.ent c;rw [ep,eq];refine Zv5 h hp (Zz8 h.shr.inn hp hq fun z=>hn ((Zai h.shr.inn).2 ⟨hq,z⟩)) fun _=>?_
  rw [Int.toNat_natCast];exact⟨h3.symm,h2,h1⟩
 ·rw [do4 c];obtain⟨p,ep,hp,h1,h2⟩:=m.lev c;rw [ep];exact Zv5 h hp (ZeQ h.shr.inn hp) fun z=>absurd z (by omega)
 ·rw [do5 c];exact ZA6 h (m.lnd c)
def ZwH (w:Zb) (s:ZH):List (Int×Int):=if s.act=1 then [(w.said,s.b)] else []
theorem ZMZ (h:Wm w) {s:ZH} (m:May w s):(owes (doW w s).1).Perm (owes w ++ ZwH w s):=by
 refine List.perm_iff_count.2 fun a=>?_
 rw [List.count_append];unfold ZwH;rcases m.act with c | c | c | c | c
 ·have:=m.say c;rw [do1 c,if_pos c,ZnI (Zln h (Zej c m.lim)) (Zlm h this.1 this.2)];rfl
 ·rw [do2 c,if_neg (by omega),ZAK];rfl
 ·rw [do3 c,if_neg (by omega)];rfl
 ·rw [do4 c,if_neg (by omega)];rfl
 ·rw [do5 c,if_neg (by omega),ZA7 h (m.lnd c)];rfl
theorem Zhe (h:Wm w) {s:ZH} (m:May w s):(doW w s).1.Zv.length=w.Zv.length∧(doW w s).1.qQ.length=w.qQ.length∧(doW w s).1.said=w.said + (if s.act=1 then 1 else 0)∧(doW w s).1.qG.length <=w.qG.length + 1:=by
 rcases m.act with c | c | c | c | c
 ·rw [do1 c,if_pos c];have r:=ZbE (Zc2 w) s.a.toNat (ZtH w s) true;exact⟨by rw [r.1];rfl,by rw [r.2.1];rfl,by rw [r.2.2.1];rfl,r.2.2.2.2 rfl⟩
 ·rw [do2 c,if_neg (by omega)];exact⟨Zhu _ _ _,Zd3 _ _ _,by rw [Int.add_zero];rfl,by rw [Zct,List.length_append];exact Nat.le_refl _⟩
 ·rw [do3 c,if_neg (by omega)];exact⟨Zd9 _ _,rfl,by rw [Int.add_zero];rfl,Nat.le_succ _⟩
 ·rw [do4 c,if_neg (by omega)];exact⟨Zd9 _ _,rfl,by rw [Int.add_zero];rfl,Nat.le_succ _⟩
 ·rw [do5 c,if_neg (by omega)];have r:=ZtZ h (m.lnd c);exact⟨by rw [r.1],r.2.1,by rw [r.2.2.1,Int.add_zero],r.2.2.2⟩
theorem ZnW (n:Nat):Xr (n + 1)=Xr n ++ [(n:Int)]:=by
 unfold Xr;rw [List.range_succ,List.map_append];rfl
theorem Zzk (h:Wd w) {s:ZH} (m:May w s):Wd (doW w s).1:=by
 refine(ZMY h.wm m).wd ?_;have e:= (ZMZ h.wm m).map Prod.fst;rw [Zn6,List.map_append,Zn6] at e;refine e.trans ?_;rw [(Zhe h.wm m).2.2.1];unfold ZwH;have h0:=h.shr.sd1;by_cases c:s.act=1
 ·rw [if_pos c,if_pos c,show(w.said + 1).toNat=w.said.toNat + 1 by omega,ZnW,Int.toNat_of_nonneg h0];exact h.msg.append_right _
 ·rw [if_neg c,if_neg c,Int.add_zero]
  simpa using h.msg
theorem Zh1 {α:Type} {L:List (List α)} {l:List α} (h:l ∈ L):l.length <=L.flatten.length:=by
 induction L with
 | nil=>cases h
 | cons x L ih=>
   rw [List.flatten_cons,List.length_append];rcases List.mem_cons.1 h with e | e
   ·rw [e];omega
   ·have:=ih e;omega
theorem ZdX (h:Wd w) {n:Nat} (hn:41 <=n) (hw:w.qG.length < n):WH n w:=by
 have S:=h.shr.KT;have hm:=h.msg.length_eq;rw [QM] at hm;have hs:=h.shr.sd2;unfold msgs at hm;rw [List.length_append,List.length_append] at hm;have h8:=S.p2;have h5:=S.m2;have hb:=S.bx;have hd:=S.hd;refine⟨by omega,by omega,by omega,by omega,hw,fun l hl=>?_,fun l hl=>?_,fun l hl=>?_,fun x hx=>?_⟩
 ·have:=Zh1 hl;omega
 ·have:=S.rw_ l hl;omega
 ·have:l.length <= (QA w.qJ).length:=by
   have:=Zh1 (L:=w.qJ.map fun x=>x.map fun y=>y.msg) (List.mem_map.2 ⟨l,hl,rfl⟩);rw [List.length_map] at this;exact this
  omega
 ·rcases ZcE h.wm hx with e | e | e
  ·have:= (h.shr.Xg x hx).Y7;rcases this with⟨q,_,_,_,a,b⟩ | ⟨q,_⟩ | ⟨q,_⟩
   ·rw [a,b];simp;omega
   ·omega
   ·omega
  ·have:=h.mvl hx e;have a:=this.len;have b:=this.few;omega
  ·have:= (h.shr.Xg x hx).Y7;rcases this with⟨q,_⟩ | ⟨q,_⟩ | ⟨q,_,a,b⟩
   ·omega
   ·omega
   ·rw [a,b];simp;omega
end
end Go.Proofs.YtbmbbcaaimehkaaGreat
end
section
namespace Go.Proofs.YtbmbbcaaimehkaaGreat
open Go.Lf
theorem Zq5 {α:Type} (f:α ->Bool) (l:List α):(l.filter f).length + (l.filter fun x=>!f x).length=l.length:=by
 induction l with
 | nil=>rfl
 | cons x l ih=>
   cases e:f x with
   | true=>rw [List.filter_cons_of_pos (by simp [e]),List.filter_cons_of_neg (by simp [e]),List.length_cons,List.length_cons];omega
   | false=>rw [List.filter_cons_of_neg (by simp [e]),List.filter_cons_of_pos (by simp [e]),List.length_cons,List.length_cons];omega
theorem Zt2 {u:Zb} (s:WN u) {x:Ze} (v:MvL u x x.Z8.toNat):∀ j,j <=x.qV.length ->(Yn u x j).2.length + (ZF (Yn u x j).1 x.Z8.toNat).length=j + (ZF u x.Z8.toNat).length:=by
 intro j
 induction j with
 | zero=>
   intro _;have:ZF (Yn u x 0).1 x.Z8.toNat=ZF u x.Z8.toNat:=by unfold ZF;rw [show(Yn u x 0).1.qJ=u.qJ from(Qp u x _).2.2.1]
   rw [this];rfl
 | succ j ih=>
   intro hj;have hs:=Kl s v j;have li:=KF u x j;have ci:=Qp u x x.qV.length;have ih:=ih (by omega)
   have e:ZF (Yn u x (j + 1)).1 x.Z8.toNat= (ZF (Yn u x j).1 x.Z8.toNat).filter fun y=>!U7 (U4 x j) y:=by
    show ZF (Zax (Yn u x j).1 x.Z8.toNat (U4 x j)) x.Z8.toNat=_;rw [ZbZ hs (by rw [li.2.2.2.1,ci.2.2.2.2.2];exact v.hm),if_pos rfl]
   have t:=Zq5 (U7 (U4 x j)) (ZF (Yn u x j).1 x.Z8.toNat);rw [e];show((Yn u x j).2 ++ ZjV (Yn u x j).1 x.Z8.toNat (U4 x j)).length + _=_;unfold ZjV;rw [List.length_append,List.length_cons,List.length_map];omega
section
variable {F:Nat} {w:Zb}
theorem ZBM (h:Wd w) (m:Nat):(ZF w m).length <=40:=by
 by_cases hm:m < w.qJ.length
 ·have:=h.msg.length_eq;rw [QM] at this;have hs:=h.shr.sd2;unfold msgs at this;rw [List.length_append,List.length_append] at this;have t:=Zh1 (L:=w.qJ.map fun x=>x.map fun y=>y.msg) (List.mem_map.2 ⟨ZF w m,YC hm,rfl⟩);rw [List.length_map] at t;have t':(ZF w m).length <= (QA w.qJ).length:=t;omega
 ·unfold ZF;rw [List.getD_eq_getElem?_getD,List.getElem?_eq_none (by omega)];simp
theorem ZwU (h:Wd w) {k:Nat} (hk:k < w.qG.length):(UW w k).2.length <=48:=by
 rcases ZcE h.wm (x:=ZJ w k) (YC hk) with e | e | e
 ·rw [Zoo e];unfold XI;split
  ·exact(by decide:1 <=48)
  ·split <;> exact(by decide:0 <=48)
 ·rw [Zon e];have v:=h.mvl (YC hk) e;have t:=Zt2 (h.shr.KT.YK k) (x:=ZJ w k) ⟨v.Z8,v.hm,v.len,v.few,v.rng⟩ (ZJ w k).qV.length (Nat.le_refl _);have f:(ZJ w k).qV.length <=8:=v.few;have l:=ZBM h (ZJ w k).Z8.toNat;have t':(ZbR (YK w k) (ZJ w k)).2.length + (ZF (ZbR (YK w k) (ZJ w k)).1 (ZJ w k).Z8.toNat).length= (ZJ w k).qV.length + (ZF w (ZJ w k).Z8.toNat).length:=t;omega
 ·rw [Zom e];exact(by decide:0 <=48)
theorem Zzl (h:Wd w) {s:ZH} (m:May w s):(doW w s).2.length <=48:=by
 rcases m.act with c | c | c | c | c
 ·rw [do1 c];unfold XI;split
  ·exact(by decide:1 <=48)
  ·split <;> exact(by decide:0 <=48)
 ·rw [do2 c];have h8:=h.shr.KT.p2;have:=ZeZ w s.a.toNat w.Zv.length;show((Yq w s.a.toNat).map _).length <=48;rw [List.length_map];have:(Yq w s.a.toNat).length <=w.Zv.length:=this;omega
 ·rw [do3 c];exact(by decide:0 <=48)
 ·rw [do4 c];exact(by decide:0 <=48)
 ·rw [do5 c];exact ZwU h (m.lnd c)
theorem ZCx (hF:400000 <=F) (hM:F <=1000000) (h:Wd w) (sm:WH 400 w) {s:ZH} (ha:Ask w s):
 Zrg F w s=some (if Zkc w s=0 then((doW w s).1,(doW w s).2,0) else(Zzi,[],Zkc w s)):=by
 have sm':=sm.mono (show 400 <=900 by omega);unfold Zrg;rw [Zpp hF hM sm h];simp only [Bq0];rw [Zpx,decide_eq_true ha,Xl];simp only [Bool.not_false,YI,Bq0,Bool.not_true,Bool.or_self,Cq0];rw [ZnO (by omega) hM h sm' ha];simp only [Bq0];by_cases e:Zkc w s=0
 ·have l:=ZMJ.1 e;rw [e,Xl,Cq0,if_pos rfl,ZuD (by omega) sm'];simp only [Bq0];rw [ZuB (by omega) hM h sm' ha l.1 l.2 (by simp)]
  rfl
 ·rw [if_neg e,Ja,decide_eq_true e];rfl
theorem ZCy (hF:400000 <=F) (hM:F <=1000000) (sm:WH 400 w) {s:ZH} (h:¬ (Wd w∧Ask w s)):Zrg F w s=some (Zzi,[],2):=by
 unfold Zrg;by_cases hw:Wd w
 ·rw [Zpp hF hM sm hw];simp only [Bq0];rw [Zpx,decide_eq_false fun z=>h ⟨hw,z⟩]
  rfl
 ·rw [Zzp hF hM sm hw];rfl
end
end Go.Proofs.YtbmbbcaaimehkaaGreat
end
section
namespace Go.Proofs.YtbmbbcaaimehkaaGreat
open Go.Lf
def Zny (st:Zb×List ZG×List Int) (i:Nat) (s:ZH):Zb×List ZG×List Int:=
 if Ask st.1 s∧Zkc st.1 s=0 then((doW st.1 s).1,st.2.1 ++ (doW st.1 s).2,st.2.2 ++ [(i:Int)]) else st
def Ju (w:Zb) (l:List ZH):Nat ->Zb×List ZG×List Int
 | 0=>(w,[],[])
 | k + 1=>Zny (Ju w l k) k (l.getD k default)
structure PlI (w:Zb) (k:Nat) (st:Zb×List ZG×List Int):Prop where
 wd:Wd st.1
 qG:st.1.qG.length <=w.qG.length + k
 ev:st.2.1.length <=48 * k
 dn:st.2.2.length <=k
 inl:st.1.Zv.length=w.Zv.length
 enl:st.1.qQ.length=w.qQ.length
section
variable {F:Nat} {w:Zb}
theorem ZI8 (h:Wd w) (l:List ZH):∀ k,PlI w k (Ju w l k):=by
 intro k
 induction k with
 | zero=>exact⟨h,Nat.le_refl _,Nat.le_refl _,Nat.le_refl _,rfl,rfl⟩
 | succ k ih=>
   show PlI w (k + 1) (Zny (Ju w l k) k (l.getD k default));unfold Zny;split
   ·rename_i c;have m:May (Ju w l k).1 (l.getD k default):=Zsp.2 c;have s:=Zhe ih.wd.wm m;have e:=Zzl ih.wd m;have i1:=ih.qG;have i2:=ih.ev;have i3:=ih.dn;exact⟨Zzk ih.wd m,by dsimp only;omega,by dsimp only;rw [List.length_append];omega,by dsimp only;rw [List.length_append,List.length_singleton];omega,by dsimp only;rw [s.1,ih.inl],by dsimp only;rw [s.2.1,ih.enl]⟩
   ·exact⟨ih.wd,by have:=ih.qG;omega,by have:=ih.ev;omega,by have:=ih.dn;omega,ih.inl,ih.enl⟩
end
end Go.Proofs.YtbmbbcaaimehkaaGreat
end
section
namespace Go.Proofs.YtbmbbcaaimehkaaGreat
open Go.Lf
section
variable {w:Zb}
theorem ZbF (u:Zb) (m:Nat) (x:Zr) (now:Bool) (p:Nat):YB (XI u m x now).1 p=YB u p:=by
 have s:=ZbE u m x now;refine ZbT (by rw [s.2.1];exact K6 fun m' _=>ZpM s.2.1 m' p) ?_;unfold XI;split
 ·rfl
 ·split
  ·rfl
  ·show XZ (u.qG ++ _::told _ _ _ _) p=_;rw [Zam]
   have:XZ (Zgu (E u m x.place.toNat).Z8 (Zds x (E u m x.place.toNat))::told (m:Int) x (E u m x.place.toNat) now) p= []:=by
    apply ZrZ;intro y hy;rcases List.mem_cons.1 hy with z | z
    ·rw [z];show(1:Int) ≠ 2;omega
    ·unfold told at z;split at z
     ·rw [List.mem_singleton.1 z];show(3:Int) ≠ 2;omega
     ·cases z
   rw [this,List.append_nil]
theorem Zqh (h:Wm w) {k:Nat} (hk:k < w.qG.length) (e:(ZJ w k).kind=3) (p:Nat):YB (WT (YK w k) (ZJ w k)) p=YB (YK w k) p:=by
 have hl:=h.shr.Xg (ZJ w k) (YC hk);have t1:=hl.to1;have t2:=hl.to2;have hn:=hl.ntd e;unfold WT;split
 ·rename_i c;refine ZbT ?_ rfl;rw [ZbD];refine Zid fun m' _=>?_
  rw [Zm8 (h.shr.KT.YK k) (by show _ < w.qQ.length;omega) (by show _ < w.Zv.length;omega)];by_cases d:m'= (ZJ w k).Z8.toNat∧p= (ZJ w k).place.toNat
  ·rw [if_pos d,d.1,d.2];exact .inr ⟨rfl,c.1⟩
  ·rw [if_neg d];exact .inl rfl
 ·rfl
end
end Go.Proofs.YtbmbbcaaimehkaaGreat
end
section
namespace Go.Proofs.YtbmbbcaaimehkaaGreat
open Go.Lf
section
variable {F:Nat} {w:Zb}
def Zz5 (picks:List Int):Prop:=picks.length <=80∧∀ x ∈ picks,0 <=x
theorem Zky {picks:List Int}:((List.range picks.length).any fun k=>decide (picks.getD k 0 < 0))=true↔¬ ∀ x ∈ picks,0 <=x:=by
 rw [Zki picks (fun x=>decide (x < 0)) 0,List.any_eq_true]
 constructor
 ·rintro⟨x,hx,e⟩ z;have:=z x hx;simp at e;omega
 ·intro z;obtain⟨x,hx⟩:=Classical.not_forall.1 z;obtain⟨h1,h2⟩:=Classical.not_imp.1 hx;exact⟨x,h1,by simp;omega⟩
theorem ZOB {k n:Nat} (h:k < n) (hn:n <=9223372036854775807):Xa ((k:Int) + 1)= ((k + 1:Nat):Int):=by rw [Zby (by omega) (by omega)];rfl
theorem ZtN {picks:List Int} (hF:picks.length < F) (hm:picks.length <=9223372036854775807):∃ b,Zuv F picks=some b∧(b=true↔Zz5 picks):=by
 have e:=Zoi (body:=ZiZ picks) (r1:=some false) (r2:=some (decide ((picks.length:Int) <=80))) (fun k=>(k:Int)) (fun k=>decide (picks.getD k 0 < 0)) (n:=picks.length) (F:=F) hF (fun k hk next=>by
  unfold ZiZ;rw [ZM hk,Cq1,YN 0 hk];simp only [Bq0];rw [ZOB hk hm]) (fun next=>by
  unfold ZiZ;rw [ZT,Cq0])
 have e':Zuv F picks=_:=e;rw [e'];cases c:(List.range picks.length).any fun k=>decide (picks.getD k 0 < 0) with
 | true=>
   have:=Zky.1 c;exact⟨false,rfl,⟨fun z=>(by cases z),fun z=>absurd z.2 this⟩⟩
 | false=>
   have:∀ x ∈ picks,0 <=x:=Classical.byContradiction fun z=>by rw [Zky.2 z] at c;cases c
   refine⟨_,rfl,?_⟩;rw [decide_eq_true_eq];exact⟨fun z=>⟨by omega,this⟩,fun z=>by have:=z.1;omega⟩
end
end Go.Proofs.YtbmbbcaaimehkaaGreat
end
section
namespace Go.Proofs.YtbmbbcaaimehkaaGreat
open Go.Lf
section
variable {κ ν:Type} [DecidableEq κ]
def UK (l:List (κ×ν)):Prop:= (l.map (·.1)).Nodup
theorem ZkC {l:List (κ×ν)} {k:κ} (h:k ∉ l.map (·.1)):ZlI l k=none:=by
 unfold ZlI;rw [ZhU.2 fun p hp e=>h (List.mem_map.2 ⟨p,hp,e⟩)];rfl
theorem ZwJ {l:List (κ×ν)} {k:κ} {x:ν} (h:k ∉ l.map (·.1)):U6 l k x=l ++ [(k,x)]:=by
 unfold U6;rw [ZhU.2 fun p hp e=>h (List.mem_map.2 ⟨p,hp,e⟩)]
theorem Zod (p:κ×ν) (l:List (κ×ν)) (k:κ):Ug (p::l) k=if p.1=k then some (0,p.2) else(Ug l k).map fun q=>(q.1 + 1,q.2):=rfl
theorem UK.get:∀ {l:List (κ×ν)},UK l ->∀ {k:κ} {x:ν},(k,x) ∈ l ->ZlI l k=some x
 | [],_,k,x,h=>by cases h
 | p::l,u,k,x,h=>by
   have u':p.1 ∉ l.map (·.1)∧UK l:=List.nodup_cons.1 u;unfold ZlI;rw [Zod];rcases List.mem_cons.1 h with e | e
   ·rw [← e,if_pos rfl];rfl
   ·have ih:=u'.2.get e;rw [if_neg fun z:p.1=k=>u'.1 (by rw [z];exact List.mem_map.2 ⟨_,e,rfl⟩)];unfold ZlI at ih;rw [Option.map_map];exact ih
end
section
variable {F:Nat} {w:Zb}
theorem ZCo (hF:400000 <=F) (w:Zb):∃ b,Zzb F w=some b∧(b=true ->WH 201 w∧Wd w):=by
 obtain⟨b,eb,ib⟩:=ZvM hF w;unfold Zzb;rw [eb];simp only [Bq0];cases b with
 | false=>exact⟨false,rfl,fun z=>by cases z⟩
 | true=>
   have sm:=ib rfl;obtain⟨c,ec,ic⟩:=Zkm hF (sm.mono (show 201 <=400 by omega));rw [YI,ec];exact⟨c,rfl,fun z=>⟨sm,ic.1 z⟩⟩
theorem ZyA (hF:400000 <=F) (w:Zb) (l:List ZH) (ps:List (List Int)) (hn:ps.length <=1000) (hp:∀ p ∈ ps,p.length < F∧p.length <=9223372036854775807):
 ∃ b,Zzc F w l ps=some b∧(b=true ->WH 201 w∧Wd w∧l.length <=80∧∀ p ∈ ps,Zz5 p):=by
 obtain⟨c,ec,ic⟩:=ZCo hF w
 have hpk:∀ k,k < ps.length ->∃ b,Zuv F (ps.getD k [])=some b∧(b=true↔Zz5 (ps.getD k [])):=fun k hk=>by
  have:=hp _ (YC (d:= []) hk);exact ZtN this.1 this.2
 have e:=JS (body:=Zi1 F w l ps) (r1:=some false) (r2:=some (c && decide ((l.length:Int) <=80))) (s0:= (0:Int)) (fun k=>(k:Int)) rfl (fun k=>Zz5 (ps.getD k [])) (n:=ps.length) (F:=F) (by omega) (fun k hk next=>by
  obtain⟨b,eb,ib⟩:=hpk k hk;unfold Zi1;rw [ZM hk,Cq1,YN [] hk];simp only [Bq0];rw [eb];simp only [Bq0];rw [Zdt ib,Yz (by omega)]) (fun next=>by
  unfold Zi1;rw [ZT,Cq0,ec];rfl)
 have e':Zzc F w l ps=_:=e;rw [e'];by_cases q:∀ k,k < ps.length ->Zz5 (ps.getD k [])
 ·rw [Xm q];refine⟨_,rfl,fun z=>?_⟩;rw [Ba0,decide_eq_true_eq] at z;have:=ic z.1;exact⟨this.1,this.2,by omega,Wy.1 q⟩
 ·rw [Xz q];exact⟨false,rfl,fun z=>by cases z⟩
end
end Go.Proofs.YtbmbbcaaimehkaaGreat
end
section
namespace Go.Proofs.YtbmbbcaaimehkaaGreat
open Go.Lf
section
variable {F:Nat} {w:Zb}
end
end Go.Proofs.YtbmbbcaaimehkaaGreat
end
section
namespace Go.Proofs.YtbmbbcaaimehkaaGreat
open Go.Lf
def mvd (e:ZG):Bool:=e.deed==2 || e.deed==3
def ZNU (w x:Zb) (e:ZG):Prop:=
 Wt e.place w.Zv.length∧
 ((e.deed=1∧(sp x e.place.toNat).here=true∧(sp x e.place.toNat).machine=e.at_)∨
  (e.deed=3∧(sp x e.place.toNat).here=true∧(sp x e.place.toNat).machine=e.at_∧(sp w e.place.toNat).here=false∧(sp w e.place.toNat).machine=e.at_)∨
  (e.deed=2∧(sp x e.place.toNat).here=false∧(sp x e.place.toNat).machine=e.n∧(sp w e.place.toNat).here=true∧(sp w e.place.toNat).machine=e.at_))
structure StM (w x:Zb) (ev:List ZG) (L:List Int):Prop where
 nd:L.Nodup
 ev_:∀ e ∈ ev,ZNU w x e
 ls:(ev.filter mvd).map (fun e=>e.place)=L
 mv:∀ p,p < w.Zv.length ->(((p:Int) ∈ L ->(sp x p).here ≠ (sp w p).here)∧((p:Int) ∉ L ->(sp x p).here= (sp w p).here∧(sp x p).age= (sp w p).age))
 up:∀ p,p < w.Zv.length ->0 <=inn x (p:Int) ->((p:Int) ∈ L↔inn x (p:Int) ∈ L)
section
variable {F:Nat} {w:Zb}
theorem Zaq (h:Wm w) {u:Zb} (hs:∀ p,p < w.Zv.length ->YB u p=YB w p) {ev:List ZG} (he:∀ e ∈ ev,e.deed=1∧Wt e.place w.Zv.length∧(sp u e.place.toNat).here=true∧(sp u e.place.toNat).machine=e.at_):StM w u ev []:=by
 refine⟨List.nodup_nil,fun e h=>⟨(he e h).2.1,.inl ⟨(he e h).1,(he e h).2.2⟩⟩,?_,fun p hp=>⟨fun z=>(by cases z),fun _=>?_⟩,fun p hp _=>⟨fun z=>(by cases z),fun z=>(by cases z)⟩⟩
 ·rw [List.filter_eq_nil_iff.2 fun e h=>by
   unfold mvd;rw [(he e h).1];decide]
  rfl
 ·rw [Kv (hs p hp)];exact⟨rfl,rfl⟩
theorem ZnJ {u:Zb} (h:Wm u) {m:Nat} {x:Zr} {now:Bool} (r:Rtd u m x now):∀ e ∈ (XI u m x now).2,e.deed=1∧Wt e.place u.Zv.length∧(sp (XI u m x now).1 e.place.toNat).here=true∧(sp (XI u m x now).1 e.place.toNat).machine=e.at_:=by
 intro e he;obtain⟨p,ep,hp⟩:=r.pl.nat;have hl:=fun q=>Kv (ZbF u m x now q)
 rw [hl];unfold XI at he;rw [ep,Int.toNat_natCast] at he;by_cases c:(E u m p).here=true
 ·rw [if_pos c] at he;rw [List.mem_singleton.1 he];have o:=h.only hp r.hm c;dsimp only;rw [Int.toNat_natCast,o.1];exact⟨rfl,⟨by omega,by omega⟩,rfl,rfl⟩
 ·rw [if_neg c] at he;split at he <;> cases he
theorem ZvA (h:Wm w) {p:Nat} {to:Int} (t:Trv w p to):StM w (J9 w p to).1 (J9 w p to).2 (Yq w p):=by
 refine⟨J8 w p,fun e he=>?_,?_,fun q hq=>?_,fun q hq hz=>?_⟩
 ·obtain⟨q,hq,rfl⟩:=List.mem_map.1 he;obtain⟨k,rfl,hk⟩:= (Zaj w p q hq).nat;have b:=K3 h t hq;refine⟨⟨by show 0 <= (k:Int);omega,by show(k:Int) < _;omega⟩,.inr (.inr ⟨rfl,?_⟩)⟩;show(sp (J9 w p to).1 (k:Int).toNat).here=false∧(sp (J9 w p to).1 (k:Int).toNat).machine=to∧(sp w (k:Int).toNat).here=true∧(sp w (k:Int).toNat).machine= (mOf w p:Int);rw [Int.toNat_natCast,ZaO h t hk,if_pos hq,b.2.1];exact⟨rfl,rfl,rfl,rfl⟩
 ·show(((Yq w p).map (Zss (mOf w p) to)).filter mvd).map (fun e=>e.place)=_
  rw [List.filter_eq_self.2 fun e he=>by
   obtain⟨q,hq,rfl⟩:=List.mem_map.1 he
   rfl,List.map_map]
  exact List.map_id' _
 ·rw [ZaO h t hq];refine⟨fun c=>?_,fun c=>?_⟩
  ·rw [if_pos c,(K3 h t c).2.1];simp
  ·rw [if_neg c];exact⟨rfl,rfl⟩
 ·rw [Znt w t.hp] at hz ⊢;by_cases e:q=p
  ·rw [if_pos e] at hz;exact absurd hz (by omega)
  ·rw [if_neg e] at hz ⊢;obtain⟨r,er,hr⟩:=QN (h.shr.inn.rng q hq) (by omega);rw [er];exact Zkn h t hq e er
theorem ZHJ (h:Wm w) {k:Nat} (c:Car w k) {q r:Nat} (hq:q < w.Zv.length) (er:inn w (q:Int)= (r:Int)):(q:Int) ∈ (ZJ w k).qV↔(r:Int) ∈ (ZJ w k).qV:=by
 have hr:r < w.Zv.length:=by have:= (h.shr.inn.rng q hq).2;omega
 have tg:=h.tog q hq (by omega);rw [er,Int.toNat_natCast] at tg
 have key:(sp w q).here=false ->∃ j,j < w.qG.length∧(q:Int) ∈ (ZJ w j).qV∧(r:Int) ∈ (ZJ w j).qV:=fun z=>by
  obtain⟨y,hy,_,a,b⟩:=tg.2.2 z;obtain⟨j,hj,e⟩:=List.getElem_of_mem hy;have e':ZJ w j=y:= (YT hj).trans e;exact⟨j,hj,by rw [e'];exact a,by rw [e'];exact b⟩
 constructor
 ·intro z;obtain⟨j,hj,a,b⟩:=key (by rw [(Wi h c z).2.1]);rw [ZaV h c.hk hj hq z a];exact b
 ·intro z;obtain⟨j,hj,a,b⟩:=key (by rw [← tg.2.1,(Wi h c z).2.1]);rw [ZaV h c.hk hj hr z b];exact a
theorem Zt1 (u:Zb) (x:Ze):∀ j,(∀ i,i < j ->i < x.qV.length ->x.qV.getD i 0= (U4 x i:Int)) ->j <=x.qV.length ->(∀ e ∈ (Yn u x j).2,(e.deed=3∨e.deed=1)∧e.place ∈ x.qV.take j∧e.at_= (x.Z8.toNat:Int))∧((Yn u x j).2.filter mvd).map (fun e=>e.place)=x.qV.take j:=by
 intro j
 induction j with
 | zero=>intro _ _;exact⟨fun e he=>(by cases he),rfl⟩
 | succ j ih=>
   intro hp hj;have i:=ih (fun i hi=>hp i (by omega)) (by omega);have pj:=hp j (by omega) (by omega);have tk:x.qV.take (j + 1)=x.qV.take j ++ [(U4 x j:Int)]:=by rw [← pj,List.take_succ_eq_append_getElem (by omega),YT (by omega)]
   have ev:(Yn u x (j + 1)).2= (Yn u x j).2 ++ ZjV (Yn u x j).1 x.Z8.toNat (U4 x j):=rfl;rw [ev,tk];refine⟨fun e he=>?_,?_⟩
   ·rcases List.mem_append.1 he with q | q
    ·have:=i.1 e q;exact⟨this.1,List.mem_append.2 (.inl this.2.1),this.2.2⟩
    ·rcases List.mem_cons.1 q with q | q
     ·rw [q];exact⟨.inl rfl,List.mem_append.2 (.inr (List.mem_singleton.2 rfl)),rfl⟩
     ·obtain⟨y,hy,rfl⟩:=List.mem_map.1 q;have ha:= (List.mem_filter.1 hy).2;unfold U7 at ha;have ha:y.place= (U4 x j:Int):=by simpa using ha
      exact⟨.inr rfl,List.mem_append.2 (.inr (List.mem_singleton.2 ha)),rfl⟩
   ·rw [List.filter_append,List.map_append,i.2];congr 1;unfold ZjV
    rw [List.filter_cons_of_pos (by rfl),List.filter_eq_nil_iff.2 fun e he=>by
     obtain⟨y,_,rfl⟩:=List.mem_map.1 he;simp [mvd,Zyw]]
    rfl
theorem ZA2 (h:Wm w) {k:Nat} (c:Car w k):StM w (KV w k) (ZbR (YK w k) (ZJ w k)).2 (ZJ w k).qV:=by
 have v:=h.mvl c.mem c.two;have le:=Zt1 (YK w k) (ZJ w k) (ZJ w k).qV.length (fun i _ hi=>(v.U4 hi).1) (Nat.le_refl _);rw [List.take_of_length_le (Nat.le_refl _)] at le;refine⟨h.nodup c.mem c.two,fun e he=>?_,le.2,fun q hq=>?_,fun q hq hz=>?_⟩
 ·have l:=le.1 e he;obtain⟨i,hi,ei⟩:=ZlK l.2.1;have pi:=v.U4 hi;rw [ei] at pi;have wm:=Wi h c (q:=U4 (ZJ w k) i) (by rw [← pi.1];exact l.2.1);have ms:=Zfk h c pi.2;rw [if_pos (by rw [← pi.1];exact l.2.1)] at ms;unfold ZNU;rw [pi.1,Int.toNat_natCast,ms,wm.2.1,l.2.2];have to:=v.Z8;refine⟨⟨by omega,by omega⟩,?_⟩;rcases l.1 with d | d
  ·exact .inr (.inl ⟨d,rfl,to,rfl,to⟩)
  ·exact .inl ⟨d,rfl,to⟩
 ·rw [Zfk h c hq];refine⟨fun d=>?_,fun d=>?_⟩
  ·rw [if_pos d,(Wi h c d).2.1];simp
  ·rw [if_neg d];exact⟨rfl,rfl⟩
 ·rw [Zh5 (Zfl w k).1] at hz ⊢;obtain⟨r,er,hr⟩:=QN (h.shr.inn.rng q hq) (by omega);rw [er];exact ZHJ h c hq er
theorem ZHF (h:Wm w) {s:ZH} (m:May w s):∃ L,StM w (doW w s).1 (doW w s).2 L:=by
 rcases m.act with c | c | c | c | c
 ·rw [do1 c];have a:=m.say c;refine⟨[],Zaq h (fun p hp=>(ZbF (Zc2 w) _ _ _ p).trans (show YB (Zc2 w) p=YB w p from rfl)) ?_⟩;exact ZnJ (Zln h (Zej c m.lim)) (Zlm h a.1 a.2)
 ·rw [do2 c];exact⟨_,ZvA h (m.trv c)⟩
 ·rw [do3 c];exact⟨[],Zaq h (u:=Ka w s.a s.b) (ev:= []) (fun _ _=>rfl) fun e he=>(by cases he)⟩
 ·rw [do4 c];exact⟨[],Zaq h (u:=Ka w s.a (-1)) (ev:= []) (fun _ _=>rfl) fun e he=>(by cases he)⟩
 ·rw [do5 c];have hk:=m.lnd c;rcases ZcE h (x:=ZJ w s.a.toNat) (YC hk) with e | e | e
  ·rw [Zoo e];refine⟨[],Zaq h (fun p hp=>(ZbF _ _ _ _ p).trans (Zhd hk (by omega) p)) ?_⟩;exact ZnJ (Zhc h hk (by omega)) (Zh4 h hk e)
  ·rw [Zon e];exact⟨_,ZA2 h ⟨hk,e⟩⟩
  ·rw [Zom e];exact⟨[],Zaq h (fun p hp=>(Zqh h hk e p).trans (Zhd hk (by omega) p)) fun e he=>by cases he⟩
theorem Zn9 {l:List (Int×Int)} {k:Int} (h:k ∉ l.map (·.1)):(Zff l k 0).bind (fun x=>some (U6 l k (Xa (x + 1))))=some (l ++ [(k,1)]):=by
 unfold Zff;rw [ZkC h];simp only [Bq0,Option.getD_none];rw [ZwJ h];rfl
theorem Zwo (hF:400000 <=F) (hM:F <=1000000) (h:Wd w) (hw:w.qG.length < 399) {s:ZH} (m:May w s) (v10:Int) (next:Int×List Int×List (List Int)×List (List Zw)×List (List Zr)×List Ze×Int ->Option Bool):
 loop F (Zo2 F v10 w.Zv w.qK w.qQ w.qJ w.qG w.said next ((doW w s).1,(doW w s).2,0)) 0=next (Xa (v10 + 1),(doW w s).1.Zv,(doW w s).1.qK,(doW w s).1.qQ,(doW w s).1.qJ,(doW w s).1.qG,(doW w s).1.said):=by
 have hd:=Zzk h m;have ds:=Zhe h.wm m;have sm:WH 400 w:=ZdX h (by omega) (by omega);have smx:WH 400 (doW w s).1:=ZdX hd (by omega) (by omega);obtain⟨L,st⟩:=ZHF h.wm m;have en:=Zzl h m;have h8:=h.shr.KT.p2;generalize hx:(doW w s).1=x at *;generalize he:(doW w s).2=ev at *;have xin:∀ p,p < w.Zv.length ->p < x.Zv.length:=fun p hp=>by rw [ds.1];exact hp
 refine Yj (fun k=>(k:Int)) rfl (n:=w.Zv.length) (by omega) (fun k hk next'=>?_) (fun next'=>?_)
 ·unfold Zo2;dsimp only;rw [ds.1,ZM hk,Cq1,Xt (xin k hk)];simp only [Bq0];by_cases hn:inn x (k:Int) < 0
  ·rw [decide_eq_true hn,Cq1];unfold ZkO;rw [Yz (by omega)]
  ·obtain⟨r,er,hr⟩:=QN (hd.shr.inn.rng k (xin k hk)) hn;have tg:=hd.tog k (xin k hk) (by omega);rw [er,Int.toNat_natCast] at tg;rw [decide_eq_false hn,Cq0,Kj hF smx hd (xin k hk),er,Kj hF smx hd hr];simp only [Bq0];rw [tg.1,tg.2.1,Xl,Xl,Bool.or_self,Cq0];unfold ZkO;rw [Yz (by omega)]
 ·unfold Zo2;dsimp only;rw [ds.1,ZT,Cq0];have key:∀ j,j < ev.length ->∀ (r:Option Bool) (next:Int×List (Int×Int) ->Option Bool),True:=fun _ _ _ _=>trivial
  refine Yj (fun j=>((j:Int),((ev.take j).filter mvd).map fun e=>(e.place,(1:Int)))) rfl (n:=ev.length) (by omega) (fun j hj nx=>?_) (fun nx=>?_)
  ·have ej:=st.ev_ _ (YC (d:=default) hj);have tk:ev.take (j + 1)=ev.take j ++ [ev.getD j default]:=by rw [List.take_succ_eq_append_getElem hj,YT hj]
   unfold ZsW;dsimp only;rw [ZM hj,Cq1,YN default hj];simp only [Bq0];rw [tk,List.filter_append,List.map_append,ds.1]
   have fresh:mvd (ev.getD j default)=true ->(ev.getD j default).place ∉ (((ev.take j).filter mvd).map fun e=>(e.place,(1:Int))).map (·.1):=fun hm z=>by
    rw [List.map_map] at z;have nd:=st.nd;rw [← st.ls,← List.take_append_drop (j + 1) ev,tk,List.filter_append,List.filter_append,List.map_append,List.map_append,List.nodup_append] at nd;have nd:= (List.nodup_append.1 nd.1).2.2 _ z (ev.getD j default).place (by rw [List.filter_cons_of_pos hm];simp);exact nd rfl
   generalize ev.getD j default=e at ej fresh ⊢;obtain⟨hr,hc⟩:=ej;obtain⟨p,ep,hp⟩:=hr.nat;rw [ep,Int.toNat_natCast] at hc;rw [ZJj,decide_eq_true ⟨hr.1,hr.2⟩];simp only [Bq0];rw [Bool.not_true,Cq0,ep,Kj hF smx hd (xin p hp),Kj hF sm h hp];simp only [Bq0];rcases hc with⟨d,a1,a2⟩ | ⟨d,a1,a2,a3,a4⟩ | ⟨d,a1,a2,a3,a4⟩
   ·have hm:mvd e=false:=by unfold mvd;rw [d];rfl
    rw [Yc,decide_eq_true d,Cq1,a1,a2,Xl,Bool.not_true,Bool.or_self,Cq0];unfold Zeu;rw [Yz (by omega),List.filter_cons_of_neg (by rw [hm];simp),List.filter_nil,List.map_nil,List.append_nil]
   ·have hm:mvd e=true:=by unfold mvd;rw [d];rfl
    have hf:=fresh hm;rw [ep] at hf;have mo:=Zn9 hf;rw [Yc,decide_eq_false (by omega),Cq0,Yc,decide_eq_true d,Cq1];unfold Zff at mo ⊢;simp only [Bq0] at mo ⊢;rw [a1,a2,a3,a4,Xl,Bool.not_true,Bool.or_self,Bool.or_self,Bool.or_self,Cq0,Oi0 mo];unfold Zeu;rw [Yz (by omega),List.filter_cons_of_pos hm,List.filter_nil,List.map_cons,List.map_nil,ep]
   ·have hm:mvd e=true:=by unfold mvd;rw [d];rfl
    have hf:=fresh hm;rw [ep] at hf;have mo:=Zn9 hf;rw [Yc,decide_eq_false (by omega),Cq0,Yc,decide_eq_false (by omega),Cq0,Yc,decide_eq_true d,Cq1];unfold Zff at mo ⊢;simp only [Bq0] at mo ⊢;rw [a1,a2,a3,a4,Xl,Xl,Bool.not_true,Bool.or_self,Bool.or_self,Bool.or_self,Cq0,Oi0 mo];unfold Zeu;rw [Yz (by omega),List.filter_cons_of_pos hm,List.filter_nil,List.map_cons,List.map_nil,ep]
  ·unfold ZsW;dsimp only;rw [ZT,Cq0,List.take_of_length_le (Nat.le_refl _)]
   have eT:(ev.filter mvd).map (fun e=>(e.place,(1:Int)))=L.map fun q=>(q,(1:Int)):=by
    rw [← st.ls,List.map_map];rfl
   rw [eT]
   have u:UK (L.map fun q=>(q,(1:Int))):=by
    unfold UK;rw [List.map_map];show(L.map fun q=>q).Nodup;rw [List.map_id'];exact st.nd
   have pg:∀ q:Int,Zff (L.map fun q=>(q,(1:Int))) q 0=some (if q ∈ L then 1 else 0):=fun q=>by
    unfold Zff;by_cases c:q ∈ L
    ·rw [u.get (List.mem_map.2 ⟨q,c,rfl⟩),if_pos c];rfl
    ·rw [ZkC fun z=>by
      rw [List.map_map] at z;obtain⟨a,ha,e⟩:=List.mem_map.1 z;exact c (e ▸ ha),if_neg c];rfl
   refine Yj (fun k=>(k:Int)) rfl (n:=w.Zv.length) (by omega) (fun k hk nx=>?_) (fun nx=>?_)
   ·unfold ZsV;dsimp only;rw [ds.1,ZM hk,Cq1,Kj hF smx hd (xin k hk),show Zb.mk w.Zv w.qK w.qQ w.qJ w.qG w.said=w from rfl,Kj hF sm h hk,pg];simp only [Bq0];have mk:=st.mv k hk
    have chk:(((sp x k).here != (sp w k).here) || ((sp x k).age != (sp w k).age))= ((if(k:Int) ∈ L then(1:Int) else 0)==1):=by
     by_cases c:(k:Int) ∈ L
     ·rw [if_pos c];have:=mk.1 c;have e:((sp x k).here != (sp w k).here)=true:=by simpa using this
      rw [e];rfl
     ·rw [if_neg c,(mk.2 c).1,(mk.2 c).2,Xl,Xl];rfl
    rw [chk,Xl,Bool.not_false,YI];simp only [Bq0,Bool.false_or];rw [decide_eq_false (show ¬ (if(k:Int) ∈ L then(1:Int) else 0) > 1 by split <;> omega),Cq0,Xt (xin k hk)];simp only [Bq0];by_cases hn:0 <=inn x (k:Int)
    ·have iff:=st.up k hk hn;rw [decide_eq_true (show inn x (k:Int) >=0 from hn),YI];simp only [Bq0];rw [YI,pg];simp only [Bq0,Bool.true_and]
     have:(if(k:Int) ∈ L then(1:Int) else 0)=if inn x (k:Int) ∈ L then 1 else 0:=by
      by_cases c:(k:Int) ∈ L
      ·rw [if_pos c,if_pos (iff.1 c)]
      ·rw [if_neg c,if_neg fun z=>c (iff.2 z)]
     rw [this,Xl,Cq0,Yz (by omega)]
    ·rw [decide_eq_false (show ¬ inn x (k:Int) >=0 from hn),Xo];simp only [Bq0];rw [Xo];simp only [Bq0,Bool.false_and,Cq0];rw [Yz (by omega)]
   ·unfold ZsV;dsimp only;rw [ds.1,ZT,Cq0]
    rfl
theorem ZeS (F:Nat) (hF:400000 <=F) (hM:F <=1000000) (w:Zb) (l:List ZH):f9L F w l=some true:=by
 obtain⟨b,eb,ib⟩:=ZyA hF w l [] (by simp) (fun p hp=>by cases hp);unfold f9L;rw [eb];simp only [Bq0];cases b with
 | false=>rfl
 | true=>
 obtain⟨sm0,h,hl,_⟩:=ib rfl;have hwl:=sm0.qG;rw [Bool.not_true,Cq0];refine Yj (fun k=>((k:Int),(Ju w l k).1.Zv,(Ju w l k).1.qK,(Ju w l k).1.qQ,(Ju w l k).1.qJ,(Ju w l k).1.qG,(Ju w l k).1.said)) rfl (n:=l.length) (by omega) (fun k hk next=>?_) (fun next=>?_)
 ·have I:=ZI8 h l k;have i1:=I.qG;have smk:WH 400 (Ju w l k).1:=ZdX I.wd (by omega) (by omega);unfold ZsX;dsimp only;rw [ZM hk,Cq1,YN default hk];simp only [Bq0];rw [show Zb.mk (Ju w l k).1.Zv (Ju w l k).1.qK (Ju w l k).1.qQ (Ju w l k).1.qJ (Ju w l k).1.qG (Ju w l k).1.said= (Ju w l k).1 from rfl];have e1:(Ju w l (k + 1)).1= (Zny (Ju w l k) k (l.getD k default)).1:=rfl;rw [e1];unfold Zny;by_cases a:Ask (Ju w l k).1 (l.getD k default)
  ·rw [ZCx hF hM I.wd smk a];simp only [Bq0];by_cases e:Zkc (Ju w l k).1 (l.getD k default)=0
   ·have m:May (Ju w l k).1 (l.getD k default):=Zsp.2 ⟨a,e⟩;have hd:=Zzk I.wd m;have ds:=Zhe I.wd.wm m;rw [if_pos e,if_pos ⟨a,e⟩];dsimp only;rw [Xl,Cq0,Zvq hF (ZdX hd (by omega) (by omega)) hd];simp only [Bq0];rw [Bool.not_true,ds.1,Xl,Bool.or_self,Cq0,Zwo hF hM I.wd (by omega) m,Yz (by omega)]
   ·rw [if_neg e,if_neg fun z=>e z.2];dsimp only;rw [Ja,decide_eq_true e,Cq1];unfold ZkP;rw [Yz (by omega)]
  ·rw [ZCy hF hM smk fun z=>a z.2,if_neg fun z=>a z.1];simp only [Bq0];unfold ZkP;rw [show((2:Int) !=0)=true from rfl,Cq1,Yz (by omega)]
 ·unfold ZsX;dsimp only;rw [ZT,Cq0];rfl
end
end Go.Proofs.YtbmbbcaaimehkaaGreat
end
