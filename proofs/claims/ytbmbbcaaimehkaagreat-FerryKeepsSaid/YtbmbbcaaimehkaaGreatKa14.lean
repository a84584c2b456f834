/- Keeps Part 14 of the proof. -/
import Derived.Test.YtbmbbcaaimehkaaGreatKa13
set_option linter.all false
set_option maxHeartbeats 2000000
section
namespace Go.Proofs.YtbmbbcaaimehkaaGreat
open Go.Lf
def Wth (w:Zb) (p x:Nat):Prop:=∃ j,up w j (x:Int)= (p:Int)
theorem Wth.bound {w:Zb} (hi:Inn w) {p x:Nat} (hx:x < w.Zv.length) (h:Wth w p x):∃ j,j < w.Zv.length∧up w j (x:Int)= (p:Int):=by
 obtain⟨j,e⟩:=h;refine⟨j,Classical.byContradiction fun q=>?_,e⟩;have:=UC (hi.acy x hx) (show w.Zv.length <=j by omega);omega
def ZCc (w:Zb) (p x:Nat):Bool:= (List.range w.Zv.length).any fun j=>up w j (x:Int)== (p:Int)
theorem Zem {w:Zb} (hi:Inn w) {p x:Nat} (hx:x < w.Zv.length):ZCc w p x=true↔Wth w p x:=by
 unfold ZCc;rw [List.any_eq_true]
 constructor
 ·rintro⟨j,_,e⟩;exact⟨j,beq_iff_eq.1 e⟩
 ·intro h;obtain⟨j,hj,e⟩:=h.bound hi hx;exact⟨j,List.mem_range.2 hj,beq_iff_eq.2 e⟩
def ZgV (w:Zb) (p k:Nat):List Int:= ((List.range k).filter (ZCc w p)).map Int.ofNat
def Yu (w:Zb) (p:Nat):List Int:=ZgV w p w.Zv.length
theorem Zfz (w:Zb) (p k:Nat):(ZgV w p k).length <=k:=by
 unfold ZgV;rw [List.length_map];have:=List.length_filter_le (ZCc w p) (List.range k)
 rwa [List.length_range] at this
theorem Zli {w:Zb} (hi:Inn w) {p:Nat} {y:Int}:y ∈ Yu w p↔∃ x:Nat,y= (x:Int)∧x < w.Zv.length∧Wth w p x:=by
 unfold Yu ZgV;rw [List.mem_map]
 constructor
 ·rintro⟨x,h1,rfl⟩;obtain⟨h2,h3⟩:=List.mem_filter.1 h1;have:=List.mem_range.1 h2;exact⟨x,rfl,this,(Zem hi this).1 h3⟩
 ·rintro⟨x,rfl,h1,h2⟩;exact⟨x,List.mem_filter.2 ⟨List.mem_range.2 h1,(Zem hi h1).2 h2⟩,rfl⟩
theorem Zen (w:Zb) (p:Nat):(Yu w p).Pairwise (· <=·):=by
 unfold Yu ZgV;rw [List.pairwise_map];exact(List.pairwise_lt_range.filter _).imp fun{a b} h=>by show(a:Int) <= (b:Int);omega
theorem WA (w:Zb) (p:Nat):(Yu w p).Nodup:=by
 unfold Yu ZgV;exact List.Pairwise.map _ (fun a b h q=>h (by have:((a:Nat):Int)= ((b:Nat):Int):=q;omega)) (List.nodup_range.filter _)
def desc (w:Zb):Nat ->Nat ->List Int
 | 0,_=>[]
 | d + 1,v=>(v:Int)::(List.range w.Zv.length).flatMap fun k:Nat=>if inn w (k:Int)= (v:Int) then desc w d k else []
def Zfq (w:Zb) (d v:Nat):Prop:=∀ k,k < w.Zv.length ->∀ j,d <=j ->up w j (k:Int) ≠ (v:Int)
theorem Zfq.all {w:Zb} (hi:Inn w) {v:Nat}:Zfq w w.Zv.length v:=fun k hk j hj q=>by
 have:=UC (hi.acy k hk) hj;omega
theorem Zer {w:Zb} {x k v j:Nat} (h1:up w j (x:Int)= (k:Int)) (h2:inn w (k:Int)= (v:Int)):up w (j + 1) (x:Int)= (v:Int):=by
 rw [QC,h1,if_neg (by omega),h2]
theorem Zfq.kid {w:Zb} {d v k:Nat} (h:Zfq w (d + 1) v) (h2:inn w (k:Int)= (v:Int)):Zfq w d k:=fun x hx j hj q=>h x hx (j + 1) (by omega) (Zer q h2)
theorem Zfe {w:Zb} (hi:Inn w):∀ d v,v < w.Zv.length ->Zfq w d v ->∀ y:Int,y ∈ desc w d v↔∃ x:Nat,y= (x:Int)∧x < w.Zv.length∧Wth w v x:=by
 intro d
 induction d with
 | zero=>intro v hv hs;exact absurd rfl (hs v hv 0 (Nat.le_refl _))
 | succ d ih=>
   intro v hv hs y;unfold desc;rw [List.mem_cons,List.mem_flatMap]
   constructor
   ·rintro(h | ⟨k,hk,h⟩)
    ·exact⟨v,h,hv,0,rfl⟩
    ·by_cases e:inn w (k:Int)= (v:Int)
     ·rw [if_pos e] at h;obtain⟨x,h1,h2,j,h3⟩:= (ih k (List.mem_range.1 hk) (hs.kid e) y).1 h;exact⟨x,h1,h2,j + 1,Zer h3 e⟩
     ·rw [if_neg e] at h;cases h
   ·rintro⟨x,rfl,hx,j,hj⟩;cases j with
    | zero=>exact .inl hj
    | succ j=>
      right;rw [QC] at hj;by_cases hn:up w j (x:Int) < 0
      ·rw [if_pos hn] at hj;omega
      ·rw [if_neg hn] at hj;obtain⟨k,e,hk⟩:=J5 (hi.up (q:= (x:Int)) ⟨by omega,by omega⟩ j) hn;rw [e] at hj;refine⟨k,List.mem_range.2 hk,?_⟩;rw [if_pos hj];exact(ih k hk (hs.kid hj) _).2 ⟨x,rfl,hx,j,e⟩
theorem ZiG {w:Zb} (hi:Inn w) {v j:Nat} (hv:v < w.Zv.length) (hj:0 < j):up w j (v:Int) ≠ (v:Int):=by
 intro e
 have h:∀ m,up w (m * j) (v:Int)= (v:Int):=by
  intro m
  induction m with
  | zero=>rw [Nat.zero_mul];rfl
  | succ m ih=>rw [Nat.succ_mul,up_add,ih,e]
 have:=h w.Zv.length;have h2:=UC (hi.acy v hv) (show w.Zv.length <=w.Zv.length * j from Nat.le_mul_of_pos_right _ hj);omega
theorem Zsp {w:Zb} (hi:Inn w):∀ d v,v < w.Zv.length ->Zfq w d v ->(desc w d v).Nodup:=by
 intro d
 induction d with
 | zero=>intro v hv hs;exact absurd rfl (hs v hv 0 (Nat.le_refl _))
 | succ d ih=>
   intro v hv hs;unfold desc;rw [List.nodup_cons];refine⟨fun h=>?_,?_⟩
   ·obtain⟨k,hk,h⟩:=List.mem_flatMap.1 h;by_cases e:inn w (k:Int)= (v:Int)
    ·rw [if_pos e] at h;obtain⟨x,h1,h2,j,h3⟩:= (Zfe hi d k (List.mem_range.1 hk) (hs.kid e) _).1 h;have:x=v:=by omega
     subst this;exact ZiG hi hv (Nat.succ_pos j) (Zer h3 e)
    ·rw [if_neg e] at h;cases h
   ·unfold List.Nodup;rw [List.pairwise_flatMap];refine⟨fun k hk=>?_,?_⟩
    ·by_cases e:inn w (k:Int)= (v:Int)
     ·rw [if_pos e];exact ih k (List.mem_range.1 hk) (hs.kid e)
     ·rw [if_neg e];exact List.Pairwise.nil
    ·refine List.Pairwise.imp_of_mem (R:= (· < ·)) (fun{a b} ha hb hab y hy z hz e=>?_) List.pairwise_lt_range;subst e;by_cases ea:inn w (a:Int)= (v:Int)
     ·rw [if_pos ea] at hy;by_cases eb:inn w (b:Int)= (v:Int)
      ·rw [if_pos eb] at hz;obtain⟨x,h1,h2,j1,h3⟩:= (Zfe hi d a (List.mem_range.1 ha) (hs.kid ea) _).1 hy;obtain⟨x',h1',h2',j2,h4⟩:= (Zfe hi d b (List.mem_range.1 hb) (hs.kid eb) _).1 hz;have:x=x':=by omega
       subst this;have u1:=Zer h3 ea;have u2:=Zer h4 eb;rcases Nat.lt_trichotomy j1 j2 with q | q | q
       ·rw [show j2 + 1= (j1 + 1) + (j2 - j1) by omega,up_add,u1] at u2;exact ZiG hi hv (by omega) u2
       ·subst q;rw [h3] at h4;omega
       ·rw [show j1 + 1= (j2 + 1) + (j1 - j2) by omega,up_add,u2] at u1;exact ZiG hi hv (by omega) u1
      ·rw [if_neg eb] at hz;cases hz
     ·rw [if_neg ea] at hy;cases hy
theorem Zdb {w:Zb} (hi:Inn w) {v:Nat} (hv:v < w.Zv.length):(desc w w.Zv.length v).Perm (Yu w v):=
 (List.perm_ext_iff_of_nodup (Zsp hi _ v hv (Zfq.all hi)) (WA w v)).2 fun a=>by rw [Zfe hi _ v hv (Zfq.all hi),Zli hi]
theorem ZvU {w:Zb} (hi:Inn w) {v:Nat} (hv:v < w.Zv.length):Um (desc w w.Zv.length v)=Yu w v:=Zdn (Zdb hi hv) (Zen w v)
theorem Zj7 {w:Zb} (hi:Inn w) {v:Nat} (hv:v < w.Zv.length):(desc w w.Zv.length v).length <=w.Zv.length:=by
 rw [(Zdb hi hv).length_eq];exact Zfz _ _ _
def kids (w:Zb) (d v k:Nat):List Int:= (List.range k).flatMap fun k:Nat=>if inn w (k:Int)= (v:Int) then desc w d k else []
theorem Zf1 (w:Zb) (d v k:Nat):kids w d v (k + 1)=kids w d v k ++ (if inn w (k:Int)= (v:Int) then desc w d k else []):=by
 unfold kids;rw [List.range_succ,List.flatMap_append];simp
theorem ZCT {w:Zb} {d v a b:Nat} (h:a <=b):(kids w d v a).length <= (kids w d v b).length:=by
 obtain⟨c,rfl⟩:∃ c,b=a + c:= ⟨b - a,by omega⟩
 induction c with
 | zero=>exact Nat.le_refl _
 | succ c ih=>
   rw [show a + (c + 1)= (a + c) + 1 by omega,Zf1,List.length_append];have:=ih (by omega);omega
theorem gather {F:Nat} (hF:1000 <=F) {w:Zb} (h8:w.Zv.length <=8)
 {B:Int ->(Int×List Int ->Option (Bool×List Int)) ->Int×List Int ->(Int×List Int ->Option (Bool×List Int)) ->Option (Bool×List Int)}
 {R:Int×List Int ->(Int×List Int ->Option (Bool×List Int)) ->Option (Bool×List Int)}
 (hR:∀ v l next,R (v,l) next= (app 8 l [v]).bind fun z=>loop F (B v next) (0,z))
 (hB:∀ v next k l nx,B v next (k,l) nx=bif decide (k < (w.Zv.length:Int)) then(ZT w.Zv k).bind fun x=>(bif x==v then(next (k,l)).bind fun p=>(bif !p.1 then some (false,p.2) else nx (Xd (k + 1),p.2)) else nx (Xd (k + 1),l)) else some (true,l)):
 ∀ d v l F',d < F' ->v < w.Zv.length ->Zfq w d v ->l.length + (desc w d v).length <=800000 ->loop F' R ((v:Int),l)=some (true,l ++ desc w d v):=by
 intro d
 induction d with
 | zero=>intro v l F' _ hv hs;exact absurd rfl (hs v hv 0 (Nat.le_refl _))
 | succ d ih=>
   intro v l F' hF' hv hs hlen;have ed:desc w (d + 1) v= (v:Int)::kids w d v w.Zv.length:=rfl;rw [ed,List.length_cons] at hlen;cases F' with
   | zero=>omega
   | succ F'=>
     rw [ZcZ,hR,ZsH (by rw [List.length_singleton];omega)];simp only [Bq0];refine Ye (fun k=>((k:Int),l ++ [(v:Int)] ++ kids w d v k)) (by simp [kids]) (n:=w.Zv.length) (by omega) (fun k hk next=>?_) (fun next=>?_)
     ·have hle:=ZCT (w:=w) (d:=d) (v:=v) (show k + 1 <=w.Zv.length by omega);rw [Zf1] at hle ⊢;rw [hB,ZI hk,Cq1,XU hk];simp only [Bq0];by_cases e:inn w (k:Int)= (v:Int)
      ·rw [Yg,decide_eq_true e,Cq1,if_pos e];rw [if_pos e,List.length_append] at hle;rw [ih k _ F' (by omega) hk (hs.kid e) (by simp only [List.length_append,List.length_singleton];omega)];simp only [Bq0,Bool.not_true,Cq0];rw [Yv (by omega),← List.append_assoc]
      ·rw [Yg,decide_eq_false e,Cq0,if_neg e,List.append_nil,Yv (by omega)]
     ·rw [hB,ZR,Cq0,ed,List.append_assoc];rfl
def old (w:Zb) (q:Int):Bool:=decide ((sp w q.toNat).age >=30)
def lim (w:Zb) (s:ZC):Bool:=if s.act=1 then decide (w.said >=40) else if s.act=2 then(Yu w s.a.toNat).any (old w) else false
def Alw (w:Zb) (s:ZC):Prop:=
 (s.act=2 ->(sp w s.a.toNat).here=true∧(sp w s.a.toNat).machine ≠ s.b)∧
 (s.act=3 ->s.b ∉ Yu w s.a.toNat∧inn w s.a=-1∧(sp w s.a.toNat).here=true∧(sp w s.b.toNat).here=true∧(sp w s.a.toNat).machine= (sp w s.b.toNat).machine)∧
 (s.act=4 ->(sp w s.a.toNat).here=true∧inn w s.a ≠ -1)
instance (w:Zb) (s:ZC):Decidable (Alw w s):=by unfold Alw;infer_instance
def ZnG (w:Zb) (s:ZC):Int:=if lim w s then 3 else if Alw w s then 0 else 7
section
variable {F:Nat} {w:Zb}
theorem Ka.nat {p:Int} {n:Nat} (h:Ka p n):∃ k:Nat,p= (k:Int)∧k < n:= ⟨p.toNat,by have:=h.1;omega,by have h1:=h.1;have h2:=h.2;omega⟩
end
end Go.Proofs.YtbmbbcaaimehkaaGreat
end
section
namespace Go.Proofs.YtbmbbcaaimehkaaGreat
open Go.Lf
section
variable {F:Nat} {w:Zb}
theorem ZkO (w:Zb) (f:Int ->Bool) (d v k:Nat):(kids w d v (k + 1)).any f= ((kids w d v k).any f || (if inn w (k:Int)= (v:Int) then(desc w d k).any f else false)):=by
 rw [Zf1,List.any_append];by_cases e:inn w (k:Int)= (v:Int)
 ·rw [if_pos e,if_pos e]
 ·rw [if_neg e,if_neg e];rfl
theorem oldest (hF:1000 <=F) (hM:F <=1000000) (h:Wd w) (sm:Kl 900 w):∀ d v (x:Int) F',d < F' ->v < w.Zv.length ->Zfq w d v ->loop F' (Zcs F w) ((v:Int),x,false)=some (if(desc w d v).any (old w) then(false,3,true) else(true,x,false)):=by
 have h8:=h.shr.KA.p2;intro d
 induction d with
 | zero=>intro v x F' _ hv hs;exact absurd rfl (hs v hv 0 (Nat.le_refl _))
 | succ d ih=>
   intro v x F' hF' hv hs;have ed:(desc w (d + 1) v).any (old w)= (old w (v:Int) || (kids w d v w.Zv.length).any (old w)):=rfl;rw [ed];cases F' with
   | zero=>omega
   | succ F'=>
     rw [ZcZ];unfold Zcs;dsimp only;rw [Cq0,Zax hF hM h sm hv];simp only [Bq0];have eo:old w (v:Int)=decide ((sp w v).age >=30):=rfl;by_cases ho:(sp w v).age >=30
     ·rw [eo,decide_eq_true ho,Cq1,Bool.not_false,Cq1,Bool.true_or];rfl
     ·rw [eo,decide_eq_false ho,Cq0,Bool.not_true,Cq0,Bool.false_or]
      change loop F (Zd3 w (v:Int) (loop F' (Zcs F w))) (0,x,false)=_
      have step:∀ k,k < w.Zv.length ->∀ nx,Zd3 w (v:Int) (loop F' (Zcs F w)) ((k:Int),x,false) nx=bif(if inn w (k:Int)= (v:Int) then(desc w d k).any (old w) else false) then some (false,3,true) else nx (((k + 1:Nat):Int),x,false):=fun k hk nx=>by
       unfold Zd3;dsimp only;rw [ZI hk,Cq1,XU hk];simp only [Bq0];by_cases e:inn w (k:Int)= (v:Int)
       ·rw [Yg,decide_eq_true e,Cq1,if_pos e,ih k x F' (by omega) hk (hs.kid e)];simp only [Bq0];cases (desc w d k).any (old w) with
        | true=>rfl
        | false=>
          simp only [Bool.false_eq_true,if_false,Bool.not_true,Cq0];rw [Yv (by omega)]
       ·rw [Yg,decide_eq_false e,Cq0,if_neg e,Cq0,Yv (by omega)]
      have:=ZiP (F:=F) (body:=Zd3 w (v:Int) (loop F' (Zcs F w))) (r1:=some (false,3,true)) (r2:=some (true,x,false)) (fun k=>((k:Int),x,false)) (fun k=>if inn w (k:Int)= (v:Int) then(desc w d k).any (old w) else false) (n:=w.Zv.length) (by omega) step (fun next=>by unfold Zd3;dsimp only;rw [ZR];rfl);refine this.trans ?_
      have e2:∀ n,(List.range n).any (fun k:Nat=>if inn w (k:Int)= (v:Int) then(desc w d k).any (old w) else false)= (kids w d v n).any (old w):=by
       intro n
       induction n with
       | zero=>rfl
       | succ n ihn=>rw [List.range_succ,List.any_append,ihn,ZkO];simp
      rw [e2];cases (kids w d v w.Zv.length).any (old w) <;> rfl
theorem ZBj {α:Type} {l l':List α} (h:l.Perm l') (f:α ->Bool):l.any f=l'.any f:=by
 rw [Bool.eq_iff_iff,List.any_eq_true,List.any_eq_true];exact⟨fun⟨x,a,b⟩=>⟨x,h.mem_iff.1 a,b⟩,fun⟨x,a,b⟩=>⟨x,h.mem_iff.2 a,b⟩⟩
theorem ZoU (hF:1000 <=F) (hM:F <=1000000) (h:Wd w) (sm:Kl 900 w) {s:ZC} (ha:Ask w s):Zsg F w s=some (ZnG w s):=by
 have e:∀ k:Int,(s.act==k)=decide (s.act=k):=fun k=>Yg _ _
 have h8:=h.shr.KA.p2;unfold Zsg ZnG;by_cases h1:s.act=1
 ·rw [e,decide_eq_true h1,Cq1];have hA:Alw w s:= ⟨fun z=>by omega,fun z=>by omega,fun z=>by omega⟩
  unfold lim;rw [if_pos h1,if_pos hA];by_cases q:w.said >=40
  ·rw [decide_eq_true q];rfl
  ·rw [decide_eq_false q];rfl
 rw [e 1,decide_eq_false h1,Cq0];by_cases h2:s.act=2
 ·have hin:Ka s.a w.Zv.length:=by
   rcases ha with q | q | q | q | q
   ·omega
   ·exact q.2.1
   ·omega
   ·omega
   ·omega
  obtain⟨p,ep,hp⟩:=hin.nat;rw [e,decide_eq_true h2,Cq1,ep,oldest hF hM h sm w.Zv.length p 0 F (by omega) hp (Zfq.all h.shr.inn),ZBj (Zdb h.shr.inn hp)];unfold lim;rw [if_neg h1,if_pos h2,ep,Int.toNat_natCast];cases (Yu w p).any (old w) with
  | true=>rfl
  | false=>
    simp only [Bool.false_eq_true,if_false,Bq0];unfold Znk;dsimp only;rw [Cq0,ep,Zax hF hM h sm hp];simp only [Bq0]
    have hA:Alw w s↔(sp w p).here=true∧(sp w p).machine ≠ s.b:=by
     unfold Alw;rw [ep,Int.toNat_natCast];exact⟨fun q=>q.1 h2,fun q=>⟨fun _=>q,fun z=>by omega,fun z=>by omega⟩⟩
    cases hh:(sp w p).here with
    | true=>
      by_cases q:(sp w p).machine=s.b
      ·rw [Yg,decide_eq_true q,if_neg (fun z=>(hA.1 z).2 q)];rfl
      ·rw [Yg,decide_eq_false q,if_pos (hA.2 ⟨hh,q⟩)];rfl
    | false=>
      rw [if_neg (fun z=>by have:= (hA.1 z).1;rw [hh] at this;cases this)];rfl
 have hl:lim w s=false:=by unfold lim;rw [if_neg h1,if_neg h2]
 rw [e 2,decide_eq_false h2,Cq0,hl];simp only [Bool.false_eq_true,if_false];by_cases h3:s.act=3
 ·have hin:Ka s.a w.Zv.length∧Ka s.b w.Zv.length:=by
   rcases ha with q | q | q | q | q
   ·omega
   ·omega
   ·exact q.2
   ·omega
   ·omega
  obtain⟨p,ep,hp⟩:=hin.1.nat;obtain⟨r,er,hr⟩:=hin.2.nat
  have hA:Alw w s↔s.b ∉ Yu w p∧inn w (p:Int)=-1∧(sp w p).here=true∧(sp w r).here=true∧(sp w p).machine= (sp w r).machine:=by
   unfold Alw;rw [ep,er,Int.toNat_natCast,Int.toNat_natCast];exact⟨fun q=>q.2.1 h3,fun q=>⟨fun z=>by omega,fun _=>q,fun z=>by omega⟩⟩
  rw [e,decide_eq_true h3,Cq1,ep,er,Zax hF hM h sm hp,Zax hF hM h sm hr];simp only [Bq0];rw [XU hp];simp only [Bq0];by_cases g:inn w (p:Int)=-1∧(sp w p).here=true∧(sp w r).here=true∧(sp w p).machine= (sp w r).machine
  ·obtain⟨g1,g2,g3,g4⟩:=g;rw [g1,g2,g3,g4,JJ,JJ];simp only [Bool.not_true,Bool.or_self,Bool.not_false,Cq1];unfold Zni;simp only [Bq0]
   have hg:loop F (ZjP F w) (s.a,[])=some (true,desc w w.Zv.length p):=by
    rw [ep];have hdl:=Zj7 h.shr.inn hp;exact gather hF h8 (B:=fun v next=>Zsf w v next) (R:=ZjP F w) (fun v l next=>rfl) (fun v next k l nx=>rfl) w.Zv.length p [] F (by omega) hp (Zfq.all h.shr.inn) (by simp;omega)
   unfold Znh;rw [hg];simp only [Bq0];unfold Znj;simp only [Bq0];have hdl:=Zj7 h.shr.inn hp;obtain⟨b,eb,ib⟩:=Zas (F:=F) hF (l:=desc w w.Zv.length p) (by omega) s.b;rw [er] at eb;rw [eb];simp only [Bq0];have hm:s.b ∈ desc w w.Zv.length p↔s.b ∈ Yu w p:= (Zdb h.shr.inn hp).mem_iff;cases b with
   | true=>rw [if_neg (fun z=>(hA.1 z).1 (hm.1 (ib.1 rfl)))];rfl
   | false=>
     rw [if_pos (hA.2 ⟨fun z=>(by have:=ib.2 (hm.2 z);cases this),g1,g2,g3,g4⟩)];rfl
  ·have:(((inn w (p:Int) != (-1)) || !(sp w p).here) || !(sp w r).here || ((sp w p).machine != (sp w r).machine))=true:=by
    rw [← Bool.not_eq_false];intro z;simp only [Bool.or_eq_false_iff,bne_eq_false_iff_eq,Bool.not_eq_false'] at z;exact g ⟨z.1.1.1,z.1.1.2,z.1.2,z.2⟩
   rw [this,Bool.not_true,Cq0,if_neg (fun z=>g (hA.1 z).2)]
 rw [e 3,decide_eq_false h3,Cq0];by_cases h4:s.act=4
 ·have hin:Ka s.a w.Zv.length:=by
   rcases ha with q | q | q | q | q
   ·omega
   ·omega
   ·omega
   ·exact q.2
   ·omega
  obtain⟨p,ep,hp⟩:=hin.nat
  have hA:Alw w s↔(sp w p).here=true∧inn w (p:Int) ≠ -1:=by
   unfold Alw;rw [ep,Int.toNat_natCast];exact⟨fun q=>q.2.2 h4,fun q=>⟨fun z=>by omega,fun z=>by omega,fun _=>q⟩⟩
  rw [e,decide_eq_true h4,Cq1,ep,Zax hF hM h sm hp];simp only [Bq0];cases hh:(sp w p).here with
  | true=>
    simp only [Bool.not_true,Bool.not_false,YK,Bool.false_or];rw [XU hp];simp only [Bq0];by_cases q:inn w (p:Int)=-1
    ·rw [Yg,decide_eq_true q,if_neg (fun z=>(hA.1 z).2 q)];rfl
    ·rw [Yg,decide_eq_false q,if_pos (hA.2 ⟨hh,q⟩)];rfl
  | false=>
    rw [if_neg (fun z=>by have:= (hA.1 z).1;rw [hh] at this;cases this)];rfl
 rw [e 4,decide_eq_false h4,Cq0,if_pos (show Alw w s from⟨fun z=>absurd z h2,fun z=>absurd z h3,fun z=>absurd z h4⟩)]
end
end Go.Proofs.YtbmbbcaaimehkaaGreat
end
section
namespace Go.Proofs.YtbmbbcaaimehkaaGreat
open Go.Lf
def Xt (w:Zb) (p:Nat):List Int:=w.qK.getD p []
def ZbB (to:Int) (y:Zr):Zd:= ⟨1,to,y,[],[],0,0,0⟩
def ZxG (to p at_ age:Int):Zd:= ⟨3,to,⟨0,0,0,0,0⟩,[],[],p,at_,age⟩
def Zx0 (to:Int) (qV Yj:List Int):Zd:= ⟨2,to,⟨0,0,0,0,0⟩,qV,Yj,0,0,0⟩
def KR (x:Zr) (e:Zw):Zr:= ⟨x.msg,x.place,x.from_,e.age,x.hops + 1⟩
def told (m:Int) (x:Zr) (e:Zw) (now:Bool):List Zd:=if now=false∧x.from_ ≠ m∧x.from_ ≠ e.Z9 then [ZxG x.from_ x.place e.Z9 e.age] else []
def Qa (w:Zb) (m:Nat) (x:Zr) (now:Bool):Zb×List Zx:=
 if(E w m x.place.toNat).here=true then({w with qK:=Yt w.qK x.place (Xt w x.place.toNat ++ [x.msg])},[⟨1,x.place,(m:Int),x.msg,x.hops⟩])
 else if now=false∧(E w m x.place.toNat).age <=x.age then({w with qJ:=Yt w.qJ (m:Int) (ZH w m ++ [x])},[])
 else({w with qG:=w.qG ++ ZbB (E w m x.place.toNat).Z9 (KR x (E w m x.place.toNat))::told (m:Int) x (E w m x.place.toNat) now},[])
section
variable {F:Nat} {w:Zb}
theorem Zkd (s:W9 w) {p:Nat} (hp:p < w.Zv.length):ZT w.qK (p:Int)=some (Xt w p):=YB [] (by rw [s.bx];exact hp)
theorem Zc3 (s:W9 w) {m:Nat} (hm:m < w.qQ.length):ZT w.qJ (m:Int)=some (ZH w m):=YB [] (by rw [s.hd];exact hm)
theorem Zuq (s:W9 w) (sm:Kl 900 w) {p:Nat} (hp:p < w.Zv.length):(Xt w p).length < 900:=sm.box _ (Yn (by rw [s.bx];exact hp))
theorem ZpI (s:W9 w) (sm:Kl 900 w) {m:Nat} (hm:m < w.qQ.length):(ZH w m).length < 900:=sm.hel _ (Yn (by rw [s.hd];exact hm))
theorem Zxo (s:W9 w) (sm:Kl 900 w) {m:Nat} {x:Zr} {p:Nat} (hx:x.place= (p:Int)) (hp:p < w.Zv.length) {ev:List Zx} (he:ev.length <=800000):
 Zhr ⟨w,ev⟩ (m:Int) x=some ⟨{w with qK:=Yt w.qK x.place (Xt w p ++ [x.msg])},ev ++ [⟨1,x.place,(m:Int),x.msg,x.hops⟩]⟩:=by
 have h1:=Zuq s sm hp;unfold Zhr;rw [hx,Zkd s hp];simp only [Bq0];rw [app1 (by omega) (by omega)];simp only [Bq0];rw [app1 (by omega) (by omega)]
 rfl
theorem Zis (s:W9 w) (sm:Kl 900 w) {m:Nat} (hm:m < w.qQ.length) {x:Zr} (hp:x.place.toNat < w.Zv.length) (h0:0 <=x.place) (hh:0 <=x.hops) (hh2:x.hops <=1000) (now:Bool) {ev:List Zx} (he:ev.length <=800000):
 ZpZ ⟨w,ev⟩ (m:Int) x now=some ⟨(Qa w m x now).1,ev ++ (Qa w m x now).2⟩:=by
 obtain⟨p,hx⟩:∃ p:Nat,x.place= (p:Int):= ⟨x.place.toNat,by omega⟩
 have h1:=ZpI s sm hm;have h2:=sm.qG;rw [hx,Int.toNat_natCast] at hp;unfold ZpZ Qa;dsimp only;rw [s.row hm];simp only [Bq0];rw [hx,s.ent hm hp];simp only [Bq0];rw [Int.toNat_natCast];cases hE:(E w m p).here with
 | true=>
   rw [Cq1,Zxo s sm hx hp he,if_pos rfl,hx];rfl
 | false=>
   rw [Cq0,if_neg (by simp)];by_cases hc:now=false∧(E w m p).age <=x.age
   ·rw [if_pos hc,hc.1,decide_eq_false (show ¬ (E w m p).age > x.age by have:=hc.2;omega),Bool.or_self,Cq0,Zc3 s hm];simp only [Bq0];rw [app1 (by omega) (by omega)];simp only [Bq0,List.append_nil]
   ·have e:(decide ((E w m p).age > x.age) || now)=true:=by
     rw [← Bool.not_eq_false];intro z;simp only [Bool.or_eq_false_iff,decide_eq_false_iff_not] at z;exact hc ⟨z.2,by omega⟩
    rw [if_neg hc,e,Cq1,app1 (by omega) (by omega)];simp only [Bq0];rw [Za2 (by omega) (by omega)];unfold told ZbB KR ZxG;rw [hx];by_cases ht:now=false∧x.from_ ≠ (m:Int)∧x.from_ ≠ (E w m p).Z9
    ·rw [if_pos ht,ht.1,J8,J8,decide_eq_true ht.2.1,decide_eq_true ht.2.2];simp only [Bool.not_false,Bool.and_self,Cq1];rw [app1 (by rw [List.length_append,List.length_singleton];omega) (by omega)];simp only [Bq0,List.append_nil,List.append_assoc]
     rfl
    ·have e2:(((!now) && (x.from_ != (m:Int))) && (x.from_ != (E w m p).Z9))=false:=by
      rw [← Bool.not_eq_true];intro z;simp only [Ba0,Bool.not_eq_true',bne_iff_ne] at z;exact ht ⟨z.1.1,z.1.2,z.2⟩
     rw [e2,Cq0,if_neg ht,List.append_nil]
end
end Go.Proofs.YtbmbbcaaimehkaaGreat
end
section
namespace Go.Proofs.YtbmbbcaaimehkaaGreat
open Go.Lf
theorem Xg {α:Type} (l:List α) (k:Int) (x:α):(Yt l k x).length=l.length:=by simp [Yt]
theorem QZ {α:Type} {l:List α} {k j:Nat} {x d:α} (h:k < l.length):(Yt l (k:Int) x).getD j d=if j=k then x else l.getD j d:=by
 unfold Yt;rw [Int.toNat_natCast,List.getD_eq_getElem?_getD,List.getElem?_set,List.getD_eq_getElem?_getD];by_cases e:k=j
 ·subst e;simp [h]
 ·rw [if_neg e,if_neg (fun q=>e q.symm)]
theorem ZaH {α:Type} {l:List α} {k:Nat} {x:α} (h:k < l.length):ZT (Yt l (k:Int) x) (k:Int)=some x:=by
 rw [YB x (by rw [Xg];exact h),QZ h,if_pos rfl]
theorem Zlr {α:Type} (l:List α) (k:Int) (x y:α):Yt (Yt l k x) k y=Yt l k y:=by simp [Yt]
theorem ZuW {α:Type} {l:List α} {k:Nat} (d:α) (h:k < l.length):Yt l (k:Int) (l.getD k d)=l:=by
 unfold Yt;rw [Int.toNat_natCast];apply List.ext_getElem?;intro i;rw [List.getElem?_set];by_cases e:k=i
 ·subst e;rw [if_pos rfl,if_pos h,List.getD_eq_getElem?_getD,List.getElem?_eq_getElem h];rfl
 ·rw [if_neg e]
def setW (w:Zb) (m p:Nat) (e:Zw):Zb:= {w with qQ:=Yt w.qQ (m:Int) (Yt (row w m) (p:Int) e)}
theorem W9.setW {w:Zb} (s:W9 w) {m p:Nat} (hm:m < w.qQ.length) (e:Zw):W9 (setW w m p e):=by
 refine⟨by show 1 <= (Yt _ _ _).length;rw [Xg];exact s.m1,by show(Yt _ _ _).length <=5;rw [Xg];exact s.m2,s.p1,s.p2,s.bx,by show w.qJ.length= (Yt _ _ _).length;rw [Xg];exact s.hd,fun l hl=>?_⟩;have hl':l ∈ Yt w.qQ (m:Int) (Yt (Proofs.YtbmbbcaaimehkaaGreat.row w m) (p:Int) e):=hl;unfold Yt at hl';rcases List.mem_or_eq_of_mem_set hl' with q | q
 ·exact s.rw_ _ q
 ·rw [q];simp only [List.length_set];exact s.len hm
theorem Zb0 (w:Zb) (m p:Nat) (e:Zw):(setW w m p e).qQ.length=w.qQ.length:=Xg _ _ _
theorem Zoc {w:Zb} (s:W9 w) {m p:Nat} (hm:m < w.qQ.length) (hp:p < w.Zv.length) (e:Zw) (m' p':Nat):E (setW w m p e) m' p'=if m'=m∧p'=p then e else E w m' p':=by
 have hr:row (setW w m p e) m'=if m'=m then Yt (row w m) (p:Int) e else row w m':=QZ hm
 unfold E;rw [hr];by_cases h:m'=m
 ·subst h;rw [if_pos rfl,QZ (by rw [s.len hm];exact hp)];by_cases h2:p'=p
  ·rw [if_pos h2,if_pos ⟨rfl,h2⟩]
  ·rw [if_neg h2,if_neg (fun q=>h2 q.2)]
 ·rw [if_neg h,if_neg (fun q=>h q.1)]
structure MvL (w:Zb) (x:Zd) (m:Nat):Prop where
 Z9:x.Z9= (m:Int)
 hm:m < w.qQ.length
 len:x.Yj.length=x.qV.length
 few:x.qV.length <=8
 rng:∀ i,i < x.qV.length ->Ka (x.qV.getD i 0) w.Zv.length
def KD (x:Zd) (i:Nat):Nat:= (x.qV.getD i 0).toNat
theorem MvL.KD {w:Zb} {x:Zd} {m:Nat} (v:MvL w x m) {i:Nat} (hi:i < x.qV.length):x.qV.getD i 0= (Proofs.YtbmbbcaaimehkaaGreat.KD x i:Int)∧Proofs.YtbmbbcaaimehkaaGreat.KD x i < w.Zv.length:=by
 have:=v.rng i hi;unfold Ka at this;unfold Proofs.YtbmbbcaaimehkaaGreat.KD;omega
def Qh (w:Zb) (x:Zd):Nat ->Zb
 | 0=>w
 | k + 1=>setW (Qh w x k) x.Z9.toNat (KD x k) ⟨true,x.Z9,x.Yj.getD k 0⟩
theorem Qt (w:Zb) (x:Zd):∀ k,(Qh w x k).Zv=w.Zv∧(Qh w x k).qK=w.qK∧(Qh w x k).qJ=w.qJ∧(Qh w x k).qG=w.qG∧(Qh w x k).said=w.said∧(Qh w x k).qQ.length=w.qQ.length:=by
 intro k
 induction k with
 | zero=>exact⟨rfl,rfl,rfl,rfl,rfl,rfl⟩
 | succ k ih=>exact⟨ih.1,ih.2.1,ih.2.2.1,ih.2.2.2.1,ih.2.2.2.2.1,(Zb0 _ _ _ _).trans ih.2.2.2.2.2⟩
theorem ZgD {w:Zb} (s:W9 w) {x:Zd} {m:Nat} (v:MvL w x m):∀ k,W9 (Qh w x k):=by
 intro k
 induction k with
 | zero=>exact s
 | succ k ih=>exact ih.setW (by rw [(Qt w x k).2.2.2.2.2,v.Z9,Int.toNat_natCast];exact v.hm) _
def WM (p:Nat) (y:Zr):Bool:=y.place== (p:Int)
def ZDB (m:Nat) (y:Zr):Zx:= ⟨1,y.place,(m:Int),y.msg,y.hops⟩
def ZaQ (w:Zb) (m p:Nat):Zb:=
 {w with qK:=Yt w.qK (p:Int) (Xt w p ++ ((ZH w m).filter (WM p)).map (fun y=>y.msg)),qJ:=Yt w.qJ (m:Int) ((ZH w m).filter fun y=>!WM p y)}
def ZpH (w:Zb) (m p:Nat):List Zx:= ⟨3,(p:Int),(m:Int),0,0⟩::((ZH w m).filter (WM p)).map (ZDB m)
def Yw (w:Zb) (x:Zd):Nat ->Zb×List Zx
 | 0=>(Qh w x x.qV.length,[])
 | k + 1=>(ZaQ (Yw w x k).1 x.Z9.toNat (KD x k),(Yw w x k).2 ++ ZpH (Yw w x k).1 x.Z9.toNat (KD x k))
def ZdS (w:Zb) (x:Zd):Zb×List Zx:=Yw w x x.qV.length
theorem KV (w:Zb) (x:Zd):∀ k,(Yw w x k).1.Zv=w.Zv∧(Yw w x k).1.qG=w.qG∧(Yw w x k).1.said=w.said∧(Yw w x k).1.qQ= (Qh w x x.qV.length).qQ∧(Yw w x k).1.qK.length=w.qK.length∧(Yw w x k).1.qJ.length=w.qJ.length:=by
 intro k
 induction k with
 | zero=>
   have:=Qt w x x.qV.length;exact⟨this.1,this.2.2.2.1,this.2.2.2.2.1,rfl,by rw [show(Yw w x 0).1=Qh w x x.qV.length from rfl,this.2.1],by rw [show(Yw w x 0).1=Qh w x x.qV.length from rfl,this.2.2.1]⟩
 | succ k ih=>exact⟨ih.1,ih.2.1,ih.2.2.1,ih.2.2.2.1,(Xg _ _ _).trans ih.2.2.2.2.1,(Xg _ _ _).trans ih.2.2.2.2.2⟩
theorem KE {w:Zb} (s:W9 w) {x:Zd} {m:Nat} (v:MvL w x m) (k:Nat):W9 (Yw w x k).1:=by
 have c:=ZgD s v x.qV.length;have h:=KV w x k;have h2:=Qt w x x.qV.length;exact⟨by rw [h.2.2.2.1];exact c.m1,by rw [h.2.2.2.1];exact c.m2,by rw [h.1];exact s.p1,by rw [h.1];exact s.p2,by rw [h.2.2.2.2.1,h.1];exact s.bx,by rw [h.2.2.2.2.2,h.2.2.2.1,h2.2.2.2.2.2];exact s.hd,by rw [h.2.2.2.1,h.1,← h2.1];exact c.rw_⟩
theorem ZCC {u:Zb} {ev:List Zx} {x:Zr} {b:List Int} (hb:ZT u.qK x.place=some b) (h1:b.length <=800000) (he:ev.length <=800000) (m:Int):
 Zhr ⟨u,ev⟩ m x=some ⟨{u with qK:=Yt u.qK x.place (b ++ [x.msg])},ev ++ [⟨1,x.place,m,x.msg,x.hops⟩]⟩:=by
 unfold Zhr;rw [hb];simp only [Bq0];rw [app1 (by omega) (by omega)];simp only [Bq0];rw [app1 (by omega) (by omega)]
 rfl
theorem Zhp {α:Type} {f:α ->Bool} {l:List α} {j:Nat} (h:j < l.length):(l.take (j + 1)).filter f= (l.take j).filter f ++ (if f l[j] then [l[j]] else []):=by
 rw [List.take_add_one,List.getElem?_eq_getElem h,List.filter_append];congr 1;show List.filter f [l[j]]=_;by_cases q:f l[j]=true
 ·rw [if_pos q,List.filter_cons,if_pos q];rfl
 ·rw [if_neg q,List.filter_cons,if_neg q];rfl
theorem Zdv {α:Type} (f:α ->Bool) (l:List α) (j:Nat):((l.take j).filter f).length <=l.length:=Nat.le_trans (List.length_filter_le _ _) (by rw [List.length_take];omega)
section
variable {F:Nat}
theorem ZyT (hF:1000 <=F) {u:Zb} (s:W9 u) {m p:Nat} (hm:m < u.qQ.length) (hp:p < u.Zv.length) (hl:(ZH u m).length <=900) (hb:(Xt u p).length <=100000) {x:Zd} (hx:x.Z9= (m:Int)) {ev:List Zx} (he:ev.length <=700000) (i:Int)
 (next:Int×(List Int)×(List (List Int))×(List (List Zw))×(List (List Zr))×(List Zd)×Int×(List Zx) ->Option Z4):
 loop F (ZjF x i next (p:Int) (ZH u m)) (0,u.Zv,u.qK,u.qQ,Yt u.qJ (m:Int) [],u.qG,u.said,ev)=
  next (Xd (i + 1),(ZaQ u m p).Zv,(ZaQ u m p).qK,(ZaQ u m p).qQ,(ZaQ u m p).qJ,(ZaQ u m p).qG,(ZaQ u m p).said,ev ++ ((ZH u m).filter (WM p)).map (ZDB m)):=by
 have hbl:p < u.qK.length:=by rw [s.bx];exact hp
 have hhl:m < u.qJ.length:=by rw [s.hd];exact hm
 refine Ye (fun j=>((j:Int),u.Zv,Yt u.qK (p:Int) (Xt u p ++ (((ZH u m).take j).filter (WM p)).map (fun y=>y.msg)),u.qQ,Yt u.qJ (m:Int) (((ZH u m).take j).filter fun y=>!WM p y),u.qG,u.said,ev ++ (((ZH u m).take j).filter (WM p)).map (ZDB m))) ?_ (n:= (ZH u m).length) (by omega) (fun j hj nx=>?_) (fun nx=>?_)
 ·simp only [List.take_zero,List.filter_nil,List.map_nil,List.append_nil];unfold Xt;rw [ZuW [] hbl];rfl
 ·have l1:=Zdv (WM p) (ZH u m) j;have l2:=Zdv (fun y=>!WM p y) (ZH u m) j;unfold ZjF ZjE;dsimp only;rw [ZI hj,Cq1,XO hj];simp only [Bq0];rw [Zhp hj,Zhp hj,Yv (by omega)];by_cases h:(ZH u m)[j].place= (p:Int)
  ·have e:WM p (ZH u m)[j]=true:=beq_iff_eq.2 h;rw [e,if_pos rfl,h,JJ,Cq0];simp only [Bool.not_true,Bool.false_eq_true,if_false,List.append_nil];rw [ZCC (b:=Xt u p ++ (((ZH u m).take j).filter (WM p)).map (fun y=>y.msg)) (by rw [h];exact ZaH hbl) (by rw [List.length_append,List.length_map];omega) (by rw [List.length_append,List.length_map];omega)];simp only [Bq0];rw [h,Zlr,List.map_append,List.map_append,List.append_assoc,List.append_assoc];unfold ZDB;simp only [List.map_cons,List.map_nil,h,hx]
  ·have e:WM p (ZH u m)[j]=false:=beq_eq_false_iff_ne.2 h;rw [e,J8,decide_eq_true h,Cq1,hx];simp only [Bool.not_false,if_true,Bool.false_eq_true,if_false,List.append_nil];rw [ZaH hhl];simp only [Bq0];rw [app1 (by omega) (by omega)];simp only [Bq0];rw [Zlr]
 ·unfold ZjF;dsimp only;rw [ZR,Cq0,List.take_of_length_le (Nat.le_refl _)]
  rfl
end
end Go.Proofs.YtbmbbcaaimehkaaGreat
end
section
namespace Go.Proofs.YtbmbbcaaimehkaaGreat
open Go.Lf
theorem Zcl {u:Zb} (s:W9 u) {m p:Nat} (hm:m < u.qQ.length) (m':Nat):ZH (ZaQ u m p) m'=if m'=m then(ZH u m).filter (fun y=>!WM p y) else ZH u m':=
 QZ (by rw [s.hd];exact hm)
theorem Zsx {u:Zb} (s:W9 u) {m p:Nat} (hp:p < u.Zv.length) (p':Nat):Xt (ZaQ u m p) p'=if p'=p then Xt u p ++ ((ZH u m).filter (WM p)).map (fun y=>y.msg) else Xt u p':=
 QZ (by rw [s.bx];exact hp)
structure ZPJ (w:Zb) (x:Zd) (k:Nat):Prop where
 hl:∀ m,m < w.qQ.length ->(ZH (Yw w x k).1 m).length <=900
 bx:∀ p,p < w.Zv.length ->(Xt (Yw w x k).1 p).length <=900 * (k + 1)
 ev:(Yw w x k).2.length <=901 * k
theorem ZLi {w:Zb} (s:W9 w) (sm:Kl 900 w) {x:Zd} {m:Nat} (v:MvL w x m):∀ k,k <=x.qV.length ->ZPJ w x k:=by
 intro k;have hin:=Qt w x x.qV.length
 induction k with
 | zero=>
   intro _;refine⟨fun m' hm'=>?_,fun p hp=>?_,Nat.zero_le _⟩
   ·have:ZH (Yw w x 0).1 m'=ZH w m':=by unfold ZH;rw [show(Yw w x 0).1=Qh w x x.qV.length from rfl,hin.2.2.1]
    rw [this];exact Nat.le_of_lt (ZpI s sm hm')
   ·have:Xt (Yw w x 0).1 p=Xt w p:=by unfold Xt;rw [show(Yw w x 0).1=Qh w x x.qV.length from rfl,hin.2.1]
    rw [this];have:=Zuq s sm hp;omega
 | succ k ih=>
   intro hk;have b:=ih (by omega);have hs:=KE s v k;have hi:=KV w x k;have hM:(Yw w x k).1.qQ.length=w.qQ.length:=by rw [hi.2.2.2.1,hin.2.2.2.2.2]
   have hp:= (v.KD (i:=k) (by omega)).2;have hm:x.Z9.toNat < (Yw w x k).1.qQ.length:=by rw [hM,v.Z9,Int.toNat_natCast];exact v.hm
   have hp':KD x k < (Yw w x k).1.Zv.length:=by rw [hi.1];exact hp
   have hl0:=b.hl x.Z9.toNat (by rw [← hM];exact hm);refine⟨fun m' hm'=>?_,fun p hp1=>?_,?_⟩
   ·show(ZH (ZaQ (Yw w x k).1 x.Z9.toNat (KD x k)) m').length <=900;rw [Zcl hs hm];by_cases e:m'=x.Z9.toNat
    ·rw [if_pos e];exact Nat.le_trans (List.length_filter_le _ _) hl0
    ·rw [if_neg e];exact b.hl m' hm'
   ·show(Xt (ZaQ (Yw w x k).1 x.Z9.toNat (KD x k)) p).length <=900 * (k + 1 + 1);rw [Zsx hs hp'];by_cases e:p=KD x k
    ·rw [if_pos e,List.length_append,List.length_map];have h1:=b.bx (KD x k) hp;have h2:=List.length_filter_le (WM (KD x k)) (ZH (Yw w x k).1 x.Z9.toNat);omega
    ·rw [if_neg e];have:=b.bx p hp1;omega
   ·show((Yw w x k).2 ++ ZpH (Yw w x k).1 x.Z9.toNat (KD x k)).length <=901 * (k + 1);have h1:=b.ev;have h2:=List.length_filter_le (WM (KD x k)) (ZH (Yw w x k).1 x.Z9.toNat);rw [List.length_append];unfold ZpH;rw [List.length_cons,List.length_map];omega
theorem ZvW {F:Nat} (hF:1000 <=F) {w:Zb} (s:W9 w) {x:Zd} {m:Nat} (v:MvL w x m) {r:Option Z4} {l:List Zd} {ev:List Zx}
 (hr:loop F (Zgf F x) (0,w.Zv,w.qK,(Qh w x x.qV.length).qQ,w.qJ,l,w.said,ev)=r):loop F (ZjG F ⟨w,ev⟩ x l) (0,w.qQ)=r:=by
 have h8:=v.few;refine Ye (fun k=>((k:Int),(Qh w x k).qQ)) rfl (n:=x.qV.length) (by omega) (fun k hk next=>?_) (fun next=>?_)
 ·obtain⟨e,hp⟩:=v.KD hk;have hs:=ZgD s v k;have hi:=Qt w x k;have hm:m < (Qh w x k).qQ.length:=by rw [hi.2.2.2.2.2];exact v.hm
  unfold ZjG;dsimp only;rw [ZI hk,Cq1,YB 0 hk];simp only [Bq0];rw [v.Z9,hs.row hm];simp only [Bq0];rw [YB 0 (by rw [v.len];exact hk)];simp only [Bq0];rw [e,hs.ent hm (by rw [hi.1];exact hp)];simp only [Bq0];rw [Yv (by omega)]
  have:Qh w x (k + 1)=setW (Qh w x k) m (KD x k) ⟨true,(m:Int),x.Yj.getD k 0⟩:=by
   show setW (Qh w x k) x.Z9.toNat (KD x k) ⟨true,x.Z9,x.Yj.getD k 0⟩=_;rw [v.Z9,Int.toNat_natCast]
  rw [this];rfl
 ·unfold ZjG;dsimp only;rw [ZR,Cq0];exact hr
theorem Zrr {F:Nat} (hF:1000 <=F) {w:Zb} (s:W9 w) (sm:Kl 900 w) {x:Zd} {m:Nat} (v:MvL w x m) {ev:List Zx} (he:ev.length <=600000):
 loop F (Zgf F x) (0,w.Zv,w.qK,(Qh w x x.qV.length).qQ,w.qJ,w.qG,w.said,ev)=some ⟨(ZdS w x).1,ev ++ (ZdS w x).2⟩:=by
 have h8:=v.few;have h0:=Qt w x x.qV.length;refine Ye (fun k=>((k:Int),(Yw w x k).1.Zv,(Yw w x k).1.qK,(Yw w x k).1.qQ,(Yw w x k).1.qJ,(Yw w x k).1.qG,(Yw w x k).1.said,ev ++ (Yw w x k).2)) ?_ (n:=x.qV.length) (by omega) (fun k hk next=>?_) (fun next=>?_)
 ·show((0:Int),(Qh w x x.qV.length).Zv,(Qh w x x.qV.length).qK,_,(Qh w x x.qV.length).qJ,(Qh w x x.qV.length).qG,(Qh w x x.qV.length).said,ev ++ [])=_;rw [h0.1,h0.2.1,h0.2.2.1,h0.2.2.2.1,h0.2.2.2.2.1,List.append_nil];rfl
 ·obtain⟨e,hp⟩:=v.KD hk;have hs:=KE s v k;have hi:=KV w x k;have b:=ZLi s sm v k (by omega);have hM:(Yw w x k).1.qQ.length=w.qQ.length:=by rw [hi.2.2.2.1,h0.2.2.2.2.2]
  have hm:m < (Yw w x k).1.qQ.length:=by rw [hM];exact v.hm
  have hb:=b.bx _ hp;have hl:=b.hl m v.hm;have hev:=b.ev;unfold Zgf;dsimp only;rw [ZI hk,Cq1,YB 0 hk];simp only [Bq0];rw [app1 (by rw [List.length_append];omega) (by omega)];simp only [Bq0];rw [v.Z9,Zc3 hs hm];simp only [Bq0];rw [e,ZyT hF hs hm (by rw [hi.1];exact hp) hl (by omega) v.Z9 (by rw [List.length_append,List.length_append,List.length_singleton];omega),Yv (by omega)]
  have:Yw w x (k + 1)= (ZaQ (Yw w x k).1 m (KD x k),(Yw w x k).2 ++ ZpH (Yw w x k).1 m (KD x k)):=by
   show(ZaQ (Yw w x k).1 x.Z9.toNat (KD x k),(Yw w x k).2 ++ ZpH (Yw w x k).1 x.Z9.toNat (KD x k))=_;rw [v.Z9,Int.toNat_natCast]
  rw [this];unfold ZpH;simp only [List.append_assoc,List.singleton_append]
 ·unfold Zgf;dsimp only;rw [ZR,Cq0];rfl
theorem ZdE (x:Zd) (p:Nat):∀ k,k <=x.qV.length ->(WB x p k).length= (x.qV.take k).count (p:Int):=by
 intro k
 induction k with
 | zero=>intro _;simp [WB]
 | succ k ih=>
   intro hk;have hk':k < x.qV.length:=by omega
   rw [ZfA,List.length_append,ih (by omega),List.take_add_one,List.getElem?_eq_getElem hk',List.count_append,List.getD_eq_getElem?_getD,List.getElem?_eq_getElem hk'];congr 1;show _=List.count (p:Int) [x.qV[k]];rw [List.count_singleton];by_cases e:x.qV[k]= (p:Int)
   ·simp [e]
   ·simp [e]
theorem Zs5 {l:List Zd} {x:Zd} (hx:x ∈ l) (p:Nat):(WU x p).length <= (X8 l p).length:=by
 unfold X8
 induction l with
 | nil=>cases hx
 | cons y l ih=>
   rw [List.flatMap_cons,List.length_append];rcases List.mem_cons.1 hx with q | q
   ·rw [q];omega
   ·have:=ih q;omega
theorem Wd.nodup {w:Zb} (h:Wd w) {x:Zd} (hx:x ∈ w.qG) (hk:x.kind=2):x.qV.Nodup:=by
 rw [List.nodup_iff_count];intro a;by_cases ha:a ∈ x.qV
 ·obtain⟨i,hi,rfl⟩:=List.getElem_of_mem ha;have e0:x.qV.getD i 0=x.qV[i]:=by rw [List.getD_eq_getElem?_getD,List.getElem?_eq_getElem hi];rfl
  have hp:= (h.shr.Xp x hx).KD i hi
  have hr:0 <=x.qV[i]∧x.qV[i] < (w.Zv.length:Int):=by
   rw [← e0]
   first
    | exact⟨hp.1,hp.2.1⟩
    | exact⟨hp.2.1,hp.2.2.1⟩
  obtain⟨p,e⟩:∃ p:Nat,x.qV[i]= (p:Int):= ⟨x.qV[i].toNat,by omega⟩
  have hl:=h.loc p (by omega);unfold YM at hl;rw [List.length_append] at hl;have h1:=Zs5 hx p;have h2:WU x p=WB x p x.qV.length:=by unfold WU;rw [if_pos hk]
  rw [h2,ZdE x p _ (Nat.le_refl _),List.take_of_length_le (Nat.le_refl _)] at h1;rw [e];omega
 ·rw [List.count_eq_zero_of_not_mem ha];omega
theorem Wd.mvl {w:Zb} (h:Wd w) {x:Zd} (hx:x ∈ w.qG) (hk:x.kind=2):MvL w x x.Z9.toNat:=by
 have hl:=h.shr.Xp x hx;have h8:=h.shr.KA.p2
 have Zyz:∀ i,i < x.qV.length ->Ka (x.qV.getD i 0) w.Zv.length:=fun i hi=>by
  have hp:=hl.KD i hi
  first
   | exact⟨hp.1,hp.2.1⟩
   | exact⟨hp.2.1,hp.2.2.1⟩
 have hsub:x.qV ⊆ Xe w.Zv.length:=fun a ha=>by
  have:= (WK (d:= (0:Int)) (P:=fun a=>Ka a w.Zv.length)).1 Zyz a ha;unfold Ka at this;unfold Xe;exact List.mem_map.2 ⟨a.toNat,List.mem_range.2 (by omega),by show((a.toNat:Nat):Int)=a;omega⟩
 have hlen:= (h.nodup hx hk).length_le_of_subset hsub;rw [XL] at hlen;exact⟨by have:=hl.to1;omega,by have:=hl.to1;have:=hl.to2;omega,hl.Xc.len,by omega,Zyz⟩
def Yb (w:Zb) (k:Nat):Zb:= {w with qG:=w.qG.take k ++ w.qG.drop (k + 1)}
def Us (w:Zb) (x:Zd):Zb:=if(E w x.Z9.toNat x.place.toNat).here=false∧(E w x.Z9.toNat x.place.toNat).age < x.age then setW w x.Z9.toNat x.place.toNat ⟨false,x.at_,x.age⟩ else w
def Qz (w:Zb) (k:Nat):Zb×List Zx:=
 if(ZF w k).kind=1 then Qa (Yb w k) (ZF w k).Z9.toNat (ZF w k).Ya false
 else if(ZF w k).kind=2 then ZdS (Yb w k) (ZF w k) else(Us (Yb w k) (ZF w k),[])
theorem W9.Yb {w:Zb} (s:W9 w) (k:Nat):W9 (Yb w k):= ⟨s.m1,s.m2,s.p1,s.p2,s.bx,s.hd,s.rw_⟩
theorem ZgA (w:Zb) {k:Nat} (hk:k < w.qG.length):(Yb w k).qG.length + 1=w.qG.length:=by
 show(w.qG.take k ++ w.qG.drop (k + 1)).length + 1=_;rw [List.length_append,List.length_take,List.length_drop];omega
theorem Zda {w:Zb} {k:Nat} {x:Zd} (h:x ∈ (Yb w k).qG):x ∈ w.qG:=by
 rcases List.mem_append.1 h with q | q
 ·exact List.mem_of_mem_take q
 ·exact List.mem_of_mem_drop q
theorem Kl.Yb {n:Nat} {w:Zb} (sm:Kl n w) {k:Nat} (hk:k < w.qG.length):Kl n (Yb w k):=
 ⟨sm.Zv,sm.qK,sm.qQ,sm.qJ,by have:=ZgA w hk;have:=sm.qG;omega,sm.box,sm.row,sm.hel,fun x hx=>sm.Xp x (Zda hx)⟩
theorem Zq5 {α:Type} {l:List α} {a b:Nat} (h1:a <=b) (h2:b <=l.length):slL l (a:Int) (b:Int)=some ((l.take b).drop a):=by
 unfold slL;rw [decide_eq_true (show(0:Int) <= (a:Int) by omega),decide_eq_true (show(a:Int) <= (b:Int) by omega),decide_eq_true (show(b:Int) <= (l.length:Int) by omega)];rfl
section
variable {F:Nat} {w:Zb}
theorem ZAR (hF:1000 <=F) (sm:Kl 900 w) {k:Nat} (hk:k < w.qG.length):ZAn w.qG (k:Int) (Xd ((k:Int) + 1))=some (Yb w k).qG:=by
 have hw:=sm.qG;unfold ZAn;rw [Yv (by omega),Zq5 (by omega) (by omega)];simp only [Bq0];rw [Yg,decide_eq_false (by omega),Cq0,show slL w.qG 0 (k:Int)=some (w.qG.take k) from Zq5 (a:=0) (by omega) (by omega)];simp only [Bq0];rw [Zq5 (by omega) (by omega)];simp only [Bq0];rw [List.take_of_length_le (Nat.le_refl w.qG.length),Zn1 (by rw [List.length_take,List.length_drop];omega) (by omega)];rfl
theorem ZlA {k:Nat} (hk:k < w.qG.length):ZT w.qG (k:Int)=some (ZF w k):=YB default hk
theorem ZCS (h:Wd w) {x:Zd} (hx:x ∈ w.qG):x.kind=1∨x.kind=2∨x.kind=3:=by
 rcases(h.shr.Xp x hx).Xc with⟨q,_⟩ | ⟨q,_⟩ | ⟨q,_⟩
 ·exact .inl q
 ·exact .inr (.inl q)
 ·exact .inr (.inr q)
theorem Zpi (h:Wd w) {m:Int} {y:Zr} (hy:QY w m y):y.place.toNat < w.Zv.length∧0 <=y.place∧0 <=y.age∧y.age <=30∧1 <=y.hops∧y.hops <=y.age + 1:=by
 obtain⟨a1,a2,a3,a4,a5,a6,a7⟩:=hy;have hp:y.place.toNat < w.Zv.length:=by omega
 have h1:=a5.1;have h2:=a5.2.1;have h3:=ZdH h.shr hp (h.loc _ hp);rw [Int.add_comm,Za3 (by omega) (by omega)] at a7;exact⟨hp,a1,by omega,by omega,a6,a7⟩
theorem ZlB (hF:1000 <=F) (h:Wd w) (sm:Kl 900 w) {k:Nat} (hk:k < w.qG.length) {ev:List Zx} (he:ev.length <=600000):Zsd F ⟨w,ev⟩ (k:Int)=some ⟨(Qz w k).1,ev ++ (Qz w k).2⟩:=by
 have hx:ZF w k ∈ w.qG:=Yn hk;have hl:=h.shr.Xp _ hx;have hto:(ZF w k).Z9= ((ZF w k).Z9.toNat:Int):=by have:=hl.to1;omega
 have htl:(ZF w k).Z9.toNat < w.qQ.length:=by have:=hl.to1;have:=hl.to2;omega
 have su:=h.shr.KA.Yb k;have smu:=sm.Yb hk;unfold Zsd Qz;dsimp only;rw [ZlA hk];simp only [Bq0];rw [ZAR hF sm hk];simp only [Bq0];rcases ZCS h hx with q | q | q
 ·have hb:=Zpi h (h.mai _ hx q);rw [if_pos q,Yg,decide_eq_true q,Cq1];have e:=Zis su smu (m:= (ZF w k).Z9.toNat) htl (x:= (ZF w k).Ya) hb.1 hb.2.1 (by omega) (by omega) false (ev:=ev) (by omega);rw [← hto] at e
  change ((ZpZ ⟨Yb w k,ev⟩ (ZF w k).Z9 (ZF w k).Ya false).bind fun Kz=>some Kz)=_
  rw [e];rfl
 ·have v:MvL (Yb w k) (ZF w k) (ZF w k).Z9.toNat:=by
   have:=h.mvl hx q;exact⟨this.Z9,this.hm,this.len,this.few,this.rng⟩
  rw [if_neg (by omega),if_pos q,Yg,decide_eq_false (by omega),Cq0,Yg,decide_eq_true q,Cq1];have e:=ZvW hF (w:=Yb w k) su v (l:= (Yb w k).qG) (ev:=ev) (Zrr hF su smu v he);exact e
 ·have hn:=hl.ntd q;obtain⟨p,hp⟩:∃ p:Nat,(ZF w k).place= (p:Int):= ⟨(ZF w k).place.toNat,by omega⟩
  have hpl:p < w.Zv.length:=by omega
  rw [if_neg (by omega),if_neg (by omega),Yg,decide_eq_false (by omega),Cq0,Yg,decide_eq_false (by omega),Cq0,Yg,decide_eq_true q,Cq1];unfold Us ZjD;rw [hto,Int.toNat_natCast,h.shr.KA.row htl];simp only [Bq0];rw [hp,Int.toNat_natCast,h.shr.KA.ent htl hpl];simp only [Bq0];have eE:E (Yb w k) (ZF w k).Z9.toNat p=E w (ZF w k).Z9.toNat p:=rfl;rw [eE,List.append_nil];by_cases c:(E w (ZF w k).Z9.toNat p).here=false∧(E w (ZF w k).Z9.toNat p).age < (ZF w k).age
  ·rw [if_pos c,c.1,decide_eq_true c.2];rfl
  ·rw [if_neg c]
   have:((!(E w (ZF w k).Z9.toNat p).here) && decide ((E w (ZF w k).Z9.toNat p).age < (ZF w k).age))=false:=by
    rw [← Bool.not_eq_true];intro z;simp only [Ba0,Bool.not_eq_true',decide_eq_true_eq] at z;exact c z
   rw [this];rfl
end
end Go.Proofs.YtbmbbcaaimehkaaGreat
end
section
namespace Go.Proofs.YtbmbbcaaimehkaaGreat
open Go.Lf
def ZfP (w:Zb) (p:Nat):Zb:= {w with Zv:=Yt w.Zv (p:Int) (-1)}
theorem ZeS {w:Zb} {p:Nat} (hp:p < w.Zv.length) (q:Nat):inn (ZfP w p) (q:Int)=if q=p then -1 else inn w (q:Int):=by
 unfold inn ZfP;rw [Int.toNat_natCast];exact QZ hp
theorem KQ (w:Zb) (p:Nat):(ZfP w p).Zv.length=w.Zv.length:=Xg _ _ _
theorem ZhM {w:Zb} (hi:Inn w) {p:Nat} (hp:p < w.Zv.length) {x:Nat} (hx:x < w.Zv.length):∀ j,(∀ i,i < j ->up w i (x:Int) ≠ (p:Int)) ->up (ZfP w p) j (x:Int)=up w j (x:Int):=by
 intro j
 induction j with
 | zero=>intro _;rfl
 | succ j ih=>
   intro h;have e:=ih fun i hi=>h i (by omega)
   rw [QC,QC,e];by_cases hn:up w j (x:Int) < 0
   ·rw [if_pos hn,if_pos hn]
   ·rw [if_neg hn,if_neg hn];obtain⟨q,eq,hq⟩:=J5 (hi.up (q:= (x:Int)) ⟨by omega,by omega⟩ j) hn;rw [eq,ZeS hp,if_neg (fun z=>h j (by omega) (by rw [eq,z]))]
theorem Zfs {w:Zb} (hi:Inn w) {p:Nat} (hp:p < w.Zv.length):Inn (ZfP w p):=by
 refine⟨fun x hx=>?_,fun x hx=>?_⟩
 ·rw [KQ] at hx;rw [ZeS hp];unfold okN;rw [KQ];by_cases e:x=p
  ·rw [if_pos e];omega
  ·rw [if_neg e];exact hi.rng x hx
 ·rw [KQ] at hx ⊢;by_cases hz:∃ i,i < w.Zv.length∧up w i (x:Int)= (p:Int)
  ·obtain⟨i,hil,e⟩:=hz;obtain⟨m,hm,hc,hlt⟩:=Qb (c:=fun i=>up w i (x:Int)= (p:Int)) e;have e1:=ZhM hi hp hx m hlt
   have e2:up (ZfP w p) (m + 1) (x:Int)=-1:=by
    rw [QC,e1,hc,if_neg (by omega),ZeS hp,if_pos rfl]
   exact UC (by rw [e2];omega) (show m + 1 <=w.Zv.length by omega)
  ·rw [ZhM hi hp hx _ fun i h q=>hz ⟨i,h,q⟩];exact hi.acy x hx
theorem ZwE {w:Zb} (hi:Inn w) {p:Nat} (hp:p < w.Zv.length) {x:Nat} (hx:x < w.Zv.length):Wth (ZfP w p) p x↔Wth w p x:=by
 constructor
 ·rintro⟨j,e⟩;by_cases hz:∃ i,i < j∧up w i (x:Int)= (p:Int)
  ·obtain⟨i,_,q⟩:=hz;exact⟨i,q⟩
  ·exact⟨j,by rw [← ZhM hi hp hx j fun i h q=>hz ⟨i,h,q⟩];exact e⟩
 ·rintro⟨j,e⟩;obtain⟨m,hm,hc,hlt⟩:=Qb (c:=fun i=>up w i (x:Int)= (p:Int)) e;exact⟨m,by rw [ZhM hi hp hx m hlt];exact hc⟩
theorem ZqV {w:Zb} (hi:Inn w) {p:Nat} (hp:p < w.Zv.length):Yu (ZfP w p) p=Yu w p:=by
 unfold Yu ZgV;rw [KQ];congr 1;apply List.filter_congr;intro x hx;have hx':=List.mem_range.1 hx;rw [Bool.eq_iff_iff,Zem (Zfs hi hp) (by rw [KQ];exact hx'),Zem hi hx',ZwE hi hp hx']
def goA (w:Zb) (m:Nat) (q:Int):Int:= (E w m q.toNat).age + 1
def goW (w:Zb) (m:Nat) (to:Int) (L:List Int):Nat ->Zb
 | 0=>w
 | k + 1=>setW (goW w m to L k) m (L.getD k 0).toNat ⟨false,to,goA w m (L.getD k 0)⟩
def Zx9 (m:Nat) (to:Int) (q:Int):Zx:= ⟨2,q,(m:Int),to,0⟩
def mOf (w:Zb) (p:Nat):Nat:= (sp w p).machine.toNat
def Kc (w:Zb) (p:Nat) (to:Int):Zb×List Zx:=
 ({w with Zv:=Yt w.Zv (p:Int) (-1),qQ:= (goW w (mOf w p) to (Yu w p) (Yu w p).length).qQ,qG:=w.qG ++ [Zx0 to (Yu w p) ((Yu w p).map (goA w (mOf w p)))]},(Yu w p).map (Zx9 (mOf w p) to))
theorem Zf3 (w:Zb) (m:Nat) (to:Int) (L:List Int):∀ k,(goW w m to L k).Zv=w.Zv∧(goW w m to L k).qK=w.qK∧(goW w m to L k).qJ=w.qJ∧(goW w m to L k).qG=w.qG∧(goW w m to L k).said=w.said∧(goW w m to L k).qQ.length=w.qQ.length:=by
 intro k
 induction k with
 | zero=>exact⟨rfl,rfl,rfl,rfl,rfl,rfl⟩
 | succ k ih=>exact⟨ih.1,ih.2.1,ih.2.2.1,ih.2.2.2.1,ih.2.2.2.2.1,(Zb0 _ _ _ _).trans ih.2.2.2.2.2⟩
structure GoB (w:Zb) (m:Nat) (L:List Int):Prop where
 s:W9 w
 hm:m < w.qQ.length
 rng:∀ q ∈ L,Ka q w.Zv.length
 nd:L.Nodup
 age:∀ q ∈ L,0 <= (E w m q.toNat).age∧(E w m q.toNat).age <=30
section
variable {w:Zb} {m:Nat} {L:List Int} {to:Int}
theorem ZmR (g:GoB w m L):∀ k,W9 (goW w m to L k):=by
 intro k
 induction k with
 | zero=>exact g.s
 | succ k ih=>exact ih.setW (by rw [(Zf3 w m to L k).2.2.2.2.2];exact g.hm) _
theorem ZoC {α:Type} [DecidableEq α] {l:List α} (nd:l.Nodup) {k:Nat} (h:k < l.length):l[k] ∉ l.take k:= (ZdO.1 nd) k h
theorem Qx {α:Type} {l:List α} {k:Nat} (h:k < l.length) {x:α}:x ∈ l.take (k + 1)↔x ∈ l.take k∨x=l[k]:=by
 rw [List.take_succ_eq_append_getElem h,List.mem_append,List.mem_singleton]
theorem YH {α:Type} {l:List α} {k:Nat} {d:α} (h:k < l.length):l.getD k d=l[k]:=by
 rw [List.getD_eq_getElem?_getD,List.getElem?_eq_getElem h];rfl
theorem ZFY (g:GoB w m L):∀ k,k <=L.length ->∀ m' q':Nat,E (goW w m to L k) m' q'=if m'=m∧(q':Int) ∈ L.take k then⟨false,to,goA w m (q':Int)⟩ else E w m' q':=by
 intro k
 induction k with
 | zero=>intro _ m' q';rw [if_neg (by simp)];rfl
 | succ k ih=>
   intro hk m' q';have hq:=g.rng _ (List.getElem_mem (l:=L) (n:=k) (by omega));obtain⟨q,eq,hql⟩:=hq.nat;show E (setW (goW w m to L k) m (L.getD k 0).toNat _) m' q'=_;rw [YH (by omega),eq,Int.toNat_natCast,Zoc (ZmR g k) (by rw [(Zf3 w m to L k).2.2.2.2.2];exact g.hm) (by rw [(Zf3 w m to L k).1];exact hql),ih (by omega)];by_cases e:m'=m∧q'=q
   ·rw [if_pos e,if_pos ⟨e.1,(Qx (by omega)).2 (.inr (by rw [eq,e.2]))⟩,e.2]
   ·rw [if_neg e];by_cases c:m'=m∧(q':Int) ∈ L.take k
    ·rw [if_pos c,if_pos ⟨c.1,(Qx (by omega)).2 (.inl c.2)⟩]
    ·rw [if_neg c,if_neg];rintro⟨c1,c2⟩;rcases(Qx (by omega)).1 c2 with z | z
     ·exact c ⟨c1,z⟩
     ·rw [eq] at z;exact e ⟨c1,by omega⟩
theorem ZIS (g:GoB w m L) {k:Nat} (hk:k < L.length):E (goW w m to L k) m (L.getD k 0).toNat=E w m (L.getD k 0).toNat:=by
 obtain⟨q,eq,hql⟩:= (g.rng _ (List.getElem_mem (l:=L) (n:=k) hk)).nat;rw [ZFY g k (by omega),if_neg];rintro⟨_,z⟩;rw [YH hk,eq,Int.toNat_natCast,← eq] at z;exact ZoC g.nd hk z
theorem Zdt {α β:Type} {l:List α} {f:α ->β} {k:Nat} (h:k < l.length) (d:α):(l.take (k + 1)).map f= (l.take k).map f ++ [f (l.getD k d)]:=by
 rw [List.take_succ_eq_append_getElem h,List.map_append,YH h];rfl
theorem Zz1 (k:Nat):(goW w m to L (k + 1)).qQ=Yt (goW w m to L k).qQ (m:Int) (Yt (row (goW w m to L k) m) ((L.getD k 0).toNat:Int) ⟨false,to,goA w m (L.getD k 0)⟩):=rfl
theorem ZDC {F:Nat} (hF:1000 <=F) (g:GoB w m L) (hL:L.length <=8) (hw:w.qG.length < 900) {ev:List Zx} (he:ev.length <=700000) {w0:Zb} (hw0:w0.qG=w.qG) {p1:Int} {x1:Yo×Int} (hx:x1.1.machine= (m:Int)):
 loop F (Zjt ⟨w0,ev⟩ p1 to x1 L) (0,ev,[],w.qQ)=some ⟨⟨Yt w0.Zv p1 (-1),w0.qK,(goW w m to L L.length).qQ,w0.qJ,w.qG ++ [Zx0 to L (L.map (goA w m))],w0.said⟩,ev ++ L.map (Zx9 m to)⟩:=by
 refine Ye (fun k=>((k:Int),ev ++ (L.take k).map (Zx9 m to),(L.take k).map (goA w m),(goW w m to L k).qQ)) (by simp [goW]) (n:=L.length) (by omega) (fun k hk next=>?_) (fun next=>?_)
 ·obtain⟨q,eq,hql⟩:= (g.rng _ (List.getElem_mem (l:=L) (n:=k) hk)).nat;have ha:=g.age _ (List.getElem_mem (l:=L) (n:=k) hk);have hi:=Zf3 w m to L k;have hs:=ZmR (to:=to) g k;have hm:m < (goW w m to L k).qQ.length:=by rw [hi.2.2.2.2.2];exact g.hm
  have eA:Xd ((E w m q).age + 1)=goA w m (q:Int):=by
   rw [eq,Int.toNat_natCast] at ha;unfold goA;rw [Int.toNat_natCast,Za2 (by omega) (by omega)]
  have eE:=ZIS (to:=to) g hk;rw [YH hk,eq,Int.toNat_natCast] at eE;unfold Zjt;dsimp only;rw [ZI hk,Cq1,YB 0 hk,YH hk,eq,hx];simp only [Bq0];rw [hs.row hm];simp only [Bq0];rw [hs.ent hm (by rw [hi.1];exact hql),eE];simp only [Bq0];rw [app1 (by rw [List.length_map,List.length_take];omega) (by omega)];simp only [Bq0];rw [app1 (by rw [List.length_append,List.length_map,List.length_take];omega) (by omega)];simp only [Bq0];rw [Yv (by omega),eA,Zdt hk 0,Zdt hk 0,YH hk,eq,Zz1,YH hk,eq,Int.toNat_natCast,List.append_assoc]
  rfl
 ·unfold Zjt;dsimp only;rw [ZR,Cq0,hw0,app1 (by omega) (by omega),List.take_of_length_le (Nat.le_refl _)]
  rfl
end
end Go.Proofs.YtbmbbcaaimehkaaGreat
end
section
namespace Go.Proofs.YtbmbbcaaimehkaaGreat
open Go.Lf
def Zaa (w:Zb) (p:Int) (q:Int):Zb:= {w with Zv:=Yt w.Zv p q}
def ZuZ (w:Zb) (s:ZC):Zr:= ⟨w.said,s.b,s.a,0,0⟩
def Zg0 (w:Zb):Zb:= {w with said:=w.said + 1}
def doW (w:Zb) (s:ZC):Zb×List Zx:=
 if s.act=1 then Qa (Zg0 w) s.a.toNat (ZuZ w s) true
 else if s.act=2 then Kc w s.a.toNat s.b
 else if s.act=3 then(Zaa w s.a s.b,[])
 else if s.act=4 then(Zaa w s.a (-1),[])
 else Qz w s.a.toNat
section
variable {F:Nat} {w:Zb}
theorem Ku (h:Wd w) {p:Nat} (hp:p < w.Zv.length) (hh:(sp w p).here=true):(sp w p).machine= (mOf w p:Int)∧mOf w p < w.qQ.length∧(E w (mOf w p) p).here=true∧(E w (mOf w p) p).age= (sp w p).age:=by
 rcases ZaF (h.loc p hp) with⟨m,hm,he,e⟩ | ⟨x,hx,hk,i,hi,hpi,e⟩
 ·unfold mOf;rw [e];exact⟨by simp,by simpa using hm,by simpa using he,by simp⟩
 ·rw [e] at hh;cases hh
theorem ZbW (w:Zb) (p:Nat):∀ q ∈ Yu w p,Ka q w.Zv.length:=by
 intro q hq;unfold Yu ZgV at hq;obtain⟨k,hk,rfl⟩:=List.mem_map.1 hq;have:=List.mem_range.1 (List.mem_filter.1 hk).1;exact⟨Int.natCast_nonneg k,by show(k:Int) < _;omega⟩
theorem Zz2 (h:Wd w) {p:Nat} (hp:p < w.Zv.length) (hh:(sp w p).here=true):GoB w (mOf w p) (Yu w p):=by
 have a:=Ku h hp hh;refine⟨h.shr.KA,a.2.1,ZbW w p,WA w p,fun q hq=>?_⟩;obtain⟨k,rfl,hk⟩:= (ZbW w p q hq).nat;have:=h.shr.ent _ a.2.1 k hk;rw [Int.toNat_natCast];exact⟨this.1,this.2.1⟩
theorem ZuP (hF:1000 <=F) (hM:F <=1000000) (h:Wd w) (sm:Kl 900 w) {p:Nat} (hp:p < w.Zv.length) (hh:(sp w p).here=true) (to:Int) {ev:List Zx} (he:ev.length <=700000):
 ZAo F ⟨w,ev⟩ (p:Int) to=some ⟨(Kc w p to).1,ev ++ (Kc w p to).2⟩:=by
 have a:=Ku h hp hh;have g:=Zz2 h hp hh;have h8:=h.shr.KA.p2;have hi:=Zfs h.shr.inn hp;have hp':p < (ZfP w p).Zv.length:=by rw [KQ];exact hp
 have hd:=Zj7 hi hp';have hl:=KQ w p
 have e1:loop F (Zjs F ⟨w,ev⟩ (p:Int)) ((p:Int),[])=some (true,desc (ZfP w p) (ZfP w p).Zv.length p):=by
  exact gather hF (w:=ZfP w p) (by rw [hl];exact h8) (B:=fun v next=>Zsb ⟨w,ev⟩ (p:Int) v next) (R:=Zjs F ⟨w,ev⟩ (p:Int)) (fun v l next=>rfl) (fun v next k l nx=>rfl) (ZfP w p).Zv.length p [] F (by omega) hp' (Zfq.all hi) (by simp;omega)
 unfold ZAo;dsimp only;rw [Zax hF hM h sm hp];simp only [Bq0];rw [XU hp];simp only [Bq0];rw [e1];simp only [Bq0];unfold Zm2;rw [ZoF (by omega),ZvU hi hp',ZqV h.shr.inn hp];simp only [Bq0];have hw:=sm.qG;have hlen:(Yu w p).length <=8:=Nat.le_trans (Zfz _ _ _) h8;exact ZDC hF g hlen (by omega) he rfl (x1:= (sp w p,1)) a.1
theorem ZiT {s:ZC} (h1:s.act=1) (hl:lim w s=false):w.said < 40:=by
 unfold lim at hl;rw [if_pos h1] at hl;have:=of_decide_eq_false hl;omega
theorem ZOG {s:ZC}:ZnG w s=0↔lim w s=false∧Alw w s:=by
 unfold ZnG;cases lim w s with
 | true=>simp
 | false=>by_cases a:Alw w s <;> simp [a]
theorem Zu1 (s:W9 w):W9 (Zg0 w):= ⟨s.m1,s.m2,s.p1,s.p2,s.bx,s.hd,s.rw_⟩
theorem Zw9 {n:Nat} (sm:Kl n w):Kl n (Zg0 w):= ⟨sm.Zv,sm.qK,sm.qQ,sm.qJ,sm.qG,sm.box,sm.row,sm.hel,sm.Xp⟩
theorem ZvT (hF:1000 <=F) (hM:F <=1000000) (h:Wd w) (sm:Kl 900 w) {s:ZC} (ha:Ask w s) (hl:lim w s=false) (hA:Alw w s) {ev:List Zx} (he:ev.length <=600000):
 ZvK F ⟨w,ev⟩ s=some ⟨(doW w s).1,ev ++ (doW w s).2⟩:=by
 have e:∀ k:Int,(s.act==k)=decide (s.act=k):=fun k=>Yg _ _
 have hs1:=h.shr.sd1;unfold ZvK doW;rcases ha with⟨c,a,b⟩ | ⟨c,a,b⟩ | ⟨c,a,b⟩ | ⟨c,a⟩ | ⟨c,a⟩
 ·have hs:=ZiT c hl;obtain⟨m,em,hm⟩:=a.nat;rw [e,decide_eq_true c,Cq1,if_pos c,em,Int.toNat_natCast];dsimp only;rw [Za2 (by omega) (by omega)];have:=Zis (Zu1 h.shr.KA) (Zw9 sm) (m:=m) hm (x:=ZuZ w s) (by have:=b.1;have:=b.2;show s.b.toNat < w.Zv.length;omega) b.1 (by show(0:Int) <=0;omega) (by show(0:Int) <=1000;omega) true (ev:=ev) (by omega);unfold ZuZ at this ⊢;rw [em] at this ⊢
  change (ZpZ ⟨Zg0 w,ev⟩ (m:Int) _ true).bind _=_
  rw [this];rfl
 ·obtain⟨p,ep,hp⟩:=a.nat;rw [e,decide_eq_false (by omega),Cq0,e,decide_eq_true c,Cq1,if_neg (by omega),if_pos c,ep,Int.toNat_natCast];have hh:= (hA.1 c).1;rw [ep,Int.toNat_natCast] at hh;rw [ZuP hF hM h sm hp hh s.b (by omega)];rfl
 ·obtain⟨p,ep,hp⟩:=a.nat;rw [e,decide_eq_false (by omega),Cq0,e,decide_eq_false (by omega),Cq0,e,decide_eq_true c,Cq1,if_neg (by omega),if_neg (by omega),if_pos c,ep];dsimp only;rw [XU hp];simp only [Bq0,List.append_nil]
  rfl
 ·obtain⟨p,ep,hp⟩:=a.nat;rw [e,decide_eq_false (by omega),Cq0,e,decide_eq_false (by omega),Cq0,e,decide_eq_false (by omega),Cq0,e,decide_eq_true c,Cq1,if_neg (by omega),if_neg (by omega),if_neg (by omega),if_pos c,ep];dsimp only;rw [XU hp];simp only [Bq0,List.append_nil]
  rfl
 ·obtain⟨k,ek,hk⟩:=a.nat;rw [e,decide_eq_false (by omega),Cq0,e,decide_eq_false (by omega),Cq0,e,decide_eq_false (by omega),Cq0,e,decide_eq_false (by omega),Cq0,e,decide_eq_true c,Cq1,if_neg (by omega),if_neg (by omega),if_neg (by omega),if_neg (by omega),ek,Int.toNat_natCast];rw [ZlB hF h sm hk he];rfl
end
end Go.Proofs.YtbmbbcaaimehkaaGreat
end
section
namespace Go.Proofs.YtbmbbcaaimehkaaGreat
open Go.Lf
theorem Zah {w w':Zb} {p:Nat}:∀ {k:Nat},(∀ m,m < k ->E w' m p=E w m p) ->Xj w' p k=Xj w p k:=by
 intro k
 induction k with
 | zero=>intro _;rfl
 | succ k ih=>intro h;rw [JC,JC,ih fun m hm=>h m (by omega),h k (by omega)]
theorem ZlE {w:Zb} {p:Nat}:∀ {k:Nat},(∀ m,m < k ->(E w m p).here=false) ->Xj w p k= []:=by
 intro k
 induction k with
 | zero=>intro _;rfl
 | succ k ih=>intro h;rw [JC,ih fun m hm=>h m (by omega),h k (by omega)];simp
theorem Zvs {w:Zb} {p m:Nat} (hh:(E w m p).here=true):∀ {k:Nat},m < k ->(∀ m',m' < k ->m' ≠ m ->(E w m' p).here=false) ->Xj w p k= [⟨(m:Int),true,(E w m p).age⟩]:=by
 intro k
 induction k with
 | zero=>intro h;omega
 | succ k ih=>
   intro hm ho;rw [JC];by_cases e:m=k
   ·subst e;rw [ZlE fun m' hm'=>ho m' (by omega) (by omega),if_pos hh];rfl
   ·rw [ih (by omega) fun m' hm'=>ho m' (by omega),ho k (by omega) (fun z=>e z.symm)];simp
theorem ZpG {w:Zb} {p k:Nat} (h:Xj w p k= []):∀ m,m < k ->(E w m p).here=false:=by
 intro m hm;cases e:(E w m p).here with
 | false=>rfl
 | true=>
   have:Yo.mk (m:Int) true (E w m p).age ∈ Xj w p k:=Zc1.2 ⟨m,hm,e,rfl⟩;rw [h] at this;cases this
theorem Zaz (a b:List Zd) (p:Nat):X8 (a ++ b) p=X8 a p ++ X8 b p:=by unfold X8;exact List.flatMap_append
theorem Zot (x:Zd) (p:Nat):X8 [x] p=WU x p:=by unfold X8;simp
theorem ZlY {x:Zd} (h:x.kind ≠ 2) (p:Nat):WU x p= []:=by unfold WU;rw [if_neg h]
theorem Zs4 {l:List Zd} (h:∀ x ∈ l,x.kind ≠ 2) (p:Nat):X8 l p= []:=by
 unfold X8;exact List.flatMap_eq_nil_iff.2 fun x hx=>ZlY (h x hx) p
theorem KI {w:Zb} {k:Nat} (hk:k < w.qG.length):w.qG=w.qG.take k ++ ZF w k::w.qG.drop (k + 1):=by
 have e:ZF w k=w.qG[k]:=YH hk;rw [e,List.getElem_cons_drop,List.take_append_drop]
theorem KM {w:Zb} {k:Nat} (hk:k < w.qG.length) (p:Nat):X8 w.qG p=X8 (w.qG.take k) p ++ WU (ZF w k) p ++ X8 (w.qG.drop (k + 1)) p:=by
 have:=congrArg (fun l=>X8 l p) (KI hk);rw [this,Zaz,show ZF w k::w.qG.drop (k + 1)= [ZF w k] ++ w.qG.drop (k + 1) from rfl,Zaz,Zot,List.append_assoc]
theorem ZfB {w:Zb} {k:Nat} (p:Nat):X8 (Yb w k).qG p=X8 (w.qG.take k) p ++ X8 (w.qG.drop (k + 1)) p:=Zaz _ _ _
theorem Zs9 {w:Zb} {p:Nat} {s:Yo} (h:YM w p= [s]):sp w p=s:=by unfold sp Kg;rw [h];rfl
theorem Zce {w w':Zb} {p:Nat} (e1:Xj w' p w'.qQ.length=Xj w p w.qQ.length) (e2:X8 w'.qG p=X8 w.qG p):YM w' p=YM w p:=by unfold YM;rw [e1,e2]
theorem JX {w w':Zb} {p:Nat} (h:YM w' p=YM w p):sp w' p=sp w p:=by unfold sp;rw [h]
structure Wm (w:Zb):Prop where
 shr:ShR w
 loc:∀ p,p < w.Zv.length ->(YM w p).length=1
 tog:∀ p,p < w.Zv.length ->0 <=inn w p ->(sp w (inn w p).toNat).machine= (sp w p).machine∧(sp w (inn w p).toNat).here= (sp w p).here∧((sp w p).here=false ->Zku w p (inn w p))
 ent:∀ m,m < w.qQ.length ->∀ p,p < w.Zv.length ->(E w m p).here=false ->RtX w p (E w m p).Z9 (E w m p).age
 hel:∀ m,m < w.qQ.length ->∀ x ∈ ZH w m,QY w m x∧sp w x.place.toNat= ⟨(m:Int),false,x.age⟩
 mai:∀ x ∈ w.qG,x.kind=1 ->QY w x.Z9 x.Ya
 ntd:∀ x ∈ w.qG,x.kind=3 ->RtX w x.place.toNat x.at_ x.age
theorem Wd.wm {w:Zb} (h:Wd w):Wm w:= ⟨h.shr,h.loc,h.tog,h.ent,h.hel,h.mai,h.ntd⟩
theorem Wm.wd {w:Zb} (h:Wm w) (hm:(msgs w).Perm (Xe w.said.toNat)):Wd w:= ⟨h.shr,h.loc,h.tog,h.ent,h.hel,h.mai,h.ntd,hm⟩
structure Mv (w w':Zb):Prop where
 inl:w'.Zv.length=w.Zv.length
 enl:w'.qQ.length=w.qQ.length
 rt:∀ p,p < w.Zv.length ->∀ m a,RtX w p m a ->RtX w' p m a
theorem Mv.of {w w':Zb} (inl:w'.Zv.length=w.Zv.length) (enl:w'.qQ.length=w.qQ.length) (hE:∀ m p,p < w.Zv.length ->(E w m p).age <= (E w' m p).age)
 (hs:∀ p,p < w.Zv.length ->((sp w' p).machine= (sp w p).machine∧(sp w' p).age= (sp w p).age)∨∃ m:Nat,(sp w p).machine= (m:Int)∧(sp w p).age < (sp w' p).age∧(sp w p).age < (E w' m p).age):Mv w w':=by
 refine⟨inl,enl,fun p hp m a h=>?_⟩;obtain⟨h1,h2,h3,h4,h5,h6⟩:=h;have hE':=hE m.toNat p hp;rcases hs p hp with⟨e1,e2⟩ | ⟨k,e1,e2,e3⟩
 ·refine⟨h1,by omega,h3,by omega,fun q=>?_,fun q=>?_⟩
  ·rw [e1];exact h5 (by omega)
  ·have:=h6 (by omega);omega
 ·refine⟨h1,by omega,h3,by omega,fun q=>by omega,fun q=>?_⟩;by_cases c:a= (sp w p).age
  ·have:=h5 c;have:m.toNat=k:=by omega
   rw [this];omega
  ·have:=h6 c;omega
theorem Mv.Ya {w w':Zb} (v:Mv w w') {m:Int} {y:Zr} (h:QY w m y):QY w' m y:=by
 obtain⟨h1,h2,h3,h4,h5,h6⟩:=h;exact⟨h1,by rw [v.inl];exact h2,h3,by rw [v.enl];exact h4,v.rt _ (by omega) _ _ h5,h6⟩
theorem Mv.Xp {w w':Zb} (v:Mv w w') {x:Zd} (h:Zkv w x):Zkv w' x:=
 ⟨h.to1,by rw [v.enl];exact h.to2,h.Xc,fun i hi=>by have:=h.KD i hi;unfold K7 at this ⊢;rw [v.inl];exact this,fun q=>by have:=h.ntd q;rw [v.inl];exact this⟩
theorem Mv.same {w w':Zb} (inl:w'.Zv.length=w.Zv.length) (enl:w'.qQ=w.qQ) (hs:∀ p,p < w.Zv.length ->YM w' p=YM w p):Mv w w':=
 Mv.of inl (by rw [enl]) (fun m p _=>by unfold E row;rw [enl];exact Int.le_refl _) fun p hp=>.inl (by rw [JX (hs p hp)];exact⟨rfl,rfl⟩)
def owB (w:Zb):List (Int×Int):= (List.range w.qK.length).flatMap fun p=>(Xt w p).map fun n=>(n,(p:Int))
def owH (w:Zb):List (Int×Int):= (List.range w.qJ.length).flatMap fun m=>(ZH w m).map fun y=>(y.msg,y.place)
def owL (l:List Zd):List (Int×Int):= (l.filter fun x=>x.kind==1).map fun x=>(x.Ya.msg,x.Ya.place)
def owes (w:Zb):List (Int×Int):=owB w ++ owH w ++ owL w.qG
theorem WJ (w:Zb):(owes w).map Prod.fst=msgs w:=by
 unfold owes msgs;rw [List.map_append,List.map_append];congr 1
 ·congr 1
  ·unfold owB;rw [List.map_flatMap];have:=ZdM w.qK [] (fun l=>l);rw [List.flatMap_id'] at this;rw [← this];congr 1;funext p;rw [List.map_map];show(Xt w p).map (fun n=>n)=_;rw [List.map_id'];rfl
  ·unfold owH QG;rw [List.map_flatMap,← ZdM w.qJ [] (fun x=>x.map fun y=>y.msg)];congr 1;funext p;rw [List.map_map];rfl
 ·unfold owL Q7;rw [List.map_map];rfl
theorem ZpW {α:Type} [BEq α] {f g:Nat ->List α} {p:Nat} (h:∀ k,k ≠ p ->f k=g k) (a:α):∀ {n:Nat},p < n ->((List.range n).flatMap f).count a + (g p).count a= ((List.range n).flatMap g).count a + (f p).count a:=by
 intro n
 induction n with
 | zero=>intro h;omega
 | succ n ih=>
   intro hp;rw [List.range_succ,List.flatMap_append,List.flatMap_append,List.count_append,List.count_append];simp only [List.flatMap_cons,List.flatMap_nil,List.append_nil];by_cases e:p=n
   ·subst e
    have:(List.range p).flatMap f= (List.range p).flatMap g:=by
     unfold List.flatMap;congr 1;exact List.map_congr_left fun k hk=>h k (by have:=List.mem_range.1 hk;omega)
    rw [this];omega
   ·have:=ih (by omega);rw [h n (fun z=>e z.symm)];omega
theorem Kr (a b:List Zd):owL (a ++ b)=owL a ++ owL b:=by unfold owL;rw [List.filter_append,List.map_append]
theorem Zlv {w:Zb} {k:Nat} (hk:k < w.qG.length):owL w.qG=owL (w.qG.take k) ++ owL [ZF w k] ++ owL (w.qG.drop (k + 1)):=by
 have:=congrArg owL (KI hk);rw [this,Kr,show ZF w k::w.qG.drop (k + 1)= [ZF w k] ++ w.qG.drop (k + 1) from rfl,Kr,List.append_assoc]
theorem ZaL {x:Zd} (h:x.kind=1):owL [x]= [(x.Ya.msg,x.Ya.place)]:=by unfold owL;simp [h]
theorem Zca {x:Zd} (h:x.kind ≠ 1):owL [x]= []:=by unfold owL;simp [h]
theorem Zts (w w':Zb) {p:Nat} (hp:p < w.qK.length) {l:List Int} (h:w'.qK=Yt w.qK (p:Int) (Xt w p ++ l)) (a:Int×Int):(owB w').count a= (owB w).count a + (l.map fun n=>(n,(p:Int))).count a:=by
 have hb:∀ k,Xt w' k=if k=p then Xt w p ++ l else Xt w k:=fun k=>by unfold Xt;rw [h];exact QZ hp
 have:=ZpW (f:=fun k=>(Xt w' k).map fun n=>(n,(k:Int))) (g:=fun k=>(Xt w k).map fun n=>(n,(k:Int))) (p:=p) (fun k hk=>by rw [hb,if_neg hk]) a (n:=w.qK.length) hp;rw [hb,if_pos rfl,List.map_append,List.count_append] at this;have e:w'.qK.length=w.qK.length:=by rw [h,Xg]
 unfold owB;rw [e];omega
theorem Ztr (w w':Zb) {m:Nat} (hm:m < w.qJ.length) {l:List Zr} (h:w'.qJ=Yt w.qJ (m:Int) l) (a:Int×Int):(owH w').count a + ((ZH w m).map fun y=>(y.msg,y.place)).count a= (owH w).count a + (l.map fun y=>(y.msg,y.place)).count a:=by
 have hb:∀ k,ZH w' k=if k=m then l else ZH w k:=fun k=>by unfold ZH;rw [h];exact QZ hm
 have:=ZpW (f:=fun k=>(ZH w' k).map fun y=>(y.msg,y.place)) (g:=fun k=>(ZH w k).map fun y=>(y.msg,y.place)) (p:=m) (fun k hk=>by rw [hb,if_neg hk]) a (n:=w.qJ.length) hm;rw [hb,if_pos rfl] at this;have e:w'.qJ.length=w.qJ.length:=by rw [h,Xg]
 unfold owH;rw [e];omega
theorem Zmx {w w':Zb} (e:w'.Zv=w.Zv) (q:Int):inn w' q=inn w q:=by unfold inn;rw [e]
theorem ZKF {w w':Zb} (e:w'.Zv=w.Zv) (q:Int):∀ k,up w' k q=up w k q:=by
 intro k
 induction k with
 | zero=>rfl
 | succ k ih=>rw [QC,QC,ih,Zmx e]
theorem Inn.eq {w w':Zb} (h:Inn w) (e:w'.Zv=w.Zv):Inn w':=
 ⟨fun p hp=>by have:=h.rng p (by rw [← e];exact hp);unfold okN at this ⊢;rw [Zmx e,e];exact this,fun p hp=>by rw [ZKF e,e];exact h.acy p (by rw [← e];exact hp)⟩
theorem ZqJ {w w':Zb} (e:w'.qQ=w.qQ) (m p:Nat):E w' m p=E w m p:=by unfold E row;rw [e]
theorem Zef.eq {w w':Zb} (e:w'.qQ=w.qQ) {m p:Nat} (h:Zef w m p):Zef w' m p:=by
 unfold Zef at h ⊢;rw [ZqJ e,e];exact h
theorem Wm.upd {w w':Zb} (h:Wm w) (ZhE:w'.Zv=w.Zv) (ZhF:w'.qQ=w.qQ) (hbx:w'.qK.length=w.qK.length) (hhd:w'.qJ.length=w.qJ.length) (hs1:0 <=w'.said) (hs2:w'.said <=40)
 (ZRr:∀ p,X8 w'.qG p=X8 w.qG p) (hk2:∀ x ∈ w.qG,x.kind=2 ->x ∈ w'.qG)
 (hlet:∀ x ∈ w'.qG,x ∈ w.qG∨(Zkv w x∧(x.kind=1 ->QY w x.Z9 x.Ya)∧(x.kind=3 ->RtX w x.place.toNat x.at_ x.age)))
 (ZRN:∀ m,m < w.qQ.length ->∀ y ∈ ZH w' m,y ∈ ZH w m∨(QY w m y∧sp w y.place.toNat= ⟨(m:Int),false,y.age⟩)):Wm w':=by
 have hloc:∀ p,YM w' p=YM w p:=fun p=>Zce (by rw [ZhF];exact Zah fun m _=>ZqJ ZhF m p) (ZRr p)
 have v:Mv w w':=Mv.same (by rw [ZhE]) ZhF fun p _=>hloc p
 have hsp:∀ p,sp w' p=sp w p:=fun p=>JX (hloc p)
 have S:=h.shr.KA;refine⟨⟨⟨by rw [ZhF];exact S.m1,by rw [ZhF];exact S.m2,by rw [ZhE];exact S.p1,by rw [ZhE];exact S.p2,by rw [hbx,ZhE];exact S.bx,by rw [hhd,ZhF];exact S.hd,by rw [ZhF,ZhE];exact S.rw_⟩,h.shr.inn.eq ZhE,hs1,hs2,fun m hm p hp=>(h.shr.ent m (by rw [← ZhF];exact hm) p (by rw [← ZhE];exact hp)).eq ZhF,fun x hx=>?_⟩,fun p hp=>?_,fun p hp hq=>?_,fun m hm p hp hh=>?_,fun m hm y hy=>?_,fun x hx hk=>?_,fun x hx hk=>?_⟩
 ·rcases hlet x hx with q | q
  ·exact v.Xp (h.shr.Xp x q)
  ·exact v.Xp q.1
 ·rw [hloc];exact h.loc p (by rw [← ZhE];exact hp)
 ·rw [Zmx ZhE] at hq ⊢;rw [hsp,hsp];have:=h.tog p (by rw [← ZhE];exact hp) hq;refine⟨this.1,this.2.1,fun z=>?_⟩;obtain⟨x,hx,k,a,b⟩:=this.2.2 z;exact⟨x,hk2 x hx k,k,a,b⟩
 ·rw [ZqJ ZhF] at hh ⊢;exact v.rt p (by rw [← ZhE];exact hp) _ _ (h.ent m (by rw [← ZhF];exact hm) p (by rw [← ZhE];exact hp) hh)
 ·rw [ZhF] at hm;rw [hsp];rcases ZRN m hm y hy with q | q
  ·have:=h.hel m hm y q;exact⟨v.Ya this.1,this.2⟩
  ·exact⟨v.Ya q.1,q.2⟩
 ·rcases hlet x hx with q | q
  ·exact v.Ya (h.mai x q hk)
  ·exact v.Ya (q.2.1 hk)
 ·rcases hlet x hx with q | q
  ·have hn:= (h.shr.Xp x q).ntd hk;exact v.rt _ (by omega) _ _ (h.ntd x q hk)
  ·have hn:=q.1.ntd hk;exact v.rt _ (by omega) _ _ (q.2.2 hk)
section
variable {w:Zb}
theorem Zh4 (h:Wm w) {k:Nat} (hk:k < w.qG.length) (h2:(ZF w k).kind ≠ 2):Wm (Yb w k):=by
 refine h.upd rfl rfl rfl rfl h.shr.sd1 h.shr.sd2 (fun p=>?_) (fun x hx hk2=>?_) (fun x hx=>.inl (Zda hx)) (fun m _ y hy=>.inl hy)
 ·rw [KM hk,ZlY h2,ZfB,List.append_nil]
 ·rw [KI hk] at hx;rcases List.mem_append.1 hx with q | q
  ·exact List.mem_append.2 (.inl q)
  ·rcases List.mem_cons.1 q with r | r
   ·rw [r] at hk2;exact absurd hk2 h2
   ·exact List.mem_append.2 (.inr r)
theorem Ztf (h:Wm w) (hs:w.said < 40):Wm (Zg0 w):=
 h.upd rfl rfl rfl rfl (by have:=h.shr.sd1;show 0 <=w.said + 1;omega) (by show w.said + 1 <=40;omega) (fun _=>rfl) (fun x hx _=>hx) (fun x hx=>.inl hx) (fun m _ y hy=>.inl hy)
structure Rtd (w:Zb) (m:Nat) (x:Zr) (now:Bool):Prop where
 hm:m < w.qQ.length
 pl:Ka x.place w.Zv.length
 fr:Ka x.from_ w.qQ.length
 old:now=false ->QY w m x
 new:now=true ->x.age=0∧x.hops=0
theorem Wm.ZdH (h:Wm w) {p:Nat} (hp:p < w.Zv.length):(sp w p).age <=30:=Proofs.YtbmbbcaaimehkaaGreat.ZdH h.shr hp (h.loc p hp)
theorem Zve {to:Int} {y:Zr} (h1:0 <=to) (h2:to < (w.qQ.length:Int)):Zkv w (ZbB to y):=
 ⟨h1,h2,.inl ⟨rfl,rfl,rfl,rfl,rfl,rfl⟩,fun i hi=>absurd hi (Nat.not_lt_zero i),fun q=>absurd (show(1:Int)=3 from q) (by omega)⟩
theorem Zvc {to p at_ age:Int} (h1:Ka to w.qQ.length) (h2:Ka p w.Zv.length) (h3:at_ ≠ to):Zkv w (ZxG to p at_ age):=
 ⟨h1.1,h1.2,.inr (.inr ⟨rfl,rfl,rfl,rfl⟩),fun i hi=>absurd hi (Nat.not_lt_zero i),fun _=>⟨h2.1,h2.2,h3⟩⟩
theorem ZoQ (h:Wm w) {m:Nat} {x:Zr} {now:Bool} (r:Rtd w m x now):Wm (Qa w m x now).1:=by
 obtain⟨p,ep,hp⟩:=r.pl.nat;have hm:=r.hm;have S:=h.shr.KA;unfold Qa;rw [ep,Int.toNat_natCast];by_cases hh:(E w m p).here=true
 ·rw [if_pos hh];exact h.upd rfl rfl (Xg _ _ _) rfl h.shr.sd1 h.shr.sd2 (fun _=>rfl) (fun x hx _=>hx) (fun x hx=>.inl hx) (fun m _ y hy=>.inl hy)
 have hh':(E w m p).here=false:=by simpa using hh
 rw [if_neg hh];have re:=h.ent m hm p hp hh';by_cases hc:now=false∧(E w m p).age <=x.age
 ·rw [if_pos hc];have ho:=r.old hc.1;obtain⟨o1,o2,o3,o4,o5,o6,o7⟩:=id ho;refine h.upd rfl rfl rfl (Xg _ _ _) h.shr.sd1 h.shr.sd2 (fun _=>rfl) (fun x hx _=>hx) (fun x hx=>.inl hx) (fun m' hm' y hy=>?_);have hb:ZH {w with qJ:=Yt w.qJ (m:Int) (ZH w m ++ [x])} m'=if m'=m then ZH w m ++ [x] else ZH w m':=QZ (by rw [S.hd];exact hm)
  rw [hb] at hy;by_cases e:m'=m
  ·rw [if_pos e] at hy;rcases List.mem_append.1 hy with q | q
   ·rw [e];exact .inl q
   ·rw [List.mem_singleton.1 q,e];refine .inr ⟨ho,?_⟩;rw [ep,Int.toNat_natCast] at o5 ⊢;obtain⟨a1,a2,a3,a4,a5,a6⟩:=o5;rw [Int.toNat_natCast] at a6;have e1:x.age= (sp w p).age:=Classical.byContradiction fun z=>by have:=a6 z;omega
    have e2:=a5 e1
    have e3:(sp w p).here=false:=by
     rcases ZaF (h.loc p hp) with⟨k,hk,he,es⟩ | ⟨y,hy,hk,i,hi,hpi,es⟩
     ·rw [es] at e2;have:m=k:=by have:(m:Int)= (k:Int):=e2;omega
      rw [← this,hh'] at he;cases he
     ·rw [es]
    rw [e1,e2,← e3]
  ·rw [if_neg e] at hy;exact .inl hy
 ·rw [if_neg hc];have ha:=h.ZdH hp;obtain⟨a1,a2,a3,a4,a5,a6⟩:=id re;have hE:=h.shr.ent m hm p hp;refine h.upd rfl rfl rfl rfl h.shr.sd1 h.shr.sd2 (fun q=>?_) (fun x hx _=>List.mem_append.2 (.inl hx)) (fun y hy=>?_) (fun m _ y hy=>.inl hy)
  ·show X8 (w.qG ++ _::told (m:Int) x (E w m p) now) q=_
   have e0:X8 (ZbB (E w m p).Z9 (KR x (E w m p))::told (m:Int) x (E w m p) now) q= []:=by
    apply Zs4;intro y hy;rcases List.mem_cons.1 hy with z | z
    ·rw [z];show(1:Int) ≠ 2;omega
    ·unfold told at z;split at z
     ·rw [List.mem_singleton.1 z];show(3:Int) ≠ 2;omega
     ·cases z
   rw [Zaz,e0,List.append_nil]
  ·rcases List.mem_append.1 hy with q | q
   ·exact .inl q
   refine .inr ?_;rcases List.mem_cons.1 q with z | z
   ·subst z;refine⟨Zve a3 a4,fun _=>?_,fun q=>absurd (show(1:Int)=3 from q) (by omega)⟩;show QY w (E w m p).Z9 (KR x (E w m p));refine⟨r.pl.1,r.pl.2,r.fr.1,r.fr.2,?_,?_,?_⟩
    ·show RtX w x.place.toNat (E w m p).Z9 (E w m p).age;rw [ep,Int.toNat_natCast];exact re
    ·show 1 <=x.hops + 1;cases hn:now with
     | true=>have:=r.new hn;omega
     | false=>have:= (r.old hn).2.2.2.2.2.1;omega
    ·show x.hops + 1 <=Xd (1 + (E w m p).age);rw [Int.add_comm 1,Za3 a1 (by omega)];cases hn:now with
     | true=>have:=r.new hn;omega
     | false=>
       have o:=r.old hn;have o1:=o.2.2.2.2.1.1;have o2:=o.2.2.2.2.1.2.1;have o3:=o.2.2.2.2.2.2;rw [ep,Int.toNat_natCast] at o2;rw [Int.add_comm,Za3 o1 (by omega)] at o3;have:¬ (E w m p).age <=x.age:=fun z=>hc ⟨hn,z⟩
       omega
   ·unfold told at z;split at z
    ·rename_i ht;rw [List.mem_singleton.1 z];refine⟨Zvc r.fr r.pl (fun q=>ht.2.2 q.symm),fun q=>absurd (show(3:Int)=1 from q) (by omega),fun _=>?_⟩;show RtX w x.place.toNat (E w m p).Z9 (E w m p).age;rw [ep,Int.toNat_natCast];exact re
    ·cases z
theorem ZCq (m:Int) (x:Zr) (e:Zw) (now:Bool):owL (told m x e now)= []:=by
 unfold told;split
 ·exact Zca (by show(3:Int) ≠ 1;omega)
 ·rfl
theorem ZoR (h:Wm w) {m:Nat} {x:Zr} {now:Bool} (r:Rtd w m x now) (a:Int×Int):(owes (Qa w m x now).1).count a= (owes w).count a + [(x.msg,x.place)].count a:=by
 obtain⟨p,ep,hp⟩:=r.pl.nat;have S:=h.shr.KA;unfold Qa owes;rw [ep,Int.toNat_natCast];simp only [List.count_append];by_cases hh:(E w m p).here=true
 ·rw [if_pos hh];have:=Zts w {w with qK:=Yt w.qK (p:Int) (Xt w p ++ [x.msg])} (p:=p) (by rw [S.bx];exact hp) rfl a;simp only [List.map_cons,List.map_nil] at this;rw [this];show _ + (owH w).count a + (owL w.qG).count a=_;omega
 rw [if_neg hh];by_cases hc:now=false∧(E w m p).age <=x.age
 ·rw [if_pos hc];have:=Ztr w {w with qJ:=Yt w.qJ (m:Int) (ZH w m ++ [x])} (m:=m) (by rw [S.hd];exact r.hm) rfl a;simp only [List.map_append,List.count_append,List.map_cons,List.map_nil,ep] at this;show(owB w).count a + (owH {w with qJ:=Yt w.qJ (m:Int) (ZH w m ++ [x])}).count a + (owL w.qG).count a=_;omega
 ·rw [if_neg hc];show(owB w).count a + (owH w).count a + (owL (w.qG ++ (ZbB _ _::told _ _ _ _))).count a=_;rw [Kr,show(ZbB (E w m p).Z9 (KR x (E w m p))::told (m:Int) x (E w m p) now)= [ZbB (E w m p).Z9 (KR x (E w m p))] ++ told (m:Int) x (E w m p) now from rfl,Kr,ZCq,ZaL rfl,List.append_nil,List.count_append];show _ + (_ + List.count a [(x.msg,x.place)])=_;rw [ep];omega
end
end Go.Proofs.YtbmbbcaaimehkaaGreat
end
section
namespace Go.Proofs.YtbmbbcaaimehkaaGreat
open Go.Lf
theorem Zi8 {w w':Zb} {p:Nat}:∀ {k:Nat},(∀ m,m < k ->(E w' m p=E w m p)∨((E w' m p).here=false∧(E w m p).here=false)) ->Xj w' p k=Xj w p k:=by
 intro k
 induction k with
 | zero=>intro _;rfl
 | succ k ih=>
   intro h;rw [JC,JC,ih fun m hm=>h m (by omega)];rcases h k (by omega) with e | ⟨e1,e2⟩
   ·rw [e]
   ·rw [e1,e2];simp
section
variable {w:Zb}
theorem ZCO (h:Wm w) {m p:Nat} (hm:m < w.qQ.length) (hp:p < w.Zv.length) {at_ age:Int} (hh:(E w m p).here=false) (ha:(E w m p).age < age) (hr:RtX w p at_ age) (hn:at_ ≠ (m:Int)):Wm (setW w m p ⟨false,at_,age⟩):=by
 have S:=h.shr.KA;have eE:=Zoc S hm hp ⟨false,at_,age⟩;have hag:=h.ZdH hp;have el:(setW w m p ⟨false,at_,age⟩).qQ.length=w.qQ.length:=Zb0 _ _ _ _
 have hloc:∀ q,YM (setW w m p ⟨false,at_,age⟩) q=YM w q:=fun q=>by
  refine Zce ?_ rfl;rw [el];refine Zi8 fun m' _=>?_
  rw [eE];by_cases c:m'=m∧q=p
  ·rw [if_pos c,c.1,c.2];exact .inr ⟨rfl,hh⟩
  ·rw [if_neg c];exact .inl rfl
 have hsp:∀ q,sp (setW w m p ⟨false,at_,age⟩) q=sp w q:=fun q=>JX (hloc q)
 have v:Mv w (setW w m p ⟨false,at_,age⟩):=Mv.of rfl el (fun m' q _=>by
  rw [eE];by_cases c:m'=m∧q=p
  ·rw [if_pos c,c.1,c.2];exact Int.le_of_lt ha
  ·rw [if_neg c];exact Int.le_refl _) fun q _=>.inl (by rw [hsp];exact⟨rfl,rfl⟩)
 refine⟨⟨S.setW hm _,h.shr.inn.eq rfl,h.shr.sd1,h.shr.sd2,fun m' hm' q hq=>?_,fun x hx=>v.Xp (h.shr.Xp x hx)⟩,fun q hq=>by rw [hloc];exact h.loc q hq,fun q hq hi=>?_,fun m' hm' q hq hh'=>?_,fun m' hm' y hy=>?_,fun x hx hk=>v.Ya (h.mai x hx hk),fun x hx hk=>?_⟩
 ·rw [el] at hm';unfold Zef;rw [eE,el];by_cases c:m'=m∧q=p
  ·rw [if_pos c,c.1];exact⟨hr.1,by have:=hr.2.1;show age <=30;omega,hr.2.2.1,hr.2.2.2.1,⟨fun z=>absurd z (by simp),fun z=>absurd z hn⟩⟩
  ·rw [if_neg c];exact h.shr.ent m' hm' q hq
 ·rw [hsp,hsp];exact h.tog q hq hi
 ·rw [el] at hm';rw [eE] at hh' ⊢;by_cases c:m'=m∧q=p
  ·rw [if_pos c,c.2];exact v.rt p hp _ _ hr
  ·rw [if_neg c] at hh' ⊢;exact v.rt q hq _ _ (h.ent m' hm' q hq hh')
 ·rw [el] at hm';have:=h.hel m' hm' y hy;rw [hsp];exact⟨v.Ya this.1,this.2⟩
 ·have hn:= (h.shr.Xp x hx).ntd hk;exact v.rt _ (by omega) _ _ (h.ntd x hx hk)
theorem ZeR {p:Nat} {v:Int} (hp:p < w.Zv.length) (q:Nat):inn (Zaa w (p:Int) v) (q:Int)=if q=p then v else inn w (q:Int):=by
 unfold inn Zaa;rw [Int.toNat_natCast];exact QZ hp
theorem ZeA (p v:Int):(Zaa w p v).Zv.length=w.Zv.length:=Xg _ _ _
theorem Zl3 (hi:Inn w) {p:Nat} {v:Int} (hp:p < w.Zv.length) {x:Nat} (hx:x < w.Zv.length):∀ j,(∀ i,i < j ->up w i (x:Int) ≠ (p:Int)) ->up (Zaa w (p:Int) v) j (x:Int)=up w j (x:Int):=by
 intro j
 induction j with
 | zero=>intro _;rfl
 | succ j ih=>
   intro h;have e:=ih fun i hi=>h i (by omega)
   rw [QC,QC,e];by_cases hn:up w j (x:Int) < 0
   ·rw [if_pos hn,if_pos hn]
   ·rw [if_neg hn,if_neg hn];obtain⟨q,eq,hq⟩:=J5 (hi.up (q:= (x:Int)) ⟨by omega,by omega⟩ j) hn;rw [eq,ZeR hp,if_neg (fun z=>h j (by omega) (by rw [eq,z]))]
theorem ZBF (hi:Inn w) {p q:Nat} (hp:p < w.Zv.length) (hq:q < w.Zv.length) (hn:¬ Wth w p q):Inn (Zaa w (p:Int) (q:Int)):=by
 have el:=ZeA (w:=w) (p:Int) (q:Int)
 have hr:∀ x:Nat,x < (Zaa w (p:Int) (q:Int)).Zv.length ->okN (Zaa w (p:Int) (q:Int)) (inn (Zaa w (p:Int) (q:Int)) (x:Int)):=fun x hx=>by
  rw [el] at hx;rw [ZeR hp];unfold okN;rw [el];by_cases e:x=p
  ·rw [if_pos e];omega
  ·rw [if_neg e];exact hi.rng x hx
 refine⟨hr,(Zh9 hr).2 fun x hx j hj hc=>?_⟩;rw [el] at hx hj;have old:∀ i,up (Zaa w (p:Int) (q:Int)) i (q:Int)=up w i (q:Int):=fun i=>Zl3 hi hp hq i fun k _ z=>hn ⟨k,z⟩
 by_cases hz:∃ i,i < j + 1∧up w i (x:Int)= (p:Int)
 ·obtain⟨i,hil,e⟩:=hz;obtain⟨n,hnn,hcn,hlt⟩:=Qb (c:=fun i=>up w i (x:Int)= (p:Int)) e;have e1:up (Zaa w (p:Int) (q:Int)) n (x:Int)= (p:Int):=by rw [Zl3 hi hp hx n hlt];exact hcn
  have e2:up (Zaa w (p:Int) (q:Int)) (j + 1) (p:Int)= (p:Int):=by
   have t:=up_add (Zaa w (p:Int) (q:Int)) n (j + 1) (x:Int);rw [e1,Nat.add_comm,up_add,hc,e1] at t;exact t.symm
  have e3:up (Zaa w (p:Int) (q:Int)) (j + 1) (p:Int)=up (Zaa w (p:Int) (q:Int)) j (q:Int):=by
   show(if(p:Int) < 0 then _ else up _ j (inn _ (p:Int)))=_;rw [if_neg (by omega),ZeR hp,if_pos rfl]
  rw [e3,old] at e2;exact hn ⟨j,e2⟩
 ·rw [Zl3 hi hp hx _ fun i h q=>hz ⟨i,h,q⟩] at hc;exact(Zh9 hi.rng).1 hi.acy x hx j hj hc
theorem Zxn (h:Wm w) {p:Nat} {v:Int} (hp:p < w.Zv.length) (hi:Inn (Zaa w (p:Int) v)) (ht:0 <=v ->(sp w v.toNat).machine= (sp w p).machine∧(sp w v.toNat).here=true∧(sp w p).here=true):Wm (Zaa w (p:Int) v):=by
 have el:=ZeA (w:=w) (p:Int) v;have S:=h.shr.KA;have v':Mv w (Zaa w (p:Int) v):=Mv.same el rfl fun _ _=>rfl
 refine⟨⟨⟨S.m1,S.m2,by rw [el];exact S.p1,by rw [el];exact S.p2,by rw [el];exact S.bx,S.hd,by rw [el];exact S.rw_⟩,hi,h.shr.sd1,h.shr.sd2,fun m hm q hq=>h.shr.ent m hm q (by rw [← el];exact hq),fun x hx=>v'.Xp (h.shr.Xp x hx)⟩,fun q hq=>h.loc q (by rw [← el];exact hq),fun q hq hz=>?_,fun m hm q hq hh=>v'.rt q (by rw [← el];exact hq) _ _ (h.ent m hm q (by rw [← el];exact hq) hh),fun m hm y hy=>⟨v'.Ya (h.hel m hm y hy).1,(h.hel m hm y hy).2⟩,fun x hx hk=>v'.Ya (h.mai x hx hk),fun x hx hk=>?_⟩
 ·rw [el] at hq;rw [ZeR hp] at hz ⊢;by_cases e:q=p
  ·rw [if_pos e] at hz ⊢;have:=ht hz;rw [e];exact⟨this.1,this.2.1.trans this.2.2.symm,fun z=>by rw [show sp (Zaa w (p:Int) v) p=sp w p from rfl,this.2.2] at z;cases z⟩
  ·rw [if_neg e] at hz ⊢;exact h.tog q hq hz
 ·have hn:= (h.shr.Xp x hx).ntd hk;exact v'.rt _ (by omega) _ _ (h.ntd x hx hk)
theorem ZGt (h:Wm w) {p:Nat} (hp:p < w.Zv.length):∀ (j q:Nat),q < w.Zv.length ->up w j (q:Int)= (p:Int) ->(sp w q).machine= (sp w p).machine∧(sp w q).here= (sp w p).here:=by
 intro j
 induction j with
 | zero=>intro q hq e;have:q=p:=by have:(q:Int)= (p:Int):=e;omega
         rw [this];exact⟨rfl,rfl⟩
 | succ j ih=>
   intro q hq e
   have e':up w j (inn w (q:Int))= (p:Int):=by
    have:(if(q:Int) < 0 then(q:Int) else up w j (inn w (q:Int)))= (p:Int):=e;rw [if_neg (by omega)] at this;exact this
   have h0:¬ inn w (q:Int) < 0:=fun z=>by rw [Zl4 z] at e';omega
   obtain⟨r,er,hr⟩:=J5 (h.shr.inn.rng q hq) h0;have t:=h.tog q hq (by omega);rw [er] at e';have i:=ih r hr e';rw [er,Int.toNat_natCast] at t;exact⟨t.1 ▸ i.1,t.2.1 ▸ i.2⟩
theorem Zou {x:Zd} (hk:x.kind=2) (nd:x.qV.Nodup) {i p:Nat} (hi:i < x.qV.length) (hp:x.qV.getD i 0= (p:Int)):WU x p= [⟨x.Z9,false,x.Yj.getD i 0⟩]:=by
 unfold WU;rw [if_pos hk];have hl:=ZdE x p x.qV.length (Nat.le_refl _);rw [List.take_of_length_le (Nat.le_refl _)] at hl;have hm:(p:Int) ∈ x.qV:=by rw [← hp,YH hi];exact List.getElem_mem hi
 have hc:=List.nodup_iff_count.1 nd (p:Int);have hc2:=List.count_pos_iff.2 hm;obtain⟨s,e⟩:=List.length_eq_one_iff.1 (show(WB x p x.qV.length).length=1 by omega);have:Yo.mk x.Z9 false (x.Yj.getD i 0) ∈ WB x p x.qV.length:=Zay.2 ⟨i,hi,hp,rfl⟩;rw [e] at this ⊢;rw [List.mem_singleton.1 this]
theorem Zlm {x:Zd} {p:Nat} (hm:(p:Int) ∉ x.qV):WU x p= []:=by
 unfold WU;split
 ·apply List.eq_nil_iff_forall_not_mem.2;intro s hs;obtain⟨i,hi,hp,_⟩:=Zay.1 hs;exact hm (by rw [← hp,YH hi];exact List.getElem_mem hi)
 ·rfl
theorem Zaw (hi:Inn w) {p q:Nat}:(q:Int) ∈ Yu w p↔q < w.Zv.length∧Wth w p q:=by
 rw [Zli hi]
 exact⟨fun⟨x,e,hx,hw⟩=>by have:q=x:=by omega
                          subst this;exact⟨hx,hw⟩,fun⟨a,b⟩=>⟨q,rfl,a,b⟩⟩
end
end Go.Proofs.YtbmbbcaaimehkaaGreat
end
section
namespace Go.Proofs.YtbmbbcaaimehkaaGreat
open Go.Lf
section
variable {w:Zb}
theorem Wm.Ku (h:Wm w) {p:Nat} (hp:p < w.Zv.length) (hh:(sp w p).here=true):sp w p= ⟨(mOf w p:Int),true,(E w (mOf w p) p).age⟩∧mOf w p < w.qQ.length∧(E w (mOf w p) p).here=true:=by
 rcases ZaF (h.loc p hp) with⟨m,hm,he,e⟩ | ⟨x,hx,hk,i,hi,hpi,e⟩
 ·unfold mOf;rw [e];exact⟨by simp,by simpa using hm,by simpa using he⟩
 ·rw [e] at hh;cases hh
theorem Wm.only (h:Wm w) {p m:Nat} (hp:p < w.Zv.length) (hm:m < w.qQ.length) (hh:(E w m p).here=true):sp w p= ⟨(m:Int),true,(E w m p).age⟩∧Xj w p w.qQ.length= [⟨(m:Int),true,(E w m p).age⟩]∧X8 w.qG p= []∧∀ m',m' < w.qQ.length ->m' ≠ m ->(E w m' p).here=false:=by
 have hl:=h.loc p hp;have h1:Yo.mk (m:Int) true (E w m p).age ∈ Xj w p w.qQ.length:=Zc1.2 ⟨m,hm,hh,rfl⟩
 have h2:(Xj w p w.qQ.length).length=1∧(X8 w.qG p).length=0:=by
  unfold YM at hl;rw [List.length_append] at hl;have:=List.length_pos_of_mem h1;omega
 obtain⟨s,e⟩:=List.length_eq_one_iff.1 h2.1;have e3:=List.length_eq_zero_iff.1 h2.2;rw [e] at h1;have e4:=List.mem_singleton.1 h1;have e5:sp w p=s:=Zs9 (by unfold YM;rw [e,e3];rfl);refine⟨by rw [e5,e4],by rw [e,e4],e3,fun m' hm' hne=>?_⟩;cases q:(E w m' p).here with
 | false=>rfl
 | true=>
   have:Yo.mk (m':Int) true (E w m' p).age ∈ Xj w p w.qQ.length:=Zc1.2 ⟨m',hm',q,rfl⟩;rw [e,← e4] at this;have:=List.mem_singleton.1 this;injection this with a b c
   exact absurd (by omega) hne
structure Trv (w:Zb) (p:Nat) (to:Int):Prop where
 hp:p < w.Zv.length
 here:(sp w p).here=true
 off:(sp w p).machine ≠ to
 Z9:Ka to w.qQ.length
 old:∀ q:Nat,(q:Int) ∈ Yu w p ->(sp w q).age < 30
variable {p:Nat} {to:Int}
theorem ZcQ (h:Wm w) (t:Trv w p to) {q:Nat} (hq:(q:Int) ∈ Yu w p):q < w.Zv.length∧sp w q= ⟨(mOf w p:Int),true,(E w (mOf w p) q).age⟩∧(E w (mOf w p) q).here=true:=by
 obtain⟨hql,j,e⟩:= (Zaw h.shr.inn).1 hq;have s:=ZGt h t.hp j q hql e;have a:=h.Ku t.hp t.here;have b:=h.Ku hql (s.2.trans t.here);have em:mOf w q=mOf w p:=by unfold mOf;rw [s.1]
 rw [em] at b;exact⟨hql,b.1,b.2.2⟩
theorem ZuO (h:Wm w) (t:Trv w p to):(p:Int) ∈ Yu w p:= (Zaw h.shr.inn).2 ⟨t.hp,0,rfl⟩
theorem Zz3 (h:Wm w) (t:Trv w p to):GoB w (mOf w p) (Yu w p):=by
 have a:=h.Ku t.hp t.here;refine⟨h.shr.KA,a.2.1,ZbW w p,WA w p,fun q hq=>?_⟩;obtain⟨k,rfl,hk⟩:= (ZbW w p q hq).nat;have:=h.shr.ent _ a.2.1 k hk;rw [Int.toNat_natCast];exact⟨this.1,this.2.1⟩
theorem ZfF (h:Wm w) (t:Trv w p to) (m' q:Nat):E (Kc w p to).1 m' q=if m'=mOf w p∧(q:Int) ∈ Yu w p then⟨false,to,(E w (mOf w p) q).age + 1⟩ else E w m' q:=by
 have:=ZFY (to:=to) (Zz3 h t) (Yu w p).length (Nat.le_refl _) m' q;rw [List.take_of_length_le (Nat.le_refl _)] at this;exact this
theorem Zet (w:Zb) (p:Nat) (to:Int):(Kc w p to).1.qQ.length=w.qQ.length:= (Zf3 w _ to _ _).2.2.2.2.2
theorem Zij (w:Zb) (p:Nat) (to:Int):(Kc w p to).1.Zv.length=w.Zv.length:=Xg _ _ _
def ZgW (w:Zb) (p:Nat) (to:Int):Zd:=Zx0 to (Yu w p) ((Yu w p).map (goA w (mOf w p)))
theorem ZcP (w:Zb) (p:Nat) (to:Int):(Kc w p to).1.qG=w.qG ++ [ZgW w p to]:=rfl
theorem ZuQ (q:Nat):WU (ZgW w p to) q=if(q:Int) ∈ Yu w p then [⟨to,false,(E w (mOf w p) q).age + 1⟩] else []:=by
 by_cases hq:(q:Int) ∈ Yu w p
 ·rw [if_pos hq];obtain⟨i,hi,e⟩:=List.getElem_of_mem hq;have:=Zou (x:=ZgW w p to) rfl (WA w p) (i:=i) (p:=q) hi (by rw [← e];exact YH hi);rw [this];show [Yo.mk to false (((Yu w p).map (goA w (mOf w p))).getD i 0)]=_;rw [YH (by rw [List.length_map];exact hi),List.getElem_map,e];unfold goA;rw [Int.toNat_natCast]
 ·rw [if_neg hq];exact Zlm hq
theorem Zlo (h:Wm w) (t:Trv w p to) {q:Nat} (hq:q < w.Zv.length):YM (Kc w p to).1 q=if(q:Int) ∈ Yu w p then [⟨to,false,(E w (mOf w p) q).age + 1⟩] else YM w q:=by
 have a:=h.Ku t.hp t.here;unfold YM;rw [ZcP,Zaz,Zot,ZuQ,Zet];by_cases c:(q:Int) ∈ Yu w p
 ·have b:=ZcQ h t c;have o:=h.only hq a.2.1 b.2.2
  have e0:Xj (Kc w p to).1 q w.qQ.length= []:=ZlE fun m' hm'=>by
   rw [ZfF h t];by_cases e:m'=mOf w p∧(q:Int) ∈ Yu w p
   ·rw [if_pos e]
   ·rw [if_neg e];exact o.2.2.2 m' hm' fun z=>e ⟨z,c⟩
  rw [if_pos c,if_pos c,o.2.2.1,e0]
  rfl
 ·rw [if_neg c,if_neg c,List.append_nil,Zah (w:=w) fun m' _=>by rw [ZfF h t,if_neg fun z=>c z.2]]
theorem Zes (h:Wm w) (t:Trv w p to) {q:Nat} (hq:q < w.Zv.length):sp (Kc w p to).1 q=if(q:Int) ∈ Yu w p then⟨to,false,(E w (mOf w p) q).age + 1⟩ else sp w q:=by
 have:=Zlo h t hq;by_cases c:(q:Int) ∈ Yu w p
 ·rw [if_pos c] at this ⊢;exact Zs9 this
 ·rw [if_neg c] at this ⊢;exact JX this
theorem ZCp (h:Wm w) (t:Trv w p to):Mv w (Kc w p to).1:=by
 refine Mv.of (Zij _ _ _) (Zet _ _ _) (fun m q hq=>?_) fun q hq=>?_
 ·rw [ZfF h t];by_cases e:m=mOf w p∧(q:Int) ∈ Yu w p
  ·rw [if_pos e,e.1];show _ <=_ + 1;omega
  ·rw [if_neg e];exact Int.le_refl _
 ·rw [Zes h t hq];by_cases c:(q:Int) ∈ Yu w p
  ·rw [if_pos c];have b:=ZcQ h t c;refine .inr ⟨mOf w p,by rw [b.2.1],by rw [b.2.1];dsimp only;omega,?_⟩;rw [ZfF h t,if_pos ⟨rfl,c⟩,b.2.1];dsimp only;omega
  ·rw [if_neg c];exact .inl ⟨rfl,rfl⟩
theorem ZwF (w:Zb) (p:Nat) {i:Nat} (hi:i < (Yu w p).length) (h0:0 < i):(Yu w p).getD (i - 1) 0 < (Yu w p).getD i 0:=by
 rw [YH hi,YH (by omega)];have h1:=List.pairwise_iff_getElem.1 (Zen w p) (i - 1) i (by omega) hi (by omega);have h2:=List.pairwise_iff_getElem.1 (WA w p) (i - 1) i (by omega) hi (by omega);omega
theorem ZwQ (w:Zb) {p:Nat} (hp:p < w.Zv.length) (to:Int) (q:Nat):inn (Kc w p to).1 (q:Int)=if q=p then -1 else inn w (q:Int):=ZeS hp q
theorem ZuI (h:Wm w) (t:Trv w p to) {q r:Nat} (hq:q < w.Zv.length) (hne:q ≠ p) (e:inn w (q:Int)= (r:Int)):(q:Int) ∈ Yu w p↔(r:Int) ∈ Yu w p:=by
 have hr:r < w.Zv.length:=by have:= (h.shr.inn.rng q hq).2;omega
 rw [Zaw h.shr.inn,Zaw h.shr.inn]
 constructor
 ·rintro⟨_,j,ej⟩;cases j with
  | zero=>exact absurd (by have:(q:Int)= (p:Int):=ej;omega) hne
  | succ j=>
    have:(if(q:Int) < 0 then(q:Int) else up w j (inn w (q:Int)))= (p:Int):=ej;rw [if_neg (by omega),e] at this;exact⟨hr,j,this⟩
 ·rintro⟨_,j,ej⟩;refine⟨hq,j + 1,?_⟩;show(if(q:Int) < 0 then(q:Int) else up w j (inn w (q:Int)))=_;rw [if_neg (by omega),e];exact ej
theorem ZuR (h:Wm w) (t:Trv w p to):Zkv w (ZgW w p to):=by
 refine⟨t.Z9.1,t.Z9.2,.inr (.inl ⟨rfl,rfl,rfl,rfl,rfl,?_,?_⟩),fun i hi=>?_,fun q=>absurd (show(2:Int)=3 from q) (by omega)⟩
 ·intro z;have:=ZuO h t;rw [show Yu w p= [] from z] at this;cases this
 ·show(Yu w p).length= ((Yu w p).map _).length;rw [List.length_map]
 ·have hi':i < (Yu w p).length:=hi;have hm:=List.getElem_mem hi';obtain⟨q,eq,hq⟩:= (ZbW w p _ hm).nat;rw [eq] at hm;have b:=ZcQ h t hm;have a:=h.Ku t.hp t.here;have hx:=h.shr.ent _ a.2.1 q hq;have ho:=t.old q hm;rw [b.2.1] at ho;have ho':(E w (mOf w p) q).age < 30:=ho
  have eA:(ZgW w p to).Yj.getD i 0= (E w (mOf w p) q).age + 1:=by
   show((Yu w p).map (goA w (mOf w p))).getD i 0=_;rw [YH (by rw [List.length_map];exact hi'),List.getElem_map,eq];unfold goA;rw [Int.toNat_natCast]
  have e0:(ZgW w p to).qV.getD i 0= (q:Int):= (YH hi').trans eq;unfold K7;rw [eA,e0];have h1:=hx.1;refine⟨by omega,by omega,fun z=>?_,by omega,by omega⟩;rw [← e0];exact ZwF w p hi' z
theorem ZCn (h:Wm w) (t:Trv w p to):Wm (Kc w p to).1:=by
 have a:=h.Ku t.hp t.here;have v:=ZCp h t;have S:=h.shr.KA;have el:=Zet w p to;have ei:=Zij w p to;have g:=Zz3 h t;have hi:Inn (Kc w p to).1:= (Zfs h.shr.inn t.hp).eq rfl;refine⟨⟨⟨by rw [el];exact S.m1,by rw [el];exact S.m2,by rw [ei];exact S.p1,by rw [ei];exact S.p2,by rw [ei];exact S.bx,by rw [el];exact S.hd,?_⟩,hi,h.shr.sd1,h.shr.sd2,fun m hm q hq=>?_,fun x hx=>?_⟩,fun q hq=>?_,fun q hq hz=>?_,fun m hm q hq hh=>?_,fun m hm y hy=>?_,fun x hx hk=>?_,fun x hx hk=>?_⟩
 ·rw [ei,← (Zf3 w (mOf w p) to (Yu w p) (Yu w p).length).1];exact(ZmR g _).rw_
 ·rw [el] at hm;rw [ei] at hq;unfold Zef;rw [ZfF h t,el];by_cases c:m=mOf w p∧(q:Int) ∈ Yu w p
  ·rw [if_pos c];have b:=ZcQ h t c.2;have hx:=h.shr.ent _ a.2.1 q hq;have ho:=t.old q c.2;rw [b.2.1] at ho;have ho':(E w (mOf w p) q).age < 30:=ho;have h1:=hx.1;refine⟨by show 0 <=_ + 1;omega,by show _ + 1 <=_;omega,t.Z9.1,t.Z9.2,⟨fun z=>by simp at z,fun z=>absurd ?_ t.off⟩⟩;rw [a.1,← c.1];exact z.symm
  ·rw [if_neg c];exact h.shr.ent m hm q hq
 ·rw [ZcP] at hx;rcases List.mem_append.1 hx with z | z
  ·exact v.Xp (h.shr.Xp x z)
  ·rw [List.mem_singleton.1 z];exact v.Xp (ZuR h t)
 ·rw [ei] at hq;rw [Zlo h t hq];by_cases c:(q:Int) ∈ Yu w p
  ·rw [if_pos c];rfl
  ·rw [if_neg c];exact h.loc q hq
 ·rw [ei] at hq;rw [ZwQ w t.hp] at hz ⊢;by_cases e:q=p
  ·rw [if_pos e] at hz;exact absurd hz (by omega)
  rw [if_neg e] at hz ⊢;obtain⟨r,er,hr⟩:=J5 (h.shr.inn.rng q hq) (by omega);have tg:=h.tog q hq hz;rw [er,Int.toNat_natCast] at tg;rw [er,Int.toNat_natCast,Zes h t hq,Zes h t hr];have iff:=ZuI h t hq e er;by_cases c:(q:Int) ∈ Yu w p
  ·rw [if_pos c,if_pos (iff.1 c)];exact⟨rfl,rfl,fun _=>⟨ZgW w p to,List.mem_append.2 (.inr (List.mem_singleton.2 rfl)),rfl,c,iff.1 c⟩⟩
  ·rw [if_neg c,if_neg fun z=>c (iff.2 z)];refine⟨tg.1,tg.2.1,fun z=>?_⟩;obtain⟨x,hx,k,a1,b1⟩:=tg.2.2 z;exact⟨x,List.mem_append.2 (.inl hx),k,a1,b1⟩
 ·rw [el] at hm;rw [ei] at hq;rw [ZfF h t] at hh ⊢;by_cases c:m=mOf w p∧(q:Int) ∈ Yu w p
  ·rw [if_pos c];have b:=ZcQ h t c.2;have hx:=h.shr.ent _ a.2.1 q hq;have h1:=hx.1;unfold RtX;rw [Zes h t hq,if_pos c.2,el];exact⟨by show 0 <=_ + 1;omega,Int.le_refl _,t.Z9.1,t.Z9.2,fun _=>rfl,fun z=>absurd rfl z⟩
  ·rw [if_neg c] at hh ⊢;exact v.rt q hq _ _ (h.ent m hm q hq hh)
 ·rw [el] at hm;have b:=h.hel m hm y hy;have hp1:=b.1.1;have hp2:=b.1.2.1;obtain⟨q,eq⟩:∃ q:Nat,y.place= (q:Int):= ⟨y.place.toNat,by omega⟩
  have b2:=b.2;rw [eq,Int.toNat_natCast] at b2 ⊢
  have c:(q:Int) ∉ Yu w p:=fun z=>by
   have:= (ZcQ h t z).2.1;rw [b2] at this;injection this with _ e _
   cases e
  rw [Zes h t (by omega),if_neg c];exact⟨v.Ya b.1,b2⟩
 ·rcases List.mem_append.1 hx with z | z
  ·exact v.Ya (h.mai x z hk)
  ·rw [List.mem_singleton.1 z] at hk;exact absurd (show(2:Int)=1 from hk) (by omega)
 ·rcases List.mem_append.1 hx with z | z
  ·have hn:= (h.shr.Xp x z).ntd hk;exact v.rt _ (by omega) _ _ (h.ntd x z hk)
  ·rw [List.mem_singleton.1 z] at hk;exact absurd (show(2:Int)=3 from hk) (by omega)
theorem ZCo (w:Zb) (p:Nat) (to:Int):owes (Kc w p to).1=owes w:=by
 unfold owes;rw [ZcP,Kr,Zca (show(ZgW w p to).kind ≠ 1 by show(2:Int) ≠ 1;omega),List.append_nil]
 rfl
end
end Go.Proofs.YtbmbbcaaimehkaaGreat
end
section
namespace Go.Proofs.YtbmbbcaaimehkaaGreat
open Go.Lf
section
variable {w:Zb}
theorem Wm.nodup (h:Wm w) {x:Zd} (hx:x ∈ w.qG) (hk:x.kind=2):x.qV.Nodup:=by
 rw [List.nodup_iff_count];intro a;by_cases ha:a ∈ x.qV
 ·obtain⟨i,hi,rfl⟩:=List.getElem_of_mem ha;have e0:x.qV.getD i 0=x.qV[i]:=YH hi;have hp:= (h.shr.Xp x hx).KD i hi;unfold K7 at hp;rw [e0] at hp;obtain⟨p,e⟩:∃ p:Nat,x.qV[i]= (p:Int):= ⟨x.qV[i].toNat,by omega⟩
  have hl:=h.loc p (by omega);unfold YM at hl;rw [List.length_append] at hl;have h1:=Zs5 hx p;have h2:WU x p=WB x p x.qV.length:=by unfold WU;rw [if_pos hk]
  rw [h2,ZdE x p _ (Nat.le_refl _),List.take_of_length_le (Nat.le_refl _)] at h1;rw [e];omega
 ·rw [List.count_eq_zero_of_not_mem ha];omega
theorem Wm.mvl (h:Wm w) {x:Zd} (hx:x ∈ w.qG) (hk:x.kind=2):MvL w x x.Z9.toNat:=by
 have hl:=h.shr.Xp x hx;have h8:=h.shr.KA.p2;have Zyz:∀ i,i < x.qV.length ->Ka (x.qV.getD i 0) w.Zv.length:=fun i hi=>⟨(hl.KD i hi).1,(hl.KD i hi).2.1⟩
 have hsub:x.qV ⊆ Xe w.Zv.length:=fun a ha=>by
  have:= (WK (d:= (0:Int)) (P:=fun a=>Ka a w.Zv.length)).1 Zyz a ha;unfold Ka at this;unfold Xe;exact List.mem_map.2 ⟨a.toNat,List.mem_range.2 (by omega),by show((a.toNat:Nat):Int)=a;omega⟩
 have hlen:= (h.nodup hx hk).length_le_of_subset hsub;rw [XL] at hlen;exact⟨by have:=hl.to1;omega,by have:=hl.to1;have:=hl.to2;omega,hl.Xc.len,by omega,Zyz⟩
structure Car (w:Zb) (k:Nat):Prop where
 hk:k < w.qG.length
 two:(ZF w k).kind=2
theorem Car.mem {k:Nat} (c:Car w k):ZF w k ∈ w.qG:=Yn c.hk
theorem ZqW (h:Wm w) {k:Nat} (c:Car w k) {i q:Nat} (hi:i < (ZF w k).qV.length) (hq:(ZF w k).qV.getD i 0= (q:Int)):
 q < w.Zv.length∧sp w q= ⟨(ZF w k).Z9,false,(ZF w k).Yj.getD i 0⟩∧Xj w q w.qQ.length= []∧X8 (w.qG.take k) q= []∧X8 (w.qG.drop (k + 1)) q= []:=by
 have hp:= (h.shr.Xp _ c.mem).KD i hi;unfold K7 at hp;rw [hq] at hp;have hql:q < w.Zv.length:=by omega
 have hl:=h.loc q hql;have e:=Zou c.two (h.nodup c.mem c.two) hi hq;unfold YM at hl;rw [KM c.hk,e] at hl;simp only [List.length_append,List.length_singleton] at hl;have e1:=List.length_eq_zero_iff.1 (show(Xj w q w.qQ.length).length=0 by omega);have e2:=List.length_eq_zero_iff.1 (show(X8 (w.qG.take k) q).length=0 by omega);have e3:=List.length_eq_zero_iff.1 (show(X8 (w.qG.drop (k + 1)) q).length=0 by omega);refine⟨hql,Zs9 ?_,e1,e2,e3⟩;unfold YM;rw [KM c.hk,e,e1,e2,e3];rfl
theorem ZtD {l:List Int} {q:Int} (h:q ∈ l):∃ i,i < l.length∧l.getD i 0=q:=by
 obtain⟨i,hi,e⟩:=List.getElem_of_mem h;exact⟨i,hi,(YH hi).trans e⟩
theorem ZcO (h:Wm w) {k:Nat} (c:Car w k) {q:Nat} (hq:(q:Int) ∈ (ZF w k).qV):
 q < w.Zv.length∧sp w q= ⟨(ZF w k).Z9,false,(sp w q).age⟩∧Xj w q w.qQ.length= []∧X8 (w.qG.take k) q= []∧X8 (w.qG.drop (k + 1)) q= []:=by
 obtain⟨i,hi,e⟩:=ZtD hq;have:=ZqW h c hi e;exact⟨this.1,by rw [this.2.1],this.2.2⟩
theorem ZiE (h:Wm w) {k j:Nat} (hk:k < w.qG.length) (hj:j < w.qG.length) {q:Nat} (hq:q < w.Zv.length) (h1:(q:Int) ∈ (ZF w k).qV) (h2:(q:Int) ∈ (ZF w j).qV):k=j:=by
 have hl:(QF w q).length=1:=by rw [← len_eq h.shr.two];exact h.loc q hq
 have a:=Zew hl hk h1;have b:=Zew hl hj h2;rw [a] at b;omega
theorem ZJM (h:Wm w) {k:Nat} (c:Car w k):∀ j,j <= (ZF w k).qV.length ->∀ m' q:Nat,E (Qh (Yb w k) (ZF w k) j) m' q=if m'= (ZF w k).Z9.toNat∧(q:Int) ∈ (ZF w k).qV.take j then⟨true,(ZF w k).Z9,(sp w q).age⟩ else E w m' q:=by
 have v:=h.mvl c.mem c.two;have v':MvL (Yb w k) (ZF w k) (ZF w k).Z9.toNat:= ⟨v.Z9,v.hm,v.len,v.few,v.rng⟩
 intro j
 induction j with
 | zero=>intro _ m' q;rw [if_neg (by simp)];rfl
 | succ j ih=>
   intro hj m' q;have hp:=v'.KD (i:=j) (by omega);have hi:=Qt (Yb w k) (ZF w k) j;have wi:=ZqW h c (i:=j) (q:=KD (ZF w k) j) (by omega) hp.1;show E (setW (Qh (Yb w k) (ZF w k) j) (ZF w k).Z9.toNat (KD (ZF w k) j) ⟨true,(ZF w k).Z9,(ZF w k).Yj.getD j 0⟩) m' q=_;rw [Zoc (ZgD (h.shr.KA.Yb k) v' j) (by rw [hi.2.2.2.2.2];exact v'.hm) (by rw [hi.1];exact hp.2),ih (by omega)];by_cases e:m'= (ZF w k).Z9.toNat∧q=KD (ZF w k) j
   ·rw [if_pos e,if_pos ⟨e.1,(Qx (by omega)).2 (.inr (by rw [e.2,← hp.1,YH (by omega)]))⟩,e.2,wi.2.1]
   ·rw [if_neg e];by_cases d:m'= (ZF w k).Z9.toNat∧(q:Int) ∈ (ZF w k).qV.take j
    ·rw [if_pos d,if_pos ⟨d.1,(Qx (by omega)).2 (.inl d.2)⟩]
    ·rw [if_neg d,if_neg];rintro⟨d1,d2⟩;rcases(Qx (by omega)).1 d2 with z | z
     ·exact d ⟨d1,z⟩
     ·rw [← YH (d:= (0:Int)) (by omega),hp.1] at z;exact e ⟨d1,by omega⟩
def WW (w:Zb) (k:Nat):Zb:= (ZdS (Yb w k) (ZF w k)).1
theorem ZdT (w:Zb) (k:Nat):(WW w k).Zv=w.Zv∧(WW w k).qG= (Yb w k).qG∧(WW w k).said=w.said∧(WW w k).qQ= (Qh (Yb w k) (ZF w k) (ZF w k).qV.length).qQ∧(WW w k).qK.length=w.qK.length∧(WW w k).qJ.length=w.qJ.length∧(WW w k).qQ.length=w.qQ.length:=by
 have a:=KV (Yb w k) (ZF w k) (ZF w k).qV.length;have b:=Qt (Yb w k) (ZF w k) (ZF w k).qV.length;exact⟨a.1,a.2.1,a.2.2.1,a.2.2.2.1,a.2.2.2.2.1,a.2.2.2.2.2,by rw [show(WW w k).qQ=_ from a.2.2.2.1];exact b.2.2.2.2.2⟩
theorem Zlw (h:Wm w) {k:Nat} (c:Car w k) (m' q:Nat):E (WW w k) m' q=if m'= (ZF w k).Z9.toNat∧(q:Int) ∈ (ZF w k).qV then⟨true,(ZF w k).Z9,(sp w q).age⟩ else E w m' q:=by
 rw [ZqJ (ZdT w k).2.2.2.1,ZJM h c _ (Nat.le_refl _),List.take_of_length_le (Nat.le_refl _)]
theorem Zpc (h:Wm w) {k:Nat} (c:Car w k) {q:Nat} (hq:q < w.Zv.length):YM (WW w k) q=if(q:Int) ∈ (ZF w k).qV then [⟨(ZF w k).Z9,true,(sp w q).age⟩] else YM w q:=by
 have v:=h.mvl c.mem c.two;have i:=ZdT w k;unfold YM;rw [i.2.1,i.2.2.2.2.2.2,ZfB];by_cases d:(q:Int) ∈ (ZF w k).qV
 ·have b:=ZcO h c d;rw [if_pos d,b.2.2.2.1,b.2.2.2.2];have e1:E (WW w k) (ZF w k).Z9.toNat q= ⟨true,(ZF w k).Z9,(sp w q).age⟩:=by rw [Zlw h c,if_pos ⟨rfl,d⟩]
  have:=Zvs (w:=WW w k) (p:=q) (m:= (ZF w k).Z9.toNat) (by rw [e1]) (k:=w.qQ.length) v.hm fun m' hm' hne=>by
   rw [Zlw h c,if_neg fun z=>hne z.1];exact ZpG b.2.2.1 m' hm'
  rw [this,e1,← v.Z9];rfl
 ·rw [if_neg d,Zah (w:=w) fun m' _=>by rw [Zlw h c,if_neg fun z=>d z.2]];congr 1;rw [KM c.hk,Zlm d,List.append_nil]
theorem Zms (h:Wm w) {k:Nat} (c:Car w k) {q:Nat} (hq:q < w.Zv.length):sp (WW w k) q=if(q:Int) ∈ (ZF w k).qV then⟨(ZF w k).Z9,true,(sp w q).age⟩ else sp w q:=by
 have:=Zpc h c hq;by_cases d:(q:Int) ∈ (ZF w k).qV
 ·rw [if_pos d] at this ⊢;exact Zs9 this
 ·rw [if_neg d] at this ⊢;exact JX this
theorem ZtC (h:Wm w) {k:Nat} (c:Car w k) {q:Nat} (hq:q < w.Zv.length):(sp (WW w k) q).machine= (sp w q).machine∧(sp (WW w k) q).age= (sp w q).age:=by
 rw [Zms h c hq];by_cases d:(q:Int) ∈ (ZF w k).qV
 ·rw [if_pos d,(ZcO h c d).2.1];exact⟨rfl,rfl⟩
 ·rw [if_neg d];exact⟨rfl,rfl⟩
theorem ZGY (h:Wm w) {k:Nat} (c:Car w k):Mv w (WW w k):=by
 have i:=ZdT w k;have v:=h.mvl c.mem c.two;refine Mv.of (by rw [i.1]) i.2.2.2.2.2.2 (fun m q hq=>?_) fun q hq=>.inl (ZtC h c hq)
 rw [Zlw h c];by_cases e:m= (ZF w k).Z9.toNat∧(q:Int) ∈ (ZF w k).qV
 ·rw [if_pos e,e.1];have b:=ZcO h c e.2;exact(h.ent _ v.hm q hq (ZpG b.2.2.1 _ v.hm)).2.1
 ·rw [if_neg e];exact Int.le_refl _
theorem ZrG (u:Zb) (x:Zd) (s:W9 u) (v:MvL u x x.Z9.toNat):∀ j,j <=x.qV.length ->∀ m',∀ y ∈ ZH (Yw u x j).1 m',y ∈ ZH u m'∧(m'=x.Z9.toNat ->y.place ∉ x.qV.take j):=by
 intro j
 induction j with
 | zero=>
   intro _ m' y hy;refine⟨?_,fun _=>by simp⟩;have:ZH (Yw u x 0).1 m'=ZH u m':=by unfold ZH;rw [show(Yw u x 0).1.qJ=u.qJ from(Qt u x _).2.2.1]
   rw [← this];exact hy
 | succ j ih=>
   intro hj m' y hy;have hs:=KE s v j;have li:=KV u x j;have ci:=Qt u x x.qV.length;have hp:=v.KD (i:=j) (by omega);have hy':y ∈ ZH (ZaQ (Yw u x j).1 x.Z9.toNat (KD x j)) m':=hy;rw [Zcl hs (by rw [li.2.2.2.1,ci.2.2.2.2.2];exact v.hm)] at hy';by_cases e:m'=x.Z9.toNat
   ·rw [if_pos e] at hy';have⟨h1,h2⟩:=List.mem_filter.1 hy';have:=ih (by omega) _ y h1;rw [e];refine⟨this.1,fun _ z=>?_⟩;rcases(Qx (by omega)).1 z with a | a
    ·exact this.2 rfl a
    ·rw [← YH (d:= (0:Int)) (by omega),hp.1] at a;unfold WM at h2;rw [a] at h2;simp at h2
   ·rw [if_neg e] at hy';have:=ih (by omega) _ y hy';exact⟨this.1,fun z=>absurd z e⟩
theorem Zx1 (h:Wm w) {k:Nat} (c:Car w k) {m':Nat} {y:Zr} (hy:y ∈ ZH (WW w k) m'):y ∈ ZH w m'∧(m'= (ZF w k).Z9.toNat ->y.place ∉ (ZF w k).qV):=by
 have v:=h.mvl c.mem c.two;have:=ZrG (Yb w k) (ZF w k) (h.shr.KA.Yb k) ⟨v.Z9,v.hm,v.len,v.few,v.rng⟩ (ZF w k).qV.length (Nat.le_refl _) m' y hy;rw [List.take_of_length_le (Nat.le_refl _)] at this;exact this
theorem ZGW (h:Wm w) {k:Nat} (c:Car w k):Wm (WW w k):=by
 have v:=ZGY h c;have vl:=h.mvl c.mem c.two;have i:=ZdT w k;have S:=h.shr.KA;have el:=i.2.2.2.2.2.2;have hx2:= (h.shr.Xp _ c.mem)
 have hs:=KE (S.Yb k) (x:=ZF w k) (m:= (ZF w k).Z9.toNat) ⟨vl.Z9,vl.hm,vl.len,vl.few,vl.rng⟩ (ZF w k).qV.length;have hw:∀ x,x ∈ (WW w k).qG ->x ∈ w.qG:=fun x hx=>by rw [i.2.1] at hx;exact Zda hx
 refine⟨⟨hs,h.shr.inn.eq i.1,by rw [i.2.2.1];exact h.shr.sd1,by rw [i.2.2.1];exact h.shr.sd2,fun m hm q hq=>?_,fun x hx=>v.Xp (h.shr.Xp x (hw x hx))⟩,fun q hq=>?_,fun q hq hz=>?_,fun m hm q hq hh=>?_,fun m hm y hy=>?_,fun x hx hk=>v.Ya (h.mai x (hw x hx) hk),fun x hx hk=>?_⟩
 ·rw [el] at hm;rw [i.1] at hq;unfold Zef;rw [Zlw h c,el];by_cases e:m= (ZF w k).Z9.toNat∧(q:Int) ∈ (ZF w k).qV
  ·rw [if_pos e];obtain⟨j,hj,ej⟩:=ZtD e.2;have b:=ZqW h c hj ej;have p:=hx2.KD j hj;unfold K7 at p;rw [b.2.1];exact⟨by dsimp only;omega,by dsimp only;omega,hx2.to1,hx2.to2,⟨fun _=>by rw [e.1];exact vl.Z9,fun _=>rfl⟩⟩
  ·rw [if_neg e];exact h.shr.ent m hm q hq
 ·rw [i.1] at hq;rw [Zpc h c hq];by_cases d:(q:Int) ∈ (ZF w k).qV
  ·rw [if_pos d];rfl
  ·rw [if_neg d];exact h.loc q hq
 ·rw [i.1] at hq;rw [Zmx i.1] at hz ⊢;obtain⟨r,er,hr⟩:=J5 (h.shr.inn.rng q hq) (by omega);have tg:=h.tog q hq hz;rw [er,Int.toNat_natCast] at tg ⊢;rw [Zms h c hq,Zms h c hr]
  have iff:(q:Int) ∈ (ZF w k).qV↔(r:Int) ∈ (ZF w k).qV:=by
   have key:(sp w q).here=false ->∃ j,j < w.qG.length∧(q:Int) ∈ (ZF w j).qV∧(r:Int) ∈ (ZF w j).qV:=fun z=>by
    obtain⟨y,hy,_,a,b⟩:=tg.2.2 z;obtain⟨j,hj,e⟩:=List.getElem_of_mem hy;have e':ZF w j=y:= (YH hj).trans e;exact⟨j,hj,by rw [e'];exact a,by rw [e'];exact b⟩
   constructor
   ·intro z;obtain⟨j,hj,a,b⟩:=key (by rw [(ZcO h c z).2.1]);rw [ZiE h c.hk hj hq z a];exact b
   ·intro z;obtain⟨j,hj,a,b⟩:=key (by rw [← tg.2.1,(ZcO h c z).2.1]);rw [ZiE h c.hk hj hr z b];exact a
  by_cases d:(q:Int) ∈ (ZF w k).qV
  ·rw [if_pos d,if_pos (iff.1 d)];exact⟨rfl,rfl,fun z=>by cases z⟩
  ·rw [if_neg d,if_neg fun z=>d (iff.2 z)];refine⟨tg.1,tg.2.1,fun z=>?_⟩;obtain⟨x,hx,kk,a,b⟩:=tg.2.2 z;refine⟨x,?_,kk,a,b⟩;rw [i.2.1];rw [KI c.hk] at hx;rcases List.mem_append.1 hx with y | y
   ·exact List.mem_append.2 (.inl y)
   ·rcases List.mem_cons.1 y with y | y
    ·rw [y] at a;exact absurd a d
    ·exact List.mem_append.2 (.inr y)
 ·rw [el] at hm;rw [i.1] at hq;rw [Zlw h c] at hh ⊢;by_cases e:m= (ZF w k).Z9.toNat∧(q:Int) ∈ (ZF w k).qV
  ·rw [if_pos e] at hh;cases hh
  ·rw [if_neg e] at hh ⊢;exact v.rt q hq _ _ (h.ent m hm q hq hh)
 ·rw [el] at hm;have a:=Zx1 h c hy;have b:=h.hel m hm y a.1;have hp1:=b.1.1;have hp2:=b.1.2.1;obtain⟨q,eq⟩:∃ q:Nat,y.place= (q:Int):= ⟨y.place.toNat,by omega⟩
  have b2:=b.2;rw [eq,Int.toNat_natCast] at b2 ⊢
  have d:(q:Int) ∉ (ZF w k).qV:=fun z=>by
   have e:= (ZcO h c z).2.1;rw [b2] at e;injection e with e1 _ _
   exact a.2 (by omega) (by rw [eq];exact z)
  rw [Zms h c (by omega),if_neg d];exact⟨v.Ya b.1,b2⟩
 ·have hn:= (h.shr.Xp x (hw x hx)).ntd hk;exact v.rt _ (by omega) _ _ (h.ntd x (hw x hx) hk)
theorem ZHm {u:Zb} (s:W9 u) {m p:Nat} (hm:m < u.qQ.length) (hp:p < u.Zv.length) (a:Int×Int):(owes (ZaQ u m p)).count a= (owes u).count a:=by
 have h1:=Zts u (ZaQ u m p) (p:=p) (by rw [s.bx];exact hp) (l:= ((ZH u m).filter (WM p)).map fun y=>y.msg) rfl a;have h2:=Ztr u (ZaQ u m p) (m:=m) (by rw [s.hd];exact hm) (l:= (ZH u m).filter fun y=>!WM p y) rfl a
 have h3:((ZH u m).map fun y=>(y.msg,y.place)).count a= (((ZH u m).filter (WM p)).map fun y=>(y.msg,(p:Int))).count a + (((ZH u m).filter fun y=>!WM p y).map fun y=>(y.msg,y.place)).count a:=by
  generalize ZH u m=l
  induction l with
  | nil=>rfl
  | cons y l ih=>
    cases e:WM p y with
    | true=>
      have e':y.place= (p:Int):=by unfold WM at e;simpa using e
      rw [List.filter_cons_of_pos (by simp [e]),List.filter_cons_of_neg (by simp [e]),List.map_cons,List.map_cons,List.count_cons,List.count_cons,ih,e'];omega
    | false=>rw [List.filter_cons_of_neg (by simp [e]),List.filter_cons_of_pos (by simp [e]),List.map_cons,List.map_cons,List.count_cons,List.count_cons,ih];omega
 rw [List.map_map] at h1;have h1':(owB (ZaQ u m p)).count a= (owB u).count a + (((ZH u m).filter (WM p)).map fun y=>(y.msg,(p:Int))).count a:=h1;unfold owes;rw [List.count_append,List.count_append,List.count_append,List.count_append];show _ + _ + (owL u.qG).count a=_;omega
theorem Zyd {u:Zb} (s:W9 u) {x:Zd} (v:MvL u x x.Z9.toNat) (a:Int×Int):∀ j,j <=x.qV.length ->(owes (Yw u x j).1).count a= (owes u).count a:=by
 intro j
 induction j with
 | zero=>
   intro _;have ci:=Qt u x x.qV.length
   have e:owes (Yw u x 0).1=owes u:=by
    show owes (Qh u x x.qV.length)=_;unfold owes owB owH Xt ZH;rw [ci.2.1,ci.2.2.1,ci.2.2.2.1]
   rw [e]
 | succ j ih=>
   intro hj;have hs:=KE s v j;have li:=KV u x j;have ci:=Qt u x x.qV.length;have hp:=v.KD (i:=j) (by omega);show(owes (ZaQ (Yw u x j).1 x.Z9.toNat (KD x j))).count a=_;rw [ZHm hs (by rw [li.2.2.2.1,ci.2.2.2.2.2];exact v.hm) (by rw [li.1];exact hp.2),ih (by omega)]
theorem Zlu {k:Nat} (hk:k < w.qG.length) (a:Int×Int):(owes (Yb w k)).count a + (owL [ZF w k]).count a= (owes w).count a:=by
 unfold owes;rw [Zlv hk];show List.count a (owB w ++ owH w ++ owL (w.qG.take k ++ w.qG.drop (k + 1))) + _=_;rw [Kr];simp only [List.count_append];omega
theorem ZGX (h:Wm w) {k:Nat} (c:Car w k) (a:Int×Int):(owes (WW w k)).count a= (owes w).count a:=by
 have v:=h.mvl c.mem c.two;have e:=Zyd (h.shr.KA.Yb k) (x:=ZF w k) ⟨v.Z9,v.hm,v.len,v.few,v.rng⟩ a (ZF w k).qV.length (Nat.le_refl _);have d:=Zlu c.hk a;rw [Zca (by rw [c.two];omega)] at d;show List.count a (owes (Yw (Yb w k) (ZF w k) (ZF w k).qV.length).1)=_;rw [e]
 simpa using d
theorem Zi0 {k:Nat} (e:(ZF w k).kind=1):Qz w k=Qa (Yb w k) (ZF w k).Z9.toNat (ZF w k).Ya false:=by unfold Qz;rw [if_pos e]
theorem ZiZ {k:Nat} (e:(ZF w k).kind=2):Qz w k=ZdS (Yb w k) (ZF w k):=by unfold Qz;rw [if_neg (by omega),if_pos e]
theorem ZiY {k:Nat} (e:(ZF w k).kind=3):Qz w k= (Us (Yb w k) (ZF w k),[]):=by unfold Qz;rw [if_neg (by omega),if_neg (by omega)]
theorem Zag (h:Wm w) {x:Zd} (hx:x ∈ w.qG):x.kind=1∨x.kind=2∨x.kind=3:=by
 rcases(h.shr.Xp x hx).Xc with⟨q,_⟩ | ⟨q,_⟩ | ⟨q,_⟩
 ·exact .inl q
 ·exact .inr (.inl q)
 ·exact .inr (.inr q)
theorem Zfd {k:Nat} (hk:k < w.qG.length) (h2:(ZF w k).kind ≠ 2) (p:Nat):YM (Yb w k) p=YM w p:=
 Zce rfl (by rw [KM hk,ZlY h2,ZfB,List.append_nil])
theorem ZiX (h:Wm w) {k:Nat} (hk:k < w.qG.length) (e:(ZF w k).kind=1):Rtd (Yb w k) (ZF w k).Z9.toNat (ZF w k).Ya false:=by
 have hx:ZF w k ∈ w.qG:=Yn hk;have hl:=h.shr.Xp _ hx;have hm:=h.mai _ hx e;have v:Mv w (Yb w k):=Mv.same rfl rfl fun p _=>Zfd hk (by omega) p
 have t1:=hl.to1;have t2:=hl.to2;refine⟨by show(ZF w k).Z9.toNat < w.qQ.length;omega,⟨hm.1,hm.2.1⟩,⟨hm.2.2.1,hm.2.2.2.1⟩,fun _=>?_,fun z=>by cases z⟩;rw [Int.toNat_of_nonneg t1];exact v.Ya hm
theorem ZxF (h:Wm w) {k:Nat} (hk:k < w.qG.length) (e:(ZF w k).kind=3):Wm (Us (Yb w k) (ZF w k)):=by
 have hx:ZF w k ∈ w.qG:=Yn hk;have hl:=h.shr.Xp _ hx;have hd:=Zh4 h hk (by omega);have v:Mv w (Yb w k):=Mv.same rfl rfl fun p _=>Zfd hk (by omega) p
 have t1:=hl.to1;have t2:=hl.to2;have hn:=hl.ntd e;unfold Us;split
 ·rename_i c;refine ZCO hd (by show _ < w.qQ.length;omega) (by show _ < w.Zv.length;omega) c.1 c.2 (v.rt _ (by omega) _ _ (h.ntd _ hx e)) ?_;rw [Int.toNat_of_nonneg t1];exact hn.2.2
 ·exact hd
theorem ZtH (h:Wm w) {k:Nat} (hk:k < w.qG.length):Wm (Qz w k).1:=by
 rcases Zag h (x:=ZF w k) (Yn hk) with e | e | e
 ·rw [Zi0 e];exact ZoQ (Zh4 h hk (by omega)) (ZiX h hk e)
 ·rw [ZiZ e];exact ZGW h ⟨hk,e⟩
 ·rw [ZiY e];exact ZxF h hk e
theorem Zbb (u:Zb) (x:Zd):(Us u x).Zv=u.Zv∧(Us u x).qK=u.qK∧(Us u x).qJ=u.qJ∧(Us u x).qG=u.qG∧(Us u x).said=u.said∧(Us u x).qQ.length=u.qQ.length:=by
 unfold Us;split
 ·exact⟨rfl,rfl,rfl,rfl,rfl,Zb0 _ _ _ _⟩
 ·exact⟨rfl,rfl,rfl,rfl,rfl,rfl⟩
theorem Zrb {u u':Zb} (h1:u'.qK=u.qK) (h2:u'.qJ=u.qJ) (h3:u'.qG=u.qG):owes u'=owes u:=by
 unfold owes owB owH Xt ZH;rw [h1,h2,h3]
theorem Zmw (h:Wm w) {k:Nat} (hk:k < w.qG.length) (a:Int×Int):(owes (Qz w k).1).count a= (owes w).count a:=by
 have d:=Zlu hk a;rcases Zag h (x:=ZF w k) (Yn hk) with e | e | e
 ·rw [Zi0 e,ZoR (Zh4 h hk (by omega)) (ZiX h hk e)];rw [ZaL e] at d;exact d
 ·rw [ZiZ e];exact ZGX h ⟨hk,e⟩ a
 ·rw [ZiY e];have n:=Zbb (Yb w k) (ZF w k);rw [Zca (by omega)] at d;show(owes (Us (Yb w k) (ZF w k))).count a=_;rw [Zrb n.2.1 n.2.2.1 n.2.2.2.1];simpa using d
theorem Zb1 (u:Zb) (m:Nat) (x:Zr) (now:Bool):(Qa u m x now).1.Zv=u.Zv∧(Qa u m x now).1.qQ=u.qQ∧(Qa u m x now).1.said=u.said∧(Qa u m x now).1.qG.length <=u.qG.length + 2∧(now=true ->(Qa u m x now).1.qG.length <=u.qG.length + 1):=by
 unfold Qa;split
 ·exact⟨rfl,rfl,rfl,by dsimp only;omega,fun _=>by dsimp only;omega⟩
 ·split
  ·exact⟨rfl,rfl,rfl,by dsimp only;omega,fun _=>by dsimp only;omega⟩
  ·refine⟨rfl,rfl,rfl,?_,fun e=>?_⟩
   ·show(u.qG ++ _::told _ _ _ _).length <=_;rw [List.length_append,List.length_cons];unfold told;split <;> simp
   ·show(u.qG ++ _::told _ _ _ _).length <=_;rw [List.length_append,List.length_cons];unfold told;rw [e,if_neg (by simp)];simp
theorem ZfZ (h:Wm w) {k:Nat} (hk:k < w.qG.length):(Qz w k).1.Zv=w.Zv∧(Qz w k).1.qQ.length=w.qQ.length∧(Qz w k).1.said=w.said∧(Qz w k).1.qG.length <=w.qG.length + 1:=by
 have dl:=ZgA w hk;rcases Zag h (x:=ZF w k) (Yn hk) with e | e | e
 ·rw [Zi0 e];have r:=Zb1 (Yb w k) (ZF w k).Z9.toNat (ZF w k).Ya false;exact⟨r.1,by rw [r.2.1];rfl,r.2.2.1,by omega⟩
 ·rw [ZiZ e];have r:=ZdT w k;exact⟨r.1,r.2.2.2.2.2.2,r.2.2.1,by show(WW w k).qG.length <=_;rw [r.2.1];omega⟩
 ·rw [ZiY e];have r:=Zbb (Yb w k) (ZF w k);exact⟨r.1,r.2.2.2.2.2,r.2.2.2.2.1,by show(Us _ _).qG.length <=_;rw [r.2.2.2.1];omega⟩
structure May (w:Zb) (s:ZC):Prop where
 ask:Ask w s
 lim:lim w s=false
 alw:Alw w s
theorem Zmu {s:ZC}:May w s↔Ask w s∧ZnG w s=0:=by
 rw [ZOG];exact⟨fun a=>⟨a.ask,a.lim,a.alw⟩,fun a=>⟨a.1,a.2.1,a.2.2⟩⟩
theorem Ztd (h:Wm w) {s:ZC} (ha:Ka s.a w.qQ.length) (hb:Ka s.b w.Zv.length):Rtd (Zg0 w) s.a.toNat (ZuZ w s) true:=
 ⟨by obtain⟨x,y⟩:=ha;show s.a.toNat < w.qQ.length;omega,hb,ha,fun z=>(by cases z),fun _=>⟨rfl,rfl⟩⟩
theorem May.trv {s:ZC} (m:May w s) (c:s.act=2):Trv w s.a.toNat s.b:=by
 have hin:Ka s.a w.Zv.length∧Ka s.b w.qQ.length:=by
  rcases m.ask with q | q | q | q | q
  ·omega
  ·exact q.2
  ·omega
  ·omega
  ·omega
 have hA:=m.alw.1 c;obtain⟨⟨a1,a2⟩,hb⟩:=hin;refine⟨by omega,hA.1,hA.2,hb,fun q hq=>?_⟩;have hl:=m.lim;unfold Proofs.YtbmbbcaaimehkaaGreat.lim at hl;rw [if_neg (by omega),if_pos c] at hl;have:=List.any_eq_false.1 hl (q:Int) hq;unfold old at this;rw [Int.toNat_natCast,decide_eq_true_eq] at this;omega
theorem May.ent {s:ZC} (m:May w s) (c:s.act=3):∃ p q:Nat,s.a= (p:Int)∧s.b= (q:Int)∧p < w.Zv.length∧q < w.Zv.length∧(q:Int) ∉ Yu w p∧inn w (p:Int)=-1∧(sp w p).here=true∧(sp w q).here=true∧(sp w p).machine= (sp w q).machine:=by
 have hin:Ka s.a w.Zv.length∧Ka s.b w.Zv.length:=by
  rcases m.ask with q | q | q | q | q
  ·omega
  ·omega
  ·exact q.2
  ·omega
  ·omega
 obtain⟨p,ep,hp⟩:=hin.1.nat;obtain⟨q,eq,hq⟩:=hin.2.nat;have hA:=m.alw.2.1 c;rw [ep,eq,Int.toNat_natCast,Int.toNat_natCast] at hA;exact⟨p,q,ep,eq,hp,hq,hA.1,hA.2.1,hA.2.2.1,hA.2.2.2.1,hA.2.2.2.2⟩
theorem May.lev {s:ZC} (m:May w s) (c:s.act=4):∃ p:Nat,s.a= (p:Int)∧p < w.Zv.length∧(sp w p).here=true∧inn w (p:Int) ≠ -1:=by
 have hin:Ka s.a w.Zv.length:=by
  rcases m.ask with q | q | q | q | q
  ·omega
  ·omega
  ·omega
  ·exact q.2
  ·omega
 obtain⟨p,ep,hp⟩:=hin.nat;have hA:=m.alw.2.2 c;rw [ep,Int.toNat_natCast] at hA;exact⟨p,ep,hp,hA⟩
theorem May.lnd {s:ZC} (m:May w s) (c:s.act=5):s.a.toNat < w.qG.length:=by
 rcases m.ask with q | q | q | q | q
 ·omega
 ·omega
 ·omega
 ·omega
 ·obtain⟨_,a,b⟩:=q;omega
theorem May.say {s:ZC} (m:May w s) (c:s.act=1):Ka s.a w.qQ.length∧Ka s.b w.Zv.length:=by
 rcases m.ask with q | q | q | q | q
 ·exact q.2
 ·omega
 ·omega
 ·omega
 ·omega
theorem May.act {s:ZC} (m:May w s):s.act=1∨s.act=2∨s.act=3∨s.act=4∨s.act=5:=by
 rcases m.ask with q | q | q | q | q
 ·exact .inl q.1
 ·exact .inr (.inl q.1)
 ·exact .inr (.inr (.inl q.1))
 ·exact .inr (.inr (.inr (.inl q.1)))
 ·exact .inr (.inr (.inr (.inr q.1)))
theorem do1 {s:ZC} (c:s.act=1):doW w s=Qa (Zg0 w) s.a.toNat (ZuZ w s) true:=by unfold doW;rw [if_pos c]
theorem do2 {s:ZC} (c:s.act=2):doW w s=Kc w s.a.toNat s.b:=by unfold doW;rw [if_neg (by omega),if_pos c]
theorem do3 {s:ZC} (c:s.act=3):doW w s= (Zaa w s.a s.b,[]):=by unfold doW;rw [if_neg (by omega),if_neg (by omega),if_pos c]
theorem do4 {s:ZC} (c:s.act=4):doW w s= (Zaa w s.a (-1),[]):=by unfold doW;rw [if_neg (by omega),if_neg (by omega),if_neg (by omega),if_pos c]
theorem do5 {s:ZC} (c:s.act=5):doW w s=Qz w s.a.toNat:=by unfold doW;rw [if_neg (by omega),if_neg (by omega),if_neg (by omega),if_neg (by omega)]
theorem ZOT (h:Wm w) {s:ZC} (m:May w s):Wm (doW w s).1:=by
 rcases m.act with c | c | c | c | c
 ·rw [do1 c];have:=m.say c;exact ZoQ (Ztf h (ZiT c m.lim)) (Ztd h this.1 this.2)
 ·rw [do2 c];exact ZCn h (m.trv c)
 ·rw [do3 c];obtain⟨p,q,ep,eq,hp,hq,hn,hi,h1,h2,h3⟩:=m.ent c;rw [ep,eq];refine Zxn h hp (ZBF h.shr.inn hp hq fun z=>hn ((Zaw h.shr.inn).2 ⟨hq,z⟩)) fun _=>?_
  rw [Int.toNat_natCast];exact⟨h3.symm,h2,h1⟩
 ·rw [do4 c];obtain⟨p,ep,hp,h1,h2⟩:=m.lev c;rw [ep];exact Zxn h hp (Zfs h.shr.inn hp) fun z=>absurd z (by omega)
 ·rw [do5 c];exact ZtH h (m.lnd c)
def Zpa (w:Zb) (s:ZC):List (Int×Int):=if s.act=1 then [(w.said,s.b)] else []
theorem ZF2 (h:Wm w) {s:ZC} (m:May w s):(owes (doW w s).1).Perm (owes w ++ Zpa w s):=by
 refine List.perm_iff_count.2 fun a=>?_
 rw [List.count_append];unfold Zpa;rcases m.act with c | c | c | c | c
 ·have:=m.say c;rw [do1 c,if_pos c,ZoR (Ztf h (ZiT c m.lim)) (Ztd h this.1 this.2)];rfl
 ·rw [do2 c,if_neg (by omega),ZCo];rfl
 ·rw [do3 c,if_neg (by omega)];rfl
 ·rw [do4 c,if_neg (by omega)];rfl
 ·rw [do5 c,if_neg (by omega),Zmw h (m.lnd c)];rfl
theorem ZnK (h:Wm w) {s:ZC} (m:May w s):(doW w s).1.Zv.length=w.Zv.length∧(doW w s).1.qQ.length=w.qQ.length∧(doW w s).1.said=w.said + (if s.act=1 then 1 else 0)∧(doW w s).1.qG.length <=w.qG.length + 1:=by
 rcases m.act with c | c | c | c | c
 ·rw [do1 c,if_pos c];have r:=Zb1 (Zg0 w) s.a.toNat (ZuZ w s) true;exact⟨by rw [r.1];rfl,by rw [r.2.1];rfl,by rw [r.2.2.1];rfl,r.2.2.2.2 rfl⟩
 ·rw [do2 c,if_neg (by omega)];exact⟨Zij _ _ _,Zet _ _ _,by rw [Int.add_zero];rfl,by rw [ZcP,List.length_append];exact Nat.le_refl _⟩
 ·rw [do3 c,if_neg (by omega)];exact⟨ZeA _ _,rfl,by rw [Int.add_zero];rfl,Nat.le_succ _⟩
 ·rw [do4 c,if_neg (by omega)];exact⟨ZeA _ _,rfl,by rw [Int.add_zero];rfl,Nat.le_succ _⟩
 ·rw [do5 c,if_neg (by omega)];have r:=ZfZ h (m.lnd c);exact⟨by rw [r.1],r.2.1,by rw [r.2.2.1,Int.add_zero],r.2.2.2⟩
theorem ZoZ (n:Nat):Xe (n + 1)=Xe n ++ [(n:Int)]:=by
 unfold Xe;rw [List.range_succ,List.map_append];rfl
theorem ZOU (h:Wd w) {s:ZC} (m:May w s):Wd (doW w s).1:=by
 refine(ZOT h.wm m).wd ?_;have e:= (ZF2 h.wm m).map Prod.fst;rw [WJ,List.map_append,WJ] at e;refine e.trans ?_;rw [(ZnK h.wm m).2.2.1];unfold Zpa;have h0:=h.shr.sd1;by_cases c:s.act=1
 ·rw [if_pos c,if_pos c,show(w.said + 1).toNat=w.said.toNat + 1 by omega,ZoZ,Int.toNat_of_nonneg h0];exact h.msg.append_right _
 ·rw [if_neg c,if_neg c,Int.add_zero]
  simpa using h.msg
theorem ZeO {α:Type} {L:List (List α)} {l:List α} (h:l ∈ L):l.length <=L.flatten.length:=by
 induction L with
 | nil=>cases h
 | cons x L ih=>
   rw [List.flatten_cons,List.length_append];rcases List.mem_cons.1 h with e | e
   ·rw [e];omega
   ·have:=ih e;omega
theorem KJ (h:Wd w) {n:Nat} (hn:41 <=n) (hw:w.qG.length < n):Kl n w:=by
 have S:=h.shr.KA;have hm:=h.msg.length_eq;rw [XL] at hm;have hs:=h.shr.sd2;unfold msgs at hm;rw [List.length_append,List.length_append] at hm;have h8:=S.p2;have h5:=S.m2;have hb:=S.bx;have hd:=S.hd;refine⟨by omega,by omega,by omega,by omega,hw,fun l hl=>?_,fun l hl=>?_,fun l hl=>?_,fun x hx=>?_⟩
 ·have:=ZeO hl;omega
 ·have:=S.rw_ l hl;omega
 ·have:l.length <= (QG w.qJ).length:=by
   have:=ZeO (L:=w.qJ.map fun x=>x.map fun y=>y.msg) (List.mem_map.2 ⟨l,hl,rfl⟩);rw [List.length_map] at this;exact this
  omega
 ·rcases Zag h.wm hx with e | e | e
  ·have:= (h.shr.Xp x hx).Xc;rcases this with⟨q,_,_,_,a,b⟩ | ⟨q,_⟩ | ⟨q,_⟩
   ·rw [a,b];simp;omega
   ·omega
   ·omega
  ·have:=h.mvl hx e;have a:=this.len;have b:=this.few;omega
  ·have:= (h.shr.Xp x hx).Xc;rcases this with⟨q,_⟩ | ⟨q,_⟩ | ⟨q,_,a,b⟩
   ·omega
   ·omega
   ·rw [a,b];simp;omega
end
end Go.Proofs.YtbmbbcaaimehkaaGreat
end
section
namespace Go.Proofs.YtbmbbcaaimehkaaGreat
open Go.Lf
theorem Zr5 {α:Type} (f:α ->Bool) (l:List α):(l.filter f).length + (l.filter fun x=>!f x).length=l.length:=by
 induction l with
 | nil=>rfl
 | cons x l ih=>
   cases e:f x with
   | true=>rw [List.filter_cons_of_pos (by simp [e]),List.filter_cons_of_neg (by simp [e]),List.length_cons,List.length_cons];omega
   | false=>rw [List.filter_cons_of_neg (by simp [e]),List.filter_cons_of_pos (by simp [e]),List.length_cons,List.length_cons];omega
theorem Zvm {u:Zb} (s:W9 u) {x:Zd} (v:MvL u x x.Z9.toNat):∀ j,j <=x.qV.length ->(Yw u x j).2.length + (ZH (Yw u x j).1 x.Z9.toNat).length=j + (ZH u x.Z9.toNat).length:=by
 intro j
 induction j with
 | zero=>
   intro _;have:ZH (Yw u x 0).1 x.Z9.toNat=ZH u x.Z9.toNat:=by unfold ZH;rw [show(Yw u x 0).1.qJ=u.qJ from(Qt u x _).2.2.1]
   rw [this];rfl
 | succ j ih=>
   intro hj;have hs:=KE s v j;have li:=KV u x j;have ci:=Qt u x x.qV.length;have ih:=ih (by omega)
   have e:ZH (Yw u x (j + 1)).1 x.Z9.toNat= (ZH (Yw u x j).1 x.Z9.toNat).filter fun y=>!WM (KD x j) y:=by
    show ZH (ZaQ (Yw u x j).1 x.Z9.toNat (KD x j)) x.Z9.toNat=_;rw [Zcl hs (by rw [li.2.2.2.1,ci.2.2.2.2.2];exact v.hm),if_pos rfl]
   have t:=Zr5 (WM (KD x j)) (ZH (Yw u x j).1 x.Z9.toNat);rw [e];show((Yw u x j).2 ++ ZpH (Yw u x j).1 x.Z9.toNat (KD x j)).length + _=_;unfold ZpH;rw [List.length_append,List.length_cons,List.length_map];omega
section
variable {F:Nat} {w:Zb}
theorem ZtW (h:Wd w) (m:Nat):(ZH w m).length <=40:=by
 by_cases hm:m < w.qJ.length
 ·have:=h.msg.length_eq;rw [XL] at this;have hs:=h.shr.sd2;unfold msgs at this;rw [List.length_append,List.length_append] at this;have t:=ZeO (L:=w.qJ.map fun x=>x.map fun y=>y.msg) (List.mem_map.2 ⟨ZH w m,Yn hm,rfl⟩);rw [List.length_map] at t;have t':(ZH w m).length <= (QG w.qJ).length:=t;omega
 ·unfold ZH;rw [List.getD_eq_getElem?_getD,List.getElem?_eq_none (by omega)];simp
theorem Zpm (h:Wd w) {k:Nat} (hk:k < w.qG.length):(Qz w k).2.length <=48:=by
 rcases Zag h.wm (x:=ZF w k) (Yn hk) with e | e | e
 ·rw [Zi0 e];unfold Qa;split
  ·exact(by decide:1 <=48)
  ·split <;> exact(by decide:0 <=48)
 ·rw [ZiZ e];have v:=h.mvl (Yn hk) e;have t:=Zvm (h.shr.KA.Yb k) (x:=ZF w k) ⟨v.Z9,v.hm,v.len,v.few,v.rng⟩ (ZF w k).qV.length (Nat.le_refl _);have f:(ZF w k).qV.length <=8:=v.few;have l:=ZtW h (ZF w k).Z9.toNat;have t':(ZdS (Yb w k) (ZF w k)).2.length + (ZH (ZdS (Yb w k) (ZF w k)).1 (ZF w k).Z9.toNat).length= (ZF w k).qV.length + (ZH w (ZF w k).Z9.toNat).length:=t;omega
 ·rw [ZiY e];exact(by decide:0 <=48)
theorem ZJL (h:Wd w) {s:ZC} (m:May w s):(doW w s).2.length <=48:=by
 rcases m.act with c | c | c | c | c
 ·rw [do1 c];unfold Qa;split
  ·exact(by decide:1 <=48)
  ·split <;> exact(by decide:0 <=48)
 ·rw [do2 c];have h8:=h.shr.KA.p2;have:=Zfz w s.a.toNat w.Zv.length;show((Yu w s.a.toNat).map _).length <=48;rw [List.length_map];have:(Yu w s.a.toNat).length <=w.Zv.length:=this;omega
 ·rw [do3 c];exact(by decide:0 <=48)
 ·rw [do4 c];exact(by decide:0 <=48)
 ·rw [do5 c];exact Zpm h (m.lnd c)
end
end Go.Proofs.YtbmbbcaaimehkaaGreat
end
section
namespace Go.Proofs.YtbmbbcaaimehkaaGreat
open Go.Lf
def ZaE (st:Zb×List Zx×List Int) (i:Nat) (s:ZC):Zb×List Zx×List Int:=
 if Ask st.1 s∧ZnG st.1 s=0 then((doW st.1 s).1,st.2.1 ++ (doW st.1 s).2,st.2.2 ++ [(i:Int)]) else st
def YU (w:Zb) (l:List ZC):Nat ->Zb×List Zx×List Int
 | 0=>(w,[],[])
 | k + 1=>ZaE (YU w l k) k (l.getD k default)
structure PlI (w:Zb) (k:Nat) (st:Zb×List Zx×List Int):Prop where
 wd:Wd st.1
 qG:st.1.qG.length <=w.qG.length + k
 ev:st.2.1.length <=48 * k
 dn:st.2.2.length <=k
 inl:st.1.Zv.length=w.Zv.length
 enl:st.1.qQ.length=w.qQ.length
section
variable {F:Nat} {w:Zb}
theorem Ztp (h:Wd w) (l:List ZC):∀ k,PlI w k (YU w l k):=by
 intro k
 induction k with
 | zero=>exact⟨h,Nat.le_refl _,Nat.le_refl _,Nat.le_refl _,rfl,rfl⟩
 | succ k ih=>
   show PlI w (k + 1) (ZaE (YU w l k) k (l.getD k default));unfold ZaE;split
   ·rename_i c;have m:May (YU w l k).1 (l.getD k default):=Zmu.2 c;have s:=ZnK ih.wd.wm m;have e:=ZJL ih.wd m;have i1:=ih.qG;have i2:=ih.ev;have i3:=ih.dn;exact⟨ZOU ih.wd m,by dsimp only;omega,by dsimp only;rw [List.length_append];omega,by dsimp only;rw [List.length_append,List.length_singleton];omega,by dsimp only;rw [s.1,ih.inl],by dsimp only;rw [s.2.1,ih.enl]⟩
   ·exact⟨ih.wd,by have:=ih.qG;omega,by have:=ih.ev;omega,by have:=ih.dn;omega,ih.inl,ih.enl⟩
theorem Zu9 (hF:400000 <=F) (hM:F <=1000000) (h:Wd w) (hw:w.qG.length < 300) {l:List ZC} (hl:l.length <=80):
 ZAK F w l=some ((YU w l l.length).1,(YU w l l.length).2.1,(YU w l l.length).2.2,0):=by
 have sm:Kl 400 w:=KJ h (by omega) (by omega);unfold ZAK;rw [Zqk hF hM sm h];simp only [Bq0];rw [JJ,decide_eq_false (show ¬ (l.length:Int) > 80 by omega),Bool.or_self,Cq0,ZlM (by omega) (sm.mono (by omega))];simp only [Bq0];refine Ye (fun k=>((YU w l k).2.2,(k:Int),(YU w l k).1.Zv,(YU w l k).1.qK,(YU w l k).1.qQ,(YU w l k).1.qJ,(YU w l k).1.qG,(YU w l k).1.said,(YU w l k).2.1)) rfl (n:=l.length) (by omega) (fun k hk next=>?_) (fun next=>?_)
 ·have I:=Ztp h l k;have i1:=I.qG;have i2:=I.ev;have i3:=I.dn;have smk:Kl 900 (YU w l k).1:=KJ I.wd (by omega) (by omega);unfold Znw;dsimp only;rw [ZI hk,Cq1,YB default hk];simp only [Bq0];show((Zsh (YU w l k).1 (l.getD k default)).bind fun x115=>(gd x115 (Zsg F (YU w l k).1 (l.getD k default)) default).bind fun ZCb=>(bif(x115 && (ZCb==0)) then(ZvK F (Z4.mk (YU w l k).1 (YU w l k).2.1) (l.getD k default)).bind fun JI=>(app 8 (YU w l k).2.2 [(k:Int)]).bind fun ZwB=>(Zbk (k:Int) next) (ZwB,JI.Za.Zv,JI.Za.qK,JI.Za.qQ,JI.Za.qJ,JI.Za.qG,JI.Za.said,JI.qX) else(Zbk (k:Int) next) ((YU w l k).2.2,(YU w l k).1.Zv,(YU w l k).1.qK,(YU w l k).1.qQ,(YU w l k).1.qJ,(YU w l k).1.qG,(YU w l k).1.said,(YU w l k).2.1)))=_;rw [ZA9];simp only [Bq0];have e1:YU w l (k + 1)=ZaE (YU w l k) k (l.getD k default):=rfl;rw [e1];unfold ZaE;by_cases a:Ask (YU w l k).1 (l.getD k default)
  ·rw [decide_eq_true a,YK,ZoU (by omega) hM I.wd smk a];simp only [Bq0,Bool.true_and];by_cases e:ZnG (YU w l k).1 (l.getD k default)=0
   ·have lm:=ZOG.1 e;rw [Yg,decide_eq_true e,Cq1,ZvT (by omega) hM I.wd smk a lm.1 lm.2 (by omega),if_pos ⟨a,e⟩];simp only [Bq0];rw [app1 (by omega) (by omega)];simp only [Bq0];unfold Zbk;dsimp only;rw [Yv (by omega)]
   ·rw [Yg,decide_eq_false e,Cq0,if_neg fun z=>e z.2];unfold Zbk;dsimp only;rw [Yv (by omega)]
  ·rw [decide_eq_false a,Xy,if_neg fun z=>a z.1];simp only [Bq0,Bool.false_and,Cq0];unfold Zbk;dsimp only;rw [Yv (by omega)]
 ·unfold Znw;dsimp only;rw [ZR,Cq0]
end
end Go.Proofs.YtbmbbcaaimehkaaGreat
end
section
namespace Go.Proofs.YtbmbbcaaimehkaaGreat
open Go.Lf
def ZaM (w:Zb) (x:Zd):Nat:=if x.kind=1 then 2 * ((sp w x.Ya.place.toNat).age - x.Ya.age).toNat else 0
def Kn (w:Zb) (l:List Zd):Nat:= (l.map (ZaM w)).sum
def ZhH (w:Zb):Nat:=w.qG.length + Kn w w.qG
theorem ZaC (w:Zb) (a b:List Zd):Kn w (a ++ b)=Kn w a + Kn w b:=by unfold Kn;rw [List.map_append,List.sum_append]
theorem Zev (w:Zb) (x:Zd):Kn w [x]=ZaM w x:=by unfold Kn;simp
section
variable {w:Zb}
theorem ZqZ {k:Nat} (hk:k < w.qG.length) (u:Zb):Kn u w.qG=Kn u (Yb w k).qG + ZaM u (ZF w k):=by
 have:=congrArg (Kn u) (KI hk);rw [this,show ZF w k::w.qG.drop (k + 1)= [ZF w k] ++ w.qG.drop (k + 1) from rfl,ZaC,ZaC,Zev];show _=Kn u (w.qG.take k ++ w.qG.drop (k + 1)) + _;rw [ZaC];omega
theorem ZoS (u:Zb) (m:Nat) (x:Zr) (now:Bool) (p:Nat):YM (Qa u m x now).1 p=YM u p:=by
 have s:=Zb1 u m x now;refine Zce (by rw [s.2.1];exact Zah fun m' _=>ZqJ s.2.1 m' p) ?_;unfold Qa;split
 ·rfl
 ·split
  ·rfl
  ·show X8 (u.qG ++ _::told _ _ _ _) p=_;rw [Zaz]
   have:X8 (ZbB (E u m x.place.toNat).Z9 (KR x (E u m x.place.toNat))::told (m:Int) x (E u m x.place.toNat) now) p= []:=by
    apply Zs4;intro y hy;rcases List.mem_cons.1 hy with z | z
    ·rw [z];show(1:Int) ≠ 2;omega
    ·unfold told at z;split at z
     ·rw [List.mem_singleton.1 z];show(3:Int) ≠ 2;omega
     ·cases z
   rw [this,List.append_nil]
theorem Zre (h:Wm w) {k:Nat} (hk:k < w.qG.length) (e:(ZF w k).kind=3) (p:Nat):YM (Us (Yb w k) (ZF w k)) p=YM (Yb w k) p:=by
 have hl:=h.shr.Xp (ZF w k) (Yn hk);have t1:=hl.to1;have t2:=hl.to2;have hn:=hl.ntd e;unfold Us;split
 ·rename_i c;refine Zce ?_ rfl;rw [Zb0];refine Zi8 fun m' _=>?_
  rw [Zoc (h.shr.KA.Yb k) (by show _ < w.qQ.length;omega) (by show _ < w.Zv.length;omega)];by_cases d:m'= (ZF w k).Z9.toNat∧p= (ZF w k).place.toNat
  ·rw [if_pos d,d.1,d.2];exact .inr ⟨rfl,c.1⟩
  ·rw [if_neg d];exact .inl rfl
 ·rfl
theorem ZtI (h:Wm w) {k:Nat} (hk:k < w.qG.length) {p:Nat} (hp:p < w.Zv.length):(sp (Qz w k).1 p).machine= (sp w p).machine∧(sp (Qz w k).1 p).age= (sp w p).age:=by
 rcases Zag h (x:=ZF w k) (Yn hk) with e | e | e
 ·rw [Zi0 e,JX (ZoS _ _ _ _ p),JX (Zfd hk (by omega) p)];exact⟨rfl,rfl⟩
 ·rw [ZiZ e];exact ZtC h ⟨hk,e⟩ hp
 ·rw [ZiY e];dsimp only;rw [JX (Zre h hk e p),JX (Zfd hk (by omega) p)];exact⟨rfl,rfl⟩
theorem Zx7 (h:Wm w) {u:Zb} (hs:∀ p,p < w.Zv.length ->(sp u p).age= (sp w p).age) {x:Zd} (hx:x ∈ w.qG):ZaM u x=ZaM w x:=by
 unfold ZaM;by_cases e:x.kind=1
 ·have m:=h.mai x hx e;have a:=m.1;have b:=m.2.1;rw [if_pos e,if_pos e,hs _ (by omega)]
 ·rw [if_neg e,if_neg e]
theorem ZCs (h:Wm w) {u:Zb} (hs:∀ p,p < w.Zv.length ->(sp u p).age= (sp w p).age) {l:List Zd} (hl:∀ x ∈ l,x ∈ w.qG):Kn u l=Kn w l:=by
 unfold Kn;congr 1;exact List.map_congr_left fun x hx=>Zx7 h hs (hl x hx)
theorem Zyc (h:Wm w) {k:Nat} (hk:k < w.qG.length):ZhH (Qz w k).1 + 1 <=ZhH w:=by
 have dl:=ZgA w hk;have hs:=fun p (hp:p < w.Zv.length)=>(ZtI h hk hp).2
 have hd:∀ x ∈ (Yb w k).qG,x ∈ w.qG:=fun x hx=>Zda hx
 have e0:=ZqZ hk w;have e1:=ZCs h hs hd;unfold ZhH;rcases Zag h (x:=ZF w k) (Yn hk) with e | e | e
 ·have hm:=h.mai _ (Yn hk:ZF w k ∈ w.qG) e;have hr:=ZiX h hk e;rw [Zi0 e] at e1 hs ⊢;obtain⟨p,ep,hp⟩:=hr.pl.nat;have hp':p < w.Zv.length:=hp;have ho:=hr.old rfl;unfold Qa at e1 hs ⊢;rw [ep,Int.toNat_natCast] at e1 hs ⊢;by_cases c1:(E (Yb w k) (ZF w k).Z9.toNat p).here=true
  ·rw [if_pos c1] at e1 ⊢;show(Yb w k).qG.length + Kn _ (Yb w k).qG + 1 <=_;rw [e1];omega
  rw [if_neg c1] at e1 hs ⊢;by_cases c2:false=false∧(E (Yb w k) (ZF w k).Z9.toNat p).age <= (ZF w k).Ya.age
  ·rw [if_pos c2] at e1 ⊢;show(Yb w k).qG.length + Kn _ (Yb w k).qG + 1 <=_;rw [e1];omega
  rw [if_neg c2] at e1 hs ⊢;dsimp only at e1 hs ⊢
  have ag:(E (Yb w k) (ZF w k).Z9.toNat p).age > (ZF w k).Ya.age:=by
   have:¬ (E (Yb w k) (ZF w k).Z9.toNat p).age <= (ZF w k).Ya.age:=fun z=>c2 ⟨rfl,z⟩
   omega
  have wd:=Zh4 h hk (by omega);have re:=wd.ent (ZF w k).Z9.toNat hr.hm p hp (by simpa using c1);have esp:sp (Yb w k) p=sp w p:=JX (Zfd hk (by omega) p);have r2:=re.2.1;rw [esp] at r2;have o5:=ho.2.2.2.2.1;rw [ep,Int.toNat_natCast] at o5;have o2:=o5.2.1;rw [esp] at o2;rw [ZaC,e1];rw [show(ZbB (E (Yb w k) (ZF w k).Z9.toNat p).Z9 (KR (ZF w k).Ya (E (Yb w k) (ZF w k).Z9.toNat p))::told ((ZF w k).Z9.toNat:Int) (ZF w k).Ya (E (Yb w k) (ZF w k).Z9.toNat p) false)= [ZbB (E (Yb w k) (ZF w k).Z9.toNat p).Z9 (KR (ZF w k).Ya (E (Yb w k) (ZF w k).Z9.toNat p))] ++ told ((ZF w k).Z9.toNat:Int) (ZF w k).Ya (E (Yb w k) (ZF w k).Z9.toNat p) false from rfl,ZaC,Zev]
  have t1:∀ u,Kn u (told ((ZF w k).Z9.toNat:Int) (ZF w k).Ya (E (Yb w k) (ZF w k).Z9.toNat p) false)=0∧(told ((ZF w k).Z9.toNat:Int) (ZF w k).Ya (E (Yb w k) (ZF w k).Z9.toNat p) false).length <=1:=fun u=>by
   unfold told;split
   ·rw [Zev];unfold ZaM;rw [if_neg (by show ¬ (3:Int)=1;omega)];exact⟨rfl,Nat.le_refl _⟩
   ·exact⟨rfl,Nat.zero_le _⟩
  rw [(t1 _).1];have b1:= (t1 w).2
  have m1:ZaM w (ZF w k)=2 * ((sp w p).age - (ZF w k).Ya.age).toNat:=by
   unfold ZaM;rw [if_pos e,ep,Int.toNat_natCast]
  have m2:∀ u:Zb,(sp u p).age= (sp w p).age ->ZaM u (ZbB (E (Yb w k) (ZF w k).Z9.toNat p).Z9 (KR (ZF w k).Ya (E (Yb w k) (ZF w k).Z9.toNat p)))=2 * ((sp w p).age - (E (Yb w k) (ZF w k).Z9.toNat p).age).toNat:=fun u hu=>by
   unfold ZaM;rw [if_pos (show(ZbB (E (Yb w k) (ZF w k).Z9.toNat p).Z9 (KR (ZF w k).Ya (E (Yb w k) (ZF w k).Z9.toNat p))).kind=1 from rfl)];show 2 * ((sp u (ZF w k).Ya.place.toNat).age - (E (Yb w k) (ZF w k).Z9.toNat p).age).toNat=_;rw [ep,Int.toNat_natCast,hu]
  rw [m2 _ (by exact hs p hp')];simp only [List.length_append,List.length_singleton];omega
 ·rw [ZiZ e] at e1 ⊢;have i:=ZdT w k;show(WW w k).qG.length + Kn (WW w k) (WW w k).qG + 1 <=_;rw [i.2.1];have e1':Kn (WW w k) (Yb w k).qG=Kn w (Yb w k).qG:=e1;omega
 ·rw [ZiY e] at e1 ⊢;have n:=Zbb (Yb w k) (ZF w k);show(Us (Yb w k) (ZF w k)).qG.length + Kn (Us (Yb w k) (ZF w k)) (Us (Yb w k) (ZF w k)).qG + 1 <=_;rw [n.2.2.2.1];have e1':Kn (Us (Yb w k) (ZF w k)) (Yb w k).qG=Kn w (Yb w k).qG:=e1;omega
theorem ZCR (h:Wd w) {k:Nat} (hk:k < w.qG.length):Wd (Qz w k).1:=by
 refine(ZtH h.wm hk).wd ?_;have e:(owes (Qz w k).1).Perm (owes w):=List.perm_iff_count.2 fun a=>Zmw h.wm hk a
 have e:=e.map Prod.fst;rw [WJ,WJ] at e;rw [(ZfZ h.wm hk).2.2.1];exact e.trans h.msg
def Zby (w:Zb) (picks:List Int) (n:Nat):Nat:=if n < picks.length then(picks.getD n 0).toNat % w.qG.length else 0
def Jc (w:Zb) (picks:List Int):Nat ->Zb×List Zx
 | 0=>(w,[])
 | n + 1=>if(Jc w picks n).1.qG= [] then Jc w picks n else((Qz (Jc w picks n).1 (Zby (Jc w picks n).1 picks n)).1,(Jc w picks n).2 ++ (Qz (Jc w picks n).1 (Zby (Jc w picks n).1 picks n)).2)
theorem ZhN {u:Zb} (h:u.qG ≠ []) (picks:List Int) (n:Nat):Zby u picks n < u.qG.length:=by
 have:=List.length_pos_iff.2 h;unfold Zby;split
 ·exact Nat.mod_lt _ this
 ·exact this
structure DrI (w:Zb) (n:Nat) (s:Zb×List Zx):Prop where
 wd:Wd s.1
 Zv:s.1.Zv=w.Zv
 enl:s.1.qQ.length=w.qQ.length
 said:s.1.said=w.said
 sp:∀ p,p < w.Zv.length ->(Proofs.YtbmbbcaaimehkaaGreat.sp s.1 p).machine= (Proofs.YtbmbbcaaimehkaaGreat.sp w p).machine∧(Proofs.YtbmbbcaaimehkaaGreat.sp s.1 p).age= (Proofs.YtbmbbcaaimehkaaGreat.sp w p).age
 ow:(owes s.1).Perm (owes w)
 ev:s.2.length <=48 * n
 qG:s.1.qG.length <=w.qG.length + n
theorem drI (h:Wd w) (picks:List Int):∀ n,DrI w n (Jc w picks n):=by
 intro n
 induction n with
 | zero=>exact⟨h,rfl,rfl,rfl,fun p _=>⟨rfl,rfl⟩,List.Perm.refl _,Nat.le_refl _,Nat.le_refl _⟩
 | succ n ih=>
   have i1:=ih.ev;have i2:=ih.qG;show DrI w (n + 1) (if(Jc w picks n).1.qG= [] then _ else _);split
   ·exact⟨ih.wd,ih.Zv,ih.enl,ih.said,ih.sp,ih.ow,by omega,by omega⟩
   ·rename_i c;have hk:=ZhN c picks n;have s:=ZfZ ih.wd.wm hk;have e:=Zpm ih.wd hk;refine⟨ZCR ih.wd hk,s.1.trans ih.Zv,s.2.1.trans ih.enl,s.2.2.1.trans ih.said,fun p hp=>?_,(List.perm_iff_count.2 fun a=>Zmw ih.wd.wm hk a).trans ih.ow,?_,?_⟩
    ·have a:=ZtI ih.wd.wm hk (p:=p) (by rw [ih.Zv];exact hp);have b:=ih.sp p hp;exact⟨a.1.trans b.1,a.2.trans b.2⟩
    ·dsimp only;rw [List.length_append];omega
    ·dsimp only;omega
theorem ZJK (h:Wd w) (picks:List Int):∀ n,(∀ i,i < n ->(Jc w picks i).1.qG ≠ []) ->ZhH (Jc w picks n).1 + n <=ZhH w:=by
 intro n
 induction n with
 | zero=>intro _;exact Nat.le_refl _
 | succ n ih=>
   intro hn;have i1:=ih fun i hi=>hn i (by omega)
   have c:=hn n (by omega);have hk:=ZhN c picks n;have:=Zyc (drI h picks n).wd.wm hk;show ZhH (if(Jc w picks n).1.qG= [] then Jc w picks n else _).1 + (n + 1) <=_;rw [if_neg c];dsimp only;omega
theorem ZEd (h:Wd w) (picks:List Int):∃ n,n <=ZhH w∧(Jc w picks n).1.qG= []∧∀ i,i < n ->(Jc w picks i).1.qG ≠ []:=by
 by_cases hz:∃ n,n <=ZhH w∧(Jc w picks n).1.qG= []
 ·obtain⟨n,hn,e⟩:=hz;obtain⟨m,hm,hc,hlt⟩:=Qb (c:=fun i=>(Jc w picks i).1.qG= []) e;exact⟨m,by omega,hc,hlt⟩
 ·have:=ZJK h picks (ZhH w + 1) fun i hi q=>hz ⟨i,by omega,q⟩
  omega
end
end Go.Proofs.YtbmbbcaaimehkaaGreat
end
section
namespace Go.Proofs.YtbmbbcaaimehkaaGreat
open Go.Lf
section
variable {F:Nat} {w:Zb}
theorem Zvl (h:Wm w) {k:Nat} (hk:k < w.qG.length):∃ tl,(Qz w k).1.qG= (Yb w k).qG ++ tl∧tl.length <=2 * (owL [ZF w k]).length:=by
 rcases Zag h (x:=ZF w k) (Yn hk) with e | e | e
 ·rw [Zi0 e,ZaL e];unfold Qa;split
  ·exact⟨[],by simp,by simp⟩
  ·split
   ·exact⟨[],by simp,by simp⟩
   ·refine⟨_,rfl,?_⟩;rw [List.length_cons];unfold told;split <;> simp
 ·rw [ZiZ e];exact⟨[],by rw [List.append_nil];exact(ZdT w k).2.1,by simp⟩
 ·rw [ZiY e];exact⟨[],by rw [List.append_nil];exact(Zbb _ _).2.2.2.1,by simp⟩
theorem Zrc (h:Wd w):(owL w.qG).length <=40:=by
 have:=h.msg.length_eq;rw [XL,← WJ,List.length_map] at this;have hs:=h.shr.sd2;unfold owes at this;rw [List.length_append,List.length_append] at this;omega
theorem Zqd {picks:List Int} {n:Nat} (c:(Jc w picks n).1.qG ≠ []):Jc w picks (n + 1)= ((Qz (Jc w picks n).1 (Zby (Jc w picks n).1 picks n)).1,(Jc w picks n).2 ++ (Qz (Jc w picks n).1 (Zby (Jc w picks n).1 picks n)).2):=by
 show(if(Jc w picks n).1.qG= [] then Jc w picks n else _)=_;rw [if_neg c]
theorem ZSJ (h:Wd w) (picks:List Int) {M:Nat} (hM:80 <=M) (hw:w.qG.length + picks.length <=M):∀ d,∃ old new,(Jc w picks (picks.length + d)).1.qG=old ++ new∧old.length <=M∧new.length + 2 * (owL old).length <=80:=by
 intro d
 induction d with
 | zero=>
   have I:=drI h picks picks.length;have i2:=I.qG;have:=Zrc I.wd;exact⟨(Jc w picks picks.length).1.qG,[],by simp,by omega,by simp;omega⟩
 | succ d ih=>
   have I:=drI h picks (picks.length + d);by_cases c:(Jc w picks (picks.length + d)).1.qG= []
   ·have:Jc w picks (picks.length + (d + 1))=Jc w picks (picks.length + d):=by
     show(if(Jc w picks (picks.length + d)).1.qG= [] then Jc w picks (picks.length + d) else _)=_;rw [if_pos c]
    rw [this];exact ih
   ·have ih':∃ x old new,(Jc w picks (picks.length + d)).1.qG=x::old ++ new∧(x::old).length <=M∧new.length + 2 * (owL (x::old)).length <=80:=by
     obtain⟨old,new,e,h1,h2⟩:=ih;cases old with
     | cons x old=>exact⟨x,old,new,e,h1,h2⟩
     | nil=>
       rw [List.nil_append] at e;have ol:=Zrc I.wd;rw [e] at ol c;cases new with
       | nil=>exact absurd rfl c
       | cons x new=>
         have h2':(x::new).length <=80:=by have:(x::new).length + 2 * (owL []).length <=80:=h2;omega
         exact⟨x,new,[],by rw [e,List.append_nil],by omega,by rw [List.length_nil];omega⟩
    obtain⟨x,old,new,e,h1,h2⟩:=ih';have hk:=ZhN c picks (picks.length + d);have p0:Zby (Jc w picks (picks.length + d)).1 picks (picks.length + d)=0:=by unfold Zby;rw [if_neg (by omega)]
    rw [p0] at hk;have e1:=Zqd c;rw [p0] at e1;obtain⟨tl,et,ht⟩:=Zvl I.wd.wm hk
    have ed:(Yb (Jc w picks (picks.length + d)).1 0).qG=old ++ new:=by
     show(Jc w picks (picks.length + d)).1.qG.take 0 ++ (Jc w picks (picks.length + d)).1.qG.drop (0 + 1)=_;rw [e];rfl
    have ex:ZF (Jc w picks (picks.length + d)).1 0=x:=by unfold ZF;rw [e];rfl
    rw [ed] at et;rw [ex] at ht;have o:owL (x::old)=owL [x] ++ owL old:=Kr [x] old;rw [o,List.length_append] at h2;rw [List.length_cons] at h1;refine⟨old,new ++ tl,?_,by omega,by rw [List.length_append];omega⟩;rw [show picks.length + (d + 1)=picks.length + d + 1 from rfl,e1,← List.append_assoc,← et]
theorem ZEc (h:Wd w) (picks:List Int) {M:Nat} (hM:80 <=M) (hw:w.qG.length + picks.length <=M) (n:Nat):(Jc w picks n).1.qG.length <=M + 80:=by
 by_cases c:n < picks.length
 ·have:= (drI h picks n).qG;omega
 ·obtain⟨d,rfl⟩:∃ d,n=picks.length + d:= ⟨n - picks.length,by omega⟩
  obtain⟨old,new,e,h1,h2⟩:=ZSJ h picks hM hw d;rw [e,List.length_append];omega
theorem Zxg {x:Int} (hx:0 <=x) {n:Nat} (hn:0 < n):Zu5 x (n:Int)=some ((x.toNat % n:Nat):Int):=by
 unfold Zu5;rw [Yg,decide_eq_false (by omega),Cq0];obtain⟨k,rfl⟩:∃ k:Nat,x= (k:Int):= ⟨x.toNat,by omega⟩
 rw [Int.toNat_natCast,Int.ofNat_tmod]
def Zwl (picks:List Int):Prop:=picks.length <=80∧∀ x ∈ picks,0 <=x
theorem ZfO {picks:List Int}:((List.range picks.length).any fun k=>decide (picks.getD k 0 < 0))=true↔¬ ∀ x ∈ picks,0 <=x:=by
 rw [Zld picks (fun x=>decide (x < 0)) 0,List.any_eq_true]
 constructor
 ·rintro⟨x,hx,e⟩ z;have:=z x hx;simp at e;omega
 ·intro z;obtain⟨x,hx⟩:=Classical.not_forall.1 z;obtain⟨h1,h2⟩:=Classical.not_imp.1 hx;exact⟨x,h1,by simp;omega⟩
theorem ZQp {k n:Nat} (h:k < n) (hn:n <=9223372036854775807):Xd ((k:Int) + 1)= ((k + 1:Nat):Int):=by rw [Za2 (by omega) (by omega)];rfl
theorem Zvb {picks:List Int} (hF:picks.length < F) (hm:picks.length <=9223372036854775807):∃ b,ZvM F picks=some b∧(b=true↔Zwl picks):=by
 have e:=ZiP (body:=ZjR picks) (r1:=some false) (r2:=some (decide ((picks.length:Int) <=80))) (fun k=>(k:Int)) (fun k=>decide (picks.getD k 0 < 0)) (n:=picks.length) (F:=F) hF (fun k hk next=>by
  unfold ZjR;rw [ZI hk,Cq1,YB 0 hk];simp only [Bq0];rw [ZQp hk hm]) (fun next=>by
  unfold ZjR;rw [ZR,Cq0])
 have e':ZvM F picks=_:=e;rw [e'];cases c:(List.range picks.length).any fun k=>decide (picks.getD k 0 < 0) with
 | true=>
   have:=ZfO.1 c;exact⟨false,rfl,⟨fun z=>(by cases z),fun z=>absurd z.2 this⟩⟩
 | false=>
   have:∀ x ∈ picks,0 <=x:=Classical.byContradiction fun z=>by rw [ZfO.2 z] at c;cases c
   refine⟨_,rfl,?_⟩;rw [decide_eq_true_eq];exact⟨fun z=>⟨by omega,this⟩,fun z=>by have:=z.1;omega⟩
theorem ZCr (h:Wm w) (l:List Zd) (hl:∀ x ∈ l,x ∈ w.qG):Kn w l <=60 * (owL l).length:=by
 induction l with
 | nil=>exact Nat.le_refl _
 | cons x l ih=>
   have i:=ih fun y hy=>hl y (List.mem_cons_of_mem _ hy)
   rw [show x::l= [x] ++ l from rfl,ZaC,Zev,Kr,List.length_append]
   have:ZaM w x <=60 * (owL [x]).length:=by
    unfold ZaM;split
    ·rename_i e;rw [ZaL e,List.length_singleton];have m:=h.mai x (hl x (by simp)) e;have a:=h.ZdH (p:=x.Ya.place.toNat) (by have:=m.1;have:=m.2.1;omega);have b:=m.2.2.2.2.1.1;omega
    ·omega
   omega
theorem ZJT (h:Wd w):ZhH w <=w.qG.length + 2400:=by
 have:=ZCr h.wm w.qG fun x hx=>hx
 have:=Zrc h;unfold ZhH;omega
theorem Zsm (hF:400000 <=F) (hM:F <=1000000) (h:Wd w) (hw:w.qG.length < 400) {picks:List Int} (hp:Zwl picks) {n:Nat} (hn:n <=ZhH w) (he:(Jc w picks n).1.qG= []) (hlt:∀ i,i < n ->(Jc w picks i).1.qG ≠ []):
 ZAH F w picks=some ((Jc w picks n).1,(Jc w picks n).2,(n:Int),0):=by
 have sm:Kl 400 w:=KJ h (by omega) hw;have hl:=hp.1;have hb:=ZJT h;unfold ZAH;rw [Zqk hF hM sm h];simp only [Bq0];rw [decide_eq_false (show ¬ (picks.length:Int) > 80 by omega),JJ,Bool.or_self,Bool.not_false,Cq1]
 have e:=ZiP (body:=ZjT F w picks) (r1:=some (ZAP,[],0,2)) (r2:=Zct F w picks (-1)) (fun k=>(k:Int)) (fun k=>decide (picks.getD k 0 < 0)) (n:=picks.length) (F:=F) (by omega) (fun k hk next=>by
  unfold ZjT;rw [ZI hk,Cq1,YB 0 hk];simp only [Bq0]
  have:Zct F w picks (k:Int)=some (ZAP,[],0,2):=by
   unfold Zct;rw [decide_eq_true (by omega)];rfl
  rw [this,Yv (by omega)]) (fun next=>by
  unfold ZjT;rw [ZR,Cq0])
 have c:((List.range picks.length).any fun k=>decide (picks.getD k 0 < 0))=false:=by
  rw [← Bool.not_eq_true];exact fun z=>ZfO.1 z hp.2
 rw [c,Cq0] at e;refine Eq.trans e ?_;unfold Zct;rw [decide_eq_false (by omega),Cq0,ZlM (by omega) (sm.mono (by omega))];simp only [Bq0];refine Ye (fun k=>((k:Int),(Jc w picks k).1.Zv,(Jc w picks k).1.qK,(Jc w picks k).1.qQ,(Jc w picks k).1.qJ,(Jc w picks k).1.qG,(Jc w picks k).1.said,(Jc w picks k).2)) rfl (n:=n) (by omega) (fun k hk next=>?_) (fun next=>?_)
 ·have I:=drI h picks k;have i1:=I.ev;have cw:=hlt k hk;have hwl:=ZEc h picks (M:=500) (by omega) (by omega) k;have smk:Kl 900 (Jc w picks k).1:=KJ I.wd (by omega) (by omega);have hpos:=List.length_pos_iff.2 cw;have hk':=ZhN cw picks k;have lp:=ZlB (F:=F) (by omega) I.wd smk hk' (ev:= (Jc w picks k).2) (by omega);have es:=Zqd cw;unfold Znp;dsimp only;rw [decide_eq_true (show((Jc w picks k).1.qG.length:Int) > 0 by omega),Cq1]
  have fin:Zgl F (k:Int) (Jc w picks k).1.Zv (Jc w picks k).1.qK (Jc w picks k).1.qQ (Jc w picks k).1.qJ (Jc w picks k).1.qG (Jc w picks k).1.said (Jc w picks k).2 next (Zby (Jc w picks k).1 picks k:Int)=next (((k + 1:Nat):Int),(Jc w picks (k + 1)).1.Zv,(Jc w picks (k + 1)).1.qK,(Jc w picks (k + 1)).1.qQ,(Jc w picks (k + 1)).1.qJ,(Jc w picks (k + 1)).1.qG,(Jc w picks (k + 1)).1.said,(Jc w picks (k + 1)).2):=by
   unfold Zgl;show((Zsd F ⟨(Jc w picks k).1,(Jc w picks k).2⟩ (Zby (Jc w picks k).1 picks k:Int)).bind _)=_;rw [lp,es];simp only [Bq0];rw [Yv (by omega)]
  rw [← fin];by_cases cp:k < picks.length
  ·rw [ZI cp,Cq1,YB 0 cp];simp only [Bq0];rw [Zxg (hp.2 _ (Yn cp)) hpos];simp only [Bq0];unfold Zby;rw [if_pos cp]
  ·rw [decide_eq_false (by omega),Cq0];unfold Zby;rw [if_neg cp];rfl
 ·unfold Znp;dsimp only;rw [decide_eq_false (show ¬ ((Jc w picks n).1.qG.length:Int) > 0 by rw [he];simp),Cq0]
end
end Go.Proofs.YtbmbbcaaimehkaaGreat
end
section
namespace Go.Proofs.YtbmbbcaaimehkaaGreat
open Go.Lf
section
variable {κ ν:Type} [DecidableEq κ]
def UK (l:List (κ×ν)):Prop:= (l.map (·.1)).Nodup
theorem Zpb {l:List (κ×ν)} {k:κ} {x:ν} (h:k ∉ l.map (·.1)):UB l k x=l ++ [(k,x)]:=by
 unfold UB;rw [Zrl.2 fun p hp e=>h (List.mem_map.2 ⟨p,hp,e⟩)]
theorem Zpf (p:κ×ν) (l:List (κ×ν)) (k:κ):J3 (p::l) k=if p.1=k then some (0,p.2) else(J3 l k).map fun q=>(q.1 + 1,q.2):=rfl
theorem UK.get:∀ {l:List (κ×ν)},UK l ->∀ {k:κ} {x:ν},(k,x) ∈ l ->ZeL l k=some x
 | [],_,k,x,h=>by cases h
 | p::l,u,k,x,h=>by
   have u':p.1 ∉ l.map (·.1)∧UK l:=List.nodup_cons.1 u;unfold ZeL;rw [Zpf];rcases List.mem_cons.1 h with e | e
   ·rw [← e,if_pos rfl];rfl
   ·have ih:=u'.2.get e;rw [if_neg fun z:p.1=k=>u'.1 (by rw [z];exact List.mem_map.2 ⟨_,e,rfl⟩)];unfold ZeL at ih;rw [Option.map_map];exact ih
end
section
variable {F:Nat} {w:Zb}
theorem Zu3 (h:Wd w) (he:w.qG= []) {p:Nat} (hp:p < w.Zv.length):(sp w p).here=true:=by
 rcases ZaF (h.loc p hp) with⟨m,hm,hh,e⟩ | ⟨x,hx,_⟩
 ·rw [e]
 ·rw [he] at hx;cases hx
theorem Zls (h:Wd w) (he:w.qG= []) {m:Nat} (hm:m < w.qQ.length):ZH w m= []:=by
 apply List.eq_nil_iff_forall_not_mem.2;intro y hy;have b:=h.hel m hm y hy;have b1:=b.1.1;have b2:=b.1.2.1;have:=Zu3 h he (p:=y.place.toNat) (by omega);rw [b.2] at this;cases this
theorem Zu2 (h:Wd w) (he:w.qG= []):owes w=owB w:=by
 have:owH w= []:=by
  unfold owH;apply List.flatMap_eq_nil_iff.2;intro m hm;rw [Zls h he (by rw [← h.shr.KA.hd];exact List.mem_range.1 hm)];rfl
 unfold owes;rw [this,he];show owB w ++ [] ++ []=_;rw [List.append_nil,List.append_nil]
theorem Zmf (n:Nat):(Xe n).Nodup:=by
 unfold Xe;exact List.Pairwise.map _ (fun a b hab=>(by show((a:Nat):Int) ≠ (b:Int);omega)) List.nodup_range
theorem Zri (h:Wd w):(msgs w).Nodup:=h.msg.nodup_iff.2 (Zmf _)
theorem ZA0 (h:Wd w) {p:Nat} (hp:p < w.Zv.length):(Xt w p).length <=40:=by
 have sm:= (KJ h (n:=w.qG.length + 41) (by omega) (by omega))
 have:=h.msg.length_eq;rw [XL] at this;have hs:=h.shr.sd2;unfold msgs at this;rw [List.length_append,List.length_append] at this;have t:=ZeO (L:=w.qK) (l:=Xt w p) (Yn (by rw [h.shr.KA.bx];exact hp));omega
theorem ZD3 (hF:400000 <=F) (w:Zb):∃ b,ZAF F w=some b∧(b=true ->Kl 201 w∧Wd w):=by
 obtain⟨b,eb,ib⟩:=Zw3 hF w;unfold ZAF;rw [eb];simp only [Bq0];cases b with
 | false=>exact⟨false,rfl,fun z=>by cases z⟩
 | true=>
   have sm:=ib rfl;obtain⟨c,ec,ic⟩:=Zlh hF (sm.mono (show 201 <=400 by omega));rw [YK,ec];exact⟨c,rfl,fun z=>⟨sm,ic.1 z⟩⟩
theorem Zz4 (hF:400000 <=F) (w:Zb) (l:List ZC) (ps:List (List Int)) (hn:ps.length <=1000) (hp:∀ p ∈ ps,p.length < F∧p.length <=9223372036854775807):
 ∃ b,ZAJ F w l ps=some b∧(b=true ->Kl 201 w∧Wd w∧l.length <=80∧∀ p ∈ ps,Zwl p):=by
 obtain⟨c,ec,ic⟩:=ZD3 hF w
 have hpk:∀ k,k < ps.length ->∃ b,ZvM F (ps.getD k [])=some b∧(b=true↔Zwl (ps.getD k [])):=fun k hk=>by
  have:=hp _ (Yn (d:= []) hk);exact Zvb this.1 this.2
 have e:=J6 (body:=ZjU F w l ps) (r1:=some false) (r2:=some (c && decide ((l.length:Int) <=80))) (s0:= (0:Int)) (fun k=>(k:Int)) rfl (fun k=>Zwl (ps.getD k [])) (n:=ps.length) (F:=F) (by omega) (fun k hk next=>by
  obtain⟨b,eb,ib⟩:=hpk k hk;unfold ZjU;rw [ZI hk,Cq1,YB [] hk];simp only [Bq0];rw [eb];simp only [Bq0];rw [ZdN ib,Yv (by omega)]) (fun next=>by
  unfold ZjU;rw [ZR,Cq0,ec];rfl)
 have e':ZAJ F w l ps=_:=e;rw [e'];by_cases q:∀ k,k < ps.length ->Zwl (ps.getD k [])
 ·rw [Xq q];refine⟨_,rfl,fun z=>?_⟩;rw [Ba0,decide_eq_true_eq] at z;have:=ic z.1;exact⟨this.1,this.2,by omega,WK.1 q⟩
 ·rw [XC q];exact⟨false,rfl,fun z=>by cases z⟩
end
end Go.Proofs.YtbmbbcaaimehkaaGreat
end
section
namespace Go.Proofs.YtbmbbcaaimehkaaGreat
open Go.Lf
def Zo7 (w:Zb) (l:List ZC):Nat ->List (Int×Int)
 | 0=>[]
 | k + 1=>Zo7 w l k ++ (if Ask (YU w l k).1 (l.getD k default)∧ZnG (YU w l k).1 (l.getD k default)=0 then Zpa (YU w l k).1 (l.getD k default) else [])
def stD (l:List ZC) (s:Int×List (Int×Int)) (i:Int):Int×List (Int×Int):=if(l.getD i.toNat default).act=1 then(s.1 + 1,s.2 ++ [(s.1,(l.getD i.toNat default).b)]) else s
section
variable {F:Nat} {w:Zb}
theorem ZCJ (h:Wd w) (l:List ZC):∀ k,(owes (YU w l k).1).Perm (owes w ++ Zo7 w l k):=by
 intro k
 induction k with
 | zero=>show(owes w).Perm (owes w ++ []);rw [List.append_nil]
 | succ k ih=>
   have I:=Ztp h l k;show(owes (ZaE (YU w l k) k (l.getD k default)).1).Perm (owes w ++ (Zo7 w l k ++ _));unfold ZaE;split
   ·rename_i c;rw [← List.append_assoc];exact(ZF2 I.wd.wm (Zmu.2 c)).trans (ih.append_right _)
   ·rw [List.append_nil];exact ih
theorem ZCK (w:Zb) (l:List ZC):∀ k,(∀ x ∈ (YU w l k).2.2,0 <=x∧x < (k:Int))∧(YU w l k).2.2.Pairwise (· < ·):=by
 intro k
 induction k with
 | zero=>exact⟨fun x hx=>(by cases hx),List.Pairwise.nil⟩
 | succ k ih=>
   show(∀ x ∈ (ZaE (YU w l k) k (l.getD k default)).2.2,_)∧(ZaE (YU w l k) k (l.getD k default)).2.2.Pairwise (· < ·);unfold ZaE;split
   ·refine⟨fun x hx=>?_,?_⟩
    ·rcases List.mem_append.1 hx with q | q
     ·have:=ih.1 x q;omega
     ·rw [List.mem_singleton.1 q];omega
    ·dsimp only;rw [List.pairwise_append];exact⟨ih.2,List.pairwise_singleton _ _,fun a ha b hb=>by rw [List.mem_singleton.1 hb];exact(ih.1 a ha).2⟩
   ·exact⟨fun x hx=>by have:=ih.1 x hx;omega,ih.2⟩
theorem Zva (h:Wd w) (l:List ZC) (m0:List (Int×Int)):∀ k,(YU w l k).2.2.foldl (stD l) (w.said,m0)= ((YU w l k).1.said,m0 ++ Zo7 w l k):=by
 intro k
 induction k with
 | zero=>show(w.said,m0)= (w.said,m0 ++ []);rw [List.append_nil]
 | succ k ih=>
   have I:=Ztp h l k;show(ZaE (YU w l k) k (l.getD k default)).2.2.foldl (stD l) (w.said,m0)= ((ZaE (YU w l k) k (l.getD k default)).1.said,m0 ++ (Zo7 w l k ++ _));unfold ZaE;by_cases c:Ask (YU w l k).1 (l.getD k default)∧ZnG (YU w l k).1 (l.getD k default)=0
   ·rw [if_pos c,if_pos c];dsimp only;rw [List.foldl_append,ih,(ZnK I.wd.wm (Zmu.2 c)).2.2.1];show stD l _ (k:Int)=_;unfold stD Zpa;rw [Int.toNat_natCast];by_cases d:(l.getD k default).act=1
    ·rw [if_pos d,if_pos d,if_pos d,List.append_assoc]
    ·rw [if_neg d,if_neg d,if_neg d,List.append_nil,Int.add_zero]
   ·rw [if_neg c,if_neg c,ih,List.append_nil]
theorem ZiD (h:Wd w):UK (owes w):=by
 show((owes w).map Prod.fst).Nodup;rw [WJ];exact Zri h
theorem ZfW {xs acc:List (Int×Int)} (u:UK (acc ++ xs)) {k:Nat} (hk:k < xs.length):UB (acc ++ xs.take k) (xs[k]).1 (xs[k]).2=acc ++ xs.take (k + 1):=by
 rw [Zpb,List.append_assoc,List.take_succ_eq_append_getElem hk];intro z;unfold UK at u
 have e:acc ++ xs= (acc ++ xs.take k) ++ xs[k]::xs.drop (k + 1):=by
  rw [List.getElem_cons_drop,List.append_assoc,List.take_append_drop]
 rw [e,List.map_append,List.nodup_append] at u;exact u.2.2 _ z (xs[k]).1 (by rw [List.map_cons];exact List.mem_cons_self) rfl
theorem UK.pre {a b:List (Int×Int)} (u:UK (a ++ b)):UK a:=by
 unfold UK at u ⊢;rw [List.map_append,List.nodup_append] at u;exact u.1
def Zk9 (w:Zb) (p:Nat):List (Int×Int):= (Xt w p).map fun n=>(n,(p:Int))
def Zhm (w:Zb) (m:Nat):List (Int×Int):= (ZH w m).map fun y=>(y.msg,y.place)
def U1 (w:Zb) (k:Nat):List (Int×Int):= (List.range k).flatMap (Zk9 w)
def ZeI (w:Zb) (k:Nat):List (Int×Int):= (List.range k).flatMap (Zhm w)
theorem Qm {α:Type} (f:Nat ->List α) (k:Nat):(List.range (k + 1)).flatMap f= (List.range k).flatMap f ++ f k:=by
 rw [List.range_succ,List.flatMap_append];simp
theorem KP {α:Type} (f:Nat ->List α) {k n:Nat} (h:k <=n):∃ r,(List.range n).flatMap f= (List.range k).flatMap f ++ r:=by
 obtain⟨d,rfl⟩:∃ d,n=k + d:= ⟨n - k,by omega⟩
 induction d with
 | zero=>exact⟨[],by simp⟩
 | succ d ih=>
   obtain⟨r,e⟩:=ih (by omega);exact⟨r ++ f (k + d),by rw [show k + (d + 1)=k + d + 1 from rfl,Qm,e,List.append_assoc]⟩
theorem Zo8 {l:List Zd} {k:Nat} (hk:k < l.length):owL (l.take (k + 1))=owL (l.take k) ++ owL [l[k]]:=by
 rw [List.take_succ_eq_append_getElem hk,Kr]
def Zpl (D:List Int) (k:Nat):Int:=if k=0 then -1 else D.getD (k - 1) 0
theorem Zrq (D:List Int) (k:Nat):Zpl D (k + 1)=D.getD k 0:=by unfold Zpl;rw [if_neg (by omega)];rfl
theorem Zyb {D:List Int} (hd:D.Pairwise (· < ·)) (h0:∀ x ∈ D,0 <=x) {k:Nat} (hk:k < D.length):Zpl D k < D.getD k 0:=by
 unfold Zpl;split
 ·have:=h0 _ (Yn (d:= (0:Int)) hk);omega
 ·rw [YH (by omega),YH hk];exact List.pairwise_iff_getElem.1 hd _ _ _ _ (by omega)
theorem ZwU (l:List ZC):∀ (D:List Int) (s:Int×List (Int×Int)),(∀ x ∈ s.2,x.1 < s.1) ->(∀ x ∈ (D.foldl (stD l) s).2,x.1 < (D.foldl (stD l) s).1)∧(D.foldl (stD l) s).1 <=s.1 + D.length:=by
 intro D
 induction D with
 | nil=>intro s h;exact⟨h,by simp⟩
 | cons i D ih=>
   intro s h;rw [List.foldl_cons]
   have:(∀ x ∈ (stD l s i).2,x.1 < (stD l s i).1)∧(stD l s i).1 <=s.1 + 1:=by
    unfold stD;split
    ·refine⟨fun x hx=>?_,Int.le_refl _⟩;rcases List.mem_append.1 hx with q | q
     ·have:=h x q;dsimp only;omega
     ·rw [List.mem_singleton.1 q];dsimp only;omega
    ·exact⟨h,by omega⟩
   have j:=ih _ this.1;refine⟨j.1,?_⟩;rw [List.length_cons];omega
theorem ZGx (l:List ZC):∀ (D:List Int) (s:Int×List (Int×Int)),s.1 <= (D.foldl (stD l) s).1:=by
 intro D
 induction D with
 | nil=>intro s;exact Int.le_refl _
 | cons i D ih=>
   intro s;rw [List.foldl_cons];have:=ih (stD l s i)
   have:s.1 <= (stD l s i).1:=by
    unfold stD;split
    ·dsimp only;omega
    ·exact Int.le_refl _
   omega
theorem ZCL (hF:1000 <=F) (h:Wd w) (hw:w.qG.length < 900) {l:List ZC} {D:List Int} (hl:l.length <=900) (hdl:D.length <=900) (hD:∀ x ∈ D,0 <=x∧x < (l.length:Int)) (hP:D.Pairwise (· < ·)):
 ZAI F w l D=some ((D.foldl (stD l) (w.said,owes w)).2,true):=by
 have S:=h.shr.KA;have h8:=S.p2;have h5:=S.m2;have u:=ZiD h;have eB:owB w=U1 w w.Zv.length:=by unfold owB U1;rw [S.bx];rfl
 have eH:owH w=ZeI w w.qQ.length:=by unfold owH ZeI;rw [S.hd];rfl
 have eO:owes w=U1 w w.Zv.length ++ ZeI w w.qQ.length ++ owL w.qG:=by unfold owes;rw [eB,eH]
 rw [eO] at u;unfold ZAI;refine Ye (fun k=>((k:Int),U1 w k)) rfl (n:=w.Zv.length) (by omega) (fun k hk next=>?_) (fun next=>?_)
 ·have bl:=ZA0 h hk;unfold Znv;dsimp only;rw [S.bx,ZI hk,Cq1,Zkd S hk];simp only [Bq0];obtain⟨r,er⟩:=KP (Zk9 w) (show k + 1 <=w.Zv.length from hk);rw [Qm] at er
  have u1:UK (U1 w k ++ Zk9 w k):=by
   have:=u.pre.pre;unfold U1 at this;rw [er] at this;exact this.pre
  have lb:(Zk9 w k).length= (Xt w k).length:=List.length_map _;refine Ye (fun j=>((j:Int),U1 w k ++ (Zk9 w k).take j)) (by simp) (n:= (Xt w k).length) (by omega) (fun j hj next'=>?_) (fun next'=>?_)
  ·unfold Znu;dsimp only;rw [ZI hj,Cq1,YB 0 hj];simp only [Bq0];have e:=ZfW u1 (k:=j) (by omega);have ex:(Zk9 w k)[j]'(by omega)= ((Xt w k).getD j 0,(k:Int)):=by unfold Zk9;rw [List.getElem_map,YH hj]
   rw [ex] at e;rw [e,Yv (by omega)]
  ·unfold Znu;dsimp only;rw [ZR,Cq0,List.take_of_length_le (by omega),Yv (by omega)];have:U1 w (k + 1)=U1 w k ++ Zk9 w k:=Qm _ _;rw [this]
 ·unfold Znv;dsimp only;rw [S.bx,ZR,Cq0];refine Ye (fun k=>((k:Int),U1 w w.Zv.length ++ ZeI w k)) (by simp [ZeI]) (n:=w.qQ.length) (by omega) (fun k hk next'=>?_) (fun next'=>?_)
  ·have hl:=ZtW h k;unfold Znt;dsimp only;rw [S.hd,ZI hk,Cq1,Zc3 S hk];simp only [Bq0];obtain⟨r,er⟩:=KP (Zhm w) (show k + 1 <=w.qQ.length from hk);rw [Qm] at er
   have u1:UK (U1 w w.Zv.length ++ ZeI w k ++ Zhm w k):=by
    have:=u.pre;unfold ZeI at this;rw [er,← List.append_assoc,← List.append_assoc] at this;exact this.pre
   have lb:(Zhm w k).length= (ZH w k).length:=List.length_map _;refine Ye (fun j=>((j:Int),U1 w w.Zv.length ++ ZeI w k ++ (Zhm w k).take j)) (by simp) (n:= (ZH w k).length) (by omega) (fun j hj nx=>?_) (fun nx=>?_)
   ·unfold Zns;dsimp only;rw [ZI hj,Cq1,YB default hj];simp only [Bq0];have e:=ZfW u1 (k:=j) (by omega);have ex:(Zhm w k)[j]'(by omega)= (((ZH w k).getD j default).msg,((ZH w k).getD j default).place):=by unfold Zhm;rw [List.getElem_map,YH hj]
    rw [ex] at e;rw [e,Yv (by omega)]
   ·unfold Zns;dsimp only;rw [ZR,Cq0,List.take_of_length_le (by omega),Yv (by omega)];have:ZeI w (k + 1)=ZeI w k ++ Zhm w k:=Qm _ _;rw [this,List.append_assoc]
  ·unfold Znt;dsimp only;rw [S.hd,ZR,Cq0];refine Ye (fun k=>((k:Int),U1 w w.Zv.length ++ ZeI w w.qQ.length ++ owL (w.qG.take k))) (by simp [owL]) (n:=w.qG.length) (by omega) (fun k hk nx=>?_) (fun nx=>?_)
   ·unfold Znr;dsimp only;rw [ZI hk,Cq1,ZlA hk];simp only [Bq0];have el:ZF w k=w.qG[k]:=YH hk;by_cases e:(ZF w k).kind=1
    ·rw [Yg,decide_eq_true e,Cq1];unfold Zgn;rw [Yv (by omega),Zo8 hk,← el,ZaL e]
     have u1:UK (U1 w w.Zv.length ++ ZeI w w.qQ.length ++ owL (w.qG.take k) ++ [((ZF w k).Ya.msg,(ZF w k).Ya.place)]):=by
      rw [Zlv hk,ZaL e,← List.append_assoc,← List.append_assoc] at u;exact u.pre
     have e2:=ZfW u1 (k:=0) (by simp)
     have e3:UB (U1 w w.Zv.length ++ ZeI w w.qQ.length ++ owL (w.qG.take k)) (ZF w k).Ya.msg (ZF w k).Ya.place=U1 w w.Zv.length ++ ZeI w w.qQ.length ++ owL (w.qG.take k) ++ [((ZF w k).Ya.msg,(ZF w k).Ya.place)]:=by
      simpa using e2
     rw [e3,List.append_assoc _ (owL _)]
    ·rw [Yg,decide_eq_false e,Cq0];unfold Zgn;rw [Yv (by omega),Zo8 hk,← el,Zca e,List.append_nil]
   ·unfold Znr;dsimp only;rw [ZR,Cq0,List.take_of_length_le (Nat.le_refl _),← eO];have hs0:=h.shr.sd1;have hs1:=h.shr.sd2
    have k0:∀ x ∈ owes w,x.1 < w.said:=fun x hx=>by
     have:x.1 ∈ msgs w:=by rw [← WJ];exact List.mem_map.2 ⟨x,hx,rfl⟩
     have:=h.msg.mem_iff.1 this;unfold Xe at this;obtain⟨a,b,c⟩:=List.mem_map.1 this;have b:=List.mem_range.1 b;have c:(a:Int)=x.1:=c;omega
    refine Ye (fun j=>(((D.take j).foldl (stD l) (w.said,owes w)).1,Zpl D j,(j:Int),((D.take j).foldl (stD l) (w.said,owes w)).2)) rfl (n:=D.length) (by omega) (fun j hj ny=>?_) (fun ny=>?_)
    ·have sk:=ZwU l (D.take j) (w.said,owes w) k0;have sg:=ZGx l (D.take j) (w.said,owes w);have sl:(D.take j).length <=900:=by rw [List.length_take];omega
     have dj:=hD _ (Yn (d:= (0:Int)) hj);have lj:=Zyb hP (fun x hx=>(hD x hx).1) hj;obtain⟨i,ei,hi⟩:∃ i:Nat,D.getD j 0= (i:Int)∧i < l.length:= ⟨(D.getD j 0).toNat,by omega,by omega⟩
     have tk:D.take (j + 1)=D.take j ++ [D.getD j 0]:=by rw [List.take_succ_eq_append_getElem hj,YH hj]
     unfold Znq;dsimp only;rw [ZI hj,Cq1,YB 0 hj];simp only [Bq0];rw [Zrq,tk,List.foldl_append];rw [ei] at lj dj ⊢;rw [decide_eq_false (by omega),decide_eq_false (by omega),Bool.or_self,Cq0,YB default hi];simp only [Bq0,List.foldl_cons,List.foldl_nil];generalize hg:(D.take j).foldl (stD l) (w.said,owes w)=st at *;unfold stD;rw [Int.toNat_natCast];by_cases d:(l.getD i default).act=1
     ·rw [Yg,decide_eq_true d,Cq1,if_pos d];unfold Zgm;dsimp only
      rw [Zpb fun z=>by
       obtain⟨x,hx,e⟩:=List.mem_map.1 z;have:=sk.1 x hx;have e:x.1=st.1:=e;omega,Yv (by omega),Za2 (by dsimp only at sg sk;omega) (by dsimp only at sg sk;omega)]
     ·rw [Yg,decide_eq_false d,Cq0,if_neg d];unfold Zgm;dsimp only;rw [Yv (by omega)]
    ·unfold Znq;dsimp only;rw [ZR,Cq0,List.take_of_length_le (Nat.le_refl _)]
theorem ZxD (w:Zb) (k:Nat):(U1 w (k + 1)).length= (U1 w k).length + (Xt w k).length:=by
 have:U1 w (k + 1)=U1 w k ++ Zk9 w k:=Qm _ _;rw [this,List.length_append];show _ + ((Xt w k).map _).length=_;rw [List.length_map]
theorem Zq7 (hF:1000 <=F) (h:Wd w) (he:w.qG= []) {T:List (Int×Int)} (hT:T.Perm (owes w)):ZvN F w T=some true:=by
 have S:=h.shr.KA;have h8:=S.p2;have h5:=S.m2
 have u:UK T:=by
  show(T.map Prod.fst).Nodup;rw [(hT.map Prod.fst).nodup_iff];exact ZiD h
 have ro:=Zu2 h he;have eB:owB w=U1 w w.Zv.length:=by unfold owB U1;rw [S.bx];rfl
 have tl:T.length= (U1 w w.Zv.length).length:=by rw [hT.length_eq,ro,eB]
 have sl:w.said= (T.length:Int):=by
  have a:=h.msg.length_eq;rw [XL,← WJ,List.length_map] at a;have:=hT.length_eq;have:=h.shr.sd1;omega
 have hs2:=h.shr.sd2
 have mono:∀ {a b:Nat},a <=b ->(U1 w a).length <= (U1 w b).length:=fun{a b} hab=>by
  obtain⟨r,e⟩:=KP (Zk9 w) hab;unfold U1;rw [e,List.length_append];omega
 unfold ZvN;refine Ye (fun k=>(((U1 w k).length:Int),(k:Int))) rfl (n:=w.Zv.length) (by omega) (fun k hk next=>?_) (fun next=>?_)
 ·unfold Zno;dsimp only;rw [S.bx,ZI hk,Cq1,Zkd S hk];simp only [Bq0];have bl:=ZA0 h hk;have ol:=ZxD w k;have m1:=mono (show k + 1 <=w.Zv.length from hk);refine Ye (fun j=>((((U1 w k).length + j:Nat):Int),(j:Int))) (by simp) (n:= (Xt w k).length) (by omega) (fun j hj nx=>?_) (fun nx=>?_)
  ·unfold Znn;dsimp only;rw [ZI hj,Cq1,YB 0 hj];simp only [Bq0]
   have hm:((Xt w k).getD j 0,(k:Int)) ∈ T:=by
    rw [hT.mem_iff,ro];unfold owB;exact List.mem_flatMap.2 ⟨k,List.mem_range.2 (by rw [S.bx];exact hk),List.mem_map.2 ⟨_,Yn hj,rfl⟩⟩
   unfold ZxA;rw [u.get hm];simp only [Bq0,Option.getD_some,Option.isSome_some,Bool.not_true,Bool.false_or];rw [JJ,Cq0,Yv (by omega),Yv (by omega)]
   rfl
  ·unfold Znn;dsimp only;rw [ZR,Cq0,Yv (by omega),ol]
 ·unfold Zno;dsimp only;rw [S.bx,ZR,Cq0];refine Ye (fun k=>(k:Int)) rfl (n:=w.qQ.length) (by omega) (fun k hk nx=>?_) (fun nx=>?_)
  ·unfold Znm;rw [S.hd,ZI hk,Cq1,Zc3 S hk];simp only [Bq0];rw [Zls h he hk,decide_eq_false (by simp),Cq0,Yv (by omega)]
  ·unfold Znm;rw [S.hd,ZR,Cq0,he,tl,beq_self_eq_true,← tl,sl,beq_self_eq_true];rfl
theorem Zkx (w:Zb) (l:List ZC) (p:List Int) (h1:p.length <=9223372036854775807):f6L (900000 + p.length) w l p=some true:=by
 have hF:400000 <=900000 + p.length:=by omega
 obtain⟨b,eb,ib⟩:=Zz4 hF w l [p] (by simp) (by
  intro q hq;rw [List.mem_singleton.1 hq];exact⟨by omega,h1⟩)
 generalize eF:900000 + p.length=F at *;unfold f6L;rw [eb];simp only [Bq0];cases b with
 | false=>rfl
 | true=>
 obtain⟨sm0,h,hl,hpk⟩:=ib rfl;have k1:=hpk p (by simp);have hM:F <=1000000:=by have:=k1.1;omega
 have hwl:=sm0.qG;have I:=Ztp h l l.length;have i1:=I.qG;have i3:=I.dn;have smI:Kl 400 (YU w l l.length).1:=KJ I.wd (by omega) (by omega);obtain⟨n,hn,he,hlt⟩:=ZEd I.wd p;have J:=drI I.wd p n;have smJ:Kl 400 (Jc (YU w l l.length).1 p n).1:=KJ J.wd (by omega) (by rw [he];simp);have dn:=ZCK w l l.length;rw [Bool.not_true,Cq0,Zu9 hF hM h (by omega) hl];simp only [Bq0];rw [JJ,Bool.not_false,YK,Zoq hF smI I.wd];simp only [Bq0];rw [Bool.not_true,Bool.or_self,Cq0,ZCL (by omega) h (by omega) (by omega) (by omega) dn.1 dn.2,Zva h];simp only [Bq0];rw [Bool.not_true,Cq0,Zsm hF hM I.wd (by omega) k1 hn he hlt];simp only [Bq0];rw [beq_self_eq_true,YK,Zoq hF smJ J.wd];simp only [Bq0];rw [Bool.and_self,YK,Zq7 (by omega) J.wd he ((J.ow.trans (ZCJ h l l.length)).symm)]
 rfl
end
end Go.Proofs.YtbmbbcaaimehkaaGreat
end
