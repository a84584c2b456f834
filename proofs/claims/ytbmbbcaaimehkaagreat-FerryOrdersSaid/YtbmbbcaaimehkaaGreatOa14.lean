/- Orders Part 14 of the proof. -/
import Derived.Test.YtbmbbcaaimehkaaGreatOa13
set_option linter.all false
set_option maxHeartbeats 2000000
section
namespace Go.Proofs.YtbmbbcaaimehkaaGreat
open Go.Lf
theorem Zbc {u:Zb} (s:WQ u) {m p:Nat} (hm:m < u.entries.length) (m':Nat):ZB (KM u m p) m'=if m'=m then(ZB u m).filter (fun y=>!Uu p y) else ZB u m':=
 JD (by rw [s.hd];exact hm)
theorem ZoT {u:Zb} (s:WQ u) {m p:Nat} (hp:p < u.Zv.length) (p':Nat):Y1 (KM u m p) p'=if p'=p then Y1 u p ++ ((ZB u m).filter (Uu p)).map (fun y=>y.msg) else Y1 u p':=
 JD (by rw [s.bx];exact hp)
structure ZJo (w:Zb) (x:Zc) (k:Nat):Prop where
 hl:∀ m,m < w.entries.length ->(ZB (Yk w x k).1 m).length <=900
 bx:∀ p,p < w.Zv.length ->(Y1 (Yk w x k).1 p).length <=900 * (k + 1)
 ev:(Yk w x k).2.length <=901 * k
theorem ZE4 {w:Zb} (s:WQ w) (sm:WW 900 w) {x:Zc} {m:Nat} (v:MvL w x m):∀ k,k <=x.places.length ->ZJo w x k:=by
 intro k;have hin:=X3 w x x.places.length
 induction k with
 | zero=>
   intro _;refine⟨fun m' hm'=>?_,fun p hp=>?_,Nat.zero_le _⟩
   ·have:ZB (Yk w x 0).1 m'=ZB w m':=by unfold ZB;rw [show(Yk w x 0).1=XJ w x x.places.length from rfl,hin.2.2.1]
    rw [this];exact Nat.le_of_lt (Zmn s sm hm')
   ·have:Y1 (Yk w x 0).1 p=Y1 w p:=by unfold Y1;rw [show(Yk w x 0).1=XJ w x x.places.length from rfl,hin.2.1]
    rw [this];have:=Zqo s sm hp;omega
 | succ k ih=>
   intro hk;have b:=ih (by omega);have hs:=UY s v k;have hi:=WA w x k;have hM:(Yk w x k).1.entries.length=w.entries.length:=by rw [hi.2.2.2.1,hin.2.2.2.2.2]
   have hp:= (v.UX (i:=k) (by omega)).2;have hm:x.ZR.toNat < (Yk w x k).1.entries.length:=by rw [hM,v.ZR,Int.toNat_natCast];exact v.hm
   have hp':UX x k < (Yk w x k).1.Zv.length:=by rw [hi.1];exact hp
   have hl0:=b.hl x.ZR.toNat (by rw [← hM];exact hm);refine⟨fun m' hm'=>?_,fun p hp1=>?_,?_⟩
   ·show(ZB (KM (Yk w x k).1 x.ZR.toNat (UX x k)) m').length <=900;rw [Zbc hs hm];by_cases e:m'=x.ZR.toNat
    ·rw [if_pos e];exact Nat.le_trans (List.length_filter_le _ _) hl0
    ·rw [if_neg e];exact b.hl m' hm'
   ·show(Y1 (KM (Yk w x k).1 x.ZR.toNat (UX x k)) p).length <=900 * (k + 1 + 1);rw [ZoT hs hp'];by_cases e:p=UX x k
    ·rw [if_pos e,List.length_append,List.length_map];have h1:=b.bx (UX x k) hp;have h2:=List.length_filter_le (Uu (UX x k)) (ZB (Yk w x k).1 x.ZR.toNat);omega
    ·rw [if_neg e];have:=b.bx p hp1;omega
   ·show((Yk w x k).2 ++ Zmm (Yk w x k).1 x.ZR.toNat (UX x k)).length <=901 * (k + 1);have h1:=b.ev;have h2:=List.length_filter_le (Uu (UX x k)) (ZB (Yk w x k).1 x.ZR.toNat);rw [List.length_append];unfold Zmm;rw [List.length_cons,List.length_map];omega
theorem ZrL {F:Nat} (hF:1000 <=F) {w:Zb} (s:WQ w) {x:Zc} {m:Nat} (v:MvL w x m) {r:Option Yj} {l:List Zc} {ev:List ZI}
 (hr:loop F (Zef F x) (0,w.Zv,w.boxes,(XJ w x x.places.length).entries,w.held,l,w.said,ev)=r):loop F (Zhb F ⟨w,ev⟩ x l) (0,w.entries)=r:=by
 have h8:=v.few;refine Yd (fun k=>((k:Int),(XJ w x k).entries)) rfl (n:=x.places.length) (by omega) (fun k hk next=>?_) (fun next=>?_)
 ·obtain⟨e,hp⟩:=v.UX hk;have hs:=ZeC s v k;have hi:=X3 w x k;have hm:m < (XJ w x k).entries.length:=by rw [hi.2.2.2.2.2];exact v.hm
  unfold Zhb;dsimp only;rw [ZF hk,Cq1,Yt 0 hk];simp only [Bq0];rw [v.ZR,hs.row hm];simp only [Bq0];rw [Yt 0 (by rw [v.len];exact hk)];simp only [Bq0];rw [e,hs.ent hm (by rw [hi.1];exact hp)];simp only [Bq0];rw [Yv (by omega)]
  have:XJ w x (k + 1)=setW (XJ w x k) m (UX x k) ⟨true,(m:Int),x.ZW.getD k 0⟩:=by
   show setW (XJ w x k) x.ZR.toNat (UX x k) ⟨true,x.ZR,x.ZW.getD k 0⟩=_;rw [v.ZR,Int.toNat_natCast]
  rw [this];rfl
 ·unfold Zhb;dsimp only;rw [ZO,Cq0];exact hr
theorem ZnZ {F:Nat} (hF:1000 <=F) {w:Zb} (s:WQ w) (sm:WW 900 w) {x:Zc} {m:Nat} (v:MvL w x m) {ev:List ZI} (he:ev.length <=600000):
 loop F (Zef F x) (0,w.Zv,w.boxes,(XJ w x x.places.length).entries,w.held,w.wire,w.said,ev)=some ⟨(Zcv w x).1,ev ++ (Zcv w x).2⟩:=by
 have h8:=v.few;have h0:=X3 w x x.places.length;refine Yd (fun k=>((k:Int),(Yk w x k).1.Zv,(Yk w x k).1.boxes,(Yk w x k).1.entries,(Yk w x k).1.held,(Yk w x k).1.wire,(Yk w x k).1.said,ev ++ (Yk w x k).2)) ?_ (n:=x.places.length) (by omega) (fun k hk next=>?_) (fun next=>?_)
 ·show((0:Int),(XJ w x x.places.length).Zv,(XJ w x x.places.length).boxes,_,(XJ w x x.places.length).held,(XJ w x x.places.length).wire,(XJ w x x.places.length).said,ev ++ [])=_;rw [h0.1,h0.2.1,h0.2.2.1,h0.2.2.2.1,h0.2.2.2.2.1,List.append_nil];rfl
 ·obtain⟨e,hp⟩:=v.UX hk;have hs:=UY s v k;have hi:=WA w x k;have b:=ZE4 s sm v k (by omega);have hM:(Yk w x k).1.entries.length=w.entries.length:=by rw [hi.2.2.2.1,h0.2.2.2.2.2]
  have hm:m < (Yk w x k).1.entries.length:=by rw [hM];exact v.hm
  have hb:=b.bx _ hp;have hl:=b.hl m v.hm;have hev:=b.ev;unfold Zef;dsimp only;rw [ZF hk,Cq1,Yt 0 hk];simp only [Bq0];rw [app1 (by rw [List.length_append];omega) (by omega)];simp only [Bq0];rw [v.ZR,Zi1 hs hm];simp only [Bq0];rw [e,Zuq hF hs hm (by rw [hi.1];exact hp) hl (by omega) v.ZR (by rw [List.length_append,List.length_append,List.length_singleton];omega),Yv (by omega)]
  have:Yk w x (k + 1)= (KM (Yk w x k).1 m (UX x k),(Yk w x k).2 ++ Zmm (Yk w x k).1 m (UX x k)):=by
   show(KM (Yk w x k).1 x.ZR.toNat (UX x k),(Yk w x k).2 ++ Zmm (Yk w x k).1 x.ZR.toNat (UX x k))=_;rw [v.ZR,Int.toNat_natCast]
  rw [this];unfold Zmm;simp only [List.append_assoc,List.singleton_append]
 ·unfold Zef;dsimp only;rw [ZO,Cq0];rfl
theorem Zck (x:Zc) (p:Nat):∀ k,k <=x.places.length ->(Uo x p k).length= (x.places.take k).count (p:Int):=by
 intro k
 induction k with
 | zero=>intro _;simp [Uo]
 | succ k ih=>
   intro hk;have hk':k < x.places.length:=by omega
   rw [ZdK,List.length_append,ih (by omega),List.take_add_one,List.getElem?_eq_getElem hk',List.count_append,List.getD_eq_getElem?_getD,List.getElem?_eq_getElem hk'];congr 1;show _=List.count (p:Int) [x.places[k]];rw [List.count_singleton];by_cases e:x.places[k]= (p:Int)
   ·simp [e]
   ·simp [e]
theorem Zpn {l:List Zc} {x:Zc} (hx:x ∈ l) (p:Nat):(UL x p).length <= (XI l p).length:=by
 unfold XI
 induction l with
 | nil=>cases hx
 | cons y l ih=>
   rw [List.flatMap_cons,List.length_append];rcases List.mem_cons.1 hx with q | q
   ·rw [q];omega
   ·have:=ih q;omega
theorem Wd.nodup {w:Zb} (h:Wd w) {x:Zc} (hx:x ∈ w.wire) (hk:x.kind=2):x.places.Nodup:=by
 rw [List.nodup_iff_count];intro a;by_cases ha:a ∈ x.places
 ·obtain⟨i,hi,rfl⟩:=List.getElem_of_mem ha;have e0:x.places.getD i 0=x.places[i]:=by rw [List.getD_eq_getElem?_getD,List.getElem?_eq_getElem hi];rfl
  have hp:= (h.shr.Xe x hx).UX i hi
  have hr:0 <=x.places[i]∧x.places[i] < (w.Zv.length:Int):=by
   rw [← e0]
   first
    | exact⟨hp.1,hp.2.1⟩
    | exact⟨hp.2.1,hp.2.2.1⟩
  obtain⟨p,e⟩:∃ p:Nat,x.places[i]= (p:Int):= ⟨x.places[i].toNat,by omega⟩
  have hl:=h.loc p (by omega);unfold YC at hl;rw [List.length_append] at hl;have h1:=Zpn hx p;have h2:UL x p=Uo x p x.places.length:=by unfold UL;rw [if_pos hk]
  rw [h2,Zck x p _ (Nat.le_refl _),List.take_of_length_le (Nat.le_refl _)] at h1;rw [e];omega
 ·rw [List.count_eq_zero_of_not_mem ha];omega
theorem Wd.mvl {w:Zb} (h:Wd w) {x:Zc} (hx:x ∈ w.wire) (hk:x.kind=2):MvL w x x.ZR.toNat:=by
 have hl:=h.shr.Xe x hx;have h8:=h.shr.Kr.p2
 have Zub:∀ i,i < x.places.length ->InR (x.places.getD i 0) w.Zv.length:=fun i hi=>by
  have hp:=hl.UX i hi
  first
   | exact⟨hp.1,hp.2.1⟩
   | exact⟨hp.2.1,hp.2.2.1⟩
 have hsub:x.places ⊆ Y6 w.Zv.length:=fun a ha=>by
  have:= (Ut (d:= (0:Int)) (P:=fun a=>InR a w.Zv.length)).1 Zub a ha;unfold InR at this;unfold Y6;exact List.mem_map.2 ⟨a.toNat,List.mem_range.2 (by omega),by show((a.toNat:Nat):Int)=a;omega⟩
 have hlen:= (h.nodup hx hk).length_le_of_subset hsub;rw [XC] at hlen;exact⟨by have:=hl.to1;omega,by have:=hl.to1;have:=hl.to2;omega,hl.YO.len,by omega,Zub⟩
def ZY (w:Zb) (k:Nat):Zb:= {w with wire:=w.wire.take k ++ w.wire.drop (k + 1)}
def JG (w:Zb) (x:Zc):Zb:=if(E w x.ZR.toNat x.place.toNat).here=false∧(E w x.ZR.toNat x.place.toNat).age < x.age then setW w x.ZR.toNat x.place.toNat ⟨false,x.at_,x.age⟩ else w
def Qn (w:Zb) (k:Nat):Zb×List ZI:=
 if(Zw w k).kind=1 then Qd (ZY w k) (Zw w k).ZR.toNat (Zw w k).Zu false
 else if(Zw w k).kind=2 then Zcv (ZY w k) (Zw w k) else(JG (ZY w k) (Zw w k),[])
theorem WQ.ZY {w:Zb} (s:WQ w) (k:Nat):WQ (ZY w k):= ⟨s.m1,s.m2,s.p1,s.p2,s.bx,s.hd,s.rw_⟩
theorem Zez (w:Zb) {k:Nat} (hk:k < w.wire.length):(ZY w k).wire.length + 1=w.wire.length:=by
 show(w.wire.take k ++ w.wire.drop (k + 1)).length + 1=_;rw [List.length_append,List.length_take,List.length_drop];omega
theorem ZbQ {w:Zb} {k:Nat} {x:Zc} (h:x ∈ (ZY w k).wire):x ∈ w.wire:=by
 rcases List.mem_append.1 h with q | q
 ·exact List.mem_of_mem_take q
 ·exact List.mem_of_mem_drop q
theorem WW.ZY {n:Nat} {w:Zb} (sm:WW n w) {k:Nat} (hk:k < w.wire.length):WW n (ZY w k):=
 ⟨sm.Zv,sm.boxes,sm.entries,sm.held,by have:=Zez w hk;have:=sm.wire;omega,sm.box,sm.row,sm.hel,fun x hx=>sm.Xe x (ZbQ hx)⟩
theorem ZnE {α:Type} {l:List α} {a b:Nat} (h1:a <=b) (h2:b <=l.length):slL l (a:Int) (b:Int)=some ((l.take b).drop a):=by
 unfold slL;rw [decide_eq_true (show(0:Int) <= (a:Int) by omega),decide_eq_true (show(a:Int) <= (b:Int) by omega),decide_eq_true (show(b:Int) <= (l.length:Int) by omega)];rfl
section
variable {F:Nat} {w:Zb}
theorem ZvX (hF:1000 <=F) (sm:WW 900 w) {k:Nat} (hk:k < w.wire.length):Zvw w.wire (k:Int) (Xl ((k:Int) + 1))=some (ZY w k).wire:=by
 have hw:=sm.wire;unfold Zvw;rw [Yv (by omega),ZnE (by omega) (by omega)];simp only [Bq0];rw [Yq,decide_eq_false (by omega),Cq0,show slL w.wire 0 (k:Int)=some (w.wire.take k) from ZnE (a:=0) (by omega) (by omega)];simp only [Bq0];rw [ZnE (by omega) (by omega)];simp only [Bq0];rw [List.take_of_length_le (Nat.le_refl w.wire.length),ZkY (by rw [List.length_take,List.length_drop];omega) (by omega)];rfl
theorem ZiW {k:Nat} (hk:k < w.wire.length):ZN w.wire (k:Int)=some (Zw w k):=Yt default hk
theorem ZxF (h:Wd w) {x:Zc} (hx:x ∈ w.wire):x.kind=1∨x.kind=2∨x.kind=3:=by
 rcases(h.shr.Xe x hx).YO with⟨q,_⟩ | ⟨q,_⟩ | ⟨q,_⟩
 ·exact .inl q
 ·exact .inr (.inl q)
 ·exact .inr (.inr q)
theorem Zl0 (h:Wd w) {m:Int} {y:Zj} (hy:QE w m y):y.place.toNat < w.Zv.length∧0 <=y.place∧0 <=y.age∧y.age <=30∧1 <=y.hops∧y.hops <=y.age + 1:=by
 obtain⟨a1,a2,a3,a4,a5,a6,a7⟩:=hy;have hp:y.place.toNat < w.Zv.length:=by omega
 have h1:=a5.1;have h2:=a5.2.1;have h3:=ZaM h.shr hp (h.loc _ hp);rw [Int.add_comm,KZ (by omega) (by omega)] at a7;exact⟨hp,a1,by omega,by omega,a6,a7⟩
theorem Zrb (hF:1000 <=F) (h:Wd w) (sm:WW 900 w) {k:Nat} (hk:k < w.wire.length) {ev:List ZI} (he:ev.length <=600000):Zrz F ⟨w,ev⟩ (k:Int)=some ⟨(Qn w k).1,ev ++ (Qn w k).2⟩:=by
 have hx:Zw w k ∈ w.wire:=Yc hk;have hl:=h.shr.Xe _ hx;have hto:(Zw w k).ZR= ((Zw w k).ZR.toNat:Int):=by have:=hl.to1;omega
 have htl:(Zw w k).ZR.toNat < w.entries.length:=by have:=hl.to1;have:=hl.to2;omega
 have su:=h.shr.Kr.ZY k;have smu:=sm.ZY hk;unfold Zrz Qn;dsimp only;rw [ZiW hk];simp only [Bq0];rw [ZvX hF sm hk];simp only [Bq0];rcases ZxF h hx with q | q | q
 ·have hb:=Zl0 h (h.mai _ hx q);rw [if_pos q,Yq,decide_eq_true q,Cq1];have e:=ZnJ su smu (m:= (Zw w k).ZR.toNat) htl (x:= (Zw w k).Zu) hb.1 hb.2.1 (by omega) (by omega) false (ev:=ev) (by omega);rw [← hto] at e
  change ((Zru ⟨ZY w k,ev⟩ (Zw w k).ZR (Zw w k).Zu false).bind fun WY=>some WY)=_
  rw [e];rfl
 ·have v:MvL (ZY w k) (Zw w k) (Zw w k).ZR.toNat:=by
   have:=h.mvl hx q;exact⟨this.ZR,this.hm,this.len,this.few,this.rng⟩
  rw [if_neg (by omega),if_pos q,Yq,decide_eq_false (by omega),Cq0,Yq,decide_eq_true q,Cq1];have e:=ZrL hF (w:=ZY w k) su v (l:= (ZY w k).wire) (ev:=ev) (ZnZ hF su smu v he);exact e
 ·have hn:=hl.ntd q;obtain⟨p,hp⟩:∃ p:Nat,(Zw w k).place= (p:Int):= ⟨(Zw w k).place.toNat,by omega⟩
  have hpl:p < w.Zv.length:=by omega
  rw [if_neg (by omega),if_neg (by omega),Yq,decide_eq_false (by omega),Cq0,Yq,decide_eq_false (by omega),Cq0,Yq,decide_eq_true q,Cq1];unfold JG Zg8;rw [hto,Int.toNat_natCast,h.shr.Kr.row htl];simp only [Bq0];rw [hp,Int.toNat_natCast,h.shr.Kr.ent htl hpl];simp only [Bq0];have eE:E (ZY w k) (Zw w k).ZR.toNat p=E w (Zw w k).ZR.toNat p:=rfl;rw [eE,List.append_nil];by_cases c:(E w (Zw w k).ZR.toNat p).here=false∧(E w (Zw w k).ZR.toNat p).age < (Zw w k).age
  ·rw [if_pos c,c.1,decide_eq_true c.2];rfl
  ·rw [if_neg c]
   have:((!(E w (Zw w k).ZR.toNat p).here) && decide ((E w (Zw w k).ZR.toNat p).age < (Zw w k).age))=false:=by
    rw [← Bool.not_eq_true];intro z;simp only [Bool.and_eq_true,Bool.not_eq_true',decide_eq_true_eq] at z;exact c z
   rw [this];rfl
end
end Go.Proofs.YtbmbbcaaimehkaaGreat
end
section
namespace Go.Proofs.YtbmbbcaaimehkaaGreat
open Go.Lf
end Go.Proofs.YtbmbbcaaimehkaaGreat
end
section
namespace Go.Proofs.YtbmbbcaaimehkaaGreat
open Go.Lf
section
variable {w:Zb} {m:Nat} {L:List Int} {to:Int}
theorem Zlm {α:Type} [DecidableEq α] {l:List α} (nd:l.Nodup) {k:Nat} (h:k < l.length):l[k] ∉ l.take k:= (Zcu.1 nd) k h
theorem Uk {α:Type} {l:List α} {k:Nat} (h:k < l.length) {x:α}:x ∈ l.take (k + 1)↔x ∈ l.take k∨x=l[k]:=by
 rw [List.take_succ_eq_append_getElem h,List.mem_append,List.mem_singleton]
theorem QC {α:Type} {l:List α} {k:Nat} {d:α} (h:k < l.length):l.getD k d=l[k]:=by
 rw [List.getD_eq_getElem?_getD,List.getElem?_eq_getElem h];rfl
theorem Zh8 {α β:Type} {l:List α} {f:α ->β} {k:Nat} (h:k < l.length) (d:α):(l.take (k + 1)).map f= (l.take k).map f ++ [f (l.getD k d)]:=by
 rw [List.take_succ_eq_append_getElem h,List.map_append,QC h];rfl
end
end Go.Proofs.YtbmbbcaaimehkaaGreat
end
section
namespace Go.Proofs.YtbmbbcaaimehkaaGreat
open Go.Lf
section
variable {F:Nat} {w:Zb}
end
end Go.Proofs.YtbmbbcaaimehkaaGreat
end
section
namespace Go.Proofs.YtbmbbcaaimehkaaGreat
open Go.Lf
theorem Zbb {w w':Zb} {p:Nat}:∀ {k:Nat},(∀ m,m < k ->E w' m p=E w m p) ->Y7 w' p k=Y7 w p k:=by
 intro k
 induction k with
 | zero=>intro _;rfl
 | succ k ih=>intro h;rw [QX,QX,ih fun m hm=>h m (by omega),h k (by omega)]
theorem Zrh {w:Zb} {p:Nat}:∀ {k:Nat},(∀ m,m < k ->(E w m p).here=false) ->Y7 w p k= []:=by
 intro k
 induction k with
 | zero=>intro _;rfl
 | succ k ih=>intro h;rw [QX,ih fun m hm=>h m (by omega),h k (by omega)];simp
theorem Zrg {w:Zb} {p m:Nat} (hh:(E w m p).here=true):∀ {k:Nat},m < k ->(∀ m',m' < k ->m' ≠ m ->(E w m' p).here=false) ->Y7 w p k= [⟨(m:Int),true,(E w m p).age⟩]:=by
 intro k
 induction k with
 | zero=>intro h;omega
 | succ k ih=>
   intro hm ho;rw [QX];by_cases e:m=k
   ·subst e;rw [Zrh fun m' hm'=>ho m' (by omega) (by omega),if_pos hh];rfl
   ·rw [ih (by omega) fun m' hm'=>ho m' (by omega),ho k (by omega) (fun z=>e z.symm)];simp
theorem Zml {w:Zb} {p k:Nat} (h:Y7 w p k= []):∀ m,m < k ->(E w m p).here=false:=by
 intro m hm;cases e:(E w m p).here with
 | false=>rfl
 | true=>
   have:Yl.mk (m:Int) true (E w m p).age ∈ Y7 w p k:=Zi0.2 ⟨m,hm,e,rfl⟩;rw [h] at this;cases this
theorem ZaH (a b:List Zc) (p:Nat):XI (a ++ b) p=XI a p ++ XI b p:=by unfold XI;exact List.flatMap_append
theorem Zst (x:Zc) (p:Nat):XI [x] p=UL x p:=by unfold XI;simp
theorem Zjr {x:Zc} (h:x.kind ≠ 2) (p:Nat):UL x p= []:=by unfold UL;rw [if_neg h]
theorem Zpm {l:List Zc} (h:∀ x ∈ l,x.kind ≠ 2) (p:Nat):XI l p= []:=by
 unfold XI;exact List.flatMap_eq_nil_iff.2 fun x hx=>Zjr (h x hx) p
theorem U3 {w:Zb} {k:Nat} (hk:k < w.wire.length):w.wire=w.wire.take k ++ Zw w k::w.wire.drop (k + 1):=by
 have e:Zw w k=w.wire[k]:=QC hk;rw [e,List.getElem_cons_drop,List.take_append_drop]
theorem U5 {w:Zb} {k:Nat} (hk:k < w.wire.length) (p:Nat):XI w.wire p=XI (w.wire.take k) p ++ UL (Zw w k) p ++ XI (w.wire.drop (k + 1)) p:=by
 have:=congrArg (fun l=>XI l p) (U3 hk);rw [this,ZaH,show Zw w k::w.wire.drop (k + 1)= [Zw w k] ++ w.wire.drop (k + 1) from rfl,ZaH,Zst,List.append_assoc]
theorem ZdL {w:Zb} {k:Nat} (p:Nat):XI (ZY w k).wire p=XI (w.wire.take k) p ++ XI (w.wire.drop (k + 1)) p:=ZaH _ _ _
theorem Zzt {w:Zb} {p:Nat} {s:Yl} (h:YC w p= [s]):sp w p=s:=by unfold sp UG;rw [h];rfl
theorem Za8 {w w':Zb} {p:Nat} (e1:Y7 w' p w'.entries.length=Y7 w p w.entries.length) (e2:XI w'.wire p=XI w.wire p):YC w' p=YC w p:=by unfold YC;rw [e1,e2]
theorem JQ {w w':Zb} {p:Nat} (h:YC w' p=YC w p):sp w' p=sp w p:=by unfold sp;rw [h]
structure Wm (w:Zb):Prop where
 shr:ShR w
 loc:∀ p,p < w.Zv.length ->(YC w p).length=1
 tog:∀ p,p < w.Zv.length ->0 <=inn w p ->(sp w (inn w p).toNat).machine= (sp w p).machine∧(sp w (inn w p).toNat).here= (sp w p).here∧((sp w p).here=false ->ZhR w p (inn w p))
 ent:∀ m,m < w.entries.length ->∀ p,p < w.Zv.length ->(E w m p).here=false ->RtX w p (E w m p).ZR (E w m p).age
 hel:∀ m,m < w.entries.length ->∀ x ∈ ZB w m,QE w m x∧sp w x.place.toNat= ⟨(m:Int),false,x.age⟩
 mai:∀ x ∈ w.wire,x.kind=1 ->QE w x.ZR x.Zu
 ntd:∀ x ∈ w.wire,x.kind=3 ->RtX w x.place.toNat x.at_ x.age
theorem Wd.wm {w:Zb} (h:Wd w):Wm w:= ⟨h.shr,h.loc,h.tog,h.ent,h.hel,h.mai,h.ntd⟩
theorem Wm.wd {w:Zb} (h:Wm w) (hm:(msgs w).Perm (Y6 w.said.toNat)):Wd w:= ⟨h.shr,h.loc,h.tog,h.ent,h.hel,h.mai,h.ntd,hm⟩
structure Mv (w w':Zb):Prop where
 inl:w'.Zv.length=w.Zv.length
 enl:w'.entries.length=w.entries.length
 rt:∀ p,p < w.Zv.length ->∀ m a,RtX w p m a ->RtX w' p m a
theorem Mv.of {w w':Zb} (inl:w'.Zv.length=w.Zv.length) (enl:w'.entries.length=w.entries.length) (hE:∀ m p,p < w.Zv.length ->(E w m p).age <= (E w' m p).age)
 (hs:∀ p,p < w.Zv.length ->((sp w' p).machine= (sp w p).machine∧(sp w' p).age= (sp w p).age)∨∃ m:Nat,(sp w p).machine= (m:Int)∧(sp w p).age < (sp w' p).age∧(sp w p).age < (E w' m p).age):Mv w w':=by
 refine⟨inl,enl,fun p hp m a h=>?_⟩;obtain⟨h1,h2,h3,h4,h5,h6⟩:=h;have hE':=hE m.toNat p hp;rcases hs p hp with⟨e1,e2⟩ | ⟨k,e1,e2,e3⟩
 ·refine⟨h1,by omega,h3,by omega,fun q=>?_,fun q=>?_⟩
  ·rw [e1];exact h5 (by omega)
  ·have:=h6 (by omega);omega
 ·refine⟨h1,by omega,h3,by omega,fun q=>by omega,fun q=>?_⟩;by_cases c:a= (sp w p).age
  ·have:=h5 c;have:m.toNat=k:=by omega
   rw [this];omega
  ·have:=h6 c;omega
theorem Mv.Zu {w w':Zb} (v:Mv w w') {m:Int} {y:Zj} (h:QE w m y):QE w' m y:=by
 obtain⟨h1,h2,h3,h4,h5,h6⟩:=h;exact⟨h1,by rw [v.inl];exact h2,h3,by rw [v.enl];exact h4,v.rt _ (by omega) _ _ h5,h6⟩
theorem Mv.Xe {w w':Zb} (v:Mv w w') {x:Zc} (h:ZiE w x):ZiE w' x:=
 ⟨h.to1,by rw [v.enl];exact h.to2,h.YO,fun i hi=>by have:=h.UX i hi;unfold Ko at this ⊢;rw [v.inl];exact this,fun q=>by have:=h.ntd q;rw [v.inl];exact this⟩
theorem Mv.same {w w':Zb} (inl:w'.Zv.length=w.Zv.length) (enl:w'.entries=w.entries) (hs:∀ p,p < w.Zv.length ->YC w' p=YC w p):Mv w w':=
 Mv.of inl (by rw [enl]) (fun m p _=>by unfold E row;rw [enl];exact Int.le_refl _) fun p hp=>.inl (by rw [JQ (hs p hp)];exact⟨rfl,rfl⟩)
def owB (w:Zb):List (Int×Int):= (List.range w.boxes.length).flatMap fun p=>(Y1 w p).map fun n=>(n,(p:Int))
def owH (w:Zb):List (Int×Int):= (List.range w.held.length).flatMap fun m=>(ZB w m).map fun y=>(y.msg,y.place)
def owL (l:List Zc):List (Int×Int):= (l.filter fun x=>x.kind==1).map fun x=>(x.Zu.msg,x.Zu.place)
def owes (w:Zb):List (Int×Int):=owB w ++ owH w ++ owL w.wire
theorem Zgj (w:Zb):(owes w).map Prod.fst=msgs w:=by
 unfold owes msgs;rw [List.map_append,List.map_append];congr 1
 ·congr 1
  ·unfold owB;rw [List.map_flatMap];have:=Zcs w.boxes [] (fun l=>l);rw [List.flatMap_id'] at this;rw [← this];congr 1;funext p;rw [List.map_map];show(Y1 w p).map (fun n=>n)=_;rw [List.map_id'];rfl
  ·unfold owH Qf;rw [List.map_flatMap,← Zcs w.held [] (fun x=>x.map fun y=>y.msg)];congr 1;funext p;rw [List.map_map];rfl
 ·unfold owL QG;rw [List.map_map];rfl
theorem ZmB {α:Type} [BEq α] {f g:Nat ->List α} {p:Nat} (h:∀ k,k ≠ p ->f k=g k) (a:α):∀ {n:Nat},p < n ->((List.range n).flatMap f).count a + (g p).count a= ((List.range n).flatMap g).count a + (f p).count a:=by
 intro n
 induction n with
 | zero=>intro h;omega
 | succ n ih=>
   intro hp;rw [List.range_succ,List.flatMap_append,List.flatMap_append,List.count_append,List.count_append];simp only [List.flatMap_cons,List.flatMap_nil,List.append_nil];by_cases e:p=n
   ·subst e
    have:(List.range p).flatMap f= (List.range p).flatMap g:=by
     unfold List.flatMap;congr 1;exact List.map_congr_left fun k hk=>h k (by have:=List.mem_range.1 hk;omega)
    rw [this];omega
   ·have:=ih (by omega);rw [h n (fun z=>e z.symm)];omega
theorem Kg (a b:List Zc):owL (a ++ b)=owL a ++ owL b:=by unfold owL;rw [List.filter_append,List.map_append]
theorem ZqZ {w:Zb} {k:Nat} (hk:k < w.wire.length):owL w.wire=owL (w.wire.take k) ++ owL [Zw w k] ++ owL (w.wire.drop (k + 1)):=by
 have:=congrArg owL (U3 hk);rw [this,Kg,show Zw w k::w.wire.drop (k + 1)= [Zw w k] ++ w.wire.drop (k + 1) from rfl,Kg,List.append_assoc]
theorem Zc2 {x:Zc} (h:x.kind=1):owL [x]= [(x.Zu.msg,x.Zu.place)]:=by unfold owL;simp [h]
theorem Zgk {x:Zc} (h:x.kind ≠ 1):owL [x]= []:=by unfold owL;simp [h]
theorem ZpD (w w':Zb) {p:Nat} (hp:p < w.boxes.length) {l:List Int} (h:w'.boxes=Yz w.boxes (p:Int) (Y1 w p ++ l)) (a:Int×Int):(owB w').count a= (owB w).count a + (l.map fun n=>(n,(p:Int))).count a:=by
 have hb:∀ k,Y1 w' k=if k=p then Y1 w p ++ l else Y1 w k:=fun k=>by unfold Y1;rw [h];exact JD hp
 have:=ZmB (f:=fun k=>(Y1 w' k).map fun n=>(n,(k:Int))) (g:=fun k=>(Y1 w k).map fun n=>(n,(k:Int))) (p:=p) (fun k hk=>by rw [hb,if_neg hk]) a (n:=w.boxes.length) hp;rw [hb,if_pos rfl,List.map_append,List.count_append] at this;have e:w'.boxes.length=w.boxes.length:=by rw [h,Xa]
 unfold owB;rw [e];omega
theorem ZpC (w w':Zb) {m:Nat} (hm:m < w.held.length) {l:List Zj} (h:w'.held=Yz w.held (m:Int) l) (a:Int×Int):(owH w').count a + ((ZB w m).map fun y=>(y.msg,y.place)).count a= (owH w).count a + (l.map fun y=>(y.msg,y.place)).count a:=by
 have hb:∀ k,ZB w' k=if k=m then l else ZB w k:=fun k=>by unfold ZB;rw [h];exact JD hm
 have:=ZmB (f:=fun k=>(ZB w' k).map fun y=>(y.msg,y.place)) (g:=fun k=>(ZB w k).map fun y=>(y.msg,y.place)) (p:=m) (fun k hk=>by rw [hb,if_neg hk]) a (n:=w.held.length) hm;rw [hb,if_pos rfl] at this;have e:w'.held.length=w.held.length:=by rw [h,Xa]
 unfold owH;rw [e];omega
theorem ZjV {w w':Zb} (e:w'.Zv=w.Zv) (q:Int):inn w' q=inn w q:=by unfold inn;rw [e]
theorem ZEw {w w':Zb} (e:w'.Zv=w.Zv) (q:Int):∀ k,up w' k q=up w k q:=by
 intro k
 induction k with
 | zero=>rfl
 | succ k ih=>rw [UM,UM,ih,ZjV e]
theorem Inn.eq {w w':Zb} (h:Inn w) (e:w'.Zv=w.Zv):Inn w':=
 ⟨fun p hp=>by have:=h.rng p (by rw [← e];exact hp);unfold okN at this ⊢;rw [ZjV e,e];exact this,fun p hp=>by rw [ZEw e,e];exact h.acy p (by rw [← e];exact hp)⟩
theorem Znj {w w':Zb} (e:w'.entries=w.entries) (m p:Nat):E w' m p=E w m p:=by unfold E row;rw [e]
theorem ZdF.eq {w w':Zb} (e:w'.entries=w.entries) {m p:Nat} (h:ZdF w m p):ZdF w' m p:=by
 unfold ZdF at h ⊢;rw [Znj e,e];exact h
theorem Wm.upd {w w':Zb} (h:Wm w) (Zfq:w'.Zv=w.Zv) (Zfr:w'.entries=w.entries) (hbx:w'.boxes.length=w.boxes.length) (hhd:w'.held.length=w.held.length) (hs1:0 <=w'.said) (hs2:w'.said <=40)
 (ZKQ:∀ p,XI w'.wire p=XI w.wire p) (hk2:∀ x ∈ w.wire,x.kind=2 ->x ∈ w'.wire)
 (hlet:∀ x ∈ w'.wire,x ∈ w.wire∨(ZiE w x∧(x.kind=1 ->QE w x.ZR x.Zu)∧(x.kind=3 ->RtX w x.place.toNat x.at_ x.age)))
 (ZLa:∀ m,m < w.entries.length ->∀ y ∈ ZB w' m,y ∈ ZB w m∨(QE w m y∧sp w y.place.toNat= ⟨(m:Int),false,y.age⟩)):Wm w':=by
 have hloc:∀ p,YC w' p=YC w p:=fun p=>Za8 (by rw [Zfr];exact Zbb fun m _=>Znj Zfr m p) (ZKQ p)
 have v:Mv w w':=Mv.same (by rw [Zfq]) Zfr fun p _=>hloc p
 have hsp:∀ p,sp w' p=sp w p:=fun p=>JQ (hloc p)
 have S:=h.shr.Kr;refine⟨⟨⟨by rw [Zfr];exact S.m1,by rw [Zfr];exact S.m2,by rw [Zfq];exact S.p1,by rw [Zfq];exact S.p2,by rw [hbx,Zfq];exact S.bx,by rw [hhd,Zfr];exact S.hd,by rw [Zfr,Zfq];exact S.rw_⟩,h.shr.inn.eq Zfq,hs1,hs2,fun m hm p hp=>(h.shr.ent m (by rw [← Zfr];exact hm) p (by rw [← Zfq];exact hp)).eq Zfr,fun x hx=>?_⟩,fun p hp=>?_,fun p hp hq=>?_,fun m hm p hp hh=>?_,fun m hm y hy=>?_,fun x hx hk=>?_,fun x hx hk=>?_⟩
 ·rcases hlet x hx with q | q
  ·exact v.Xe (h.shr.Xe x q)
  ·exact v.Xe q.1
 ·rw [hloc];exact h.loc p (by rw [← Zfq];exact hp)
 ·rw [ZjV Zfq] at hq ⊢;rw [hsp,hsp];have:=h.tog p (by rw [← Zfq];exact hp) hq;refine⟨this.1,this.2.1,fun z=>?_⟩;obtain⟨x,hx,k,a,b⟩:=this.2.2 z;exact⟨x,hk2 x hx k,k,a,b⟩
 ·rw [Znj Zfr] at hh ⊢;exact v.rt p (by rw [← Zfq];exact hp) _ _ (h.ent m (by rw [← Zfr];exact hm) p (by rw [← Zfq];exact hp) hh)
 ·rw [Zfr] at hm;rw [hsp];rcases ZLa m hm y hy with q | q
  ·have:=h.hel m hm y q;exact⟨v.Zu this.1,this.2⟩
  ·exact⟨v.Zu q.1,q.2⟩
 ·rcases hlet x hx with q | q
  ·exact v.Zu (h.mai x q hk)
  ·exact v.Zu (q.2.1 hk)
 ·rcases hlet x hx with q | q
  ·have hn:= (h.shr.Xe x q).ntd hk;exact v.rt _ (by omega) _ _ (h.ntd x q hk)
  ·have hn:=q.1.ntd hk;exact v.rt _ (by omega) _ _ (q.2.2 hk)
section
variable {w:Zb}
theorem ZfK (h:Wm w) {k:Nat} (hk:k < w.wire.length) (h2:(Zw w k).kind ≠ 2):Wm (ZY w k):=by
 refine h.upd rfl rfl rfl rfl h.shr.sd1 h.shr.sd2 (fun p=>?_) (fun x hx hk2=>?_) (fun x hx=>.inl (ZbQ hx)) (fun m _ y hy=>.inl hy)
 ·rw [U5 hk,Zjr h2,ZdL,List.append_nil]
 ·rw [U3 hk] at hx;rcases List.mem_append.1 hx with q | q
  ·exact List.mem_append.2 (.inl q)
  ·rcases List.mem_cons.1 q with r | r
   ·rw [r] at hk2;exact absurd hk2 h2
   ·exact List.mem_append.2 (.inr r)
structure Rtd (w:Zb) (m:Nat) (x:Zj) (now:Bool):Prop where
 hm:m < w.entries.length
 pl:InR x.place w.Zv.length
 fr:InR x.from_ w.entries.length
 old:now=false ->QE w m x
 new:now=true ->x.age=0∧x.hops=0
theorem Wm.ZaM (h:Wm w) {p:Nat} (hp:p < w.Zv.length):(sp w p).age <=30:=Proofs.YtbmbbcaaimehkaaGreat.ZaM h.shr hp (h.loc p hp)
theorem Zq5 {to:Int} {y:Zj} (h1:0 <=to) (h2:to < (w.entries.length:Int)):ZiE w (Zas to y):=
 ⟨h1,h2,.inl ⟨rfl,rfl,rfl,rfl,rfl,rfl⟩,fun i hi=>absurd hi (Nat.not_lt_zero i),fun q=>absurd (show(1:Int)=3 from q) (by omega)⟩
theorem Zq3 {to p at_ age:Int} (h1:InR to w.entries.length) (h2:InR p w.Zv.length) (h3:at_ ≠ to):ZiE w (Ztq to p at_ age):=
 ⟨h1.1,h1.2,.inr (.inr ⟨rfl,rfl,rfl,rfl⟩),fun i hi=>absurd hi (Nat.not_lt_zero i),fun _=>⟨h2.1,h2.2,h3⟩⟩
theorem Zs0 (h:Wm w) {m:Nat} {x:Zj} {now:Bool} (r:Rtd w m x now):Wm (Qd w m x now).1:=by
 obtain⟨p,ep,hp⟩:=r.pl.nat;have hm:=r.hm;have S:=h.shr.Kr;unfold Qd;rw [ep,Int.toNat_natCast];by_cases hh:(E w m p).here=true
 ·rw [if_pos hh];exact h.upd rfl rfl (Xa _ _ _) rfl h.shr.sd1 h.shr.sd2 (fun _=>rfl) (fun x hx _=>hx) (fun x hx=>.inl hx) (fun m _ y hy=>.inl hy)
 have hh':(E w m p).here=false:=by simpa using hh
 rw [if_neg hh];have re:=h.ent m hm p hp hh';by_cases hc:now=false∧(E w m p).age <=x.age
 ·rw [if_pos hc];have ho:=r.old hc.1;obtain⟨o1,o2,o3,o4,o5,o6,o7⟩:=id ho;refine h.upd rfl rfl rfl (Xa _ _ _) h.shr.sd1 h.shr.sd2 (fun _=>rfl) (fun x hx _=>hx) (fun x hx=>.inl hx) (fun m' hm' y hy=>?_);have hb:ZB {w with held:=Yz w.held (m:Int) (ZB w m ++ [x])} m'=if m'=m then ZB w m ++ [x] else ZB w m':=JD (by rw [S.hd];exact hm)
  rw [hb] at hy;by_cases e:m'=m
  ·rw [if_pos e] at hy;rcases List.mem_append.1 hy with q | q
   ·rw [e];exact .inl q
   ·rw [List.mem_singleton.1 q,e];refine .inr ⟨ho,?_⟩;rw [ep,Int.toNat_natCast] at o5 ⊢;obtain⟨a1,a2,a3,a4,a5,a6⟩:=o5;rw [Int.toNat_natCast] at a6;have e1:x.age= (sp w p).age:=Classical.byContradiction fun z=>by have:=a6 z;omega
    have e2:=a5 e1
    have e3:(sp w p).here=false:=by
     rcases ZcT (h.loc p hp) with⟨k,hk,he,es⟩ | ⟨y,hy,hk,i,hi,hpi,es⟩
     ·rw [es] at e2;have:m=k:=by have:(m:Int)= (k:Int):=e2;omega
      rw [← this,hh'] at he;cases he
     ·rw [es]
    rw [e1,e2,← e3]
  ·rw [if_neg e] at hy;exact .inl hy
 ·rw [if_neg hc];have ha:=h.ZaM hp;obtain⟨a1,a2,a3,a4,a5,a6⟩:=id re;have hE:=h.shr.ent m hm p hp;refine h.upd rfl rfl rfl rfl h.shr.sd1 h.shr.sd2 (fun q=>?_) (fun x hx _=>List.mem_append.2 (.inl hx)) (fun y hy=>?_) (fun m _ y hy=>.inl hy)
  ·show XI (w.wire ++ _::told (m:Int) x (E w m p) now) q=_
   have e0:XI (Zas (E w m p).ZR (Ww x (E w m p))::told (m:Int) x (E w m p) now) q= []:=by
    apply Zpm;intro y hy;rcases List.mem_cons.1 hy with z | z
    ·rw [z];show(1:Int) ≠ 2;omega
    ·unfold told at z;split at z
     ·rw [List.mem_singleton.1 z];show(3:Int) ≠ 2;omega
     ·cases z
   rw [ZaH,e0,List.append_nil]
  ·rcases List.mem_append.1 hy with q | q
   ·exact .inl q
   refine .inr ?_;rcases List.mem_cons.1 q with z | z
   ·subst z;refine⟨Zq5 a3 a4,fun _=>?_,fun q=>absurd (show(1:Int)=3 from q) (by omega)⟩;show QE w (E w m p).ZR (Ww x (E w m p));refine⟨r.pl.1,r.pl.2,r.fr.1,r.fr.2,?_,?_,?_⟩
    ·show RtX w x.place.toNat (E w m p).ZR (E w m p).age;rw [ep,Int.toNat_natCast];exact re
    ·show 1 <=x.hops + 1;cases hn:now with
     | true=>have:=r.new hn;omega
     | false=>have:= (r.old hn).2.2.2.2.2.1;omega
    ·show x.hops + 1 <=Xl (1 + (E w m p).age);rw [Int.add_comm 1,KZ a1 (by omega)];cases hn:now with
     | true=>have:=r.new hn;omega
     | false=>
       have o:=r.old hn;have o1:=o.2.2.2.2.1.1;have o2:=o.2.2.2.2.1.2.1;have o3:=o.2.2.2.2.2.2;rw [ep,Int.toNat_natCast] at o2;rw [Int.add_comm,KZ o1 (by omega)] at o3;have:¬ (E w m p).age <=x.age:=fun z=>hc ⟨hn,z⟩
       omega
   ·unfold told at z;split at z
    ·rename_i ht;rw [List.mem_singleton.1 z];refine⟨Zq3 r.fr r.pl (fun q=>ht.2.2 q.symm),fun q=>absurd (show(3:Int)=1 from q) (by omega),fun _=>?_⟩;show RtX w x.place.toNat (E w m p).ZR (E w m p).age;rw [ep,Int.toNat_natCast];exact re
    ·cases z
theorem Zxi (m:Int) (x:Zj) (e:Zx) (now:Bool):owL (told m x e now)= []:=by
 unfold told;split
 ·exact Zgk (by show(3:Int) ≠ 1;omega)
 ·rfl
theorem Zs1 (h:Wm w) {m:Nat} {x:Zj} {now:Bool} (r:Rtd w m x now) (a:Int×Int):(owes (Qd w m x now).1).count a= (owes w).count a + [(x.msg,x.place)].count a:=by
 obtain⟨p,ep,hp⟩:=r.pl.nat;have S:=h.shr.Kr;unfold Qd owes;rw [ep,Int.toNat_natCast];simp only [List.count_append];by_cases hh:(E w m p).here=true
 ·rw [if_pos hh];have:=ZpD w {w with boxes:=Yz w.boxes (p:Int) (Y1 w p ++ [x.msg])} (p:=p) (by rw [S.bx];exact hp) rfl a;simp only [List.map_cons,List.map_nil] at this;rw [this];show _ + (owH w).count a + (owL w.wire).count a=_;omega
 rw [if_neg hh];by_cases hc:now=false∧(E w m p).age <=x.age
 ·rw [if_pos hc];have:=ZpC w {w with held:=Yz w.held (m:Int) (ZB w m ++ [x])} (m:=m) (by rw [S.hd];exact r.hm) rfl a;simp only [List.map_append,List.count_append,List.map_cons,List.map_nil,ep] at this;show(owB w).count a + (owH {w with held:=Yz w.held (m:Int) (ZB w m ++ [x])}).count a + (owL w.wire).count a=_;omega
 ·rw [if_neg hc];show(owB w).count a + (owH w).count a + (owL (w.wire ++ (Zas _ _::told _ _ _ _))).count a=_;rw [Kg,show(Zas (E w m p).ZR (Ww x (E w m p))::told (m:Int) x (E w m p) now)= [Zas (E w m p).ZR (Ww x (E w m p))] ++ told (m:Int) x (E w m p) now from rfl,Kg,Zxi,Zc2 rfl,List.append_nil,List.count_append];show _ + (_ + List.count a [(x.msg,x.place)])=_;rw [ep];omega
end
end Go.Proofs.YtbmbbcaaimehkaaGreat
end
section
namespace Go.Proofs.YtbmbbcaaimehkaaGreat
open Go.Lf
theorem ZgJ {w w':Zb} {p:Nat}:∀ {k:Nat},(∀ m,m < k ->(E w' m p=E w m p)∨((E w' m p).here=false∧(E w m p).here=false)) ->Y7 w' p k=Y7 w p k:=by
 intro k
 induction k with
 | zero=>intro _;rfl
 | succ k ih=>
   intro h;rw [QX,QX,ih fun m hm=>h m (by omega)];rcases h k (by omega) with e | ⟨e1,e2⟩
   ·rw [e]
   ·rw [e1,e2];simp
section
variable {w:Zb}
theorem ZxA (h:Wm w) {m p:Nat} (hm:m < w.entries.length) (hp:p < w.Zv.length) {at_ age:Int} (hh:(E w m p).here=false) (ha:(E w m p).age < age) (hr:RtX w p at_ age) (hn:at_ ≠ (m:Int)):Wm (setW w m p ⟨false,at_,age⟩):=by
 have S:=h.shr.Kr;have eE:=Zpi S hm hp ⟨false,at_,age⟩;have hag:=h.ZaM hp;have el:(setW w m p ⟨false,at_,age⟩).entries.length=w.entries.length:=ZcW _ _ _ _
 have hloc:∀ q,YC (setW w m p ⟨false,at_,age⟩) q=YC w q:=fun q=>by
  refine Za8 ?_ rfl;rw [el];refine ZgJ fun m' _=>?_
  rw [eE];by_cases c:m'=m∧q=p
  ·rw [if_pos c,c.1,c.2];exact .inr ⟨rfl,hh⟩
  ·rw [if_neg c];exact .inl rfl
 have hsp:∀ q,sp (setW w m p ⟨false,at_,age⟩) q=sp w q:=fun q=>JQ (hloc q)
 have v:Mv w (setW w m p ⟨false,at_,age⟩):=Mv.of rfl el (fun m' q _=>by
  rw [eE];by_cases c:m'=m∧q=p
  ·rw [if_pos c,c.1,c.2];exact Int.le_of_lt ha
  ·rw [if_neg c];exact Int.le_refl _) fun q _=>.inl (by rw [hsp];exact⟨rfl,rfl⟩)
 refine⟨⟨S.setW hm _,h.shr.inn.eq rfl,h.shr.sd1,h.shr.sd2,fun m' hm' q hq=>?_,fun x hx=>v.Xe (h.shr.Xe x hx)⟩,fun q hq=>by rw [hloc];exact h.loc q hq,fun q hq hi=>?_,fun m' hm' q hq hh'=>?_,fun m' hm' y hy=>?_,fun x hx hk=>v.Zu (h.mai x hx hk),fun x hx hk=>?_⟩
 ·rw [el] at hm';unfold ZdF;rw [eE,el];by_cases c:m'=m∧q=p
  ·rw [if_pos c,c.1];exact⟨hr.1,by have:=hr.2.1;show age <=30;omega,hr.2.2.1,hr.2.2.2.1,⟨fun z=>absurd z (by simp),fun z=>absurd z hn⟩⟩
  ·rw [if_neg c];exact h.shr.ent m' hm' q hq
 ·rw [hsp,hsp];exact h.tog q hq hi
 ·rw [el] at hm';rw [eE] at hh' ⊢;by_cases c:m'=m∧q=p
  ·rw [if_pos c,c.2];exact v.rt p hp _ _ hr
  ·rw [if_neg c] at hh' ⊢;exact v.rt q hq _ _ (h.ent m' hm' q hq hh')
 ·rw [el] at hm';have:=h.hel m' hm' y hy;rw [hsp];exact⟨v.Zu this.1,this.2⟩
 ·have hn:= (h.shr.Xe x hx).ntd hk;exact v.rt _ (by omega) _ _ (h.ntd x hx hk)
theorem Zsw {x:Zc} (hk:x.kind=2) (nd:x.places.Nodup) {i p:Nat} (hi:i < x.places.length) (hp:x.places.getD i 0= (p:Int)):UL x p= [⟨x.ZR,false,x.ZW.getD i 0⟩]:=by
 unfold UL;rw [if_pos hk];have hl:=Zck x p x.places.length (Nat.le_refl _);rw [List.take_of_length_le (Nat.le_refl _)] at hl;have hm:(p:Int) ∈ x.places:=by rw [← hp,QC hi];exact List.getElem_mem hi
 have hc:=List.nodup_iff_count.1 nd (p:Int);have hc2:=List.count_pos_iff.2 hm;obtain⟨s,e⟩:=List.length_eq_one_iff.1 (show(Uo x p x.places.length).length=1 by omega);have:Yl.mk x.ZR false (x.ZW.getD i 0) ∈ Uo x p x.places.length:=KC.2 ⟨i,hi,hp,rfl⟩;rw [e] at this ⊢;rw [List.mem_singleton.1 this]
theorem ZqB {x:Zc} {p:Nat} (hm:(p:Int) ∉ x.places):UL x p= []:=by
 unfold UL;split
 ·apply List.eq_nil_iff_forall_not_mem.2;intro s hs;obtain⟨i,hi,hp,_⟩:=KC.1 hs;exact hm (by rw [← hp,QC hi];exact List.getElem_mem hi)
 ·rfl
end
end Go.Proofs.YtbmbbcaaimehkaaGreat
end
section
namespace Go.Proofs.YtbmbbcaaimehkaaGreat
open Go.Lf
section
variable {w:Zb}
variable {p:Nat} {to:Int}
end
end Go.Proofs.YtbmbbcaaimehkaaGreat
end
section
namespace Go.Proofs.YtbmbbcaaimehkaaGreat
open Go.Lf
section
variable {w:Zb}
theorem Wm.nodup (h:Wm w) {x:Zc} (hx:x ∈ w.wire) (hk:x.kind=2):x.places.Nodup:=by
 rw [List.nodup_iff_count];intro a;by_cases ha:a ∈ x.places
 ·obtain⟨i,hi,rfl⟩:=List.getElem_of_mem ha;have e0:x.places.getD i 0=x.places[i]:=QC hi;have hp:= (h.shr.Xe x hx).UX i hi;unfold Ko at hp;rw [e0] at hp;obtain⟨p,e⟩:∃ p:Nat,x.places[i]= (p:Int):= ⟨x.places[i].toNat,by omega⟩
  have hl:=h.loc p (by omega);unfold YC at hl;rw [List.length_append] at hl;have h1:=Zpn hx p;have h2:UL x p=Uo x p x.places.length:=by unfold UL;rw [if_pos hk]
  rw [h2,Zck x p _ (Nat.le_refl _),List.take_of_length_le (Nat.le_refl _)] at h1;rw [e];omega
 ·rw [List.count_eq_zero_of_not_mem ha];omega
theorem Wm.mvl (h:Wm w) {x:Zc} (hx:x ∈ w.wire) (hk:x.kind=2):MvL w x x.ZR.toNat:=by
 have hl:=h.shr.Xe x hx;have h8:=h.shr.Kr.p2;have Zub:∀ i,i < x.places.length ->InR (x.places.getD i 0) w.Zv.length:=fun i hi=>⟨(hl.UX i hi).1,(hl.UX i hi).2.1⟩
 have hsub:x.places ⊆ Y6 w.Zv.length:=fun a ha=>by
  have:= (Ut (d:= (0:Int)) (P:=fun a=>InR a w.Zv.length)).1 Zub a ha;unfold InR at this;unfold Y6;exact List.mem_map.2 ⟨a.toNat,List.mem_range.2 (by omega),by show((a.toNat:Nat):Int)=a;omega⟩
 have hlen:= (h.nodup hx hk).length_le_of_subset hsub;rw [XC] at hlen;exact⟨by have:=hl.to1;omega,by have:=hl.to1;have:=hl.to2;omega,hl.YO.len,by omega,Zub⟩
structure Car (w:Zb) (k:Nat):Prop where
 hk:k < w.wire.length
 two:(Zw w k).kind=2
theorem Car.mem {k:Nat} (c:Car w k):Zw w k ∈ w.wire:=Yc c.hk
theorem Znt (h:Wm w) {k:Nat} (c:Car w k) {i q:Nat} (hi:i < (Zw w k).places.length) (hq:(Zw w k).places.getD i 0= (q:Int)):
 q < w.Zv.length∧sp w q= ⟨(Zw w k).ZR,false,(Zw w k).ZW.getD i 0⟩∧Y7 w q w.entries.length= []∧XI (w.wire.take k) q= []∧XI (w.wire.drop (k + 1)) q= []:=by
 have hp:= (h.shr.Xe _ c.mem).UX i hi;unfold Ko at hp;rw [hq] at hp;have hql:q < w.Zv.length:=by omega
 have hl:=h.loc q hql;have e:=Zsw c.two (h.nodup c.mem c.two) hi hq;unfold YC at hl;rw [U5 c.hk,e] at hl;simp only [List.length_append,List.length_singleton] at hl;have e1:=List.length_eq_zero_iff.1 (show(Y7 w q w.entries.length).length=0 by omega);have e2:=List.length_eq_zero_iff.1 (show(XI (w.wire.take k) q).length=0 by omega);have e3:=List.length_eq_zero_iff.1 (show(XI (w.wire.drop (k + 1)) q).length=0 by omega);refine⟨hql,Zzt ?_,e1,e2,e3⟩;unfold YC;rw [U5 c.hk,e,e1,e2,e3];rfl
theorem ZpO {l:List Int} {q:Int} (h:q ∈ l):∃ i,i < l.length∧l.getD i 0=q:=by
 obtain⟨i,hi,e⟩:=List.getElem_of_mem h;exact⟨i,hi,(QC hi).trans e⟩
theorem ZbB (h:Wm w) {k:Nat} (c:Car w k) {q:Nat} (hq:(q:Int) ∈ (Zw w k).places):
 q < w.Zv.length∧sp w q= ⟨(Zw w k).ZR,false,(sp w q).age⟩∧Y7 w q w.entries.length= []∧XI (w.wire.take k) q= []∧XI (w.wire.drop (k + 1)) q= []:=by
 obtain⟨i,hi,e⟩:=ZpO hq;have:=Znt h c hi e;exact⟨this.1,by rw [this.2.1],this.2.2⟩
theorem Zgl (h:Wm w) {k j:Nat} (hk:k < w.wire.length) (hj:j < w.wire.length) {q:Nat} (hq:q < w.Zv.length) (h1:(q:Int) ∈ (Zw w k).places) (h2:(q:Int) ∈ (Zw w j).places):k=j:=by
 have hl:(Qe w q).length=1:=by rw [← len_eq h.shr.two];exact h.loc q hq
 have a:=ZcU hl hk h1;have b:=ZcU hl hj h2;rw [a] at b;omega
theorem ZDF (h:Wm w) {k:Nat} (c:Car w k):∀ j,j <= (Zw w k).places.length ->∀ m' q:Nat,E (XJ (ZY w k) (Zw w k) j) m' q=if m'= (Zw w k).ZR.toNat∧(q:Int) ∈ (Zw w k).places.take j then⟨true,(Zw w k).ZR,(sp w q).age⟩ else E w m' q:=by
 have v:=h.mvl c.mem c.two;have v':MvL (ZY w k) (Zw w k) (Zw w k).ZR.toNat:= ⟨v.ZR,v.hm,v.len,v.few,v.rng⟩
 intro j
 induction j with
 | zero=>intro _ m' q;rw [if_neg (by simp)];rfl
 | succ j ih=>
   intro hj m' q;have hp:=v'.UX (i:=j) (by omega);have hi:=X3 (ZY w k) (Zw w k) j;have wi:=Znt h c (i:=j) (q:=UX (Zw w k) j) (by omega) hp.1;show E (setW (XJ (ZY w k) (Zw w k) j) (Zw w k).ZR.toNat (UX (Zw w k) j) ⟨true,(Zw w k).ZR,(Zw w k).ZW.getD j 0⟩) m' q=_;rw [Zpi (ZeC (h.shr.Kr.ZY k) v' j) (by rw [hi.2.2.2.2.2];exact v'.hm) (by rw [hi.1];exact hp.2),ih (by omega)];by_cases e:m'= (Zw w k).ZR.toNat∧q=UX (Zw w k) j
   ·rw [if_pos e,if_pos ⟨e.1,(Uk (by omega)).2 (.inr (by rw [e.2,← hp.1,QC (by omega)]))⟩,e.2,wi.2.1]
   ·rw [if_neg e];by_cases d:m'= (Zw w k).ZR.toNat∧(q:Int) ∈ (Zw w k).places.take j
    ·rw [if_pos d,if_pos ⟨d.1,(Uk (by omega)).2 (.inl d.2)⟩]
    ·rw [if_neg d,if_neg];rintro⟨d1,d2⟩;rcases(Uk (by omega)).1 d2 with z | z
     ·exact d ⟨d1,z⟩
     ·rw [← QC (d:= (0:Int)) (by omega),hp.1] at z;exact e ⟨d1,by omega⟩
def UB (w:Zb) (k:Nat):Zb:= (Zcv (ZY w k) (Zw w k)).1
theorem Zcw (w:Zb) (k:Nat):(UB w k).Zv=w.Zv∧(UB w k).wire= (ZY w k).wire∧(UB w k).said=w.said∧(UB w k).entries= (XJ (ZY w k) (Zw w k) (Zw w k).places.length).entries∧(UB w k).boxes.length=w.boxes.length∧(UB w k).held.length=w.held.length∧(UB w k).entries.length=w.entries.length:=by
 have a:=WA (ZY w k) (Zw w k) (Zw w k).places.length;have b:=X3 (ZY w k) (Zw w k) (Zw w k).places.length;exact⟨a.1,a.2.1,a.2.2.1,a.2.2.2.1,a.2.2.2.2.1,a.2.2.2.2.2,by rw [show(UB w k).entries=_ from a.2.2.2.1];exact b.2.2.2.2.2⟩
theorem ZiR (h:Wm w) {k:Nat} (c:Car w k) (m' q:Nat):E (UB w k) m' q=if m'= (Zw w k).ZR.toNat∧(q:Int) ∈ (Zw w k).places then⟨true,(Zw w k).ZR,(sp w q).age⟩ else E w m' q:=by
 rw [Znj (Zcw w k).2.2.2.1,ZDF h c _ (Nat.le_refl _),List.take_of_length_le (Nat.le_refl _)]
theorem ZlU (h:Wm w) {k:Nat} (c:Car w k) {q:Nat} (hq:q < w.Zv.length):YC (UB w k) q=if(q:Int) ∈ (Zw w k).places then [⟨(Zw w k).ZR,true,(sp w q).age⟩] else YC w q:=by
 have v:=h.mvl c.mem c.two;have i:=Zcw w k;unfold YC;rw [i.2.1,i.2.2.2.2.2.2,ZdL];by_cases d:(q:Int) ∈ (Zw w k).places
 ·have b:=ZbB h c d;rw [if_pos d,b.2.2.2.1,b.2.2.2.2];have e1:E (UB w k) (Zw w k).ZR.toNat q= ⟨true,(Zw w k).ZR,(sp w q).age⟩:=by rw [ZiR h c,if_pos ⟨rfl,d⟩]
  have:=Zrg (w:=UB w k) (p:=q) (m:= (Zw w k).ZR.toNat) (by rw [e1]) (k:=w.entries.length) v.hm fun m' hm' hne=>by
   rw [ZiR h c,if_neg fun z=>hne z.1];exact Zml b.2.2.1 m' hm'
  rw [this,e1,← v.ZR];rfl
 ·rw [if_neg d,Zbb (w:=w) fun m' _=>by rw [ZiR h c,if_neg fun z=>d z.2]];congr 1;rw [U5 c.hk,ZqB d,List.append_nil]
theorem ZjS (h:Wm w) {k:Nat} (c:Car w k) {q:Nat} (hq:q < w.Zv.length):sp (UB w k) q=if(q:Int) ∈ (Zw w k).places then⟨(Zw w k).ZR,true,(sp w q).age⟩ else sp w q:=by
 have:=ZlU h c hq;by_cases d:(q:Int) ∈ (Zw w k).places
 ·rw [if_pos d] at this ⊢;exact Zzt this
 ·rw [if_neg d] at this ⊢;exact JQ this
theorem ZpN (h:Wm w) {k:Nat} (c:Car w k) {q:Nat} (hq:q < w.Zv.length):(sp (UB w k) q).machine= (sp w q).machine∧(sp (UB w k) q).age= (sp w q).age:=by
 rw [ZjS h c hq];by_cases d:(q:Int) ∈ (Zw w k).places
 ·rw [if_pos d,(ZbB h c d).2.1];exact⟨rfl,rfl⟩
 ·rw [if_neg d];exact⟨rfl,rfl⟩
theorem ZBb (h:Wm w) {k:Nat} (c:Car w k):Mv w (UB w k):=by
 have i:=Zcw w k;have v:=h.mvl c.mem c.two;refine Mv.of (by rw [i.1]) i.2.2.2.2.2.2 (fun m q hq=>?_) fun q hq=>.inl (ZpN h c hq)
 rw [ZiR h c];by_cases e:m= (Zw w k).ZR.toNat∧(q:Int) ∈ (Zw w k).places
 ·rw [if_pos e,e.1];have b:=ZbB h c e.2;exact(h.ent _ v.hm q hq (Zml b.2.2.1 _ v.hm)).2.1
 ·rw [if_neg e];exact Int.le_refl _
theorem Zod (u:Zb) (x:Zc) (s:WQ u) (v:MvL u x x.ZR.toNat):∀ j,j <=x.places.length ->∀ m',∀ y ∈ ZB (Yk u x j).1 m',y ∈ ZB u m'∧(m'=x.ZR.toNat ->y.place ∉ x.places.take j):=by
 intro j
 induction j with
 | zero=>
   intro _ m' y hy;refine⟨?_,fun _=>by simp⟩;have:ZB (Yk u x 0).1 m'=ZB u m':=by unfold ZB;rw [show(Yk u x 0).1.held=u.held from(X3 u x _).2.2.1]
   rw [← this];exact hy
 | succ j ih=>
   intro hj m' y hy;have hs:=UY s v j;have li:=WA u x j;have ci:=X3 u x x.places.length;have hp:=v.UX (i:=j) (by omega);have hy':y ∈ ZB (KM (Yk u x j).1 x.ZR.toNat (UX x j)) m':=hy;rw [Zbc hs (by rw [li.2.2.2.1,ci.2.2.2.2.2];exact v.hm)] at hy';by_cases e:m'=x.ZR.toNat
   ·rw [if_pos e] at hy';have⟨h1,h2⟩:=List.mem_filter.1 hy';have:=ih (by omega) _ y h1;rw [e];refine⟨this.1,fun _ z=>?_⟩;rcases(Uk (by omega)).1 z with a | a
    ·exact this.2 rfl a
    ·rw [← QC (d:= (0:Int)) (by omega),hp.1] at a;unfold Uu at h2;rw [a] at h2;simp at h2
   ·rw [if_neg e] at hy';have:=ih (by omega) _ y hy';exact⟨this.1,fun z=>absurd z e⟩
theorem ZtJ (h:Wm w) {k:Nat} (c:Car w k) {m':Nat} {y:Zj} (hy:y ∈ ZB (UB w k) m'):y ∈ ZB w m'∧(m'= (Zw w k).ZR.toNat ->y.place ∉ (Zw w k).places):=by
 have v:=h.mvl c.mem c.two;have:=Zod (ZY w k) (Zw w k) (h.shr.Kr.ZY k) ⟨v.ZR,v.hm,v.len,v.few,v.rng⟩ (Zw w k).places.length (Nat.le_refl _) m' y hy;rw [List.take_of_length_le (Nat.le_refl _)] at this;exact this
theorem ZA9 (h:Wm w) {k:Nat} (c:Car w k):Wm (UB w k):=by
 have v:=ZBb h c;have vl:=h.mvl c.mem c.two;have i:=Zcw w k;have S:=h.shr.Kr;have el:=i.2.2.2.2.2.2;have hx2:= (h.shr.Xe _ c.mem)
 have hs:=UY (S.ZY k) (x:=Zw w k) (m:= (Zw w k).ZR.toNat) ⟨vl.ZR,vl.hm,vl.len,vl.few,vl.rng⟩ (Zw w k).places.length;have hw:∀ x,x ∈ (UB w k).wire ->x ∈ w.wire:=fun x hx=>by rw [i.2.1] at hx;exact ZbQ hx
 refine⟨⟨hs,h.shr.inn.eq i.1,by rw [i.2.2.1];exact h.shr.sd1,by rw [i.2.2.1];exact h.shr.sd2,fun m hm q hq=>?_,fun x hx=>v.Xe (h.shr.Xe x (hw x hx))⟩,fun q hq=>?_,fun q hq hz=>?_,fun m hm q hq hh=>?_,fun m hm y hy=>?_,fun x hx hk=>v.Zu (h.mai x (hw x hx) hk),fun x hx hk=>?_⟩
 ·rw [el] at hm;rw [i.1] at hq;unfold ZdF;rw [ZiR h c,el];by_cases e:m= (Zw w k).ZR.toNat∧(q:Int) ∈ (Zw w k).places
  ·rw [if_pos e];obtain⟨j,hj,ej⟩:=ZpO e.2;have b:=Znt h c hj ej;have p:=hx2.UX j hj;unfold Ko at p;rw [b.2.1];exact⟨by dsimp only;omega,by dsimp only;omega,hx2.to1,hx2.to2,⟨fun _=>by rw [e.1];exact vl.ZR,fun _=>rfl⟩⟩
  ·rw [if_neg e];exact h.shr.ent m hm q hq
 ·rw [i.1] at hq;rw [ZlU h c hq];by_cases d:(q:Int) ∈ (Zw w k).places
  ·rw [if_pos d];rfl
  ·rw [if_neg d];exact h.loc q hq
 ·rw [i.1] at hq;rw [ZjV i.1] at hz ⊢;obtain⟨r,er,hr⟩:=K8 (h.shr.inn.rng q hq) (by omega);have tg:=h.tog q hq hz;rw [er,Int.toNat_natCast] at tg ⊢;rw [ZjS h c hq,ZjS h c hr]
  have iff:(q:Int) ∈ (Zw w k).places↔(r:Int) ∈ (Zw w k).places:=by
   have key:(sp w q).here=false ->∃ j,j < w.wire.length∧(q:Int) ∈ (Zw w j).places∧(r:Int) ∈ (Zw w j).places:=fun z=>by
    obtain⟨y,hy,_,a,b⟩:=tg.2.2 z;obtain⟨j,hj,e⟩:=List.getElem_of_mem hy;have e':Zw w j=y:= (QC hj).trans e;exact⟨j,hj,by rw [e'];exact a,by rw [e'];exact b⟩
   constructor
   ·intro z;obtain⟨j,hj,a,b⟩:=key (by rw [(ZbB h c z).2.1]);rw [Zgl h c.hk hj hq z a];exact b
   ·intro z;obtain⟨j,hj,a,b⟩:=key (by rw [← tg.2.1,(ZbB h c z).2.1]);rw [Zgl h c.hk hj hr z b];exact a
  by_cases d:(q:Int) ∈ (Zw w k).places
  ·rw [if_pos d,if_pos (iff.1 d)];exact⟨rfl,rfl,fun z=>by cases z⟩
  ·rw [if_neg d,if_neg fun z=>d (iff.2 z)];refine⟨tg.1,tg.2.1,fun z=>?_⟩;obtain⟨x,hx,kk,a,b⟩:=tg.2.2 z;refine⟨x,?_,kk,a,b⟩;rw [i.2.1];rw [U3 c.hk] at hx;rcases List.mem_append.1 hx with y | y
   ·exact List.mem_append.2 (.inl y)
   ·rcases List.mem_cons.1 y with y | y
    ·rw [y] at a;exact absurd a d
    ·exact List.mem_append.2 (.inr y)
 ·rw [el] at hm;rw [i.1] at hq;rw [ZiR h c] at hh ⊢;by_cases e:m= (Zw w k).ZR.toNat∧(q:Int) ∈ (Zw w k).places
  ·rw [if_pos e] at hh;cases hh
  ·rw [if_neg e] at hh ⊢;exact v.rt q hq _ _ (h.ent m hm q hq hh)
 ·rw [el] at hm;have a:=ZtJ h c hy;have b:=h.hel m hm y a.1;have hp1:=b.1.1;have hp2:=b.1.2.1;obtain⟨q,eq⟩:∃ q:Nat,y.place= (q:Int):= ⟨y.place.toNat,by omega⟩
  have b2:=b.2;rw [eq,Int.toNat_natCast] at b2 ⊢
  have d:(q:Int) ∉ (Zw w k).places:=fun z=>by
   have e:= (ZbB h c z).2.1;rw [b2] at e;injection e with e1 _ _
   exact a.2 (by omega) (by rw [eq];exact z)
  rw [ZjS h c (by omega),if_neg d];exact⟨v.Zu b.1,b2⟩
 ·have hn:= (h.shr.Xe x (hw x hx)).ntd hk;exact v.rt _ (by omega) _ _ (h.ntd x (hw x hx) hk)
theorem ZBx {u:Zb} (s:WQ u) {m p:Nat} (hm:m < u.entries.length) (hp:p < u.Zv.length) (a:Int×Int):(owes (KM u m p)).count a= (owes u).count a:=by
 have h1:=ZpD u (KM u m p) (p:=p) (by rw [s.bx];exact hp) (l:= ((ZB u m).filter (Uu p)).map fun y=>y.msg) rfl a;have h2:=ZpC u (KM u m p) (m:=m) (by rw [s.hd];exact hm) (l:= (ZB u m).filter fun y=>!Uu p y) rfl a
 have h3:((ZB u m).map fun y=>(y.msg,y.place)).count a= (((ZB u m).filter (Uu p)).map fun y=>(y.msg,(p:Int))).count a + (((ZB u m).filter fun y=>!Uu p y).map fun y=>(y.msg,y.place)).count a:=by
  generalize ZB u m=l
  induction l with
  | nil=>rfl
  | cons y l ih=>
    cases e:Uu p y with
    | true=>
      have e':y.place= (p:Int):=by unfold Uu at e;simpa using e
      rw [List.filter_cons_of_pos (by simp [e]),List.filter_cons_of_neg (by simp [e]),List.map_cons,List.map_cons,List.count_cons,List.count_cons,ih,e'];omega
    | false=>rw [List.filter_cons_of_neg (by simp [e]),List.filter_cons_of_pos (by simp [e]),List.map_cons,List.map_cons,List.count_cons,List.count_cons,ih];omega
 rw [List.map_map] at h1;have h1':(owB (KM u m p)).count a= (owB u).count a + (((ZB u m).filter (Uu p)).map fun y=>(y.msg,(p:Int))).count a:=h1;unfold owes;rw [List.count_append,List.count_append,List.count_append,List.count_append];show _ + _ + (owL u.wire).count a=_;omega
theorem ZtT {u:Zb} (s:WQ u) {x:Zc} (v:MvL u x x.ZR.toNat) (a:Int×Int):∀ j,j <=x.places.length ->(owes (Yk u x j).1).count a= (owes u).count a:=by
 intro j
 induction j with
 | zero=>
   intro _;have ci:=X3 u x x.places.length
   have e:owes (Yk u x 0).1=owes u:=by
    show owes (XJ u x x.places.length)=_;unfold owes owB owH Y1 ZB;rw [ci.2.1,ci.2.2.1,ci.2.2.2.1]
   rw [e]
 | succ j ih=>
   intro hj;have hs:=UY s v j;have li:=WA u x j;have ci:=X3 u x x.places.length;have hp:=v.UX (i:=j) (by omega);show(owes (KM (Yk u x j).1 x.ZR.toNat (UX x j))).count a=_;rw [ZBx hs (by rw [li.2.2.2.1,ci.2.2.2.2.2];exact v.hm) (by rw [li.1];exact hp.2),ih (by omega)]
theorem ZiQ {k:Nat} (hk:k < w.wire.length) (a:Int×Int):(owes (ZY w k)).count a + (owL [Zw w k]).count a= (owes w).count a:=by
 unfold owes;rw [ZqZ hk];show List.count a (owB w ++ owH w ++ owL (w.wire.take k ++ w.wire.drop (k + 1))) + _=_;rw [Kg];simp only [List.count_append];omega
theorem ZBa (h:Wm w) {k:Nat} (c:Car w k) (a:Int×Int):(owes (UB w k)).count a= (owes w).count a:=by
 have v:=h.mvl c.mem c.two;have e:=ZtT (h.shr.Kr.ZY k) (x:=Zw w k) ⟨v.ZR,v.hm,v.len,v.few,v.rng⟩ a (Zw w k).places.length (Nat.le_refl _);have d:=ZiQ c.hk a;rw [Zgk (by rw [c.two];omega)] at d;show List.count a (owes (Yk (ZY w k) (Zw w k) (Zw w k).places.length).1)=_;rw [e]
 simpa using d
theorem ZgF {k:Nat} (e:(Zw w k).kind=1):Qn w k=Qd (ZY w k) (Zw w k).ZR.toNat (Zw w k).Zu false:=by unfold Qn;rw [if_pos e]
theorem ZgE {k:Nat} (e:(Zw w k).kind=2):Qn w k=Zcv (ZY w k) (Zw w k):=by unfold Qn;rw [if_neg (by omega),if_pos e]
theorem ZgD {k:Nat} (e:(Zw w k).kind=3):Qn w k= (JG (ZY w k) (Zw w k),[]):=by unfold Qn;rw [if_neg (by omega),if_neg (by omega)]
theorem Ki (h:Wm w) {x:Zc} (hx:x ∈ w.wire):x.kind=1∨x.kind=2∨x.kind=3:=by
 rcases(h.shr.Xe x hx).YO with⟨q,_⟩ | ⟨q,_⟩ | ⟨q,_⟩
 ·exact .inl q
 ·exact .inr (.inl q)
 ·exact .inr (.inr q)
theorem Zdp {k:Nat} (hk:k < w.wire.length) (h2:(Zw w k).kind ≠ 2) (p:Nat):YC (ZY w k) p=YC w p:=
 Za8 rfl (by rw [U5 hk,Zjr h2,ZdL,List.append_nil])
theorem ZgC (h:Wm w) {k:Nat} (hk:k < w.wire.length) (e:(Zw w k).kind=1):Rtd (ZY w k) (Zw w k).ZR.toNat (Zw w k).Zu false:=by
 have hx:Zw w k ∈ w.wire:=Yc hk;have hl:=h.shr.Xe _ hx;have hm:=h.mai _ hx e;have v:Mv w (ZY w k):=Mv.same rfl rfl fun p _=>Zdp hk (by omega) p
 have t1:=hl.to1;have t2:=hl.to2;refine⟨by show(Zw w k).ZR.toNat < w.entries.length;omega,⟨hm.1,hm.2.1⟩,⟨hm.2.2.1,hm.2.2.2.1⟩,fun _=>?_,fun z=>by cases z⟩;rw [Int.toNat_of_nonneg t1];exact v.Zu hm
theorem Ztp (h:Wm w) {k:Nat} (hk:k < w.wire.length) (e:(Zw w k).kind=3):Wm (JG (ZY w k) (Zw w k)):=by
 have hx:Zw w k ∈ w.wire:=Yc hk;have hl:=h.shr.Xe _ hx;have hd:=ZfK h hk (by omega);have v:Mv w (ZY w k):=Mv.same rfl rfl fun p _=>Zdp hk (by omega) p
 have t1:=hl.to1;have t2:=hl.to2;have hn:=hl.ntd e;unfold JG;split
 ·rename_i c;refine ZxA hd (by show _ < w.entries.length;omega) (by show _ < w.Zv.length;omega) c.1 c.2 (v.rt _ (by omega) _ _ (h.ntd _ hx e)) ?_;rw [Int.toNat_of_nonneg t1];exact hn.2.2
 ·exact hd
theorem ZxD (h:Wm w) {k:Nat} (hk:k < w.wire.length):Wm (Qn w k).1:=by
 rcases Ki h (x:=Zw w k) (Yc hk) with e | e | e
 ·rw [ZgF e];exact Zs0 (ZfK h hk (by omega)) (ZgC h hk e)
 ·rw [ZgE e];exact ZA9 h ⟨hk,e⟩
 ·rw [ZgD e];exact Ztp h hk e
theorem Zaa (u:Zb) (x:Zc):(JG u x).Zv=u.Zv∧(JG u x).boxes=u.boxes∧(JG u x).held=u.held∧(JG u x).wire=u.wire∧(JG u x).said=u.said∧(JG u x).entries.length=u.entries.length:=by
 unfold JG;split
 ·exact⟨rfl,rfl,rfl,rfl,rfl,ZcW _ _ _ _⟩
 ·exact⟨rfl,rfl,rfl,rfl,rfl,rfl⟩
theorem ZnN {u u':Zb} (h1:u'.boxes=u.boxes) (h2:u'.held=u.held) (h3:u'.wire=u.wire):owes u'=owes u:=by
 unfold owes owB owH Y1 ZB;rw [h1,h2,h3]
theorem ZpU (h:Wm w) {k:Nat} (hk:k < w.wire.length) (a:Int×Int):(owes (Qn w k).1).count a= (owes w).count a:=by
 have d:=ZiQ hk a;rcases Ki h (x:=Zw w k) (Yc hk) with e | e | e
 ·rw [ZgF e,Zs1 (ZfK h hk (by omega)) (ZgC h hk e)];rw [Zc2 e] at d;exact d
 ·rw [ZgE e];exact ZBa h ⟨hk,e⟩ a
 ·rw [ZgD e];have n:=Zaa (ZY w k) (Zw w k);rw [Zgk (by omega)] at d;show(owes (JG (ZY w k) (Zw w k))).count a=_;rw [ZnN n.2.1 n.2.2.1 n.2.2.2.1];simpa using d
theorem ZeX (u:Zb) (m:Nat) (x:Zj) (now:Bool):(Qd u m x now).1.Zv=u.Zv∧(Qd u m x now).1.entries=u.entries∧(Qd u m x now).1.said=u.said∧(Qd u m x now).1.wire.length <=u.wire.length + 2∧(now=true ->(Qd u m x now).1.wire.length <=u.wire.length + 1):=by
 unfold Qd;split
 ·exact⟨rfl,rfl,rfl,by dsimp only;omega,fun _=>by dsimp only;omega⟩
 ·split
  ·exact⟨rfl,rfl,rfl,by dsimp only;omega,fun _=>by dsimp only;omega⟩
  ·refine⟨rfl,rfl,rfl,?_,fun e=>?_⟩
   ·show(u.wire ++ _::told _ _ _ _).length <=_;rw [List.length_append,List.length_cons];unfold told;split <;> simp
   ·show(u.wire ++ _::told _ _ _ _).length <=_;rw [List.length_append,List.length_cons];unfold told;rw [e,if_neg (by simp)];simp
theorem ZiX (h:Wm w) {k:Nat} (hk:k < w.wire.length):(Qn w k).1.Zv=w.Zv∧(Qn w k).1.entries.length=w.entries.length∧(Qn w k).1.said=w.said∧(Qn w k).1.wire.length <=w.wire.length + 1:=by
 have dl:=Zez w hk;rcases Ki h (x:=Zw w k) (Yc hk) with e | e | e
 ·rw [ZgF e];have r:=ZeX (ZY w k) (Zw w k).ZR.toNat (Zw w k).Zu false;exact⟨r.1,by rw [r.2.1];rfl,r.2.2.1,by omega⟩
 ·rw [ZgE e];have r:=Zcw w k;exact⟨r.1,r.2.2.2.2.2.2,r.2.2.1,by show(UB w k).wire.length <=_;rw [r.2.1];omega⟩
 ·rw [ZgD e];have r:=Zaa (ZY w k) (Zw w k);exact⟨r.1,r.2.2.2.2.2,r.2.2.2.2.1,by show(JG _ _).wire.length <=_;rw [r.2.2.2.1];omega⟩
theorem Zc7 {α:Type} {L:List (List α)} {l:List α} (h:l ∈ L):l.length <=L.flatten.length:=by
 induction L with
 | nil=>cases h
 | cons x L ih=>
   rw [List.flatten_cons,List.length_append];rcases List.mem_cons.1 h with e | e
   ·rw [e];omega
   ·have:=ih e;omega
theorem KA (h:Wd w) {n:Nat} (hn:41 <=n) (hw:w.wire.length < n):WW n w:=by
 have S:=h.shr.Kr;have hm:=h.msg.length_eq;rw [XC] at hm;have hs:=h.shr.sd2;unfold msgs at hm;rw [List.length_append,List.length_append] at hm;have h8:=S.p2;have h5:=S.m2;have hb:=S.bx;have hd:=S.hd;refine⟨by omega,by omega,by omega,by omega,hw,fun l hl=>?_,fun l hl=>?_,fun l hl=>?_,fun x hx=>?_⟩
 ·have:=Zc7 hl;omega
 ·have:=S.rw_ l hl;omega
 ·have:l.length <= (Qf w.held).length:=by
   have:=Zc7 (L:=w.held.map fun x=>x.map fun y=>y.msg) (List.mem_map.2 ⟨l,hl,rfl⟩);rw [List.length_map] at this;exact this
  omega
 ·rcases Ki h.wm hx with e | e | e
  ·have:= (h.shr.Xe x hx).YO;rcases this with⟨q,_,_,_,a,b⟩ | ⟨q,_⟩ | ⟨q,_⟩
   ·rw [a,b];simp;omega
   ·omega
   ·omega
  ·have:=h.mvl hx e;have a:=this.len;have b:=this.few;omega
  ·have:= (h.shr.Xe x hx).YO;rcases this with⟨q,_⟩ | ⟨q,_⟩ | ⟨q,_,a,b⟩
   ·omega
   ·omega
   ·rw [a,b];simp;omega
end
end Go.Proofs.YtbmbbcaaimehkaaGreat
end
section
namespace Go.Proofs.YtbmbbcaaimehkaaGreat
open Go.Lf
theorem Zox {α:Type} (f:α ->Bool) (l:List α):(l.filter f).length + (l.filter fun x=>!f x).length=l.length:=by
 induction l with
 | nil=>rfl
 | cons x l ih=>
   cases e:f x with
   | true=>rw [List.filter_cons_of_pos (by simp [e]),List.filter_cons_of_neg (by simp [e]),List.length_cons,List.length_cons];omega
   | false=>rw [List.filter_cons_of_neg (by simp [e]),List.filter_cons_of_pos (by simp [e]),List.length_cons,List.length_cons];omega
theorem Zrc {u:Zb} (s:WQ u) {x:Zc} (v:MvL u x x.ZR.toNat):∀ j,j <=x.places.length ->(Yk u x j).2.length + (ZB (Yk u x j).1 x.ZR.toNat).length=j + (ZB u x.ZR.toNat).length:=by
 intro j
 induction j with
 | zero=>
   intro _;have:ZB (Yk u x 0).1 x.ZR.toNat=ZB u x.ZR.toNat:=by unfold ZB;rw [show(Yk u x 0).1.held=u.held from(X3 u x _).2.2.1]
   rw [this];rfl
 | succ j ih=>
   intro hj;have hs:=UY s v j;have li:=WA u x j;have ci:=X3 u x x.places.length;have ih:=ih (by omega)
   have e:ZB (Yk u x (j + 1)).1 x.ZR.toNat= (ZB (Yk u x j).1 x.ZR.toNat).filter fun y=>!Uu (UX x j) y:=by
    show ZB (KM (Yk u x j).1 x.ZR.toNat (UX x j)) x.ZR.toNat=_;rw [Zbc hs (by rw [li.2.2.2.1,ci.2.2.2.2.2];exact v.hm),if_pos rfl]
   have t:=Zox (Uu (UX x j)) (ZB (Yk u x j).1 x.ZR.toNat);rw [e];show((Yk u x j).2 ++ Zmm (Yk u x j).1 x.ZR.toNat (UX x j)).length + _=_;unfold Zmm;rw [List.length_append,List.length_cons,List.length_map];omega
section
variable {F:Nat} {w:Zb}
theorem Zyb (h:Wd w) (m:Nat):(ZB w m).length <=40:=by
 by_cases hm:m < w.held.length
 ·have:=h.msg.length_eq;rw [XC] at this;have hs:=h.shr.sd2;unfold msgs at this;rw [List.length_append,List.length_append] at this;have t:=Zc7 (L:=w.held.map fun x=>x.map fun y=>y.msg) (List.mem_map.2 ⟨ZB w m,Yc hm,rfl⟩);rw [List.length_map] at t;have t':(ZB w m).length <= (Qf w.held).length:=t;omega
 ·unfold ZB;rw [List.getD_eq_getElem?_getD,List.getElem?_eq_none (by omega)];simp
theorem ZtR (h:Wd w) {k:Nat} (hk:k < w.wire.length):(Qn w k).2.length <=48:=by
 rcases Ki h.wm (x:=Zw w k) (Yc hk) with e | e | e
 ·rw [ZgF e];unfold Qd;split
  ·exact(by decide:1 <=48)
  ·split <;> exact(by decide:0 <=48)
 ·rw [ZgE e];have v:=h.mvl (Yc hk) e;have t:=Zrc (h.shr.Kr.ZY k) (x:=Zw w k) ⟨v.ZR,v.hm,v.len,v.few,v.rng⟩ (Zw w k).places.length (Nat.le_refl _);have f:(Zw w k).places.length <=8:=v.few;have l:=Zyb h (Zw w k).ZR.toNat;have t':(Zcv (ZY w k) (Zw w k)).2.length + (ZB (Zcv (ZY w k) (Zw w k)).1 (Zw w k).ZR.toNat).length= (Zw w k).places.length + (ZB w (Zw w k).ZR.toNat).length:=t;omega
 ·rw [ZgD e];exact(by decide:0 <=48)
end
end Go.Proofs.YtbmbbcaaimehkaaGreat
end
section
namespace Go.Proofs.YtbmbbcaaimehkaaGreat
open Go.Lf
section
variable {F:Nat} {w:Zb}
end
end Go.Proofs.YtbmbbcaaimehkaaGreat
end
section
namespace Go.Proofs.YtbmbbcaaimehkaaGreat
open Go.Lf
def UF (w:Zb) (x:Zc):Nat:=if x.kind=1 then 2 * ((sp w x.Zu.place.toNat).age - x.Zu.age).toNat else 0
def JO (w:Zb) (l:List Zc):Nat:= (l.map (UF w)).sum
def ZcH (w:Zb):Nat:=w.wire.length + JO w w.wire
theorem U7 (w:Zb) (a b:List Zc):JO w (a ++ b)=JO w a + JO w b:=by unfold JO;rw [List.map_append,List.sum_append]
theorem ZaL (w:Zb) (x:Zc):JO w [x]=UF w x:=by unfold JO;simp
section
variable {w:Zb}
theorem Znz {k:Nat} (hk:k < w.wire.length) (u:Zb):JO u w.wire=JO u (ZY w k).wire + UF u (Zw w k):=by
 have:=congrArg (JO u) (U3 hk);rw [this,show Zw w k::w.wire.drop (k + 1)= [Zw w k] ++ w.wire.drop (k + 1) from rfl,U7,U7,ZaL];show _=JO u (w.wire.take k ++ w.wire.drop (k + 1)) + _;rw [U7];omega
theorem Zlw (u:Zb) (m:Nat) (x:Zj) (now:Bool) (p:Nat):YC (Qd u m x now).1 p=YC u p:=by
 have s:=ZeX u m x now;refine Za8 (by rw [s.2.1];exact Zbb fun m' _=>Znj s.2.1 m' p) ?_;unfold Qd;split
 ·rfl
 ·split
  ·rfl
  ·show XI (u.wire ++ _::told _ _ _ _) p=_;rw [ZaH]
   have:XI (Zas (E u m x.place.toNat).ZR (Ww x (E u m x.place.toNat))::told (m:Int) x (E u m x.place.toNat) now) p= []:=by
    apply Zpm;intro y hy;rcases List.mem_cons.1 hy with z | z
    ·rw [z];show(1:Int) ≠ 2;omega
    ·unfold told at z;split at z
     ·rw [List.mem_singleton.1 z];show(3:Int) ≠ 2;omega
     ·cases z
   rw [this,List.append_nil]
theorem ZnO (h:Wm w) {k:Nat} (hk:k < w.wire.length) (e:(Zw w k).kind=3) (p:Nat):YC (JG (ZY w k) (Zw w k)) p=YC (ZY w k) p:=by
 have hl:=h.shr.Xe (Zw w k) (Yc hk);have t1:=hl.to1;have t2:=hl.to2;have hn:=hl.ntd e;unfold JG;split
 ·rename_i c;refine Za8 ?_ rfl;rw [ZcW];refine ZgJ fun m' _=>?_
  rw [Zpi (h.shr.Kr.ZY k) (by show _ < w.entries.length;omega) (by show _ < w.Zv.length;omega)];by_cases d:m'= (Zw w k).ZR.toNat∧p= (Zw w k).place.toNat
  ·rw [if_pos d,d.1,d.2];exact .inr ⟨rfl,c.1⟩
  ·rw [if_neg d];exact .inl rfl
 ·rfl
theorem ZpT (h:Wm w) {k:Nat} (hk:k < w.wire.length) {p:Nat} (hp:p < w.Zv.length):(sp (Qn w k).1 p).machine= (sp w p).machine∧(sp (Qn w k).1 p).age= (sp w p).age:=by
 rcases Ki h (x:=Zw w k) (Yc hk) with e | e | e
 ·rw [ZgF e,JQ (Zlw _ _ _ _ p),JQ (Zdp hk (by omega) p)];exact⟨rfl,rfl⟩
 ·rw [ZgE e];exact ZpN h ⟨hk,e⟩ hp
 ·rw [ZgD e];dsimp only;rw [JQ (ZnO h hk e p),JQ (Zdp hk (by omega) p)];exact⟨rfl,rfl⟩
theorem ZtP (h:Wm w) {u:Zb} (hs:∀ p,p < w.Zv.length ->(sp u p).age= (sp w p).age) {x:Zc} (hx:x ∈ w.wire):UF u x=UF w x:=by
 unfold UF;by_cases e:x.kind=1
 ·have m:=h.mai x hx e;have a:=m.1;have b:=m.2.1;rw [if_pos e,if_pos e,hs _ (by omega)]
 ·rw [if_neg e,if_neg e]
theorem Zxk (h:Wm w) {u:Zb} (hs:∀ p,p < w.Zv.length ->(sp u p).age= (sp w p).age) {l:List Zc} (hl:∀ x ∈ l,x ∈ w.wire):JO u l=JO w l:=by
 unfold JO;congr 1;exact List.map_congr_left fun x hx=>ZtP h hs (hl x hx)
theorem ZtS (h:Wm w) {k:Nat} (hk:k < w.wire.length):ZcH (Qn w k).1 + 1 <=ZcH w:=by
 have dl:=Zez w hk;have hs:=fun p (hp:p < w.Zv.length)=>(ZpT h hk hp).2
 have hd:∀ x ∈ (ZY w k).wire,x ∈ w.wire:=fun x hx=>ZbQ hx
 have e0:=Znz hk w;have e1:=Zxk h hs hd;unfold ZcH;rcases Ki h (x:=Zw w k) (Yc hk) with e | e | e
 ·have hm:=h.mai _ (Yc hk:Zw w k ∈ w.wire) e;have hr:=ZgC h hk e;rw [ZgF e] at e1 hs ⊢;obtain⟨p,ep,hp⟩:=hr.pl.nat;have hp':p < w.Zv.length:=hp;have ho:=hr.old rfl;unfold Qd at e1 hs ⊢;rw [ep,Int.toNat_natCast] at e1 hs ⊢;by_cases c1:(E (ZY w k) (Zw w k).ZR.toNat p).here=true
  ·rw [if_pos c1] at e1 ⊢;show(ZY w k).wire.length + JO _ (ZY w k).wire + 1 <=_;rw [e1];omega
  rw [if_neg c1] at e1 hs ⊢;by_cases c2:false=false∧(E (ZY w k) (Zw w k).ZR.toNat p).age <= (Zw w k).Zu.age
  ·rw [if_pos c2] at e1 ⊢;show(ZY w k).wire.length + JO _ (ZY w k).wire + 1 <=_;rw [e1];omega
  rw [if_neg c2] at e1 hs ⊢;dsimp only at e1 hs ⊢
  have ag:(E (ZY w k) (Zw w k).ZR.toNat p).age > (Zw w k).Zu.age:=by
   have:¬ (E (ZY w k) (Zw w k).ZR.toNat p).age <= (Zw w k).Zu.age:=fun z=>c2 ⟨rfl,z⟩
   omega
  have wd:=ZfK h hk (by omega);have re:=wd.ent (Zw w k).ZR.toNat hr.hm p hp (by simpa using c1);have esp:sp (ZY w k) p=sp w p:=JQ (Zdp hk (by omega) p);have r2:=re.2.1;rw [esp] at r2;have o5:=ho.2.2.2.2.1;rw [ep,Int.toNat_natCast] at o5;have o2:=o5.2.1;rw [esp] at o2;rw [U7,e1];rw [show(Zas (E (ZY w k) (Zw w k).ZR.toNat p).ZR (Ww (Zw w k).Zu (E (ZY w k) (Zw w k).ZR.toNat p))::told ((Zw w k).ZR.toNat:Int) (Zw w k).Zu (E (ZY w k) (Zw w k).ZR.toNat p) false)= [Zas (E (ZY w k) (Zw w k).ZR.toNat p).ZR (Ww (Zw w k).Zu (E (ZY w k) (Zw w k).ZR.toNat p))] ++ told ((Zw w k).ZR.toNat:Int) (Zw w k).Zu (E (ZY w k) (Zw w k).ZR.toNat p) false from rfl,U7,ZaL]
  have t1:∀ u,JO u (told ((Zw w k).ZR.toNat:Int) (Zw w k).Zu (E (ZY w k) (Zw w k).ZR.toNat p) false)=0∧(told ((Zw w k).ZR.toNat:Int) (Zw w k).Zu (E (ZY w k) (Zw w k).ZR.toNat p) false).length <=1:=fun u=>by
   unfold told;split
   ·rw [ZaL];unfold UF;rw [if_neg (by show ¬ (3:Int)=1;omega)];exact⟨rfl,Nat.le_refl _⟩
   ·exact⟨rfl,Nat.zero_le _⟩
  rw [(t1 _).1];have b1:= (t1 w).2
  have m1:UF w (Zw w k)=2 * ((sp w p).age - (Zw w k).Zu.age).toNat:=by
   unfold UF;rw [if_pos e,ep,Int.toNat_natCast]
  have m2:∀ u:Zb,(sp u p).age= (sp w p).age ->UF u (Zas (E (ZY w k) (Zw w k).ZR.toNat p).ZR (Ww (Zw w k).Zu (E (ZY w k) (Zw w k).ZR.toNat p)))=2 * ((sp w p).age - (E (ZY w k) (Zw w k).ZR.toNat p).age).toNat:=fun u hu=>by
   unfold UF;rw [if_pos (show(Zas (E (ZY w k) (Zw w k).ZR.toNat p).ZR (Ww (Zw w k).Zu (E (ZY w k) (Zw w k).ZR.toNat p))).kind=1 from rfl)];show 2 * ((sp u (Zw w k).Zu.place.toNat).age - (E (ZY w k) (Zw w k).ZR.toNat p).age).toNat=_;rw [ep,Int.toNat_natCast,hu]
  rw [m2 _ (by exact hs p hp')];simp only [List.length_append,List.length_singleton];omega
 ·rw [ZgE e] at e1 ⊢;have i:=Zcw w k;show(UB w k).wire.length + JO (UB w k) (UB w k).wire + 1 <=_;rw [i.2.1];have e1':JO (UB w k) (ZY w k).wire=JO w (ZY w k).wire:=e1;omega
 ·rw [ZgD e] at e1 ⊢;have n:=Zaa (ZY w k) (Zw w k);show(JG (ZY w k) (Zw w k)).wire.length + JO (JG (ZY w k) (Zw w k)) (JG (ZY w k) (Zw w k)).wire + 1 <=_;rw [n.2.2.2.1];have e1':JO (JG (ZY w k) (Zw w k)) (ZY w k).wire=JO w (ZY w k).wire:=e1;omega
theorem ZxE (h:Wd w) {k:Nat} (hk:k < w.wire.length):Wd (Qn w k).1:=by
 refine(ZxD h.wm hk).wd ?_;have e:(owes (Qn w k).1).Perm (owes w):=List.perm_iff_count.2 fun a=>ZpU h.wm hk a
 have e:=e.map Prod.fst;rw [Zgj,Zgj] at e;rw [(ZiX h.wm hk).2.2.1];exact e.trans h.msg
def Zap (w:Zb) (picks:List Int) (n:Nat):Nat:=if n < picks.length then(picks.getD n 0).toNat % w.wire.length else 0
def Qx (w:Zb) (picks:List Int):Nat ->Zb×List ZI
 | 0=>(w,[])
 | n + 1=>if(Qx w picks n).1.wire= [] then Qx w picks n else((Qn (Qx w picks n).1 (Zap (Qx w picks n).1 picks n)).1,(Qx w picks n).2 ++ (Qn (Qx w picks n).1 (Zap (Qx w picks n).1 picks n)).2)
theorem Zfx {u:Zb} (h:u.wire ≠ []) (picks:List Int) (n:Nat):Zap u picks n < u.wire.length:=by
 have:=List.length_pos_iff.2 h;unfold Zap;split
 ·exact Nat.mod_lt _ this
 ·exact this
structure DrI (w:Zb) (n:Nat) (s:Zb×List ZI):Prop where
 wd:Wd s.1
 Zv:s.1.Zv=w.Zv
 enl:s.1.entries.length=w.entries.length
 said:s.1.said=w.said
 sp:∀ p,p < w.Zv.length ->(Proofs.YtbmbbcaaimehkaaGreat.sp s.1 p).machine= (Proofs.YtbmbbcaaimehkaaGreat.sp w p).machine∧(Proofs.YtbmbbcaaimehkaaGreat.sp s.1 p).age= (Proofs.YtbmbbcaaimehkaaGreat.sp w p).age
 ow:(owes s.1).Perm (owes w)
 ev:s.2.length <=48 * n
 wire:s.1.wire.length <=w.wire.length + n
theorem drI (h:Wd w) (picks:List Int):∀ n,DrI w n (Qx w picks n):=by
 intro n
 induction n with
 | zero=>exact⟨h,rfl,rfl,rfl,fun p _=>⟨rfl,rfl⟩,List.Perm.refl _,Nat.le_refl _,Nat.le_refl _⟩
 | succ n ih=>
   have i1:=ih.ev;have i2:=ih.wire;show DrI w (n + 1) (if(Qx w picks n).1.wire= [] then _ else _);split
   ·exact⟨ih.wd,ih.Zv,ih.enl,ih.said,ih.sp,ih.ow,by omega,by omega⟩
   ·rename_i c;have hk:=Zfx c picks n;have s:=ZiX ih.wd.wm hk;have e:=ZtR ih.wd hk;refine⟨ZxE ih.wd hk,s.1.trans ih.Zv,s.2.1.trans ih.enl,s.2.2.1.trans ih.said,fun p hp=>?_,(List.perm_iff_count.2 fun a=>ZpU ih.wd.wm hk a).trans ih.ow,?_,?_⟩
    ·have a:=ZpT ih.wd.wm hk (p:=p) (by rw [ih.Zv];exact hp);have b:=ih.sp p hp;exact⟨a.1.trans b.1,a.2.trans b.2⟩
    ·dsimp only;rw [List.length_append];omega
    ·dsimp only;omega
theorem ZDD (h:Wd w) (picks:List Int):∀ n,(∀ i,i < n ->(Qx w picks i).1.wire ≠ []) ->ZcH (Qx w picks n).1 + n <=ZcH w:=by
 intro n
 induction n with
 | zero=>intro _;exact Nat.le_refl _
 | succ n ih=>
   intro hn;have i1:=ih fun i hi=>hn i (by omega)
   have c:=hn n (by omega);have hk:=Zfx c picks n;have:=ZtS (drI h picks n).wd.wm hk;show ZcH (if(Qx w picks n).1.wire= [] then Qx w picks n else _).1 + (n + 1) <=_;rw [if_neg c];dsimp only;omega
theorem Zqj (h:Wd w) (picks:List Int):∃ n,n <=ZcH w∧(Qx w picks n).1.wire= []∧∀ i,i < n ->(Qx w picks i).1.wire ≠ []:=by
 by_cases hz:∃ n,n <=ZcH w∧(Qx w picks n).1.wire= []
 ·obtain⟨n,hn,e⟩:=hz;obtain⟨m,hm,hc,hlt⟩:=QD (c:=fun i=>(Qx w picks i).1.wire= []) e;exact⟨m,by omega,hc,hlt⟩
 ·have:=ZDD h picks (ZcH w + 1) fun i hi q=>hz ⟨i,by omega,q⟩
  omega
end
end Go.Proofs.YtbmbbcaaimehkaaGreat
end
section
namespace Go.Proofs.YtbmbbcaaimehkaaGreat
open Go.Lf
section
variable {F:Nat} {w:Zb}
theorem Zra (h:Wm w) {k:Nat} (hk:k < w.wire.length):∃ tl,(Qn w k).1.wire= (ZY w k).wire ++ tl∧tl.length <=2 * (owL [Zw w k]).length:=by
 rcases Ki h (x:=Zw w k) (Yc hk) with e | e | e
 ·rw [ZgF e,Zc2 e];unfold Qd;split
  ·exact⟨[],by simp,by simp⟩
  ·split
   ·exact⟨[],by simp,by simp⟩
   ·refine⟨_,rfl,?_⟩;rw [List.length_cons];unfold told;split <;> simp
 ·rw [ZgE e];exact⟨[],by rw [List.append_nil];exact(Zcw w k).2.1,by simp⟩
 ·rw [ZgD e];exact⟨[],by rw [List.append_nil];exact(Zaa _ _).2.2.2.1,by simp⟩
theorem ZjH (h:Wd w):(owL w.wire).length <=40:=by
 have:=h.msg.length_eq;rw [XC,← Zgj,List.length_map] at this;have hs:=h.shr.sd2;unfold owes at this;rw [List.length_append,List.length_append] at this;omega
theorem ZmR {picks:List Int} {n:Nat} (c:(Qx w picks n).1.wire ≠ []):Qx w picks (n + 1)= ((Qn (Qx w picks n).1 (Zap (Qx w picks n).1 picks n)).1,(Qx w picks n).2 ++ (Qn (Qx w picks n).1 (Zap (Qx w picks n).1 picks n)).2):=by
 show(if(Qx w picks n).1.wire= [] then Qx w picks n else _)=_;rw [if_neg c]
theorem ZLQ (h:Wd w) (picks:List Int) {M:Nat} (hM:80 <=M) (hw:w.wire.length + picks.length <=M):∀ d,∃ old new,(Qx w picks (picks.length + d)).1.wire=old ++ new∧old.length <=M∧new.length + 2 * (owL old).length <=80:=by
 intro d
 induction d with
 | zero=>
   have I:=drI h picks picks.length;have i2:=I.wire;have:=ZjH I.wd;exact⟨(Qx w picks picks.length).1.wire,[],by simp,by omega,by simp;omega⟩
 | succ d ih=>
   have I:=drI h picks (picks.length + d);by_cases c:(Qx w picks (picks.length + d)).1.wire= []
   ·have:Qx w picks (picks.length + (d + 1))=Qx w picks (picks.length + d):=by
     show(if(Qx w picks (picks.length + d)).1.wire= [] then Qx w picks (picks.length + d) else _)=_;rw [if_pos c]
    rw [this];exact ih
   ·have ih':∃ x old new,(Qx w picks (picks.length + d)).1.wire=x::old ++ new∧(x::old).length <=M∧new.length + 2 * (owL (x::old)).length <=80:=by
     obtain⟨old,new,e,h1,h2⟩:=ih;cases old with
     | cons x old=>exact⟨x,old,new,e,h1,h2⟩
     | nil=>
       rw [List.nil_append] at e;have ol:=ZjH I.wd;rw [e] at ol c;cases new with
       | nil=>exact absurd rfl c
       | cons x new=>
         have h2':(x::new).length <=80:=by have:(x::new).length + 2 * (owL []).length <=80:=h2;omega
         exact⟨x,new,[],by rw [e,List.append_nil],by omega,by rw [List.length_nil];omega⟩
    obtain⟨x,old,new,e,h1,h2⟩:=ih';have hk:=Zfx c picks (picks.length + d);have p0:Zap (Qx w picks (picks.length + d)).1 picks (picks.length + d)=0:=by unfold Zap;rw [if_neg (by omega)]
    rw [p0] at hk;have e1:=ZmR c;rw [p0] at e1;obtain⟨tl,et,ht⟩:=Zra I.wd.wm hk
    have ed:(ZY (Qx w picks (picks.length + d)).1 0).wire=old ++ new:=by
     show(Qx w picks (picks.length + d)).1.wire.take 0 ++ (Qx w picks (picks.length + d)).1.wire.drop (0 + 1)=_;rw [e];rfl
    have ex:Zw (Qx w picks (picks.length + d)).1 0=x:=by unfold Zw;rw [e];rfl
    rw [ed] at et;rw [ex] at ht;have o:owL (x::old)=owL [x] ++ owL old:=Kg [x] old;rw [o,List.length_append] at h2;rw [List.length_cons] at h1;refine⟨old,new ++ tl,?_,by omega,by rw [List.length_append];omega⟩;rw [show picks.length + (d + 1)=picks.length + d + 1 from rfl,e1,← List.append_assoc,← et]
theorem ZyQ (h:Wd w) (picks:List Int) {M:Nat} (hM:80 <=M) (hw:w.wire.length + picks.length <=M) (n:Nat):(Qx w picks n).1.wire.length <=M + 80:=by
 by_cases c:n < picks.length
 ·have:= (drI h picks n).wire;omega
 ·obtain⟨d,rfl⟩:∃ d,n=picks.length + d:= ⟨n - picks.length,by omega⟩
  obtain⟨old,new,e,h1,h2⟩:=ZLQ h picks hM hw d;rw [e,List.length_append];omega
theorem Zs3 {x:Int} (hx:0 <=x) {n:Nat} (hn:0 < n):ZqU x (n:Int)=some ((x.toNat % n:Nat):Int):=by
 unfold ZqU;rw [Yq,decide_eq_false (by omega),Cq0];obtain⟨k,rfl⟩:∃ k:Nat,x= (k:Int):= ⟨x.toNat,by omega⟩
 rw [Int.toNat_natCast,Int.ofNat_tmod]
def Zsc (picks:List Int):Prop:=picks.length <=80∧∀ x ∈ picks,0 <=x
theorem ZdW {picks:List Int}:((List.range picks.length).any fun k=>decide (picks.getD k 0 < 0))=true↔¬ ∀ x ∈ picks,0 <=x:=by
 rw [ZiB picks (fun x=>decide (x < 0)) 0,List.any_eq_true]
 constructor
 ·rintro⟨x,hx,e⟩ z;have:=z x hx;simp at e;omega
 ·intro z;obtain⟨x,hx⟩:=Classical.not_forall.1 z;obtain⟨h1,h2⟩:=Classical.not_imp.1 hx;exact⟨x,h1,by simp;omega⟩
theorem ZJ3 {k n:Nat} (h:k < n) (hn:n <=9223372036854775807):Xl ((k:Int) + 1)= ((k + 1:Nat):Int):=by rw [KY (by omega) (by omega)];rfl
theorem ZqY {picks:List Int} (hF:picks.length < F) (hm:picks.length <=9223372036854775807):∃ b,ZrB F picks=some b∧(b=true↔Zsc picks):=by
 have e:=Zl2 (body:=Zhk picks) (r1:=some false) (r2:=some (decide ((picks.length:Int) <=80))) (fun k=>(k:Int)) (fun k=>decide (picks.getD k 0 < 0)) (n:=picks.length) (F:=F) hF (fun k hk next=>by
  unfold Zhk;rw [ZF hk,Cq1,Yt 0 hk];simp only [Bq0];rw [ZJ3 hk hm]) (fun next=>by
  unfold Zhk;rw [ZO,Cq0])
 have e':ZrB F picks=_:=e;rw [e'];cases c:(List.range picks.length).any fun k=>decide (picks.getD k 0 < 0) with
 | true=>
   have:=ZdW.1 c;exact⟨false,rfl,⟨fun z=>(by cases z),fun z=>absurd z.2 this⟩⟩
 | false=>
   have:∀ x ∈ picks,0 <=x:=Classical.byContradiction fun z=>by rw [ZdW.2 z] at c;cases c
   refine⟨_,rfl,?_⟩;rw [decide_eq_true_eq];exact⟨fun z=>⟨by omega,this⟩,fun z=>by have:=z.1;omega⟩
theorem Zpo (h:Wm w) (l:List Zc) (hl:∀ x ∈ l,x ∈ w.wire):JO w l <=60 * (owL l).length:=by
 induction l with
 | nil=>exact Nat.le_refl _
 | cons x l ih=>
   have i:=ih fun y hy=>hl y (List.mem_cons_of_mem _ hy)
   rw [show x::l= [x] ++ l from rfl,U7,ZaL,Kg,List.length_append]
   have:UF w x <=60 * (owL [x]).length:=by
    unfold UF;split
    ·rename_i e;rw [Zc2 e,List.length_singleton];have m:=h.mai x (hl x (by simp)) e;have a:=h.ZaM (p:=x.Zu.place.toNat) (by have:=m.1;have:=m.2.1;omega);have b:=m.2.2.2.2.1.1;omega
    ·omega
   omega
theorem ZDO (h:Wd w):ZcH w <=w.wire.length + 2400:=by
 have:=Zpo h.wm w.wire fun x hx=>hx
 have:=ZjH h;unfold ZcH;omega
theorem Zxj {l:List Zc} (k:Nat):(owL (l.take k)).length <= (owL l).length:=by
 have:=congrArg (fun l=>(owL l).length) (List.take_append_drop k l);simp only [Kg,List.length_append] at this;omega
theorem Zhz (hF:400000 <=F) (hM:F <=1000000) (h:Wd w) (hw:w.wire.length < 400) {picks:List Int} (hp:Zsc picks) {n:Nat} (hn:n <=ZcH w) (he:(Qx w picks n).1.wire= []) (hlt:∀ i,i < n ->(Qx w picks i).1.wire ≠ []):
 ZrD F w picks=some ((Qx w picks n).1,(Qx w picks n).2,(n:Int),0):=by
 have sm:WW 400 w:=KA h (by omega) hw;have hl:=hp.1;have hb:=ZDO h;unfold ZrD;rw [ZmX hF hM sm h];simp only [Bq0];rw [decide_eq_false (show ¬ (picks.length:Int) > 80 by omega),QJ,Bool.or_self,Bool.not_false,Cq1]
 have e:=Zl2 (body:=Zhm F w picks) (r1:=some (ZvV,[],0,2)) (r2:=Zbi F w picks (-1)) (fun k=>(k:Int)) (fun k=>decide (picks.getD k 0 < 0)) (n:=picks.length) (F:=F) (by omega) (fun k hk next=>by
  unfold Zhm;rw [ZF hk,Cq1,Yt 0 hk];simp only [Bq0]
  have:Zbi F w picks (k:Int)=some (ZvV,[],0,2):=by
   unfold Zbi;rw [decide_eq_true (by omega)];rfl
  rw [this,Yv (by omega)]) (fun next=>by
  unfold Zhm;rw [ZO,Cq0])
 have c:((List.range picks.length).any fun k=>decide (picks.getD k 0 < 0))=false:=by
  rw [← Bool.not_eq_true];exact fun z=>ZdW.1 z hp.2
 rw [c,Cq0] at e;refine Eq.trans e ?_;unfold Zbi;rw [decide_eq_false (by omega),Cq0,ZrJ (by omega) (sm.mono (by omega))];simp only [Bq0];refine Yd (fun k=>((k:Int),(Qx w picks k).1.Zv,(Qx w picks k).1.boxes,(Qx w picks k).1.entries,(Qx w picks k).1.held,(Qx w picks k).1.wire,(Qx w picks k).1.said,(Qx w picks k).2)) rfl (n:=n) (by omega) (fun k hk next=>?_) (fun next=>?_)
 ·have I:=drI h picks k;have i1:=I.ev;have cw:=hlt k hk;have hwl:=ZyQ h picks (M:=500) (by omega) (by omega) k;have smk:WW 900 (Qx w picks k).1:=KA I.wd (by omega) (by omega);have hpos:=List.length_pos_iff.2 cw;have hk':=Zfx cw picks k;have lp:=Zrb (F:=F) (by omega) I.wd smk hk' (ev:= (Qx w picks k).2) (by omega);have es:=ZmR cw;unfold Zky;dsimp only;rw [decide_eq_true (show((Qx w picks k).1.wire.length:Int) > 0 by omega),Cq1]
  have fin:Zem F (k:Int) (Qx w picks k).1.Zv (Qx w picks k).1.boxes (Qx w picks k).1.entries (Qx w picks k).1.held (Qx w picks k).1.wire (Qx w picks k).1.said (Qx w picks k).2 next (Zap (Qx w picks k).1 picks k:Int)=next (((k + 1:Nat):Int),(Qx w picks (k + 1)).1.Zv,(Qx w picks (k + 1)).1.boxes,(Qx w picks (k + 1)).1.entries,(Qx w picks (k + 1)).1.held,(Qx w picks (k + 1)).1.wire,(Qx w picks (k + 1)).1.said,(Qx w picks (k + 1)).2):=by
   unfold Zem;show((Zrz F ⟨(Qx w picks k).1,(Qx w picks k).2⟩ (Zap (Qx w picks k).1 picks k:Int)).bind _)=_;rw [lp,es];simp only [Bq0];rw [Yv (by omega)]
  rw [← fin];by_cases cp:k < picks.length
  ·rw [ZF cp,Cq1,Yt 0 cp];simp only [Bq0];rw [Zs3 (hp.2 _ (Yc cp)) hpos];simp only [Bq0];unfold Zap;rw [if_pos cp]
  ·rw [decide_eq_false (by omega),Cq0];unfold Zap;rw [if_neg cp];rfl
 ·unfold Zky;dsimp only;rw [decide_eq_false (show ¬ ((Qx w picks n).1.wire.length:Int) > 0 by rw [he];simp),Cq0]
theorem ZiL {k:Nat} (hk:k < w.wire.length):JO w (w.wire.take (k + 1))=JO w (w.wire.take k) + UF w (Zw w k):=by
 rw [List.take_succ_eq_append_getElem hk,U7,ZaL,show Zw w k=w.wire[k] from QC hk]
def stB (w:Zb) (k:Nat):Int×Int:= (((w.wire.length + JO w (w.wire.take k):Nat):Int),(k:Int))
theorem ZoU (h:Wd w) {k:Nat} (hk:k < w.wire.length) (hw:w.wire.length < 400) (e:(Zw w k).kind=1):
 Xl (((w.wire.length + JO w (w.wire.take k):Nat):Int) + Xl (2 * Xl ((sp w (Zw w k).Zu.place.toNat).age - (Zw w k).Zu.age)))= ((w.wire.length + JO w (w.wire.take (k + 1)):Nat):Int)∧(Zw w k).Zu.place= ((Zw w k).Zu.place.toNat:Int)∧(Zw w k).Zu.place.toNat < w.Zv.length:=by
 have m:=h.mai (Zw w k) (Yc hk) e;have m1:=m.1;have m2:=m.2.1;have a:=h.wm.ZaM (p:= (Zw w k).Zu.place.toNat) (by omega);have b1:=m.2.2.2.2.1.1;have b2:=m.2.2.2.2.1.2.1;have s:=Zpo h.wm (w.wire.take k) fun x hx=>List.mem_of_mem_take hx
 have s2:=Zxj (l:=w.wire) k;have s3:=ZjH h;refine⟨?_,by omega,by omega⟩;rw [KY (n:= (sp w (Zw w k).Zu.place.toNat).age - (Zw w k).Zu.age) (by omega) (by omega),KY (n:=2 * _) (by omega) (by omega),KY (by omega) (by omega),ZiL hk];unfold UF;rw [if_pos e];omega
theorem ZoV (hF:400000 <=F) (hM:F <=1000000) (h:Wd w) (hw:w.wire.length < 400):ZvK F w=some ((ZcH w:Int),0):=by
 have sm:WW 400 w:=KA h (by omega) hw;unfold ZvK;rw [ZmX hF hM sm h];simp only [Bq0];rw [QJ,Cq0];refine Yd (stB w) (by unfold stB;simp [JO]) (n:=w.wire.length) (by omega) (fun k hk next=>?_) (fun next=>?_)
 ·unfold stB Zkx;dsimp only;rw [ZF hk,Cq1,ZiW hk];simp only [Bq0];by_cases e:(Zw w k).kind=1
  ·have b:=ZoU h hk hw e;rw [Yq,decide_eq_true e,Cq1,b.2.1,Zss (by omega) hM h (sm.mono (by omega)) b.2.2];simp only [Bq0];unfold Zej;rw [b.1,Yv (by omega)]
  ·rw [Yq,decide_eq_false e,Cq0];unfold Zej;rw [Yv (by omega),ZiL hk];unfold UF;rw [if_neg e];rfl
 ·unfold stB Zkx;dsimp only;rw [ZO,Cq0,List.take_of_length_le (Nat.le_refl _)];rfl
end
end Go.Proofs.YtbmbbcaaimehkaaGreat
end
section
namespace Go.Proofs.YtbmbbcaaimehkaaGreat
open Go.Lf
section
variable {κ ν:Type} [DecidableEq κ]
def UK (l:List (κ×ν)):Prop:= (l.map (·.1)).Nodup
theorem ZtH {l:List (κ×ν)} {k:κ} {x:ν} (h:k ∉ l.map (·.1)):UA l k x=l ++ [(k,x)]:=by
 unfold UA;rw [ZnV.2 fun p hp e=>h (List.mem_map.2 ⟨p,hp,e⟩)]
theorem ZlX (p:κ×ν) (l:List (κ×ν)) (k:κ):JH (p::l) k=if p.1=k then some (0,p.2) else(JH l k).map fun q=>(q.1 + 1,q.2):=rfl
theorem UK.get:∀ {l:List (κ×ν)},UK l ->∀ {k:κ} {x:ν},(k,x) ∈ l ->ZnT l k=some x
 | [],_,k,x,h=>by cases h
 | p::l,u,k,x,h=>by
   have u':p.1 ∉ l.map (·.1)∧UK l:=List.nodup_cons.1 u;unfold ZnT;rw [ZlX];rcases List.mem_cons.1 h with e | e
   ·rw [← e,if_pos rfl];rfl
   ·have ih:=u'.2.get e;rw [if_neg fun z:p.1=k=>u'.1 (by rw [z];exact List.mem_map.2 ⟨_,e,rfl⟩)];unfold ZnT at ih;rw [Option.map_map];exact ih
end
section
variable {F:Nat} {w:Zb}
theorem ZdV (h:Wd w) (he:w.wire= []) {p:Nat} (hp:p < w.Zv.length):(sp w p).here=true:=by
 rcases ZcT (h.loc p hp) with⟨m,hm,hh,e⟩ | ⟨x,hx,_⟩
 ·rw [e]
 ·rw [he] at hx;cases hx
theorem ZqS (h:Wd w) (he:w.wire= []) {m:Nat} (hm:m < w.entries.length):ZB w m= []:=by
 apply List.eq_nil_iff_forall_not_mem.2;intro y hy;have b:=h.hel m hm y hy;have b1:=b.1.1;have b2:=b.1.2.1;have:=ZdV h he (p:=y.place.toNat) (by omega);rw [b.2] at this;cases this
theorem ZqR (h:Wd w) (he:w.wire= []):owes w=owB w:=by
 have:owH w= []:=by
  unfold owH;apply List.flatMap_eq_nil_iff.2;intro m hm;rw [ZqS h he (by rw [← h.shr.Kr.hd];exact List.mem_range.1 hm)];rfl
 unfold owes;rw [this,he];show owB w ++ [] ++ []=_;rw [List.append_nil,List.append_nil]
theorem ZhC (l:List Int) (q n:Int) (p:Int):(l.map fun n=>(n,q)).count (n,p)=if q=p then l.count n else 0:=by
 induction l with
 | nil=>simp
 | cons x l ih=>
   rw [List.map_cons,List.count_cons,ih,List.count_cons];by_cases e:q=p
   ·rw [if_pos e,if_pos e,e];by_cases f:x=n <;> simp [f]
   ·rw [if_neg e,if_neg e];simp [e]
theorem ZrI {p:Nat} (hp:p < w.boxes.length) (n:Int):(owB w).count (n,(p:Int))= (Y1 w p).count n:=by
 unfold owB
 have:∀ k,((List.range k).flatMap fun q=>(Y1 w q).map fun n=>(n,(q:Int))).count (n,(p:Int))=if p < k then(Y1 w p).count n else 0:=by
  intro k
  induction k with
  | zero=>simp
  | succ k ih=>
    rw [List.range_succ,List.flatMap_append,List.count_append,ih];simp only [List.flatMap_cons,List.flatMap_nil,List.append_nil];rw [ZhC];by_cases e:k=p
    ·subst e;simp
    ·rw [if_neg (show ¬ (k:Int)= (p:Int) by omega)];by_cases f:p < k
     ·rw [if_pos f,if_pos (by omega)];omega
     ·rw [if_neg f,if_neg (by omega)]
 rw [this,if_pos hp]
theorem ZlC (h:Wd w) (he:w.wire= []) {p:Nat} (hp:p < w.Zv.length) (n:Int):(owes w).count (n,(p:Int))= (Y1 w p).count n:=by
 rw [ZqR h he,ZrI (by rw [h.shr.Kr.bx];exact hp)]
theorem ZjC (n:Nat):(Y6 n).Nodup:=by
 unfold Y6;exact List.Pairwise.map _ (fun a b hab=>(by show((a:Nat):Int) ≠ (b:Int);omega)) List.nodup_range
theorem ZnR (h:Wd w):(msgs w).Nodup:=h.msg.nodup_iff.2 (ZjC _)
theorem Zov {α:Type} {L:List (List α)} {l:List α} (h:l ∈ L) (hn:L.flatten.Nodup):l.Nodup:=by
 induction L with
 | nil=>cases h
 | cons x L ih=>
   rw [List.flatten_cons,List.nodup_append] at hn;rcases List.mem_cons.1 h with e | e
   ·rw [e];exact hn.1
   ·exact ih e hn.2.1
theorem ZrR (h:Wd w) {p:Nat} (hp:p < w.Zv.length):(Y1 w p).Nodup:=by
 have:=ZnR h;unfold msgs at this;rw [List.append_assoc,List.nodup_append] at this;exact Zov (Yc (by rw [h.shr.Kr.bx];exact hp)) this.1
theorem ZDN (h:Wd w) {p:Nat} (hp:p < w.Zv.length):(Y1 w p).length <=40:=by
 have sm:= (KA h (n:=w.wire.length + 41) (by omega) (by omega))
 have:=h.msg.length_eq;rw [XC] at this;have hs:=h.shr.sd2;unfold msgs at this;rw [List.length_append,List.length_append] at this;have t:=Zc7 (L:=w.boxes) (l:=Y1 w p) (Yc (by rw [h.shr.Kr.bx];exact hp));omega
theorem Zlj (hF:1000 <=F) {a b:List Int} (ha:a.Nodup) (hp:a.Perm b) (hl:a.length <=900):ZrA F a b=some true:=by
 have hb:b.length=a.length:=hp.length_eq.symm;unfold ZrA;refine Yd (fun k=>((k:Int),(a.take k).map fun n=>(n,true))) rfl (n:=a.length) (by omega) (fun k hk next=>?_) (fun next=>?_)
 ·unfold Zkw;dsimp only;rw [ZF hk,Cq1,Yt 0 hk];simp only [Bq0];rw [Yv (by omega),ZtH,Zh8 hk 0];rw [List.map_map];show a.getD k 0 ∉ (a.take k).map fun n=>n
  rw [List.map_id',QC hk];exact Zlm ha hk
 ·unfold Zkw;dsimp only;rw [ZO,Cq0,List.take_of_length_le (Nat.le_refl _)]
  have u:UK (a.map fun n=>(n,true)):=by
   unfold UK;rw [List.map_map];show(a.map fun n=>n).Nodup;rw [List.map_id'];exact ha
  refine Yd (fun k=>(k:Int)) rfl (n:=b.length) (by omega) (fun k hk next=>?_) (fun next=>?_)
  ·unfold Zkv;rw [ZF hk,Cq1,Yt 0 hk];simp only [Bq0];have hm:b.getD k 0 ∈ a:=hp.mem_iff.2 (Yc hk);unfold ZA5;rw [u.get (List.mem_map.2 ⟨_,hm,rfl⟩)];simp only [Bq0,Option.getD_some,Bool.not_true,Cq0];rw [Yv (by omega)]
  ·unfold Zkv;rw [ZO,Cq0,hb,beq_self_eq_true,List.length_map,beq_self_eq_true];rfl
theorem ZyI (hF:400000 <=F) (w:Zb):∃ b,ZvM F w=some b∧(b=true ->WW 201 w∧Wd w):=by
 obtain⟨b,eb,ib⟩:=ZsQ hF w;unfold ZvM;rw [eb];simp only [Bq0];cases b with
 | false=>exact⟨false,rfl,fun z=>by cases z⟩
 | true=>
   have sm:=ib rfl;obtain⟨c,ec,ic⟩:=ZiF hF (sm.mono (show 201 <=400 by omega));rw [Yu,ec];exact⟨c,rfl,fun z=>⟨sm,ic.1 z⟩⟩
theorem Zvf (hF:400000 <=F) (w:Zb) (l:List QF) (ps:List (List Int)) (hn:ps.length <=1000) (hp:∀ p ∈ ps,p.length < F∧p.length <=9223372036854775807):
 ∃ b,ZvP F w l ps=some b∧(b=true ->WW 201 w∧Wd w∧l.length <=80∧∀ p ∈ ps,Zsc p):=by
 obtain⟨c,ec,ic⟩:=ZyI hF w
 have hpk:∀ k,k < ps.length ->∃ b,ZrB F (ps.getD k [])=some b∧(b=true↔Zsc (ps.getD k [])):=fun k hk=>by
  have:=hp _ (Yc (d:= []) hk);exact ZqY this.1 this.2
 have e:=Jj (body:=Zhn F w l ps) (r1:=some false) (r2:=some (c && decide ((l.length:Int) <=80))) (s0:= (0:Int)) (fun k=>(k:Int)) rfl (fun k=>Zsc (ps.getD k [])) (n:=ps.length) (F:=F) (by omega) (fun k hk next=>by
  obtain⟨b,eb,ib⟩:=hpk k hk;unfold Zhn;rw [ZF hk,Cq1,Yt [] hk];simp only [Bq0];rw [eb];simp only [Bq0];rw [Zct ib,Yv (by omega)]) (fun next=>by
  unfold Zhn;rw [ZO,Cq0,ec];rfl)
 have e':ZvP F w l ps=_:=e;rw [e'];by_cases q:∀ k,k < ps.length ->Zsc (ps.getD k [])
 ·rw [YV q];refine⟨_,rfl,fun z=>?_⟩;rw [Bool.and_eq_true,decide_eq_true_eq] at z;have:=ic z.1;exact⟨this.1,this.2,by omega,Ut.1 q⟩
 ·rw [Y8 q];exact⟨false,rfl,fun z=>by cases z⟩
theorem Zfu (w:Zb) (p1 p2:List Int) (h1:p1.length <=9223372036854775807) (h2:p2.length <=9223372036854775807):ZvS (900000 + p1.length + p2.length) w p1 p2=some true:=by
 have hF:400000 <=900000 + p1.length + p2.length:=by omega
 obtain⟨b,eb,ib⟩:=Zvf hF w [] [p1,p2] (by simp) (by
  intro p hp;rcases List.mem_cons.1 hp with e | e
  ·rw [e];exact⟨by omega,h1⟩
  ·rw [List.mem_singleton.1 e];exact⟨by omega,h2⟩)
 generalize eF:900000 + p1.length + p2.length=F at *;unfold ZvS;rw [eb];simp only [Bq0];cases b with
 | false=>rfl
 | true=>
 obtain⟨sm0,h,_,hpk⟩:=ib rfl;have k1:=hpk p1 (by simp);have k2:=hpk p2 (by simp);have hM:F <=1000000:=by have:=k1.1;have:=k2.1;omega
 have hwl:=sm0.wire;obtain⟨n,hn,he,hlt⟩:=Zqj h p1;obtain⟨n',hn',he',hlt'⟩:=Zqj h p2;have I:=drI h p1 n;have J:=drI h p2 n';have smI:WW 400 (Qx w p1 n).1:=KA I.wd (by omega) (by rw [he];simp);have smJ:WW 400 (Qx w p2 n').1:=KA J.wd (by omega) (by rw [he'];simp);rw [Bool.not_true,Cq0,Zhz hF hM h (by omega) k1 hn he hlt,Zhz hF hM h (by omega) k2 hn' he' hlt',ZoV hF hM h (by omega)];simp only [Bq0];rw [QJ,Bool.or_self,Bool.or_self,Bool.not_false,Yu,Zld hF smI I.wd];simp only [Bq0];rw [Bool.not_true,Bool.or_self,Bool.not_false,Yu,Zld hF smJ J.wd];simp only [Bq0];rw [Bool.not_true,Bool.or_self,decide_eq_false (show ¬ (n:Int) > (ZcH w:Int) by omega),decide_eq_false (show ¬ (n':Int) > (ZcH w:Int) by omega),I.Zv,J.Zv,QJ];simp only [Bool.or_self,Cq0];have h8:=h.shr.Kr.p2;refine Yd (fun k=>(k:Int)) rfl (n:=w.Zv.length) (by omega) (fun k hk next=>?_) (fun next=>?_)
 ·have hkI:k < (Qx w p1 n).1.Zv.length:=by rw [I.Zv];exact hk
  have hkJ:k < (Qx w p2 n').1.Zv.length:=by rw [J.Zv];exact hk
  have r1:=ZdV I.wd he hkI;have r2:=ZdV J.wd he' hkJ;have s1:=I.sp k hk;have s2:=J.sp k hk;unfold ZkB;rw [ZF hk,Cq1,ZiG hF smI I.wd hkI,ZiG hF smJ J.wd hkJ];simp only [Bq0];rw [r1,r2,s1.1,s2.1,s1.2,s2.2,QJ,QJ];simp only [Bool.not_true,Bool.or_self,Bool.not_false,Yu];rw [I.Zv,J.Zv,Jg hk];simp only [Bq0];rw [QJ];simp only [Bool.or_self,Bool.not_false,Yu];rw [ZhE I.wd.shr.Kr hkI,ZhE J.wd.shr.Kr hkJ];simp only [Bq0]
  have pr:(Y1 (Qx w p1 n).1 k).Perm (Y1 (Qx w p2 n').1 k):=List.perm_iff_count.2 fun a=>by
   rw [← ZlC I.wd he hkI,← ZlC J.wd he' hkJ];exact List.perm_iff_count.1 (I.ow.trans J.ow.symm) _
  have bl:=ZDN I.wd hkI;rw [Zlj (by omega) (ZrR I.wd hkI) pr (by omega)];simp only [Bq0,Bool.not_true,Bool.or_self,Cq0];rw [Yv (by omega)]
 ·unfold ZkB;rw [ZO,Cq0];rfl
end
end Go.Proofs.YtbmbbcaaimehkaaGreat
end
