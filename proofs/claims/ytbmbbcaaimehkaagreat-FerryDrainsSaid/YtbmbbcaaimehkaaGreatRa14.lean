/- Drains Part 14 of the proof. -/
import Derived.Test.YtbmbbcaaimehkaaGreatRa13
set_option linter.all false
set_option maxHeartbeats 2000000
section
namespace Go.Proofs.YtbmbbcaaimehkaaGreat
open Go.Lf
theorem Zcd {u:Zb} (s:Wt u) {m p:Nat} (hm:m < u.entries.length) (m':Nat):ZE (WK u m p) m'=if m'=m then(ZE u m).filter (fun y=>!Jq p y) else ZE u m':=
 JV (by rw [s.hd];exact hm)
theorem ZrB {u:Zb} (s:Wt u) {m p:Nat} (hp:p < u.ZA.length) (p':Nat):XV (WK u m p) p'=if p'=p then XV u p ++ ((ZE u m).filter (Jq p)).map (fun y=>y.msg) else XV u p':=
 JV (by rw [s.bx];exact hp)
structure ZN8 (w:Zb) (x:Zc) (k:Nat):Prop where
 hl:∀ m,m < w.entries.length ->(ZE (Yd w x k).1 m).length <=900
 bx:∀ p,p < w.ZA.length ->(XV (Yd w x k).1 p).length <=900 * (k + 1)
 ev:(Yd w x k).2.length <=901 * k
theorem ZCY {w:Zb} (s:Wt w) (sm:Wi 900 w) {x:Zc} {m:Nat} (v:MvL w x m):∀ k,k <=x.places.length ->ZN8 w x k:=by
 intro k;have hin:=Xr w x x.places.length
 induction k with
 | zero=>
   intro _;refine⟨fun m' hm'=>?_,fun p hp=>?_,Nat.zero_le _⟩
   ·have:ZE (Yd w x 0).1 m'=ZE w m':=by unfold ZE;rw [show(Yd w x 0).1=Y4 w x x.places.length from rfl,hin.2.2.1]
    rw [this];exact Nat.le_of_lt (Zid s sm hm')
   ·have:XV (Yd w x 0).1 p=XV w p:=by unfold XV;rw [show(Yd w x 0).1=Y4 w x x.places.length from rfl,hin.2.1]
    rw [this];have:=ZmT s sm hp;omega
 | succ k ih=>
   intro hk;have b:=ih (by omega);have hs:=UQ s v k;have hi:=Uu w x k;have hM:(Yd w x k).1.entries.length=w.entries.length:=by rw [hi.2.2.2.1,hin.2.2.2.2.2]
   have hp:= (v.JN (i:=k) (by omega)).2;have hm:x.ZO.toNat < (Yd w x k).1.entries.length:=by rw [hM,v.ZO,Int.toNat_natCast];exact v.hm
   have hp':JN x k < (Yd w x k).1.ZA.length:=by rw [hi.1];exact hp
   have hl0:=b.hl x.ZO.toNat (by rw [← hM];exact hm);refine⟨fun m' hm'=>?_,fun p hp1=>?_,?_⟩
   ·show(ZE (WK (Yd w x k).1 x.ZO.toNat (JN x k)) m').length <=900;rw [Zcd hs hm];by_cases e:m'=x.ZO.toNat
    ·rw [if_pos e];exact Nat.le_trans (List.length_filter_le _ _) hl0
    ·rw [if_neg e];exact b.hl m' hm'
   ·show(XV (WK (Yd w x k).1 x.ZO.toNat (JN x k)) p).length <=900 * (k + 1 + 1);rw [ZrB hs hp'];by_cases e:p=JN x k
    ·rw [if_pos e,List.length_append,List.length_map];have h1:=b.bx (JN x k) hp;have h2:=List.length_filter_le (Jq (JN x k)) (ZE (Yd w x k).1 x.ZO.toNat);omega
    ·rw [if_neg e];have:=b.bx p hp1;omega
   ·show((Yd w x k).2 ++ Zic (Yd w x k).1 x.ZO.toNat (JN x k)).length <=901 * (k + 1);have h1:=b.ev;have h2:=List.length_filter_le (Jq (JN x k)) (ZE (Yd w x k).1 x.ZO.toNat);rw [List.length_append];unfold Zic;rw [List.length_cons,List.length_map];omega
theorem ZuD {F:Nat} (hF:1000 <=F) {w:Zb} (s:Wt w) {x:Zc} {m:Nat} (v:MvL w x m) {r:Option Yn} {l:List Zc} {ev:List Zi}
 (hr:loop F (Zfs F x) (0,w.ZA,w.boxes,(Y4 w x x.places.length).entries,w.held,l,w.said,ev)=r):loop F (ZiG F ⟨w,ev⟩ x l) (0,w.entries)=r:=by
 have h8:=v.few;refine Ya (fun k=>((k:Int),(Y4 w x k).entries)) rfl (n:=x.places.length) (by omega) (fun k hk next=>?_) (fun next=>?_)
 ·obtain⟨e,hp⟩:=v.JN hk;have hs:=ZaB s v k;have hi:=Xr w x k;have hm:m < (Y4 w x k).entries.length:=by rw [hi.2.2.2.2.2];exact v.hm
  unfold ZiG;dsimp only;rw [ZF hk,Cq1,Yy 0 hk];simp only [Bq0];rw [v.ZO,hs.row hm];simp only [Bq0];rw [Yy 0 (by rw [v.len];exact hk)];simp only [Bq0];rw [e,hs.ent hm (by rw [hi.1];exact hp)];simp only [Bq0];rw [Yo (by omega)]
  have:Y4 w x (k + 1)=setW (Y4 w x k) m (JN x k) ⟨true,(m:Int),x.ZU.getD k 0⟩:=by
   show setW (Y4 w x k) x.ZO.toNat (JN x k) ⟨true,x.ZO,x.ZU.getD k 0⟩=_;rw [v.ZO,Int.toNat_natCast]
  rw [this];rfl
 ·unfold ZiG;dsimp only;rw [ZN,Cq0];exact hr
theorem Zqo {F:Nat} (hF:1000 <=F) {w:Zb} (s:Wt w) (sm:Wi 900 w) {x:Zc} {m:Nat} (v:MvL w x m) {ev:List Zi} (he:ev.length <=600000):
 loop F (Zfs F x) (0,w.ZA,w.boxes,(Y4 w x x.places.length).entries,w.held,w.wire,w.said,ev)=some ⟨(Zae w x).1,ev ++ (Zae w x).2⟩:=by
 have h8:=v.few;have h0:=Xr w x x.places.length;refine Ya (fun k=>((k:Int),(Yd w x k).1.ZA,(Yd w x k).1.boxes,(Yd w x k).1.entries,(Yd w x k).1.held,(Yd w x k).1.wire,(Yd w x k).1.said,ev ++ (Yd w x k).2)) ?_ (n:=x.places.length) (by omega) (fun k hk next=>?_) (fun next=>?_)
 ·show((0:Int),(Y4 w x x.places.length).ZA,(Y4 w x x.places.length).boxes,_,(Y4 w x x.places.length).held,(Y4 w x x.places.length).wire,(Y4 w x x.places.length).said,ev ++ [])=_;rw [h0.1,h0.2.1,h0.2.2.1,h0.2.2.2.1,h0.2.2.2.2.1,List.append_nil];rfl
 ·obtain⟨e,hp⟩:=v.JN hk;have hs:=UQ s v k;have hi:=Uu w x k;have b:=ZCY s sm v k (by omega);have hM:(Yd w x k).1.entries.length=w.entries.length:=by rw [hi.2.2.2.1,h0.2.2.2.2.2]
  have hm:m < (Yd w x k).1.entries.length:=by rw [hM];exact v.hm
  have hb:=b.bx _ hp;have hl:=b.hl m v.hm;have hev:=b.ev;unfold Zfs;dsimp only;rw [ZF hk,Cq1,Yy 0 hk];simp only [Bq0];rw [app1 (by rw [List.length_append];omega) (by omega)];simp only [Bq0];rw [v.ZO,Zat hs hm];simp only [Bq0];rw [e,Zxp hF hs hm (by rw [hi.1];exact hp) hl (by omega) v.ZO (by rw [List.length_append,List.length_append,List.length_singleton];omega),Yo (by omega)]
  have:Yd w x (k + 1)= (WK (Yd w x k).1 m (JN x k),(Yd w x k).2 ++ Zic (Yd w x k).1 m (JN x k)):=by
   show(WK (Yd w x k).1 x.ZO.toNat (JN x k),(Yd w x k).2 ++ Zic (Yd w x k).1 x.ZO.toNat (JN x k))=_;rw [v.ZO,Int.toNat_natCast]
  rw [this];unfold Zic;simp only [List.append_assoc,List.singleton_append]
 ·unfold Zfs;dsimp only;rw [ZN,Cq0];rfl
theorem ZBs {F:Nat} (hF:1000 <=F) {u:Zb} (s:Wt u) {m p:Nat} (hm:m < u.entries.length) (hp:p < u.ZA.length) (hh:(E u m p).here=true) (hl:(ZE u m).length <=900) (hb:(XV u p).length <=100000) {x:Zc} (hx:x.ZO= (m:Int)) {ev:List Zi} (he:ev.length <=100000) (i:Int)
 (next:(List Zi)×Int×(List (List Int))×(List (List Zh)) ->Option (Zb×(List Zi))):
 loop F (ZiJ x u.entries i u.held next (p:Int) (ZE u m)) (ev,[],0,u.boxes)=
  next (ev ++ ((ZE u m).filter (Jq p)).map (ZqW m),Y6 (i + 1),(WK u m p).boxes,(WK u m p).held):=by
 have hbl:p < u.boxes.length:=by rw [s.bx];exact hp
 have hhl:m < u.held.length:=by rw [s.hd];exact hm
 refine Ya (fun j=>(ev ++ (((ZE u m).take j).filter (Jq p)).map (ZqW m),((ZE u m).take j).filter (fun y=>!Jq p y),(j:Int),YA u.boxes (p:Int) (XV u p ++ (((ZE u m).take j).filter (Jq p)).map (fun y=>y.msg)))) ?_ (n:= (ZE u m).length) (by omega) (fun j hj nx=>?_) (fun nx=>?_)
 ·simp only [List.take_zero,List.filter_nil,List.map_nil,List.append_nil];unfold XV;rw [Zkt [] hbl];rfl
 ·have l1:=UZ (Jq p) (ZE u m) j;have l2:=UZ (fun y=>!Jq p y) (ZE u m) j;unfold ZiJ Zmf ZiH;dsimp only;rw [ZF hj,Cq1,YD hj];simp only [Bq0];rw [K6 hj,K6 hj,Yo (by omega)];by_cases h:(ZE u m)[j].place= (p:Int)
  ·have e:Jq p (ZE u m)[j]=true:=beq_iff_eq.2 h;rw [e,if_pos rfl,Ye,decide_eq_true h,Cq1,hx,s.row hm];simp only [Bq0];rw [h,s.ent hm hp];simp only [Bq0];rw [hh,Cq1,Kg hbl];simp only [Bq0];rw [app1 (by rw [List.length_append,List.length_map];omega) (by omega)];simp only [Bq0];rw [app1 (by rw [List.length_append,List.length_map];omega) (by omega)];simp only [Bq0,Bool.not_true,Bool.false_eq_true,if_false,List.append_nil];rw [Ze5,List.map_append,List.map_append,List.append_assoc,List.append_assoc];unfold ZqW;simp only [List.map_cons,List.map_nil,h]
  ·have e:Jq p (ZE u m)[j]=false:=beq_eq_false_iff_ne.2 h;rw [e,Ye,decide_eq_false h,Cq0,app1 (by omega) (by omega)];simp only [Bq0,Bool.not_false,if_true,Bool.false_eq_true,if_false,List.append_nil]
 ·unfold ZiJ;dsimp only;rw [ZN,Cq0,List.take_of_length_le (Nat.le_refl _),hx,Zat s hm]
  rfl
theorem ZNk {F:Nat} (hF:1000 <=F) {w:Zb} (s:Wt w) {x:Zc} {m:Nat} (v:MvL w x m) {r:Option (Zb×List Zi)} {l:List Zc} {w0:Zb} (hb:w0.boxes=w.boxes) (hd:w0.held=w.held)
 (hr:loop F (Zfu F w0 x l (Y4 w x x.places.length).entries) ([],0,w.boxes,w.held)=r):loop F (ZiK F w0 x l) (0,w.entries)=r:=by
 have h8:=v.few;refine Ya (fun k=>((k:Int),(Y4 w x k).entries)) rfl (n:=x.places.length) (by omega) (fun k hk next=>?_) (fun next=>?_)
 ·obtain⟨e,hp⟩:=v.JN hk;have hs:=ZaB s v k;have hi:=Xr w x k;have hm:m < (Y4 w x k).entries.length:=by rw [hi.2.2.2.2.2];exact v.hm
  unfold ZiK;dsimp only;rw [ZF hk,Cq1,Yy 0 hk];simp only [Bq0];rw [v.ZO,hs.row hm];simp only [Bq0];rw [Yy 0 (by rw [v.len];exact hk)];simp only [Bq0];rw [e,hs.ent hm (by rw [hi.1];exact hp)];simp only [Bq0];rw [Yo (by omega)]
  have:Y4 w x (k + 1)=setW (Y4 w x k) m (JN x k) ⟨true,(m:Int),x.ZU.getD k 0⟩:=by
   show setW (Y4 w x k) x.ZO.toNat (JN x k) ⟨true,x.ZO,x.ZU.getD k 0⟩=_;rw [v.ZO,Int.toNat_natCast]
  rw [this];rfl
 ·unfold ZiK;dsimp only;rw [ZN,Cq0,hb,hd];exact hr
theorem ZSq {u w:Zb} (h:u.entries=w.entries) (m p:Nat):E u m p=E w m p:=by unfold E row;rw [h]
theorem Zt2 {F:Nat} (hF:1000 <=F) {w w0:Zb} (s:Wt w) (sm:Wi 900 w) {x:Zc} {m:Nat} (v:MvL w x m) (hi0:w0.ZA=w.ZA) (hs0:w0.said=w.said):
 loop F (Zfu F w0 x w.wire (Y4 w x x.places.length).entries) ([],0,w.boxes,w.held)=some ((Zae w x).1,(Zae w x).2):=by
 have h8:=v.few;have h0:=Xr w x x.places.length;refine Ya (fun k=>((Yd w x k).2,(k:Int),(Yd w x k).1.boxes,(Yd w x k).1.held)) ?_ (n:=x.places.length) (by omega) (fun k hk next=>?_) (fun next=>?_)
 ·show([],(0:Int),(Y4 w x x.places.length).boxes,(Y4 w x x.places.length).held)=_;rw [h0.2.1,h0.2.2.1]
 ·obtain⟨e,hp⟩:=v.JN hk;have hs:=UQ s v k;have hi:=Uu w x k;have b:=ZCY s sm v k (by omega);have hM:(Yd w x k).1.entries.length=w.entries.length:=by rw [hi.2.2.2.1,h0.2.2.2.2.2]
  have hm:m < (Yd w x k).1.entries.length:=by rw [hM];exact v.hm
  have hb:=b.bx _ hp;have hl:=b.hl m v.hm;have hev:=b.ev
  have hh:(E (Yd w x k).1 m (JN x k)).here=true:=by
   rw [ZSq (w:=Y4 w x x.places.length) hi.2.2.2.1];exact Zrx s v _ (Nat.le_refl _) k hk
  unfold Zfu;dsimp only;rw [ZF hk,Cq1,Yy 0 hk];simp only [Bq0];rw [app1 (by omega) (by omega)];simp only [Bq0];rw [v.ZO,Zat hs hm];simp only [Bq0];rw [e,← hi.2.2.2.1,ZBs hF hs hm (by rw [hi.1];exact hp) hh hl (by omega) v.ZO (by rw [List.length_append,List.length_singleton];omega),Yo (by omega)]
  have:Yd w x (k + 1)= (WK (Yd w x k).1 m (JN x k),(Yd w x k).2 ++ Zic (Yd w x k).1 m (JN x k)):=by
   show(WK (Yd w x k).1 x.ZO.toNat (JN x k),(Yd w x k).2 ++ Zic (Yd w x k).1 x.ZO.toNat (JN x k))=_;rw [v.ZO,Int.toNat_natCast]
  rw [this];unfold Zic;simp only [List.append_assoc,List.singleton_append]
 ·have hi:=Uu w x x.places.length;unfold Zfu Zcl;dsimp only;rw [ZN,Cq0,hi0,hs0];unfold Zae;congr 1;rw [← hi.1,← hi.2.1,← hi.2.2.1,← hi.2.2.2.1]
theorem Zdt (x:Zc) (p:Nat):∀ k,k <=x.places.length ->(U3 x p k).length= (x.places.take k).count (p:Int):=by
 intro k
 induction k with
 | zero=>intro _;simp [U3]
 | succ k ih=>
   intro hk;have hk':k < x.places.length:=by omega
   rw [ZeY,List.length_append,ih (by omega),List.take_add_one,List.getElem?_eq_getElem hk',List.count_append,List.getD_eq_getElem?_getD,List.getElem?_eq_getElem hk'];congr 1;show _=List.count (p:Int) [x.places[k]];rw [List.count_singleton];by_cases e:x.places[k]= (p:Int)
   ·simp [e]
   ·simp [e]
theorem Zr6 {l:List Zc} {x:Zc} (hx:x ∈ l) (p:Nat):(WB x p).length <= (X6 l p).length:=by
 unfold X6
 induction l with
 | nil=>cases hx
 | cons y l ih=>
   rw [List.flatMap_cons,List.length_append];rcases List.mem_cons.1 hx with q | q
   ·rw [q];omega
   ·have:=ih q;omega
theorem Wd.nodup {w:Zb} (h:Wd w) {x:Zc} (hx:x ∈ w.wire) (hk:x.kind=2):x.places.Nodup:=by
 rw [List.nodup_iff_count];intro a;by_cases ha:a ∈ x.places
 ·obtain⟨i,hi,rfl⟩:=List.getElem_of_mem ha;have e0:x.places.getD i 0=x.places[i]:=by rw [List.getD_eq_getElem?_getD,List.getElem?_eq_getElem hi];rfl
  have hp:= (h.shr.Xq x hx).JN i hi
  have hr:0 <=x.places[i]∧x.places[i] < (w.ZA.length:Int):=by
   rw [← e0]
   first
    | exact⟨hp.1,hp.2.1⟩
    | exact⟨hp.2.1,hp.2.2.1⟩
  obtain⟨p,e⟩:∃ p:Nat,x.places[i]= (p:Int):= ⟨x.places[i].toNat,by omega⟩
  have hl:=h.loc p (by omega);unfold YN at hl;rw [List.length_append] at hl;have h1:=Zr6 hx p;have h2:WB x p=U3 x p x.places.length:=by unfold WB;rw [if_pos hk]
  rw [h2,Zdt x p _ (Nat.le_refl _),List.take_of_length_le (Nat.le_refl _)] at h1;rw [e];omega
 ·rw [List.count_eq_zero_of_not_mem ha];omega
theorem Wd.mvl {w:Zb} (h:Wd w) {x:Zc} (hx:x ∈ w.wire) (hk:x.kind=2):MvL w x x.ZO.toNat:=by
 have hl:=h.shr.Xq x hx;have h8:=h.shr.shp.p2
 have Zw4:∀ i,i < x.places.length ->InR (x.places.getD i 0) w.ZA.length:=fun i hi=>by
  have hp:=hl.JN i hi
  first
   | exact⟨hp.1,hp.2.1⟩
   | exact⟨hp.2.1,hp.2.2.1⟩
 have hsub:x.places ⊆ XJ w.ZA.length:=fun a ha=>by
  have:= (KC (d:= (0:Int)) (P:=fun a=>InR a w.ZA.length)).1 Zw4 a ha;unfold InR at this;unfold XJ;exact List.mem_map.2 ⟨a.toNat,List.mem_range.2 (by omega),by show((a.toNat:Nat):Int)=a;omega⟩
 have hlen:= (h.nodup hx hk).length_le_of_subset hsub;rw [Qm] at hlen;exact⟨by have:=hl.to1;omega,by have:=hl.to1;have:=hl.to2;omega,hl.YZ.len,by omega,Zw4⟩
def Z5 (w:Zb) (k:Nat):Zb:= {w with wire:=w.wire.take k ++ w.wire.drop (k + 1)}
def JC (w:Zb) (x:Zc):Zb:=if(E w x.ZO.toNat x.place.toNat).here=false∧(E w x.ZO.toNat x.place.toNat).age < x.age then setW w x.ZO.toNat x.place.toNat ⟨false,x.at_,x.age⟩ else w
def Qs (w:Zb) (k:Nat):Zb×List Zi:=
 if(Zz w k).kind=1 then Ql (Z5 w k) (Zz w k).ZO.toNat (Zz w k).Zl false
 else if(Zz w k).kind=2 then Zae (Z5 w k) (Zz w k) else(JC (Z5 w k) (Zz w k),[])
theorem Wt.Z5 {w:Zb} (s:Wt w) (k:Nat):Wt (Z5 w k):= ⟨s.m1,s.m2,s.p1,s.p2,s.bx,s.hd,s.rw_⟩
theorem Zc5 (w:Zb) {k:Nat} (hk:k < w.wire.length):(Z5 w k).wire.length + 1=w.wire.length:=by
 show(w.wire.take k ++ w.wire.drop (k + 1)).length + 1=_;rw [List.length_append,List.length_take,List.length_drop];omega
theorem Zc4 {w:Zb} {k:Nat} {x:Zc} (h:x ∈ (Z5 w k).wire):x ∈ w.wire:=by
 rcases List.mem_append.1 h with q | q
 ·exact List.mem_of_mem_take q
 ·exact List.mem_of_mem_drop q
theorem Wi.Z5 {n:Nat} {w:Zb} (sm:Wi n w) {k:Nat} (hk:k < w.wire.length):Wi n (Z5 w k):=
 ⟨sm.ZA,sm.boxes,sm.entries,sm.held,by have:=Zc5 w hk;have:=sm.wire;omega,sm.box,sm.row,sm.hel,fun x hx=>sm.Xq x (Zc4 hx)⟩
theorem Zhs {α:Type} {l:List α} {a b:Nat} (h1:a <=b) (h2:b <=l.length):slL l (a:Int) (b:Int)=some ((l.take b).drop a):=by
 unfold slL;rw [decide_eq_true (show(0:Int) <= (a:Int) by omega),decide_eq_true (show(a:Int) <= (b:Int) by omega),decide_eq_true (show(b:Int) <= (l.length:Int) by omega)];rfl
section
variable {F:Nat} {w:Zb}
theorem Zzl (hF:1000 <=F) (sm:Wi 900 w) {k:Nat} (hk:k < w.wire.length):ZyV w.wire (k:Int) (Y6 ((k:Int) + 1))=some (Z5 w k).wire:=by
 have hw:=sm.wire;unfold ZyV;rw [Yo (by omega),Zhs (by omega) (by omega)];simp only [Bq0];rw [Ye,decide_eq_false (by omega),Cq0,show slL w.wire 0 (k:Int)=some (w.wire.take k) from Zhs (a:=0) (by omega) (by omega)];simp only [Bq0];rw [Zhs (by omega) (by omega)];simp only [Bq0];rw [List.take_of_length_le (Nat.le_refl w.wire.length),ZfZ (by rw [List.length_take,List.length_drop];omega) (by omega)];rfl
theorem ZcU {k:Nat} (hk:k < w.wire.length):ZM w.wire (k:Int)=some (Zz w k):=Yy default hk
theorem ZsG (h:Wd w) {x:Zc} (hx:x ∈ w.wire):x.kind=1∨x.kind=2∨x.kind=3:=by
 rcases(h.shr.Xq x hx).YZ with⟨q,_⟩ | ⟨q,_⟩ | ⟨q,_⟩
 ·exact .inl q
 ·exact .inr (.inl q)
 ·exact .inr (.inr q)
theorem Zgi (h:Wd w) {m:Int} {y:Zh} (hy:QY w m y):y.place.toNat < w.ZA.length∧0 <=y.place∧0 <=y.age∧y.age <=30∧1 <=y.hops∧y.hops <=y.age + 1:=by
 obtain⟨a1,a2,a3,a4,a5,a6,a7⟩:=hy;have hp:y.place.toNat < w.ZA.length:=by omega
 have h1:=a5.1;have h2:=a5.2.1;have h3:=ZbD h.shr hp (h.loc _ hp);rw [Int.add_comm,ZaM (by omega) (by omega)] at a7;exact⟨hp,a1,by omega,by omega,a6,a7⟩
theorem Zt0 (hF:1000 <=F) (h:Wd w) (sm:Wi 900 w) {k:Nat} (hk:k < w.wire.length) {ev:List Zi} (he:ev.length <=600000):Zur F ⟨w,ev⟩ (k:Int)=some ⟨(Qs w k).1,ev ++ (Qs w k).2⟩:=by
 have hx:Zz w k ∈ w.wire:=Yl hk;have hl:=h.shr.Xq _ hx;have hto:(Zz w k).ZO= ((Zz w k).ZO.toNat:Int):=by have:=hl.to1;omega
 have htl:(Zz w k).ZO.toNat < w.entries.length:=by have:=hl.to1;have:=hl.to2;omega
 have su:=h.shr.shp.Z5 k;have smu:=sm.Z5 hk;unfold Zur Qs;dsimp only;rw [ZcU hk];simp only [Bq0];rw [Zzl hF sm hk];simp only [Bq0];rcases ZsG h hx with q | q | q
 ·have hb:=Zgi h (h.mai _ hx q);rw [if_pos q,Ye,decide_eq_true q,Cq1];have e:=Zqa su smu (m:= (Zz w k).ZO.toNat) htl (x:= (Zz w k).Zl) hb.1 hb.2.1 (by omega) (by omega) false (ev:=ev) (by omega);rw [← hto] at e
  change ((Zum ⟨Z5 w k,ev⟩ (Zz w k).ZO (Zz w k).Zl false).bind fun KX=>some KX)=_
  rw [e];rfl
 ·have v:MvL (Z5 w k) (Zz w k) (Zz w k).ZO.toNat:=by
   have:=h.mvl hx q;exact⟨this.ZO,this.hm,this.len,this.few,this.rng⟩
  rw [if_neg (by omega),if_pos q,Ye,decide_eq_false (by omega),Cq0,Ye,decide_eq_true q,Cq1];have e:=ZuD hF (w:=Z5 w k) su v (l:= (Z5 w k).wire) (ev:=ev) (Zqo hF su smu v he);exact e
 ·have hn:=hl.ntd q;obtain⟨p,hp⟩:∃ p:Nat,(Zz w k).place= (p:Int):= ⟨(Zz w k).place.toNat,by omega⟩
  have hpl:p < w.ZA.length:=by omega
  rw [if_neg (by omega),if_neg (by omega),Ye,decide_eq_false (by omega),Cq0,Ye,decide_eq_false (by omega),Cq0,Ye,decide_eq_true q,Cq1];unfold JC ZiD;rw [hto,Int.toNat_natCast,h.shr.shp.row htl];simp only [Bq0];rw [hp,Int.toNat_natCast,h.shr.shp.ent htl hpl];simp only [Bq0];have eE:E (Z5 w k) (Zz w k).ZO.toNat p=E w (Zz w k).ZO.toNat p:=rfl;rw [eE,List.append_nil];by_cases c:(E w (Zz w k).ZO.toNat p).here=false∧(E w (Zz w k).ZO.toNat p).age < (Zz w k).age
  ·rw [if_pos c,c.1,decide_eq_true c.2];rfl
  ·rw [if_neg c]
   have:((!(E w (Zz w k).ZO.toNat p).here) && decide ((E w (Zz w k).ZO.toNat p).age < (Zz w k).age))=false:=by
    rw [← Bool.not_eq_true];intro z;simp only [Bool.and_eq_true,Bool.not_eq_true',decide_eq_true_eq] at z;exact c z
   rw [this];rfl
end
end Go.Proofs.YtbmbbcaaimehkaaGreat
end
section
namespace Go.Proofs.YtbmbbcaaimehkaaGreat
open Go.Lf
theorem ZwH {F:Nat} {w:Zb} (hF:1000 <=F) (h:Wd w) (sm:Wi 900 w) {k:Nat} (hk:k < w.wire.length):Zus F w (k:Int)=some (Qs w k):=by
 have hw:=sm.wire;have hx:Zz w k ∈ w.wire:=Yl hk;have hl:=h.shr.Xq _ hx;have hto:(Zz w k).ZO= ((Zz w k).ZO.toNat:Int):=by have:=hl.to1;omega
 have htl:(Zz w k).ZO.toNat < w.entries.length:=by have:=hl.to1;have:=hl.to2;omega
 have s:=h.shr.shp;have su:=s.Z5 k;have smu:=sm.Z5 hk;have hdl:=Zc5 w hk;unfold Zus Qs;rw [ZcU hk];simp only [Bq0];rw [show slL w.wire 0 (k:Int)=some (w.wire.take k) from Zhs (a:=0) (by omega) (by omega)];simp only [Bq0];rw [app0 (by rw [List.length_take];omega) (by omega)];simp only [Bq0];rw [Yo (by omega),Zhs (by omega) (by omega)];simp only [Bq0];rw [List.take_of_length_le (Nat.le_refl w.wire.length),ZfZ (by rw [List.length_take,List.length_drop];omega) (by omega)];simp only [Bq0];rw [show w.wire.take k ++ w.wire.drop (k + 1)= (Z5 w k).wire from rfl];rcases ZsG h hx with q | q | q
 ·have hb:=Zgi h (h.mai _ hx q);obtain⟨p,hp⟩:∃ p:Nat,(Zz w k).Zl.place= (p:Int):= ⟨(Zz w k).Zl.place.toNat,by omega⟩
  have hpl:p < w.ZA.length:=by omega
  rw [if_pos q,Ye,decide_eq_true q,Cq1,hto,s.row htl,Int.toNat_natCast];simp only [Bq0];unfold Ql;rw [hp,Int.toNat_natCast,s.ent htl hpl];simp only [Bq0];have eE:E (Z5 w k) (Zz w k).ZO.toNat p=E w (Zz w k).ZO.toNat p:=rfl;rw [eE];generalize E w (Zz w k).ZO.toNat p=e;have b1:=ZmT s sm hpl;have b2:=Zid s sm htl;cases hh:e.here with
  | true=>
    rw [Cq1,if_pos rfl,Zpc s hpl];simp only [Bq0];rw [app1 (by omega) (by omega)]
    rfl
  | false=>
    rw [Cq0,if_neg (by simp)];unfold ZiI Zft;by_cases hc:e.age <= (Zz w k).Zl.age
    ·rw [if_pos (show True∧e.age <= (Zz w k).Zl.age from⟨trivial,hc⟩),decide_eq_true hc,Zat s htl];simp only [Bool.not_false,Bool.and_self,Cq1,Bq0];rw [app1 (by omega) (by omega)]
     rfl
    ·rw [if_neg (fun z=>hc z.2),decide_eq_false hc];simp only [Bool.not_false,Bool.and_false,Cq0];rw [app1 (by omega) (by omega)];simp only [Bq0];rw [Zab (by omega) (by omega)];unfold told Zap Wo Zso;by_cases ht:(Zz w k).Zl.from_ ≠ ((Zz w k).ZO.toNat:Int)∧(Zz w k).Zl.from_ ≠ e.ZO
     ·rw [if_pos (show false=false∧(Zz w k).Zl.from_ ≠ ((Zz w k).ZO.toNat:Int)∧(Zz w k).Zl.from_ ≠ e.ZO from⟨rfl,ht⟩),Q8,Q8,decide_eq_true ht.1,decide_eq_true ht.2];simp only [Bool.not_false,Bool.and_self,Cq1];rw [app1 (by rw [List.length_append,List.length_singleton];omega) (by omega)];simp only [Bq0,List.append_assoc,hp]
      rfl
     ·have e2:((true && ((Zz w k).Zl.from_ != ((Zz w k).ZO.toNat:Int))) && ((Zz w k).Zl.from_ !=e.ZO))=false:=by
       rw [← Bool.not_eq_true];intro z;simp only [Bool.and_eq_true,bne_iff_ne] at z;exact ht ⟨z.1.2,z.2⟩
      rw [e2,Cq0,if_neg (fun z=>ht z.2),hp]
      rfl
 ·have v:MvL (Z5 w k) (Zz w k) (Zz w k).ZO.toNat:=by
   have:=h.mvl hx q;exact⟨this.ZO,this.hm,this.len,this.few,this.rng⟩
  rw [if_neg (by omega),if_pos q,Ye,decide_eq_false (by omega),Cq0,Ye,decide_eq_true q,Cq1];exact ZNk hF su v rfl rfl (Zt2 hF su smu v (w0:=w) rfl rfl)
 ·have hn:=hl.ntd q;obtain⟨p,hp⟩:∃ p:Nat,(Zz w k).place= (p:Int):= ⟨(Zz w k).place.toNat,by omega⟩
  have hpl:p < w.ZA.length:=by omega
  rw [if_neg (by omega),if_neg (by omega),Ye,decide_eq_false (by omega),Cq0,Ye,decide_eq_false (by omega),Cq0,Ye,decide_eq_true q,Cq1];unfold JC Zcl;rw [hto,Int.toNat_natCast,s.row htl];simp only [Bq0];rw [hp,Int.toNat_natCast,s.ent htl hpl];simp only [Bq0];have eE:E (Z5 w k) (Zz w k).ZO.toNat p=E w (Zz w k).ZO.toNat p:=rfl;rw [eE];by_cases c:(E w (Zz w k).ZO.toNat p).here=false∧(E w (Zz w k).ZO.toNat p).age < (Zz w k).age
  ·rw [if_pos c,c.1,decide_eq_true c.2];rfl
  ·rw [if_neg c]
   have:((!(E w (Zz w k).ZO.toNat p).here) && decide ((E w (Zz w k).ZO.toNat p).age < (Zz w k).age))=false:=by
    rw [← Bool.not_eq_true];intro z;simp only [Bool.and_eq_true,Bool.not_eq_true',decide_eq_true_eq] at z;exact c z
   rw [this];rfl
end Go.Proofs.YtbmbbcaaimehkaaGreat
end
section
namespace Go.Proofs.YtbmbbcaaimehkaaGreat
open Go.Lf
section
variable {w:Zb} {m:Nat} {L:List Int} {to:Int}
theorem UY {α:Type} {l:List α} {k:Nat} (h:k < l.length) {x:α}:x ∈ l.take (k + 1)↔x ∈ l.take k∨x=l[k]:=by
 rw [List.take_succ_eq_append_getElem h,List.mem_append,List.mem_singleton]
theorem JD {α:Type} {l:List α} {k:Nat} {d:α} (h:k < l.length):l.getD k d=l[k]:=by
 rw [List.getD_eq_getElem?_getD,List.getElem?_eq_getElem h];rfl
end
end Go.Proofs.YtbmbbcaaimehkaaGreat
end
section
namespace Go.Proofs.YtbmbbcaaimehkaaGreat
open Go.Lf
section
variable {F:Nat} {w:Zb}
end
end Go.Proofs.YtbmbbcaaimehkaaGreat
end
section
namespace Go.Proofs.YtbmbbcaaimehkaaGreat
open Go.Lf
theorem Zcc {w w':Zb} {p:Nat}:∀ {k:Nat},(∀ m,m < k ->E w' m p=E w m p) ->Xu w' p k=Xu w p k:=by
 intro k
 induction k with
 | zero=>intro _;rfl
 | succ k ih=>intro h;rw [Jj,Jj,ih fun m hm=>h m (by omega),h k (by omega)]
theorem Zt8 {w:Zb} {p:Nat}:∀ {k:Nat},(∀ m,m < k ->(E w m p).here=false) ->Xu w p k= []:=by
 intro k
 induction k with
 | zero=>intro _;rfl
 | succ k ih=>intro h;rw [Jj,ih fun m hm=>h m (by omega),h k (by omega)];simp
theorem Zt7 {w:Zb} {p m:Nat} (hh:(E w m p).here=true):∀ {k:Nat},m < k ->(∀ m',m' < k ->m' ≠ m ->(E w m' p).here=false) ->Xu w p k= [⟨(m:Int),true,(E w m p).age⟩]:=by
 intro k
 induction k with
 | zero=>intro h;omega
 | succ k ih=>
   intro hm ho;rw [Jj];by_cases e:m=k
   ·subst e;rw [Zt8 fun m' hm'=>ho m' (by omega) (by omega),if_pos hh];rfl
   ·rw [ih (by omega) fun m' hm'=>ho m' (by omega),ho k (by omega) (fun z=>e z.symm)];simp
theorem Zoq {w:Zb} {p k:Nat} (h:Xu w p k= []):∀ m,m < k ->(E w m p).here=false:=by
 intro m hm;cases e:(E w m p).here with
 | false=>rfl
 | true=>
   have:Yq.mk (m:Int) true (E w m p).age ∈ Xu w p k:=ZkL.2 ⟨m,hm,e,rfl⟩;rw [h] at this;cases this
theorem Zbx (a b:List Zc) (p:Nat):X6 (a ++ b) p=X6 a p ++ X6 b p:=by unfold X6;exact List.flatMap_append
theorem Zvi (x:Zc) (p:Nat):X6 [x] p=WB x p:=by unfold X6;simp
theorem Zlc {x:Zc} (h:x.kind ≠ 2) (p:Nat):WB x p= []:=by unfold WB;rw [if_neg h]
theorem Zr5 {l:List Zc} (h:∀ x ∈ l,x.kind ≠ 2) (p:Nat):X6 l p= []:=by
 unfold X6;exact List.flatMap_eq_nil_iff.2 fun x hx=>Zlc (h x hx) p
theorem WY {w:Zb} {k:Nat} (hk:k < w.wire.length):w.wire=w.wire.take k ++ Zz w k::w.wire.drop (k + 1):=by
 have e:Zz w k=w.wire[k]:=JD hk;rw [e,List.getElem_cons_drop,List.take_append_drop]
theorem Ka {w:Zb} {k:Nat} (hk:k < w.wire.length) (p:Nat):X6 w.wire p=X6 (w.wire.take k) p ++ WB (Zz w k) p ++ X6 (w.wire.drop (k + 1)) p:=by
 have:=congrArg (fun l=>X6 l p) (WY hk);rw [this,Zbx,show Zz w k::w.wire.drop (k + 1)= [Zz w k] ++ w.wire.drop (k + 1) from rfl,Zbx,Zvi,List.append_assoc]
theorem ZeZ {w:Zb} {k:Nat} (p:Nat):X6 (Z5 w k).wire p=X6 (w.wire.take k) p ++ X6 (w.wire.drop (k + 1)) p:=Zbx _ _ _
theorem ZCO {w:Zb} {p:Nat} {s:Yq} (h:YN w p= [s]):sp w p=s:=by unfold sp Wy;rw [h];rfl
theorem Zb9 {w w':Zb} {p:Nat} (e1:Xu w' p w'.entries.length=Xu w p w.entries.length) (e2:X6 w'.wire p=X6 w.wire p):YN w' p=YN w p:=by unfold YN;rw [e1,e2]
theorem J7 {w w':Zb} {p:Nat} (h:YN w' p=YN w p):sp w' p=sp w p:=by unfold sp;rw [h]
structure Wm (w:Zb):Prop where
 shr:ShR w
 loc:∀ p,p < w.ZA.length ->(YN w p).length=1
 tog:∀ p,p < w.ZA.length ->0 <=inn w p ->(sp w (inn w p).toNat).machine= (sp w p).machine∧(sp w (inn w p).toNat).here= (sp w p).here∧((sp w p).here=false ->Zjw w p (inn w p))
 ent:∀ m,m < w.entries.length ->∀ p,p < w.ZA.length ->(E w m p).here=false ->RtX w p (E w m p).ZO (E w m p).age
 hel:∀ m,m < w.entries.length ->∀ x ∈ ZE w m,QY w m x∧sp w x.place.toNat= ⟨(m:Int),false,x.age⟩
 mai:∀ x ∈ w.wire,x.kind=1 ->QY w x.ZO x.Zl
 ntd:∀ x ∈ w.wire,x.kind=3 ->RtX w x.place.toNat x.at_ x.age
theorem Wd.wm {w:Zb} (h:Wd w):Wm w:= ⟨h.shr,h.loc,h.tog,h.ent,h.hel,h.mai,h.ntd⟩
theorem Wm.wd {w:Zb} (h:Wm w) (hm:(msgs w).Perm (XJ w.said.toNat)):Wd w:= ⟨h.shr,h.loc,h.tog,h.ent,h.hel,h.mai,h.ntd,hm⟩
structure Mv (w w':Zb):Prop where
 inl:w'.ZA.length=w.ZA.length
 enl:w'.entries.length=w.entries.length
 rt:∀ p,p < w.ZA.length ->∀ m a,RtX w p m a ->RtX w' p m a
theorem Mv.of {w w':Zb} (inl:w'.ZA.length=w.ZA.length) (enl:w'.entries.length=w.entries.length) (hE:∀ m p,p < w.ZA.length ->(E w m p).age <= (E w' m p).age)
 (hs:∀ p,p < w.ZA.length ->((sp w' p).machine= (sp w p).machine∧(sp w' p).age= (sp w p).age)∨∃ m:Nat,(sp w p).machine= (m:Int)∧(sp w p).age < (sp w' p).age∧(sp w p).age < (E w' m p).age):Mv w w':=by
 refine⟨inl,enl,fun p hp m a h=>?_⟩;obtain⟨h1,h2,h3,h4,h5,h6⟩:=h;have hE':=hE m.toNat p hp;rcases hs p hp with⟨e1,e2⟩ | ⟨k,e1,e2,e3⟩
 ·refine⟨h1,by omega,h3,by omega,fun q=>?_,fun q=>?_⟩
  ·rw [e1];exact h5 (by omega)
  ·have:=h6 (by omega);omega
 ·refine⟨h1,by omega,h3,by omega,fun q=>by omega,fun q=>?_⟩;by_cases c:a= (sp w p).age
  ·have:=h5 c;have:m.toNat=k:=by omega
   rw [this];omega
  ·have:=h6 c;omega
theorem Mv.Zl {w w':Zb} (v:Mv w w') {m:Int} {y:Zh} (h:QY w m y):QY w' m y:=by
 obtain⟨h1,h2,h3,h4,h5,h6⟩:=h;exact⟨h1,by rw [v.inl];exact h2,h3,by rw [v.enl];exact h4,v.rt _ (by omega) _ _ h5,h6⟩
theorem Mv.Xq {w w':Zb} (v:Mv w w') {x:Zc} (h:Zkl w x):Zkl w' x:=
 ⟨h.to1,by rw [v.enl];exact h.to2,h.YZ,fun i hi=>by have:=h.JN i hi;unfold Zaa at this ⊢;rw [v.inl];exact this,fun q=>by have:=h.ntd q;rw [v.inl];exact this⟩
theorem Mv.same {w w':Zb} (inl:w'.ZA.length=w.ZA.length) (enl:w'.entries=w.entries) (hs:∀ p,p < w.ZA.length ->YN w' p=YN w p):Mv w w':=
 Mv.of inl (by rw [enl]) (fun m p _=>by unfold E row;rw [enl];exact Int.le_refl _) fun p hp=>.inl (by rw [J7 (hs p hp)];exact⟨rfl,rfl⟩)
def owB (w:Zb):List (Int×Int):= (List.range w.boxes.length).flatMap fun p=>(XV w p).map fun n=>(n,(p:Int))
def owH (w:Zb):List (Int×Int):= (List.range w.held.length).flatMap fun m=>(ZE w m).map fun y=>(y.msg,y.place)
def owL (l:List Zc):List (Int×Int):= (l.filter fun x=>x.kind==1).map fun x=>(x.Zl.msg,x.Zl.place)
def owes (w:Zb):List (Int×Int):=owB w ++ owH w ++ owL w.wire
theorem ZhJ (w:Zb):(owes w).map Prod.fst=msgs w:=by
 unfold owes msgs;rw [List.map_append,List.map_append];congr 1
 ·congr 1
  ·unfold owB;rw [List.map_flatMap];have:=Zdz w.boxes [] (fun l=>l);rw [List.flatMap_id'] at this;rw [← this];congr 1;funext p;rw [List.map_map];show(XV w p).map (fun n=>n)=_;rw [List.map_id'];rfl
  ·unfold owH Qz;rw [List.map_flatMap,← Zdz w.held [] (fun x=>x.map fun y=>y.msg)];congr 1;funext p;rw [List.map_map];rfl
 ·unfold owL Q0;rw [List.map_map];rfl
theorem ZoN {α:Type} [BEq α] {f g:Nat ->List α} {p:Nat} (h:∀ k,k ≠ p ->f k=g k) (a:α):∀ {n:Nat},p < n ->((List.range n).flatMap f).count a + (g p).count a= ((List.range n).flatMap g).count a + (f p).count a:=by
 intro n
 induction n with
 | zero=>intro h;omega
 | succ n ih=>
   intro hp;rw [List.range_succ,List.flatMap_append,List.flatMap_append,List.count_append,List.count_append];simp only [List.flatMap_cons,List.flatMap_nil,List.append_nil];by_cases e:p=n
   ·subst e
    have:(List.range p).flatMap f= (List.range p).flatMap g:=by
     unfold List.flatMap;congr 1;exact List.map_congr_left fun k hk=>h k (by have:=List.mem_range.1 hk;omega)
    rw [this];omega
   ·have:=ih (by omega);rw [h n (fun z=>e z.symm)];omega
theorem KZ (a b:List Zc):owL (a ++ b)=owL a ++ owL b:=by unfold owL;rw [List.filter_append,List.map_append]
theorem ZtP {w:Zb} {k:Nat} (hk:k < w.wire.length):owL w.wire=owL (w.wire.take k) ++ owL [Zz w k] ++ owL (w.wire.drop (k + 1)):=by
 have:=congrArg owL (WY hk);rw [this,KZ,show Zz w k::w.wire.drop (k + 1)= [Zz w k] ++ w.wire.drop (k + 1) from rfl,KZ,List.append_assoc]
theorem Zd9 {x:Zc} (h:x.kind=1):owL [x]= [(x.Zl.msg,x.Zl.place)]:=by unfold owL;simp [h]
theorem ZhK {x:Zc} (h:x.kind ≠ 1):owL [x]= []:=by unfold owL;simp [h]
theorem Zsm (w w':Zb) {p:Nat} (hp:p < w.boxes.length) {l:List Int} (h:w'.boxes=YA w.boxes (p:Int) (XV w p ++ l)) (a:Int×Int):(owB w').count a= (owB w).count a + (l.map fun n=>(n,(p:Int))).count a:=by
 have hb:∀ k,XV w' k=if k=p then XV w p ++ l else XV w k:=fun k=>by unfold XV;rw [h];exact JV hp
 have:=ZoN (f:=fun k=>(XV w' k).map fun n=>(n,(k:Int))) (g:=fun k=>(XV w k).map fun n=>(n,(k:Int))) (p:=p) (fun k hk=>by rw [hb,if_neg hk]) a (n:=w.boxes.length) hp;rw [hb,if_pos rfl,List.map_append,List.count_append] at this;have e:w'.boxes.length=w.boxes.length:=by rw [h,Xy]
 unfold owB;rw [e];omega
theorem Zsl (w w':Zb) {m:Nat} (hm:m < w.held.length) {l:List Zh} (h:w'.held=YA w.held (m:Int) l) (a:Int×Int):(owH w').count a + ((ZE w m).map fun y=>(y.msg,y.place)).count a= (owH w).count a + (l.map fun y=>(y.msg,y.place)).count a:=by
 have hb:∀ k,ZE w' k=if k=m then l else ZE w k:=fun k=>by unfold ZE;rw [h];exact JV hm
 have:=ZoN (f:=fun k=>(ZE w' k).map fun y=>(y.msg,y.place)) (g:=fun k=>(ZE w k).map fun y=>(y.msg,y.place)) (p:=m) (fun k hk=>by rw [hb,if_neg hk]) a (n:=w.held.length) hm;rw [hb,if_pos rfl] at this;have e:w'.held.length=w.held.length:=by rw [h,Xy]
 unfold owH;rw [e];omega
theorem ZlB {w w':Zb} (e:w'.ZA=w.ZA) (q:Int):inn w' q=inn w q:=by unfold inn;rw [e]
theorem ZIT {w w':Zb} (e:w'.ZA=w.ZA) (q:Int):∀ k,up w' k q=up w k q:=by
 intro k
 induction k with
 | zero=>rfl
 | succ k ih=>rw [WG,WG,ih,ZlB e]
theorem Inn.eq {w w':Zb} (h:Inn w) (e:w'.ZA=w.ZA):Inn w':=
 ⟨fun p hp=>by have:=h.rng p (by rw [← e];exact hp);unfold okN at this ⊢;rw [ZlB e,e];exact this,fun p hp=>by rw [ZIT e,e];exact h.acy p (by rw [← e];exact hp)⟩
theorem ZpF {w w':Zb} (e:w'.entries=w.entries) (m p:Nat):E w' m p=E w m p:=by unfold E row;rw [e]
theorem ZeR.eq {w w':Zb} (e:w'.entries=w.entries) {m p:Nat} (h:ZeR w m p):ZeR w' m p:=by
 unfold ZeR at h ⊢;rw [ZpF e,e];exact h
theorem Wm.upd {w w':Zb} (h:Wm w) (ZgN:w'.ZA=w.ZA) (ZgO:w'.entries=w.entries) (hbx:w'.boxes.length=w.boxes.length) (hhd:w'.held.length=w.held.length) (hs1:0 <=w'.said) (hs2:w'.said <=40)
 (ZPK:∀ p,X6 w'.wire p=X6 w.wire p) (hk2:∀ x ∈ w.wire,x.kind=2 ->x ∈ w'.wire)
 (hlet:∀ x ∈ w'.wire,x ∈ w.wire∨(Zkl w x∧(x.kind=1 ->QY w x.ZO x.Zl)∧(x.kind=3 ->RtX w x.place.toNat x.at_ x.age)))
 (ZP4:∀ m,m < w.entries.length ->∀ y ∈ ZE w' m,y ∈ ZE w m∨(QY w m y∧sp w y.place.toNat= ⟨(m:Int),false,y.age⟩)):Wm w':=by
 have hloc:∀ p,YN w' p=YN w p:=fun p=>Zb9 (by rw [ZgO];exact Zcc fun m _=>ZpF ZgO m p) (ZPK p)
 have v:Mv w w':=Mv.same (by rw [ZgN]) ZgO fun p _=>hloc p
 have hsp:∀ p,sp w' p=sp w p:=fun p=>J7 (hloc p)
 have S:=h.shr.shp;refine⟨⟨⟨by rw [ZgO];exact S.m1,by rw [ZgO];exact S.m2,by rw [ZgN];exact S.p1,by rw [ZgN];exact S.p2,by rw [hbx,ZgN];exact S.bx,by rw [hhd,ZgO];exact S.hd,by rw [ZgO,ZgN];exact S.rw_⟩,h.shr.inn.eq ZgN,hs1,hs2,fun m hm p hp=>(h.shr.ent m (by rw [← ZgO];exact hm) p (by rw [← ZgN];exact hp)).eq ZgO,fun x hx=>?_⟩,fun p hp=>?_,fun p hp hq=>?_,fun m hm p hp hh=>?_,fun m hm y hy=>?_,fun x hx hk=>?_,fun x hx hk=>?_⟩
 ·rcases hlet x hx with q | q
  ·exact v.Xq (h.shr.Xq x q)
  ·exact v.Xq q.1
 ·rw [hloc];exact h.loc p (by rw [← ZgN];exact hp)
 ·rw [ZlB ZgN] at hq ⊢;rw [hsp,hsp];have:=h.tog p (by rw [← ZgN];exact hp) hq;refine⟨this.1,this.2.1,fun z=>?_⟩;obtain⟨x,hx,k,a,b⟩:=this.2.2 z;exact⟨x,hk2 x hx k,k,a,b⟩
 ·rw [ZpF ZgO] at hh ⊢;exact v.rt p (by rw [← ZgN];exact hp) _ _ (h.ent m (by rw [← ZgO];exact hm) p (by rw [← ZgN];exact hp) hh)
 ·rw [ZgO] at hm;rw [hsp];rcases ZP4 m hm y hy with q | q
  ·have:=h.hel m hm y q;exact⟨v.Zl this.1,this.2⟩
  ·exact⟨v.Zl q.1,q.2⟩
 ·rcases hlet x hx with q | q
  ·exact v.Zl (h.mai x q hk)
  ·exact v.Zl (q.2.1 hk)
 ·rcases hlet x hx with q | q
  ·have hn:= (h.shr.Xq x q).ntd hk;exact v.rt _ (by omega) _ _ (h.ntd x q hk)
  ·have hn:=q.1.ntd hk;exact v.rt _ (by omega) _ _ (q.2.2 hk)
section
variable {w:Zb}
theorem Zg9 (h:Wm w) {k:Nat} (hk:k < w.wire.length) (h2:(Zz w k).kind ≠ 2):Wm (Z5 w k):=by
 refine h.upd rfl rfl rfl rfl h.shr.sd1 h.shr.sd2 (fun p=>?_) (fun x hx hk2=>?_) (fun x hx=>.inl (Zc4 hx)) (fun m _ y hy=>.inl hy)
 ·rw [Ka hk,Zlc h2,ZeZ,List.append_nil]
 ·rw [WY hk] at hx;rcases List.mem_append.1 hx with q | q
  ·exact List.mem_append.2 (.inl q)
  ·rcases List.mem_cons.1 q with r | r
   ·rw [r] at hk2;exact absurd hk2 h2
   ·exact List.mem_append.2 (.inr r)
structure Rtd (w:Zb) (m:Nat) (x:Zh) (now:Bool):Prop where
 hm:m < w.entries.length
 pl:InR x.place w.ZA.length
 fr:InR x.from_ w.entries.length
 old:now=false ->QY w m x
 new:now=true ->x.age=0∧x.hops=0
theorem Wm.ZbD (h:Wm w) {p:Nat} (hp:p < w.ZA.length):(sp w p).age <=30:=Proofs.YtbmbbcaaimehkaaGreat.ZbD h.shr hp (h.loc p hp)
theorem ZtU {to:Int} {y:Zh} (h1:0 <=to) (h2:to < (w.entries.length:Int)):Zkl w (Zap to y):=
 ⟨h1,h2,.inl ⟨rfl,rfl,rfl,rfl,rfl,rfl⟩,fun i hi=>absurd hi (Nat.not_lt_zero i),fun q=>absurd (show(1:Int)=3 from q) (by omega)⟩
theorem ZtS {to p at_ age:Int} (h1:InR to w.entries.length) (h2:InR p w.ZA.length) (h3:at_ ≠ to):Zkl w (Zso to p at_ age):=
 ⟨h1.1,h1.2,.inr (.inr ⟨rfl,rfl,rfl,rfl⟩),fun i hi=>absurd hi (Nat.not_lt_zero i),fun _=>⟨h2.1,h2.2,h3⟩⟩
theorem ZvP (h:Wm w) {m:Nat} {x:Zh} {now:Bool} (r:Rtd w m x now):Wm (Ql w m x now).1:=by
 obtain⟨p,ep,hp⟩:=r.pl.nat;have hm:=r.hm;have S:=h.shr.shp;unfold Ql;rw [ep,Int.toNat_natCast];by_cases hh:(E w m p).here=true
 ·rw [if_pos hh];exact h.upd rfl rfl (Xy _ _ _) rfl h.shr.sd1 h.shr.sd2 (fun _=>rfl) (fun x hx _=>hx) (fun x hx=>.inl hx) (fun m _ y hy=>.inl hy)
 have hh':(E w m p).here=false:=by simpa using hh
 rw [if_neg hh];have re:=h.ent m hm p hp hh';by_cases hc:now=false∧(E w m p).age <=x.age
 ·rw [if_pos hc];have ho:=r.old hc.1;obtain⟨o1,o2,o3,o4,o5,o6,o7⟩:=id ho;refine h.upd rfl rfl rfl (Xy _ _ _) h.shr.sd1 h.shr.sd2 (fun _=>rfl) (fun x hx _=>hx) (fun x hx=>.inl hx) (fun m' hm' y hy=>?_);have hb:ZE {w with held:=YA w.held (m:Int) (ZE w m ++ [x])} m'=if m'=m then ZE w m ++ [x] else ZE w m':=JV (by rw [S.hd];exact hm)
  rw [hb] at hy;by_cases e:m'=m
  ·rw [if_pos e] at hy;rcases List.mem_append.1 hy with q | q
   ·rw [e];exact .inl q
   ·rw [List.mem_singleton.1 q,e];refine .inr ⟨ho,?_⟩;rw [ep,Int.toNat_natCast] at o5 ⊢;obtain⟨a1,a2,a3,a4,a5,a6⟩:=o5;rw [Int.toNat_natCast] at a6;have e1:x.age= (sp w p).age:=Classical.byContradiction fun z=>by have:=a6 z;omega
    have e2:=a5 e1
    have e3:(sp w p).here=false:=by
     rcases Zhr (h.loc p hp) with⟨k,hk,he,es⟩ | ⟨y,hy,hk,i,hi,hpi,es⟩
     ·rw [es] at e2;have:m=k:=by have:(m:Int)= (k:Int):=e2;omega
      rw [← this,hh'] at he;cases he
     ·rw [es]
    rw [e1,e2,← e3]
  ·rw [if_neg e] at hy;exact .inl hy
 ·rw [if_neg hc];have ha:=h.ZbD hp;obtain⟨a1,a2,a3,a4,a5,a6⟩:=id re;have hE:=h.shr.ent m hm p hp;refine h.upd rfl rfl rfl rfl h.shr.sd1 h.shr.sd2 (fun q=>?_) (fun x hx _=>List.mem_append.2 (.inl hx)) (fun y hy=>?_) (fun m _ y hy=>.inl hy)
  ·show X6 (w.wire ++ _::told (m:Int) x (E w m p) now) q=_
   have e0:X6 (Zap (E w m p).ZO (Wo x (E w m p))::told (m:Int) x (E w m p) now) q= []:=by
    apply Zr5;intro y hy;rcases List.mem_cons.1 hy with z | z
    ·rw [z];show(1:Int) ≠ 2;omega
    ·unfold told at z;split at z
     ·rw [List.mem_singleton.1 z];show(3:Int) ≠ 2;omega
     ·cases z
   rw [Zbx,e0,List.append_nil]
  ·rcases List.mem_append.1 hy with q | q
   ·exact .inl q
   refine .inr ?_;rcases List.mem_cons.1 q with z | z
   ·subst z;refine⟨ZtU a3 a4,fun _=>?_,fun q=>absurd (show(1:Int)=3 from q) (by omega)⟩;show QY w (E w m p).ZO (Wo x (E w m p));refine⟨r.pl.1,r.pl.2,r.fr.1,r.fr.2,?_,?_,?_⟩
    ·show RtX w x.place.toNat (E w m p).ZO (E w m p).age;rw [ep,Int.toNat_natCast];exact re
    ·show 1 <=x.hops + 1;cases hn:now with
     | true=>have:=r.new hn;omega
     | false=>have:= (r.old hn).2.2.2.2.2.1;omega
    ·show x.hops + 1 <=Y6 (1 + (E w m p).age);rw [Int.add_comm 1,ZaM a1 (by omega)];cases hn:now with
     | true=>have:=r.new hn;omega
     | false=>
       have o:=r.old hn;have o1:=o.2.2.2.2.1.1;have o2:=o.2.2.2.2.1.2.1;have o3:=o.2.2.2.2.2.2;rw [ep,Int.toNat_natCast] at o2;rw [Int.add_comm,ZaM o1 (by omega)] at o3;have:¬ (E w m p).age <=x.age:=fun z=>hc ⟨hn,z⟩
       omega
   ·unfold told at z;split at z
    ·rename_i ht;rw [List.mem_singleton.1 z];refine⟨ZtS r.fr r.pl (fun q=>ht.2.2 q.symm),fun q=>absurd (show(3:Int)=1 from q) (by omega),fun _=>?_⟩;show RtX w x.place.toNat (E w m p).ZO (E w m p).age;rw [ep,Int.toNat_natCast];exact re
    ·cases z
theorem ZAz (m:Int) (x:Zh) (e:Zt) (now:Bool):owL (told m x e now)= []:=by
 unfold told;split
 ·exact ZhK (by show(3:Int) ≠ 1;omega)
 ·rfl
theorem ZvQ (h:Wm w) {m:Nat} {x:Zh} {now:Bool} (r:Rtd w m x now) (a:Int×Int):(owes (Ql w m x now).1).count a= (owes w).count a + [(x.msg,x.place)].count a:=by
 obtain⟨p,ep,hp⟩:=r.pl.nat;have S:=h.shr.shp;unfold Ql owes;rw [ep,Int.toNat_natCast];simp only [List.count_append];by_cases hh:(E w m p).here=true
 ·rw [if_pos hh];have:=Zsm w {w with boxes:=YA w.boxes (p:Int) (XV w p ++ [x.msg])} (p:=p) (by rw [S.bx];exact hp) rfl a;simp only [List.map_cons,List.map_nil] at this;rw [this];show _ + (owH w).count a + (owL w.wire).count a=_;omega
 rw [if_neg hh];by_cases hc:now=false∧(E w m p).age <=x.age
 ·rw [if_pos hc];have:=Zsl w {w with held:=YA w.held (m:Int) (ZE w m ++ [x])} (m:=m) (by rw [S.hd];exact r.hm) rfl a;simp only [List.map_append,List.count_append,List.map_cons,List.map_nil,ep] at this;show(owB w).count a + (owH {w with held:=YA w.held (m:Int) (ZE w m ++ [x])}).count a + (owL w.wire).count a=_;omega
 ·rw [if_neg hc];show(owB w).count a + (owH w).count a + (owL (w.wire ++ (Zap _ _::told _ _ _ _))).count a=_;rw [KZ,show(Zap (E w m p).ZO (Wo x (E w m p))::told (m:Int) x (E w m p) now)= [Zap (E w m p).ZO (Wo x (E w m p))] ++ told (m:Int) x (E w m p) now from rfl,KZ,ZAz,Zd9 rfl,List.append_nil,List.count_append];show _ + (_ + List.count a [(x.msg,x.place)])=_;rw [ep];omega
end
end Go.Proofs.YtbmbbcaaimehkaaGreat
end
section
namespace Go.Proofs.YtbmbbcaaimehkaaGreat
open Go.Lf
theorem Zib {w w':Zb} {p:Nat}:∀ {k:Nat},(∀ m,m < k ->(E w' m p=E w m p)∨((E w' m p).here=false∧(E w m p).here=false)) ->Xu w' p k=Xu w p k:=by
 intro k
 induction k with
 | zero=>intro _;rfl
 | succ k ih=>
   intro h;rw [Jj,Jj,ih fun m hm=>h m (by omega)];rcases h k (by omega) with e | ⟨e1,e2⟩
   ·rw [e]
   ·rw [e1,e2];simp
section
variable {w:Zb}
theorem ZAU (h:Wm w) {m p:Nat} (hm:m < w.entries.length) (hp:p < w.ZA.length) {at_ age:Int} (hh:(E w m p).here=false) (ha:(E w m p).age < age) (hr:RtX w p at_ age) (hn:at_ ≠ (m:Int)):Wm (setW w m p ⟨false,at_,age⟩):=by
 have S:=h.shr.shp;have eE:=Znc S hm hp ⟨false,at_,age⟩;have hag:=h.ZbD hp;have el:(setW w m p ⟨false,at_,age⟩).entries.length=w.entries.length:=Zd2 _ _ _ _
 have hloc:∀ q,YN (setW w m p ⟨false,at_,age⟩) q=YN w q:=fun q=>by
  refine Zb9 ?_ rfl;rw [el];refine Zib fun m' _=>?_
  rw [eE];by_cases c:m'=m∧q=p
  ·rw [if_pos c,c.1,c.2];exact .inr ⟨rfl,hh⟩
  ·rw [if_neg c];exact .inl rfl
 have hsp:∀ q,sp (setW w m p ⟨false,at_,age⟩) q=sp w q:=fun q=>J7 (hloc q)
 have v:Mv w (setW w m p ⟨false,at_,age⟩):=Mv.of rfl el (fun m' q _=>by
  rw [eE];by_cases c:m'=m∧q=p
  ·rw [if_pos c,c.1,c.2];exact Int.le_of_lt ha
  ·rw [if_neg c];exact Int.le_refl _) fun q _=>.inl (by rw [hsp];exact⟨rfl,rfl⟩)
 refine⟨⟨S.setW hm _,h.shr.inn.eq rfl,h.shr.sd1,h.shr.sd2,fun m' hm' q hq=>?_,fun x hx=>v.Xq (h.shr.Xq x hx)⟩,fun q hq=>by rw [hloc];exact h.loc q hq,fun q hq hi=>?_,fun m' hm' q hq hh'=>?_,fun m' hm' y hy=>?_,fun x hx hk=>v.Zl (h.mai x hx hk),fun x hx hk=>?_⟩
 ·rw [el] at hm';unfold ZeR;rw [eE,el];by_cases c:m'=m∧q=p
  ·rw [if_pos c,c.1];exact⟨hr.1,by have:=hr.2.1;show age <=30;omega,hr.2.2.1,hr.2.2.2.1,⟨fun z=>absurd z (by simp),fun z=>absurd z hn⟩⟩
  ·rw [if_neg c];exact h.shr.ent m' hm' q hq
 ·rw [hsp,hsp];exact h.tog q hq hi
 ·rw [el] at hm';rw [eE] at hh' ⊢;by_cases c:m'=m∧q=p
  ·rw [if_pos c,c.2];exact v.rt p hp _ _ hr
  ·rw [if_neg c] at hh' ⊢;exact v.rt q hq _ _ (h.ent m' hm' q hq hh')
 ·rw [el] at hm';have:=h.hel m' hm' y hy;rw [hsp];exact⟨v.Zl this.1,this.2⟩
 ·have hn:= (h.shr.Xq x hx).ntd hk;exact v.rt _ (by omega) _ _ (h.ntd x hx hk)
theorem Zvl {x:Zc} (hk:x.kind=2) (nd:x.places.Nodup) {i p:Nat} (hi:i < x.places.length) (hp:x.places.getD i 0= (p:Int)):WB x p= [⟨x.ZO,false,x.ZU.getD i 0⟩]:=by
 unfold WB;rw [if_pos hk];have hl:=Zdt x p x.places.length (Nat.le_refl _);rw [List.take_of_length_le (Nat.le_refl _)] at hl;have hm:(p:Int) ∈ x.places:=by rw [← hp,JD hi];exact List.getElem_mem hi
 have hc:=List.nodup_iff_count.1 nd (p:Int);have hc2:=List.count_pos_iff.2 hm;obtain⟨s,e⟩:=List.length_eq_one_iff.1 (show(U3 x p x.places.length).length=1 by omega);have:Yq.mk x.ZO false (x.ZU.getD i 0) ∈ U3 x p x.places.length:=Zaj.2 ⟨i,hi,hp,rfl⟩;rw [e] at this ⊢;rw [List.mem_singleton.1 this]
theorem Ztw {x:Zc} {p:Nat} (hm:(p:Int) ∉ x.places):WB x p= []:=by
 unfold WB;split
 ·apply List.eq_nil_iff_forall_not_mem.2;intro s hs;obtain⟨i,hi,hp,_⟩:=Zaj.1 hs;exact hm (by rw [← hp,JD hi];exact List.getElem_mem hi)
 ·rfl
end
end Go.Proofs.YtbmbbcaaimehkaaGreat
end
section
namespace Go.Proofs.YtbmbbcaaimehkaaGreat
open Go.Lf
section
variable {w:Zb}
variable {p:Nat} {to:Int}
end
end Go.Proofs.YtbmbbcaaimehkaaGreat
end
section
namespace Go.Proofs.YtbmbbcaaimehkaaGreat
open Go.Lf
section
variable {w:Zb}
theorem Wm.nodup (h:Wm w) {x:Zc} (hx:x ∈ w.wire) (hk:x.kind=2):x.places.Nodup:=by
 rw [List.nodup_iff_count];intro a;by_cases ha:a ∈ x.places
 ·obtain⟨i,hi,rfl⟩:=List.getElem_of_mem ha;have e0:x.places.getD i 0=x.places[i]:=JD hi;have hp:= (h.shr.Xq x hx).JN i hi;unfold Zaa at hp;rw [e0] at hp;obtain⟨p,e⟩:∃ p:Nat,x.places[i]= (p:Int):= ⟨x.places[i].toNat,by omega⟩
  have hl:=h.loc p (by omega);unfold YN at hl;rw [List.length_append] at hl;have h1:=Zr6 hx p;have h2:WB x p=U3 x p x.places.length:=by unfold WB;rw [if_pos hk]
  rw [h2,Zdt x p _ (Nat.le_refl _),List.take_of_length_le (Nat.le_refl _)] at h1;rw [e];omega
 ·rw [List.count_eq_zero_of_not_mem ha];omega
theorem Wm.mvl (h:Wm w) {x:Zc} (hx:x ∈ w.wire) (hk:x.kind=2):MvL w x x.ZO.toNat:=by
 have hl:=h.shr.Xq x hx;have h8:=h.shr.shp.p2;have Zw4:∀ i,i < x.places.length ->InR (x.places.getD i 0) w.ZA.length:=fun i hi=>⟨(hl.JN i hi).1,(hl.JN i hi).2.1⟩
 have hsub:x.places ⊆ XJ w.ZA.length:=fun a ha=>by
  have:= (KC (d:= (0:Int)) (P:=fun a=>InR a w.ZA.length)).1 Zw4 a ha;unfold InR at this;unfold XJ;exact List.mem_map.2 ⟨a.toNat,List.mem_range.2 (by omega),by show((a.toNat:Nat):Int)=a;omega⟩
 have hlen:= (h.nodup hx hk).length_le_of_subset hsub;rw [Qm] at hlen;exact⟨by have:=hl.to1;omega,by have:=hl.to1;have:=hl.to2;omega,hl.YZ.len,by omega,Zw4⟩
structure Car (w:Zb) (k:Nat):Prop where
 hk:k < w.wire.length
 two:(Zz w k).kind=2
theorem Car.mem {k:Nat} (c:Car w k):Zz w k ∈ w.wire:=Yl c.hk
theorem ZpV (h:Wm w) {k:Nat} (c:Car w k) {i q:Nat} (hi:i < (Zz w k).places.length) (hq:(Zz w k).places.getD i 0= (q:Int)):
 q < w.ZA.length∧sp w q= ⟨(Zz w k).ZO,false,(Zz w k).ZU.getD i 0⟩∧Xu w q w.entries.length= []∧X6 (w.wire.take k) q= []∧X6 (w.wire.drop (k + 1)) q= []:=by
 have hp:= (h.shr.Xq _ c.mem).JN i hi;unfold Zaa at hp;rw [hq] at hp;have hql:q < w.ZA.length:=by omega
 have hl:=h.loc q hql;have e:=Zvl c.two (h.nodup c.mem c.two) hi hq;unfold YN at hl;rw [Ka c.hk,e] at hl;simp only [List.length_append,List.length_singleton] at hl;have e1:=List.length_eq_zero_iff.1 (show(Xu w q w.entries.length).length=0 by omega);have e2:=List.length_eq_zero_iff.1 (show(X6 (w.wire.take k) q).length=0 by omega);have e3:=List.length_eq_zero_iff.1 (show(X6 (w.wire.drop (k + 1)) q).length=0 by omega);refine⟨hql,ZCO ?_,e1,e2,e3⟩;unfold YN;rw [Ka c.hk,e,e1,e2,e3];rfl
theorem ZsA {l:List Int} {q:Int} (h:q ∈ l):∃ i,i < l.length∧l.getD i 0=q:=by
 obtain⟨i,hi,e⟩:=List.getElem_of_mem h;exact⟨i,hi,(JD hi).trans e⟩
theorem ZcK (h:Wm w) {k:Nat} (c:Car w k) {q:Nat} (hq:(q:Int) ∈ (Zz w k).places):
 q < w.ZA.length∧sp w q= ⟨(Zz w k).ZO,false,(sp w q).age⟩∧Xu w q w.entries.length= []∧X6 (w.wire.take k) q= []∧X6 (w.wire.drop (k + 1)) q= []:=by
 obtain⟨i,hi,e⟩:=ZsA hq;have:=ZpV h c hi e;exact⟨this.1,by rw [this.2.1],this.2.2⟩
theorem ZhL (h:Wm w) {k j:Nat} (hk:k < w.wire.length) (hj:j < w.wire.length) {q:Nat} (hq:q < w.ZA.length) (h1:(q:Int) ∈ (Zz w k).places) (h2:(q:Int) ∈ (Zz w j).places):k=j:=by
 have hl:(Qy w q).length=1:=by rw [← len_eq h.shr.two];exact h.loc q hq
 have a:=Zd0 hl hk h1;have b:=Zd0 hl hj h2;rw [a] at b;omega
theorem ZHV (h:Wm w) {k:Nat} (c:Car w k):∀ j,j <= (Zz w k).places.length ->∀ m' q:Nat,E (Y4 (Z5 w k) (Zz w k) j) m' q=if m'= (Zz w k).ZO.toNat∧(q:Int) ∈ (Zz w k).places.take j then⟨true,(Zz w k).ZO,(sp w q).age⟩ else E w m' q:=by
 have v:=h.mvl c.mem c.two;have v':MvL (Z5 w k) (Zz w k) (Zz w k).ZO.toNat:= ⟨v.ZO,v.hm,v.len,v.few,v.rng⟩
 intro j
 induction j with
 | zero=>intro _ m' q;rw [if_neg (by simp)];rfl
 | succ j ih=>
   intro hj m' q;have hp:=v'.JN (i:=j) (by omega);have hi:=Xr (Z5 w k) (Zz w k) j;have wi:=ZpV h c (i:=j) (q:=JN (Zz w k) j) (by omega) hp.1;show E (setW (Y4 (Z5 w k) (Zz w k) j) (Zz w k).ZO.toNat (JN (Zz w k) j) ⟨true,(Zz w k).ZO,(Zz w k).ZU.getD j 0⟩) m' q=_;rw [Znc (ZaB (h.shr.shp.Z5 k) v' j) (by rw [hi.2.2.2.2.2];exact v'.hm) (by rw [hi.1];exact hp.2),ih (by omega)];by_cases e:m'= (Zz w k).ZO.toNat∧q=JN (Zz w k) j
   ·rw [if_pos e,if_pos ⟨e.1,(UY (by omega)).2 (.inr (by rw [e.2,← hp.1,JD (by omega)]))⟩,e.2,wi.2.1]
   ·rw [if_neg e];by_cases d:m'= (Zz w k).ZO.toNat∧(q:Int) ∈ (Zz w k).places.take j
    ·rw [if_pos d,if_pos ⟨d.1,(UY (by omega)).2 (.inl d.2)⟩]
    ·rw [if_neg d,if_neg];rintro⟨d1,d2⟩;rcases(UY (by omega)).1 d2 with z | z
     ·exact d ⟨d1,z⟩
     ·rw [← JD (d:= (0:Int)) (by omega),hp.1] at z;exact e ⟨d1,by omega⟩
def Wq (w:Zb) (k:Nat):Zb:= (Zae (Z5 w k) (Zz w k)).1
theorem ZdB (w:Zb) (k:Nat):(Wq w k).ZA=w.ZA∧(Wq w k).wire= (Z5 w k).wire∧(Wq w k).said=w.said∧(Wq w k).entries= (Y4 (Z5 w k) (Zz w k) (Zz w k).places.length).entries∧(Wq w k).boxes.length=w.boxes.length∧(Wq w k).held.length=w.held.length∧(Wq w k).entries.length=w.entries.length:=by
 have a:=Uu (Z5 w k) (Zz w k) (Zz w k).places.length;have b:=Xr (Z5 w k) (Zz w k) (Zz w k).places.length;exact⟨a.1,a.2.1,a.2.2.1,a.2.2.2.1,a.2.2.2.2.1,a.2.2.2.2.2,by rw [show(Wq w k).entries=_ from a.2.2.2.1];exact b.2.2.2.2.2⟩
theorem ZkB (h:Wm w) {k:Nat} (c:Car w k) (m' q:Nat):E (Wq w k) m' q=if m'= (Zz w k).ZO.toNat∧(q:Int) ∈ (Zz w k).places then⟨true,(Zz w k).ZO,(sp w q).age⟩ else E w m' q:=by
 rw [ZpF (ZdB w k).2.2.2.1,ZHV h c _ (Nat.le_refl _),List.take_of_length_le (Nat.le_refl _)]
theorem ZnU (h:Wm w) {k:Nat} (c:Car w k) {q:Nat} (hq:q < w.ZA.length):YN (Wq w k) q=if(q:Int) ∈ (Zz w k).places then [⟨(Zz w k).ZO,true,(sp w q).age⟩] else YN w q:=by
 have v:=h.mvl c.mem c.two;have i:=ZdB w k;unfold YN;rw [i.2.1,i.2.2.2.2.2.2,ZeZ];by_cases d:(q:Int) ∈ (Zz w k).places
 ·have b:=ZcK h c d;rw [if_pos d,b.2.2.2.1,b.2.2.2.2];have e1:E (Wq w k) (Zz w k).ZO.toNat q= ⟨true,(Zz w k).ZO,(sp w q).age⟩:=by rw [ZkB h c,if_pos ⟨rfl,d⟩]
  have:=Zt7 (w:=Wq w k) (p:=q) (m:= (Zz w k).ZO.toNat) (by rw [e1]) (k:=w.entries.length) v.hm fun m' hm' hne=>by
   rw [ZkB h c,if_neg fun z=>hne z.1];exact Zoq b.2.2.1 m' hm'
  rw [this,e1,← v.ZO];rfl
 ·rw [if_neg d,Zcc (w:=w) fun m' _=>by rw [ZkB h c,if_neg fun z=>d z.2]];congr 1;rw [Ka c.hk,Ztw d,List.append_nil]
theorem Zly (h:Wm w) {k:Nat} (c:Car w k) {q:Nat} (hq:q < w.ZA.length):sp (Wq w k) q=if(q:Int) ∈ (Zz w k).places then⟨(Zz w k).ZO,true,(sp w q).age⟩ else sp w q:=by
 have:=ZnU h c hq;by_cases d:(q:Int) ∈ (Zz w k).places
 ·rw [if_pos d] at this ⊢;exact ZCO this
 ·rw [if_neg d] at this ⊢;exact J7 this
theorem Zsz (h:Wm w) {k:Nat} (c:Car w k) {q:Nat} (hq:q < w.ZA.length):(sp (Wq w k) q).machine= (sp w q).machine∧(sp (Wq w k) q).age= (sp w q).age:=by
 rw [Zly h c hq];by_cases d:(q:Int) ∈ (Zz w k).places
 ·rw [if_pos d,(ZcK h c d).2.1];exact⟨rfl,rfl⟩
 ·rw [if_neg d];exact⟨rfl,rfl⟩
theorem ZEF (h:Wm w) {k:Nat} (c:Car w k):Mv w (Wq w k):=by
 have i:=ZdB w k;have v:=h.mvl c.mem c.two;refine Mv.of (by rw [i.1]) i.2.2.2.2.2.2 (fun m q hq=>?_) fun q hq=>.inl (Zsz h c hq)
 rw [ZkB h c];by_cases e:m= (Zz w k).ZO.toNat∧(q:Int) ∈ (Zz w k).places
 ·rw [if_pos e,e.1];have b:=ZcK h c e.2;exact(h.ent _ v.hm q hq (Zoq b.2.2.1 _ v.hm)).2.1
 ·rw [if_neg e];exact Int.le_refl _
theorem ZqH (u:Zb) (x:Zc) (s:Wt u) (v:MvL u x x.ZO.toNat):∀ j,j <=x.places.length ->∀ m',∀ y ∈ ZE (Yd u x j).1 m',y ∈ ZE u m'∧(m'=x.ZO.toNat ->y.place ∉ x.places.take j):=by
 intro j
 induction j with
 | zero=>
   intro _ m' y hy;refine⟨?_,fun _=>by simp⟩;have:ZE (Yd u x 0).1 m'=ZE u m':=by unfold ZE;rw [show(Yd u x 0).1.held=u.held from(Xr u x _).2.2.1]
   rw [← this];exact hy
 | succ j ih=>
   intro hj m' y hy;have hs:=UQ s v j;have li:=Uu u x j;have ci:=Xr u x x.places.length;have hp:=v.JN (i:=j) (by omega);have hy':y ∈ ZE (WK (Yd u x j).1 x.ZO.toNat (JN x j)) m':=hy;rw [Zcd hs (by rw [li.2.2.2.1,ci.2.2.2.2.2];exact v.hm)] at hy';by_cases e:m'=x.ZO.toNat
   ·rw [if_pos e] at hy';have⟨h1,h2⟩:=List.mem_filter.1 hy';have:=ih (by omega) _ y h1;rw [e];refine⟨this.1,fun _ z=>?_⟩;rcases(UY (by omega)).1 z with a | a
    ·exact this.2 rfl a
    ·rw [← JD (d:= (0:Int)) (by omega),hp.1] at a;unfold Jq at h2;rw [a] at h2;simp at h2
   ·rw [if_neg e] at hy';have:=ih (by omega) _ y hy';exact⟨this.1,fun z=>absurd z e⟩
theorem Zwz (h:Wm w) {k:Nat} (c:Car w k) {m':Nat} {y:Zh} (hy:y ∈ ZE (Wq w k) m'):y ∈ ZE w m'∧(m'= (Zz w k).ZO.toNat ->y.place ∉ (Zz w k).places):=by
 have v:=h.mvl c.mem c.two;have:=ZqH (Z5 w k) (Zz w k) (h.shr.shp.Z5 k) ⟨v.ZO,v.hm,v.len,v.few,v.rng⟩ (Zz w k).places.length (Nat.le_refl _) m' y hy;rw [List.take_of_length_le (Nat.le_refl _)] at this;exact this
theorem ZED (h:Wm w) {k:Nat} (c:Car w k):Wm (Wq w k):=by
 have v:=ZEF h c;have vl:=h.mvl c.mem c.two;have i:=ZdB w k;have S:=h.shr.shp;have el:=i.2.2.2.2.2.2;have hx2:= (h.shr.Xq _ c.mem)
 have hs:=UQ (S.Z5 k) (x:=Zz w k) (m:= (Zz w k).ZO.toNat) ⟨vl.ZO,vl.hm,vl.len,vl.few,vl.rng⟩ (Zz w k).places.length;have hw:∀ x,x ∈ (Wq w k).wire ->x ∈ w.wire:=fun x hx=>by rw [i.2.1] at hx;exact Zc4 hx
 refine⟨⟨hs,h.shr.inn.eq i.1,by rw [i.2.2.1];exact h.shr.sd1,by rw [i.2.2.1];exact h.shr.sd2,fun m hm q hq=>?_,fun x hx=>v.Xq (h.shr.Xq x (hw x hx))⟩,fun q hq=>?_,fun q hq hz=>?_,fun m hm q hq hh=>?_,fun m hm y hy=>?_,fun x hx hk=>v.Zl (h.mai x (hw x hx) hk),fun x hx hk=>?_⟩
 ·rw [el] at hm;rw [i.1] at hq;unfold ZeR;rw [ZkB h c,el];by_cases e:m= (Zz w k).ZO.toNat∧(q:Int) ∈ (Zz w k).places
  ·rw [if_pos e];obtain⟨j,hj,ej⟩:=ZsA e.2;have b:=ZpV h c hj ej;have p:=hx2.JN j hj;unfold Zaa at p;rw [b.2.1];exact⟨by dsimp only;omega,by dsimp only;omega,hx2.to1,hx2.to2,⟨fun _=>by rw [e.1];exact vl.ZO,fun _=>rfl⟩⟩
  ·rw [if_neg e];exact h.shr.ent m hm q hq
 ·rw [i.1] at hq;rw [ZnU h c hq];by_cases d:(q:Int) ∈ (Zz w k).places
  ·rw [if_pos d];rfl
  ·rw [if_neg d];exact h.loc q hq
 ·rw [i.1] at hq;rw [ZlB i.1] at hz ⊢;obtain⟨r,er,hr⟩:=ZaY (h.shr.inn.rng q hq) (by omega);have tg:=h.tog q hq hz;rw [er,Int.toNat_natCast] at tg ⊢;rw [Zly h c hq,Zly h c hr]
  have iff:(q:Int) ∈ (Zz w k).places↔(r:Int) ∈ (Zz w k).places:=by
   have key:(sp w q).here=false ->∃ j,j < w.wire.length∧(q:Int) ∈ (Zz w j).places∧(r:Int) ∈ (Zz w j).places:=fun z=>by
    obtain⟨y,hy,_,a,b⟩:=tg.2.2 z;obtain⟨j,hj,e⟩:=List.getElem_of_mem hy;have e':Zz w j=y:= (JD hj).trans e;exact⟨j,hj,by rw [e'];exact a,by rw [e'];exact b⟩
   constructor
   ·intro z;obtain⟨j,hj,a,b⟩:=key (by rw [(ZcK h c z).2.1]);rw [ZhL h c.hk hj hq z a];exact b
   ·intro z;obtain⟨j,hj,a,b⟩:=key (by rw [← tg.2.1,(ZcK h c z).2.1]);rw [ZhL h c.hk hj hr z b];exact a
  by_cases d:(q:Int) ∈ (Zz w k).places
  ·rw [if_pos d,if_pos (iff.1 d)];exact⟨rfl,rfl,fun z=>by cases z⟩
  ·rw [if_neg d,if_neg fun z=>d (iff.2 z)];refine⟨tg.1,tg.2.1,fun z=>?_⟩;obtain⟨x,hx,kk,a,b⟩:=tg.2.2 z;refine⟨x,?_,kk,a,b⟩;rw [i.2.1];rw [WY c.hk] at hx;rcases List.mem_append.1 hx with y | y
   ·exact List.mem_append.2 (.inl y)
   ·rcases List.mem_cons.1 y with y | y
    ·rw [y] at a;exact absurd a d
    ·exact List.mem_append.2 (.inr y)
 ·rw [el] at hm;rw [i.1] at hq;rw [ZkB h c] at hh ⊢;by_cases e:m= (Zz w k).ZO.toNat∧(q:Int) ∈ (Zz w k).places
  ·rw [if_pos e] at hh;cases hh
  ·rw [if_neg e] at hh ⊢;exact v.rt q hq _ _ (h.ent m hm q hq hh)
 ·rw [el] at hm;have a:=Zwz h c hy;have b:=h.hel m hm y a.1;have hp1:=b.1.1;have hp2:=b.1.2.1;obtain⟨q,eq⟩:∃ q:Nat,y.place= (q:Int):= ⟨y.place.toNat,by omega⟩
  have b2:=b.2;rw [eq,Int.toNat_natCast] at b2 ⊢
  have d:(q:Int) ∉ (Zz w k).places:=fun z=>by
   have e:= (ZcK h c z).2.1;rw [b2] at e;injection e with e1 _ _
   exact a.2 (by omega) (by rw [eq];exact z)
  rw [Zly h c (by omega),if_neg d];exact⟨v.Zl b.1,b2⟩
 ·have hn:= (h.shr.Xq x (hw x hx)).ntd hk;exact v.rt _ (by omega) _ _ (h.ntd x (hw x hx) hk)
theorem ZFc {u:Zb} (s:Wt u) {m p:Nat} (hm:m < u.entries.length) (hp:p < u.ZA.length) (a:Int×Int):(owes (WK u m p)).count a= (owes u).count a:=by
 have h1:=Zsm u (WK u m p) (p:=p) (by rw [s.bx];exact hp) (l:= ((ZE u m).filter (Jq p)).map fun y=>y.msg) rfl a;have h2:=Zsl u (WK u m p) (m:=m) (by rw [s.hd];exact hm) (l:= (ZE u m).filter fun y=>!Jq p y) rfl a
 have h3:((ZE u m).map fun y=>(y.msg,y.place)).count a= (((ZE u m).filter (Jq p)).map fun y=>(y.msg,(p:Int))).count a + (((ZE u m).filter fun y=>!Jq p y).map fun y=>(y.msg,y.place)).count a:=by
  generalize ZE u m=l
  induction l with
  | nil=>rfl
  | cons y l ih=>
    cases e:Jq p y with
    | true=>
      have e':y.place= (p:Int):=by unfold Jq at e;simpa using e
      rw [List.filter_cons_of_pos (by simp [e]),List.filter_cons_of_neg (by simp [e]),List.map_cons,List.map_cons,List.count_cons,List.count_cons,ih,e'];omega
    | false=>rw [List.filter_cons_of_neg (by simp [e]),List.filter_cons_of_pos (by simp [e]),List.map_cons,List.map_cons,List.count_cons,List.count_cons,ih];omega
 rw [List.map_map] at h1;have h1':(owB (WK u m p)).count a= (owB u).count a + (((ZE u m).filter (Jq p)).map fun y=>(y.msg,(p:Int))).count a:=h1;unfold owes;rw [List.count_append,List.count_append,List.count_append,List.count_append];show _ + _ + (owL u.wire).count a=_;omega
theorem ZwJ {u:Zb} (s:Wt u) {x:Zc} (v:MvL u x x.ZO.toNat) (a:Int×Int):∀ j,j <=x.places.length ->(owes (Yd u x j).1).count a= (owes u).count a:=by
 intro j
 induction j with
 | zero=>
   intro _;have ci:=Xr u x x.places.length
   have e:owes (Yd u x 0).1=owes u:=by
    show owes (Y4 u x x.places.length)=_;unfold owes owB owH XV ZE;rw [ci.2.1,ci.2.2.1,ci.2.2.2.1]
   rw [e]
 | succ j ih=>
   intro hj;have hs:=UQ s v j;have li:=Uu u x j;have ci:=Xr u x x.places.length;have hp:=v.JN (i:=j) (by omega);show(owes (WK (Yd u x j).1 x.ZO.toNat (JN x j))).count a=_;rw [ZFc hs (by rw [li.2.2.2.1,ci.2.2.2.2.2];exact v.hm) (by rw [li.1];exact hp.2),ih (by omega)]
theorem ZkA {k:Nat} (hk:k < w.wire.length) (a:Int×Int):(owes (Z5 w k)).count a + (owL [Zz w k]).count a= (owes w).count a:=by
 unfold owes;rw [ZtP hk];show List.count a (owB w ++ owH w ++ owL (w.wire.take k ++ w.wire.drop (k + 1))) + _=_;rw [KZ];simp only [List.count_append];omega
theorem ZEE (h:Wm w) {k:Nat} (c:Car w k) (a:Int×Int):(owes (Wq w k)).count a= (owes w).count a:=by
 have v:=h.mvl c.mem c.two;have e:=ZwJ (h.shr.shp.Z5 k) (x:=Zz w k) ⟨v.ZO,v.hm,v.len,v.few,v.rng⟩ a (Zz w k).places.length (Nat.le_refl _);have d:=ZkA c.hk a;rw [ZhK (by rw [c.two];omega)] at d;show List.count a (owes (Yd (Z5 w k) (Zz w k) (Zz w k).places.length).1)=_;rw [e]
 simpa using d
theorem Zh8 {k:Nat} (e:(Zz w k).kind=1):Qs w k=Ql (Z5 w k) (Zz w k).ZO.toNat (Zz w k).Zl false:=by unfold Qs;rw [if_pos e]
theorem Zh7 {k:Nat} (e:(Zz w k).kind=2):Qs w k=Zae (Z5 w k) (Zz w k):=by unfold Qs;rw [if_neg (by omega),if_pos e]
theorem Zh6 {k:Nat} (e:(Zz w k).kind=3):Qs w k= (JC (Z5 w k) (Zz w k),[]):=by unfold Qs;rw [if_neg (by omega),if_neg (by omega)]
theorem K4 (h:Wm w) {x:Zc} (hx:x ∈ w.wire):x.kind=1∨x.kind=2∨x.kind=3:=by
 rcases(h.shr.Xq x hx).YZ with⟨q,_⟩ | ⟨q,_⟩ | ⟨q,_⟩
 ·exact .inl q
 ·exact .inr (.inl q)
 ·exact .inr (.inr q)
theorem ZeA {k:Nat} (hk:k < w.wire.length) (h2:(Zz w k).kind ≠ 2) (p:Nat):YN (Z5 w k) p=YN w p:=
 Zb9 rfl (by rw [Ka hk,Zlc h2,ZeZ,List.append_nil])
theorem Zh5 (h:Wm w) {k:Nat} (hk:k < w.wire.length) (e:(Zz w k).kind=1):Rtd (Z5 w k) (Zz w k).ZO.toNat (Zz w k).Zl false:=by
 have hx:Zz w k ∈ w.wire:=Yl hk;have hl:=h.shr.Xq _ hx;have hm:=h.mai _ hx e;have v:Mv w (Z5 w k):=Mv.same rfl rfl fun p _=>ZeA hk (by omega) p
 have t1:=hl.to1;have t2:=hl.to2;refine⟨by show(Zz w k).ZO.toNat < w.entries.length;omega,⟨hm.1,hm.2.1⟩,⟨hm.2.2.1,hm.2.2.2.1⟩,fun _=>?_,fun z=>by cases z⟩;rw [Int.toNat_of_nonneg t1];exact v.Zl hm
theorem Zwh (h:Wm w) {k:Nat} (hk:k < w.wire.length) (e:(Zz w k).kind=3):Wm (JC (Z5 w k) (Zz w k)):=by
 have hx:Zz w k ∈ w.wire:=Yl hk;have hl:=h.shr.Xq _ hx;have hd:=Zg9 h hk (by omega);have v:Mv w (Z5 w k):=Mv.same rfl rfl fun p _=>ZeA hk (by omega) p
 have t1:=hl.to1;have t2:=hl.to2;have hn:=hl.ntd e;unfold JC;split
 ·rename_i c;refine ZAU hd (by show _ < w.entries.length;omega) (by show _ < w.ZA.length;omega) c.1 c.2 (v.rt _ (by omega) _ _ (h.ntd _ hx e)) ?_;rw [Int.toNat_of_nonneg t1];exact hn.2.2
 ·exact hd
theorem ZAY (h:Wm w) {k:Nat} (hk:k < w.wire.length):Wm (Qs w k).1:=by
 rcases K4 h (x:=Zz w k) (Yl hk) with e | e | e
 ·rw [Zh8 e];exact ZvP (Zg9 h hk (by omega)) (Zh5 h hk e)
 ·rw [Zh7 e];exact ZED h ⟨hk,e⟩
 ·rw [Zh6 e];exact Zwh h hk e
theorem Za0 (u:Zb) (x:Zc):(JC u x).ZA=u.ZA∧(JC u x).boxes=u.boxes∧(JC u x).held=u.held∧(JC u x).wire=u.wire∧(JC u x).said=u.said∧(JC u x).entries.length=u.entries.length:=by
 unfold JC;split
 ·exact⟨rfl,rfl,rfl,rfl,rfl,Zd2 _ _ _ _⟩
 ·exact⟨rfl,rfl,rfl,rfl,rfl,rfl⟩
theorem Zqe {u u':Zb} (h1:u'.boxes=u.boxes) (h2:u'.held=u.held) (h3:u'.wire=u.wire):owes u'=owes u:=by
 unfold owes owB owH XV ZE;rw [h1,h2,h3]
theorem ZsF (h:Wm w) {k:Nat} (hk:k < w.wire.length) (a:Int×Int):(owes (Qs w k).1).count a= (owes w).count a:=by
 have d:=ZkA hk a;rcases K4 h (x:=Zz w k) (Yl hk) with e | e | e
 ·rw [Zh8 e,ZvQ (Zg9 h hk (by omega)) (Zh5 h hk e)];rw [Zd9 e] at d;exact d
 ·rw [Zh7 e];exact ZEE h ⟨hk,e⟩ a
 ·rw [Zh6 e];have n:=Za0 (Z5 w k) (Zz w k);rw [ZhK (by omega)] at d;show(owes (JC (Z5 w k) (Zz w k))).count a=_;rw [Zqe n.2.1 n.2.2.1 n.2.2.2.1];simpa using d
theorem Zgc (u:Zb) (m:Nat) (x:Zh) (now:Bool):(Ql u m x now).1.ZA=u.ZA∧(Ql u m x now).1.entries=u.entries∧(Ql u m x now).1.said=u.said∧(Ql u m x now).1.wire.length <=u.wire.length + 2∧(now=true ->(Ql u m x now).1.wire.length <=u.wire.length + 1):=by
 unfold Ql;split
 ·exact⟨rfl,rfl,rfl,by dsimp only;omega,fun _=>by dsimp only;omega⟩
 ·split
  ·exact⟨rfl,rfl,rfl,by dsimp only;omega,fun _=>by dsimp only;omega⟩
  ·refine⟨rfl,rfl,rfl,?_,fun e=>?_⟩
   ·show(u.wire ++ _::told _ _ _ _).length <=_;rw [List.length_append,List.length_cons];unfold told;split <;> simp
   ·show(u.wire ++ _::told _ _ _ _).length <=_;rw [List.length_append,List.length_cons];unfold told;rw [e,if_neg (by simp)];simp
theorem ZkG (h:Wm w) {k:Nat} (hk:k < w.wire.length):(Qs w k).1.ZA=w.ZA∧(Qs w k).1.entries.length=w.entries.length∧(Qs w k).1.said=w.said∧(Qs w k).1.wire.length <=w.wire.length + 1:=by
 have dl:=Zc5 w hk;rcases K4 h (x:=Zz w k) (Yl hk) with e | e | e
 ·rw [Zh8 e];have r:=Zgc (Z5 w k) (Zz w k).ZO.toNat (Zz w k).Zl false;exact⟨r.1,by rw [r.2.1];rfl,r.2.2.1,by omega⟩
 ·rw [Zh7 e];have r:=ZdB w k;exact⟨r.1,r.2.2.2.2.2.2,r.2.2.1,by show(Wq w k).wire.length <=_;rw [r.2.1];omega⟩
 ·rw [Zh6 e];have r:=Za0 (Z5 w k) (Zz w k);exact⟨r.1,r.2.2.2.2.2,r.2.2.2.2.1,by show(JC _ _).wire.length <=_;rw [r.2.2.2.1];omega⟩
theorem Zh2 {α:Type} {L:List (List α)} {l:List α} (h:l ∈ L):l.length <=L.flatten.length:=by
 induction L with
 | nil=>cases h
 | cons x L ih=>
   rw [List.flatten_cons,List.length_append];rcases List.mem_cons.1 h with e | e
   ·rw [e];omega
   ·have:=ih e;omega
theorem WZ (h:Wd w) {n:Nat} (hn:41 <=n) (hw:w.wire.length < n):Wi n w:=by
 have S:=h.shr.shp;have hm:=h.msg.length_eq;rw [Qm] at hm;have hs:=h.shr.sd2;unfold msgs at hm;rw [List.length_append,List.length_append] at hm;have h8:=S.p2;have h5:=S.m2;have hb:=S.bx;have hd:=S.hd;refine⟨by omega,by omega,by omega,by omega,hw,fun l hl=>?_,fun l hl=>?_,fun l hl=>?_,fun x hx=>?_⟩
 ·have:=Zh2 hl;omega
 ·have:=S.rw_ l hl;omega
 ·have:l.length <= (Qz w.held).length:=by
   have:=Zh2 (L:=w.held.map fun x=>x.map fun y=>y.msg) (List.mem_map.2 ⟨l,hl,rfl⟩);rw [List.length_map] at this;exact this
  omega
 ·rcases K4 h.wm hx with e | e | e
  ·have:= (h.shr.Xq x hx).YZ;rcases this with⟨q,_,_,_,a,b⟩ | ⟨q,_⟩ | ⟨q,_⟩
   ·rw [a,b];simp;omega
   ·omega
   ·omega
  ·have:=h.mvl hx e;have a:=this.len;have b:=this.few;omega
  ·have:= (h.shr.Xq x hx).YZ;rcases this with⟨q,_⟩ | ⟨q,_⟩ | ⟨q,_,a,b⟩
   ·omega
   ·omega
   ·rw [a,b];simp;omega
end
end Go.Proofs.YtbmbbcaaimehkaaGreat
end
section
namespace Go.Proofs.YtbmbbcaaimehkaaGreat
open Go.Lf
theorem Zq9 {α:Type} (f:α ->Bool) (l:List α):(l.filter f).length + (l.filter fun x=>!f x).length=l.length:=by
 induction l with
 | nil=>rfl
 | cons x l ih=>
   cases e:f x with
   | true=>rw [List.filter_cons_of_pos (by simp [e]),List.filter_cons_of_neg (by simp [e]),List.length_cons,List.length_cons];omega
   | false=>rw [List.filter_cons_of_neg (by simp [e]),List.filter_cons_of_pos (by simp [e]),List.length_cons,List.length_cons];omega
theorem Zt1 {u:Zb} (s:Wt u) {x:Zc} (v:MvL u x x.ZO.toNat):∀ j,j <=x.places.length ->(Yd u x j).2.length + (ZE (Yd u x j).1 x.ZO.toNat).length=j + (ZE u x.ZO.toNat).length:=by
 intro j
 induction j with
 | zero=>
   intro _;have:ZE (Yd u x 0).1 x.ZO.toNat=ZE u x.ZO.toNat:=by unfold ZE;rw [show(Yd u x 0).1.held=u.held from(Xr u x _).2.2.1]
   rw [this];rfl
 | succ j ih=>
   intro hj;have hs:=UQ s v j;have li:=Uu u x j;have ci:=Xr u x x.places.length;have ih:=ih (by omega)
   have e:ZE (Yd u x (j + 1)).1 x.ZO.toNat= (ZE (Yd u x j).1 x.ZO.toNat).filter fun y=>!Jq (JN x j) y:=by
    show ZE (WK (Yd u x j).1 x.ZO.toNat (JN x j)) x.ZO.toNat=_;rw [Zcd hs (by rw [li.2.2.2.1,ci.2.2.2.2.2];exact v.hm),if_pos rfl]
   have t:=Zq9 (Jq (JN x j)) (ZE (Yd u x j).1 x.ZO.toNat);rw [e];show((Yd u x j).2 ++ Zic (Yd u x j).1 x.ZO.toNat (JN x j)).length + _=_;unfold Zic;rw [List.length_append,List.length_cons,List.length_map];omega
section
variable {F:Nat} {w:Zb}
theorem ZBt (h:Wd w) (m:Nat):(ZE w m).length <=40:=by
 by_cases hm:m < w.held.length
 ·have:=h.msg.length_eq;rw [Qm] at this;have hs:=h.shr.sd2;unfold msgs at this;rw [List.length_append,List.length_append] at this;have t:=Zh2 (L:=w.held.map fun x=>x.map fun y=>y.msg) (List.mem_map.2 ⟨ZE w m,Yl hm,rfl⟩);rw [List.length_map] at t;have t':(ZE w m).length <= (Qz w.held).length:=t;omega
 ·unfold ZE;rw [List.getD_eq_getElem?_getD,List.getElem?_eq_none (by omega)];simp
theorem Zn2 (h:Wd w) {k:Nat} (hk:k < w.wire.length):(Qs w k).2.length <=48:=by
 rcases K4 h.wm (x:=Zz w k) (Yl hk) with e | e | e
 ·rw [Zh8 e];unfold Ql;split
  ·exact(by decide:1 <=48)
  ·split <;> exact(by decide:0 <=48)
 ·rw [Zh7 e];have v:=h.mvl (Yl hk) e;have t:=Zt1 (h.shr.shp.Z5 k) (x:=Zz w k) ⟨v.ZO,v.hm,v.len,v.few,v.rng⟩ (Zz w k).places.length (Nat.le_refl _);have f:(Zz w k).places.length <=8:=v.few;have l:=ZBt h (Zz w k).ZO.toNat;have t':(Zae (Z5 w k) (Zz w k)).2.length + (ZE (Zae (Z5 w k) (Zz w k)).1 (Zz w k).ZO.toNat).length= (Zz w k).places.length + (ZE w (Zz w k).ZO.toNat).length:=t;omega
 ·rw [Zh6 e];exact(by decide:0 <=48)
theorem ZhO (hF:400000 <=F) (hM:F <=1000000):Zrl F Zcp=some true:=by
 unfold Zrl;rw [show Zb.mk [] [] [] [] [] 0=Zcp from rfl,Zku Zux (by omega) hM];rfl
end
end Go.Proofs.YtbmbbcaaimehkaaGreat
end
section
namespace Go.Proofs.YtbmbbcaaimehkaaGreat
open Go.Lf
section
variable {F:Nat} {w:Zb}
end
end Go.Proofs.YtbmbbcaaimehkaaGreat
end
section
namespace Go.Proofs.YtbmbbcaaimehkaaGreat
open Go.Lf
def U7 (w:Zb) (x:Zc):Nat:=if x.kind=1 then 2 * ((sp w x.Zl.place.toNat).age - x.Zl.age).toNat else 0
def JK (w:Zb) (l:List Zc):Nat:= (l.map (U7 w)).sum
def Zde (w:Zb):Nat:=w.wire.length + JK w w.wire
theorem Kc (w:Zb) (a b:List Zc):JK w (a ++ b)=JK w a + JK w b:=by unfold JK;rw [List.map_append,List.sum_append]
theorem ZbC (w:Zb) (x:Zc):JK w [x]=U7 w x:=by unfold JK;simp
section
variable {w:Zb}
theorem Zp3 {k:Nat} (hk:k < w.wire.length) (u:Zb):JK u w.wire=JK u (Z5 w k).wire + U7 u (Zz w k):=by
 have:=congrArg (JK u) (WY hk);rw [this,show Zz w k::w.wire.drop (k + 1)= [Zz w k] ++ w.wire.drop (k + 1) from rfl,Kc,Kc,ZbC];show _=JK u (w.wire.take k ++ w.wire.drop (k + 1)) + _;rw [Kc];omega
theorem ZnG (u:Zb) (m:Nat) (x:Zh) (now:Bool) (p:Nat):YN (Ql u m x now).1 p=YN u p:=by
 have s:=Zgc u m x now;refine Zb9 (by rw [s.2.1];exact Zcc fun m' _=>ZpF s.2.1 m' p) ?_;unfold Ql;split
 ·rfl
 ·split
  ·rfl
  ·show X6 (u.wire ++ _::told _ _ _ _) p=_;rw [Zbx]
   have:X6 (Zap (E u m x.place.toNat).ZO (Wo x (E u m x.place.toNat))::told (m:Int) x (E u m x.place.toNat) now) p= []:=by
    apply Zr5;intro y hy;rcases List.mem_cons.1 hy with z | z
    ·rw [z];show(1:Int) ≠ 2;omega
    ·unfold told at z;split at z
     ·rw [List.mem_singleton.1 z];show(3:Int) ≠ 2;omega
     ·cases z
   rw [this,List.append_nil]
theorem Zqf (h:Wm w) {k:Nat} (hk:k < w.wire.length) (e:(Zz w k).kind=3) (p:Nat):YN (JC (Z5 w k) (Zz w k)) p=YN (Z5 w k) p:=by
 have hl:=h.shr.Xq (Zz w k) (Yl hk);have t1:=hl.to1;have t2:=hl.to2;have hn:=hl.ntd e;unfold JC;split
 ·rename_i c;refine Zb9 ?_ rfl;rw [Zd2];refine Zib fun m' _=>?_
  rw [Znc (h.shr.shp.Z5 k) (by show _ < w.entries.length;omega) (by show _ < w.ZA.length;omega)];by_cases d:m'= (Zz w k).ZO.toNat∧p= (Zz w k).place.toNat
  ·rw [if_pos d,d.1,d.2];exact .inr ⟨rfl,c.1⟩
  ·rw [if_neg d];exact .inl rfl
 ·rfl
theorem ZsE (h:Wm w) {k:Nat} (hk:k < w.wire.length) {p:Nat} (hp:p < w.ZA.length):(sp (Qs w k).1 p).machine= (sp w p).machine∧(sp (Qs w k).1 p).age= (sp w p).age:=by
 rcases K4 h (x:=Zz w k) (Yl hk) with e | e | e
 ·rw [Zh8 e,J7 (ZnG _ _ _ _ p),J7 (ZeA hk (by omega) p)];exact⟨rfl,rfl⟩
 ·rw [Zh7 e];exact Zsz h ⟨hk,e⟩ hp
 ·rw [Zh6 e];dsimp only;rw [J7 (Zqf h hk e p),J7 (ZeA hk (by omega) p)];exact⟨rfl,rfl⟩
theorem ZwF (h:Wm w) {u:Zb} (hs:∀ p,p < w.ZA.length ->(sp u p).age= (sp w p).age) {x:Zc} (hx:x ∈ w.wire):U7 u x=U7 w x:=by
 unfold U7;by_cases e:x.kind=1
 ·have m:=h.mai x hx e;have a:=m.1;have b:=m.2.1;rw [if_pos e,if_pos e,hs _ (by omega)]
 ·rw [if_neg e,if_neg e]
theorem ZAB (h:Wm w) {u:Zb} (hs:∀ p,p < w.ZA.length ->(sp u p).age= (sp w p).age) {l:List Zc} (hl:∀ x ∈ l,x ∈ w.wire):JK u l=JK w l:=by
 unfold JK;congr 1;exact List.map_congr_left fun x hx=>ZwF h hs (hl x hx)
theorem ZwI (h:Wm w) {k:Nat} (hk:k < w.wire.length):Zde (Qs w k).1 + 1 <=Zde w:=by
 have dl:=Zc5 w hk;have hs:=fun p (hp:p < w.ZA.length)=>(ZsE h hk hp).2
 have hd:∀ x ∈ (Z5 w k).wire,x ∈ w.wire:=fun x hx=>Zc4 hx
 have e0:=Zp3 hk w;have e1:=ZAB h hs hd;unfold Zde;rcases K4 h (x:=Zz w k) (Yl hk) with e | e | e
 ·have hm:=h.mai _ (Yl hk:Zz w k ∈ w.wire) e;have hr:=Zh5 h hk e;rw [Zh8 e] at e1 hs ⊢;obtain⟨p,ep,hp⟩:=hr.pl.nat;have hp':p < w.ZA.length:=hp;have ho:=hr.old rfl;unfold Ql at e1 hs ⊢;rw [ep,Int.toNat_natCast] at e1 hs ⊢;by_cases c1:(E (Z5 w k) (Zz w k).ZO.toNat p).here=true
  ·rw [if_pos c1] at e1 ⊢;show(Z5 w k).wire.length + JK _ (Z5 w k).wire + 1 <=_;rw [e1];omega
  rw [if_neg c1] at e1 hs ⊢;by_cases c2:false=false∧(E (Z5 w k) (Zz w k).ZO.toNat p).age <= (Zz w k).Zl.age
  ·rw [if_pos c2] at e1 ⊢;show(Z5 w k).wire.length + JK _ (Z5 w k).wire + 1 <=_;rw [e1];omega
  rw [if_neg c2] at e1 hs ⊢;dsimp only at e1 hs ⊢
  have ag:(E (Z5 w k) (Zz w k).ZO.toNat p).age > (Zz w k).Zl.age:=by
   have:¬ (E (Z5 w k) (Zz w k).ZO.toNat p).age <= (Zz w k).Zl.age:=fun z=>c2 ⟨rfl,z⟩
   omega
  have wd:=Zg9 h hk (by omega);have re:=wd.ent (Zz w k).ZO.toNat hr.hm p hp (by simpa using c1);have esp:sp (Z5 w k) p=sp w p:=J7 (ZeA hk (by omega) p);have r2:=re.2.1;rw [esp] at r2;have o5:=ho.2.2.2.2.1;rw [ep,Int.toNat_natCast] at o5;have o2:=o5.2.1;rw [esp] at o2;rw [Kc,e1];rw [show(Zap (E (Z5 w k) (Zz w k).ZO.toNat p).ZO (Wo (Zz w k).Zl (E (Z5 w k) (Zz w k).ZO.toNat p))::told ((Zz w k).ZO.toNat:Int) (Zz w k).Zl (E (Z5 w k) (Zz w k).ZO.toNat p) false)= [Zap (E (Z5 w k) (Zz w k).ZO.toNat p).ZO (Wo (Zz w k).Zl (E (Z5 w k) (Zz w k).ZO.toNat p))] ++ told ((Zz w k).ZO.toNat:Int) (Zz w k).Zl (E (Z5 w k) (Zz w k).ZO.toNat p) false from rfl,Kc,ZbC]
  have t1:∀ u,JK u (told ((Zz w k).ZO.toNat:Int) (Zz w k).Zl (E (Z5 w k) (Zz w k).ZO.toNat p) false)=0∧(told ((Zz w k).ZO.toNat:Int) (Zz w k).Zl (E (Z5 w k) (Zz w k).ZO.toNat p) false).length <=1:=fun u=>by
   unfold told;split
   ·rw [ZbC];unfold U7;rw [if_neg (by show ¬ (3:Int)=1;omega)];exact⟨rfl,Nat.le_refl _⟩
   ·exact⟨rfl,Nat.zero_le _⟩
  rw [(t1 _).1];have b1:= (t1 w).2
  have m1:U7 w (Zz w k)=2 * ((sp w p).age - (Zz w k).Zl.age).toNat:=by
   unfold U7;rw [if_pos e,ep,Int.toNat_natCast]
  have m2:∀ u:Zb,(sp u p).age= (sp w p).age ->U7 u (Zap (E (Z5 w k) (Zz w k).ZO.toNat p).ZO (Wo (Zz w k).Zl (E (Z5 w k) (Zz w k).ZO.toNat p)))=2 * ((sp w p).age - (E (Z5 w k) (Zz w k).ZO.toNat p).age).toNat:=fun u hu=>by
   unfold U7;rw [if_pos (show(Zap (E (Z5 w k) (Zz w k).ZO.toNat p).ZO (Wo (Zz w k).Zl (E (Z5 w k) (Zz w k).ZO.toNat p))).kind=1 from rfl)];show 2 * ((sp u (Zz w k).Zl.place.toNat).age - (E (Z5 w k) (Zz w k).ZO.toNat p).age).toNat=_;rw [ep,Int.toNat_natCast,hu]
  rw [m2 _ (by exact hs p hp')];simp only [List.length_append,List.length_singleton];omega
 ·rw [Zh7 e] at e1 ⊢;have i:=ZdB w k;show(Wq w k).wire.length + JK (Wq w k) (Wq w k).wire + 1 <=_;rw [i.2.1];have e1':JK (Wq w k) (Z5 w k).wire=JK w (Z5 w k).wire:=e1;omega
 ·rw [Zh6 e] at e1 ⊢;have n:=Za0 (Z5 w k) (Zz w k);show(JC (Z5 w k) (Zz w k)).wire.length + JK (JC (Z5 w k) (Zz w k)) (JC (Z5 w k) (Zz w k)).wire + 1 <=_;rw [n.2.2.2.1];have e1':JK (JC (Z5 w k) (Zz w k)) (Z5 w k).wire=JK w (Z5 w k).wire:=e1;omega
theorem ZAZ (h:Wd w) {k:Nat} (hk:k < w.wire.length):Wd (Qs w k).1:=by
 refine(ZAY h.wm hk).wd ?_;have e:(owes (Qs w k).1).Perm (owes w):=List.perm_iff_count.2 fun a=>ZsF h.wm hk a
 have e:=e.map Prod.fst;rw [ZhJ,ZhJ] at e;rw [(ZkG h.wm hk).2.2.1];exact e.trans h.msg
def Ww (w:Zb) (picks:List Int) (n:Nat):Nat:=if n < picks.length then(picks.getD n 0).toNat % w.wire.length else 0
def XH (w:Zb) (picks:List Int):Nat ->Zb×List Zi
 | 0=>(w,[])
 | n + 1=>if(XH w picks n).1.wire= [] then XH w picks n else((Qs (XH w picks n).1 (Ww (XH w picks n).1 picks n)).1,(XH w picks n).2 ++ (Qs (XH w picks n).1 (Ww (XH w picks n).1 picks n)).2)
theorem Zd6 {u:Zb} (h:u.wire ≠ []) (picks:List Int) (n:Nat):Ww u picks n < u.wire.length:=by
 have:=List.length_pos_iff.2 h;unfold Ww;split
 ·exact Nat.mod_lt _ this
 ·exact this
structure DrI (w:Zb) (n:Nat) (s:Zb×List Zi):Prop where
 wd:Wd s.1
 ZA:s.1.ZA=w.ZA
 enl:s.1.entries.length=w.entries.length
 said:s.1.said=w.said
 sp:∀ p,p < w.ZA.length ->(Proofs.YtbmbbcaaimehkaaGreat.sp s.1 p).machine= (Proofs.YtbmbbcaaimehkaaGreat.sp w p).machine∧(Proofs.YtbmbbcaaimehkaaGreat.sp s.1 p).age= (Proofs.YtbmbbcaaimehkaaGreat.sp w p).age
 ow:(owes s.1).Perm (owes w)
 ev:s.2.length <=48 * n
 wire:s.1.wire.length <=w.wire.length + n
theorem drI (h:Wd w) (picks:List Int):∀ n,DrI w n (XH w picks n):=by
 intro n
 induction n with
 | zero=>exact⟨h,rfl,rfl,rfl,fun p _=>⟨rfl,rfl⟩,List.Perm.refl _,Nat.le_refl _,Nat.le_refl _⟩
 | succ n ih=>
   have i1:=ih.ev;have i2:=ih.wire;show DrI w (n + 1) (if(XH w picks n).1.wire= [] then _ else _);split
   ·exact⟨ih.wd,ih.ZA,ih.enl,ih.said,ih.sp,ih.ow,by omega,by omega⟩
   ·rename_i c;have hk:=Zd6 c picks n;have s:=ZkG ih.wd.wm hk;have e:=Zn2 ih.wd hk;refine⟨ZAZ ih.wd hk,s.1.trans ih.ZA,s.2.1.trans ih.enl,s.2.2.1.trans ih.said,fun p hp=>?_,(List.perm_iff_count.2 fun a=>ZsF ih.wd.wm hk a).trans ih.ow,?_,?_⟩
    ·have a:=ZsE ih.wd.wm hk (p:=p) (by rw [ih.ZA];exact hp);have b:=ih.sp p hp;exact⟨a.1.trans b.1,a.2.trans b.2⟩
    ·dsimp only;rw [List.length_append];omega
    ·dsimp only;omega
theorem ZHT (h:Wd w) (picks:List Int):∀ n,(∀ i,i < n ->(XH w picks i).1.wire ≠ []) ->Zde (XH w picks n).1 + n <=Zde w:=by
 intro n
 induction n with
 | zero=>intro _;exact Nat.le_refl _
 | succ n ih=>
   intro hn;have i1:=ih fun i hi=>hn i (by omega)
   have c:=hn n (by omega);have hk:=Zd6 c picks n;have:=ZwI (drI h picks n).wd.wm hk;show Zde (if(XH w picks n).1.wire= [] then XH w picks n else _).1 + (n + 1) <=_;rw [if_neg c];dsimp only;omega
theorem ZCb (h:Wd w) (picks:List Int):∃ n,n <=Zde w∧(XH w picks n).1.wire= []∧∀ i,i < n ->(XH w picks i).1.wire ≠ []:=by
 by_cases hz:∃ n,n <=Zde w∧(XH w picks n).1.wire= []
 ·obtain⟨n,hn,e⟩:=hz;obtain⟨m,hm,hc,hlt⟩:=QX (c:=fun i=>(XH w picks i).1.wire= []) e;exact⟨m,by omega,hc,hlt⟩
 ·have:=ZHT h picks (Zde w + 1) fun i hi q=>hz ⟨i,by omega,q⟩
  omega
end
end Go.Proofs.YtbmbbcaaimehkaaGreat
end
section
namespace Go.Proofs.YtbmbbcaaimehkaaGreat
open Go.Lf
section
variable {F:Nat} {w:Zb}
theorem ZtZ (h:Wm w) {k:Nat} (hk:k < w.wire.length):∃ tl,(Qs w k).1.wire= (Z5 w k).wire ++ tl∧tl.length <=2 * (owL [Zz w k]).length:=by
 rcases K4 h (x:=Zz w k) (Yl hk) with e | e | e
 ·rw [Zh8 e,Zd9 e];unfold Ql;split
  ·exact⟨[],by simp,by simp⟩
  ·split
   ·exact⟨[],by simp,by simp⟩
   ·refine⟨_,rfl,?_⟩;rw [List.length_cons];unfold told;split <;> simp
 ·rw [Zh7 e];exact⟨[],by rw [List.append_nil];exact(ZdB w k).2.1,by simp⟩
 ·rw [Zh6 e];exact⟨[],by rw [List.append_nil];exact(Za0 _ _).2.2.2.1,by simp⟩
theorem Zlo (h:Wd w):(owL w.wire).length <=40:=by
 have:=h.msg.length_eq;rw [Qm,← ZhJ,List.length_map] at this;have hs:=h.shr.sd2;unfold owes at this;rw [List.length_append,List.length_append] at this;omega
theorem Zjc {picks:List Int} {n:Nat} (c:(XH w picks n).1.wire ≠ []):XH w picks (n + 1)= ((Qs (XH w picks n).1 (Ww (XH w picks n).1 picks n)).1,(XH w picks n).2 ++ (Qs (XH w picks n).1 (Ww (XH w picks n).1 picks n)).2):=by
 show(if(XH w picks n).1.wire= [] then XH w picks n else _)=_;rw [if_neg c]
theorem ZQY (h:Wd w) (picks:List Int) {M:Nat} (hM:80 <=M) (hw:w.wire.length + picks.length <=M):∀ d,∃ old new,(XH w picks (picks.length + d)).1.wire=old ++ new∧old.length <=M∧new.length + 2 * (owL old).length <=80:=by
 intro d
 induction d with
 | zero=>
   have I:=drI h picks picks.length;have i2:=I.wire;have:=Zlo I.wd;exact⟨(XH w picks picks.length).1.wire,[],by simp,by omega,by simp;omega⟩
 | succ d ih=>
   have I:=drI h picks (picks.length + d);by_cases c:(XH w picks (picks.length + d)).1.wire= []
   ·have:XH w picks (picks.length + (d + 1))=XH w picks (picks.length + d):=by
     show(if(XH w picks (picks.length + d)).1.wire= [] then XH w picks (picks.length + d) else _)=_;rw [if_pos c]
    rw [this];exact ih
   ·have ih':∃ x old new,(XH w picks (picks.length + d)).1.wire=x::old ++ new∧(x::old).length <=M∧new.length + 2 * (owL (x::old)).length <=80:=by
     obtain⟨old,new,e,h1,h2⟩:=ih;cases old with
     | cons x old=>exact⟨x,old,new,e,h1,h2⟩
     | nil=>
       rw [List.nil_append] at e;have ol:=Zlo I.wd;rw [e] at ol c;cases new with
       | nil=>exact absurd rfl c
       | cons x new=>
         have h2':(x::new).length <=80:=by have:(x::new).length + 2 * (owL []).length <=80:=h2;omega
         exact⟨x,new,[],by rw [e,List.append_nil],by omega,by rw [List.length_nil];omega⟩
    obtain⟨x,old,new,e,h1,h2⟩:=ih';have hk:=Zd6 c picks (picks.length + d);have p0:Ww (XH w picks (picks.length + d)).1 picks (picks.length + d)=0:=by unfold Ww;rw [if_neg (by omega)]
    rw [p0] at hk;have e1:=Zjc c;rw [p0] at e1;obtain⟨tl,et,ht⟩:=ZtZ I.wd.wm hk
    have ed:(Z5 (XH w picks (picks.length + d)).1 0).wire=old ++ new:=by
     show(XH w picks (picks.length + d)).1.wire.take 0 ++ (XH w picks (picks.length + d)).1.wire.drop (0 + 1)=_;rw [e];rfl
    have ex:Zz (XH w picks (picks.length + d)).1 0=x:=by unfold Zz;rw [e];rfl
    rw [ed] at et;rw [ex] at ht;have o:owL (x::old)=owL [x] ++ owL old:=KZ [x] old;rw [o,List.length_append] at h2;rw [List.length_cons] at h1;refine⟨old,new ++ tl,?_,by omega,by rw [List.length_append];omega⟩;rw [show picks.length + (d + 1)=picks.length + d + 1 from rfl,e1,← List.append_assoc,← et]
theorem Ztg (h:Wd w) (picks:List Int) {M:Nat} (hM:80 <=M) (hw:w.wire.length + picks.length <=M) (n:Nat):(XH w picks n).1.wire.length <=M + 80:=by
 by_cases c:n < picks.length
 ·have:= (drI h picks n).wire;omega
 ·obtain⟨d,rfl⟩:∃ d,n=picks.length + d:= ⟨n - picks.length,by omega⟩
  obtain⟨old,new,e,h1,h2⟩:=ZQY h picks hM hw d;rw [e,List.length_append];omega
theorem ZnI {x:Int} (hx:0 <=x) {n:Nat} (hn:0 < n):Zqb x (n:Int)=some ((x.toNat % n:Nat):Int):=by
 unfold Zqb;rw [Ye,decide_eq_false (by omega),Cq0];obtain⟨k,rfl⟩:∃ k:Nat,x= (k:Int):= ⟨x.toNat,by omega⟩
 rw [Int.toNat_natCast,Int.ofNat_tmod]
def ZzU (picks:List Int):Prop:=picks.length <=80∧∀ x ∈ picks,0 <=x
theorem ZcP {picks:List Int}:((List.range picks.length).any fun k=>decide (picks.getD k 0 < 0))=true↔¬ ∀ x ∈ picks,0 <=x:=by
 rw [Zki picks (fun x=>decide (x < 0)) 0,List.any_eq_true]
 constructor
 ·rintro⟨x,hx,e⟩ z;have:=z x hx;simp at e;omega
 ·intro z;obtain⟨x,hx⟩:=Classical.not_forall.1 z;obtain⟨h1,h2⟩:=Classical.not_imp.1 hx;exact⟨x,h1,by simp;omega⟩
theorem ZOS {k n:Nat} (h:k < n) (hn:n <=9223372036854775807):Y6 ((k:Int) + 1)= ((k + 1:Nat):Int):=by rw [Zab (by omega) (by omega)];rfl
theorem ZtO {picks:List Int} (hF:picks.length < F) (hm:picks.length <=9223372036854775807):∃ b,Zzb F picks=some b∧(b=true↔ZzU picks):=by
 have e:=ZhY (body:=ZiW picks) (r1:=some false) (r2:=some (decide ((picks.length:Int) <=80))) (fun k=>(k:Int)) (fun k=>decide (picks.getD k 0 < 0)) (n:=picks.length) (F:=F) hF (fun k hk next=>by
  unfold ZiW;rw [ZF hk,Cq1,Yy 0 hk];simp only [Bq0];rw [ZOS hk hm]) (fun next=>by
  unfold ZiW;rw [ZN,Cq0])
 have e':Zzb F picks=_:=e;rw [e'];cases c:(List.range picks.length).any fun k=>decide (picks.getD k 0 < 0) with
 | true=>
   have:=ZcP.1 c;exact⟨false,rfl,⟨fun z=>(by cases z),fun z=>absurd z.2 this⟩⟩
 | false=>
   have:∀ x ∈ picks,0 <=x:=Classical.byContradiction fun z=>by rw [ZcP.2 z] at c;cases c
   refine⟨_,rfl,?_⟩;rw [decide_eq_true_eq];exact⟨fun z=>⟨by omega,this⟩,fun z=>by have:=z.1;omega⟩
theorem Zo4 (hF:400000 <=F) (hM:F <=1000000) (sm:Wi 400 w) {picks:List Int} (h:¬ (Wd w∧ZzU picks)):Zrj F w picks=some (Zcp,[],0,2):=by
 unfold Zrj;by_cases hw:Wd w
 ·rw [Zjf hF hM sm hw];simp only [Bq0];by_cases hl:picks.length <=80
  ·rw [decide_eq_false (show ¬ (picks.length:Int) > 80 by omega),Xw,Bool.or_self,Bool.not_false,Cq1];have hn:¬ ∀ x ∈ picks,0 <=x:=fun z=>h ⟨hw,hl,z⟩
   have e:=ZhY (body:=Zcm F w picks) (r1:=some (Zcp,[],0,2)) (r2:=KG F w picks (-1)) (fun k=>(k:Int)) (fun k=>decide (picks.getD k 0 < 0)) (n:=picks.length) (F:=F) (by omega) (fun k hk next=>by
    unfold Zcm;rw [ZF hk,Cq1,Yy 0 hk];simp only [Bq0]
    have:KG F w picks (k:Int)=some (Zcp,[],0,2):=by
     unfold KG;rw [decide_eq_true (by omega)];rfl
    rw [this,Yo (by omega)]) (fun next=>by
    unfold Zcm;rw [ZN,Cq0])
   rw [ZcP.2 hn,Cq1] at e;exact e
  ·rw [decide_eq_true (show(picks.length:Int) > 80 by omega),Bool.or_true];rfl
 ·rw [Zpa hF hM sm hw];rfl
theorem Zr7 (h:Wm w) (l:List Zc) (hl:∀ x ∈ l,x ∈ w.wire):JK w l <=60 * (owL l).length:=by
 induction l with
 | nil=>exact Nat.le_refl _
 | cons x l ih=>
   have i:=ih fun y hy=>hl y (List.mem_cons_of_mem _ hy)
   rw [show x::l= [x] ++ l from rfl,Kc,ZbC,KZ,List.length_append]
   have:U7 w x <=60 * (owL [x]).length:=by
    unfold U7;split
    ·rename_i e;rw [Zd9 e,List.length_singleton];have m:=h.mai x (hl x (by simp)) e;have a:=h.ZbD (p:=x.Zl.place.toNat) (by have:=m.1;have:=m.2.1;omega);have b:=m.2.2.2.2.1.1;omega
    ·omega
   omega
theorem ZrE (h:Wd w):Zde w <=w.wire.length + 2400:=by
 have:=Zr7 h.wm w.wire fun x hx=>hx
 have:=Zlo h;unfold Zde;omega
theorem ZAA {l:List Zc} (k:Nat):(owL (l.take k)).length <= (owL l).length:=by
 have:=congrArg (fun l=>(owL l).length) (List.take_append_drop k l);simp only [KZ,List.length_append] at this;omega
theorem Zrp (hF:400000 <=F) (hM:F <=1000000) (h:Wd w) (hw:w.wire.length < 400) {picks:List Int} (hp:ZzU picks) {n:Nat} (hn:n <=Zde w) (he:(XH w picks n).1.wire= []) (hlt:∀ i,i < n ->(XH w picks i).1.wire ≠ []):
 Zrj F w picks=some ((XH w picks n).1,(XH w picks n).2,(n:Int),0):=by
 have sm:Wi 400 w:=WZ h (by omega) hw;have hl:=hp.1;have hb:=ZrE h;unfold Zrj;rw [Zjf hF hM sm h];simp only [Bq0];rw [decide_eq_false (show ¬ (picks.length:Int) > 80 by omega),Xw,Bool.or_self,Bool.not_false,Cq1]
 have e:=ZhY (body:=Zcm F w picks) (r1:=some (Zcp,[],0,2)) (r2:=KG F w picks (-1)) (fun k=>(k:Int)) (fun k=>decide (picks.getD k 0 < 0)) (n:=picks.length) (F:=F) (by omega) (fun k hk next=>by
  unfold Zcm;rw [ZF hk,Cq1,Yy 0 hk];simp only [Bq0]
  have:KG F w picks (k:Int)=some (Zcp,[],0,2):=by
   unfold KG;rw [decide_eq_true (by omega)];rfl
  rw [this,Yo (by omega)]) (fun next=>by
  unfold Zcm;rw [ZN,Cq0])
 have c:((List.range picks.length).any fun k=>decide (picks.getD k 0 < 0))=false:=by
  rw [← Bool.not_eq_true];exact fun z=>ZcP.1 z hp.2
 rw [c,Cq0] at e;refine Eq.trans e ?_;unfold KG;rw [decide_eq_false (by omega),Cq0,ZuB (by omega) (sm.mono (by omega))];simp only [Bq0];refine Ya (fun k=>((k:Int),(XH w picks k).1.ZA,(XH w picks k).1.boxes,(XH w picks k).1.entries,(XH w picks k).1.held,(XH w picks k).1.wire,(XH w picks k).1.said,(XH w picks k).2)) rfl (n:=n) (by omega) (fun k hk next=>?_) (fun next=>?_)
 ·have I:=drI h picks k;have i1:=I.ev;have cw:=hlt k hk;have hwl:=Ztg h picks (M:=500) (by omega) (by omega) k;have smk:Wi 900 (XH w picks k).1:=WZ I.wd (by omega) (by omega);have hpos:=List.length_pos_iff.2 cw;have hk':=Zd6 cw picks k;have lp:=Zt0 (F:=F) (by omega) I.wd smk hk' (ev:= (XH w picks k).2) (by omega);have es:=Zjc cw;unfold Zmr;dsimp only;rw [decide_eq_true (show((XH w picks k).1.wire.length:Int) > 0 by omega),Cq1]
  have fin:ZfD F (k:Int) (XH w picks k).1.ZA (XH w picks k).1.boxes (XH w picks k).1.entries (XH w picks k).1.held (XH w picks k).1.wire (XH w picks k).1.said (XH w picks k).2 next (Ww (XH w picks k).1 picks k:Int)=next (((k + 1:Nat):Int),(XH w picks (k + 1)).1.ZA,(XH w picks (k + 1)).1.boxes,(XH w picks (k + 1)).1.entries,(XH w picks (k + 1)).1.held,(XH w picks (k + 1)).1.wire,(XH w picks (k + 1)).1.said,(XH w picks (k + 1)).2):=by
   unfold ZfD;show((Zur F ⟨(XH w picks k).1,(XH w picks k).2⟩ (Ww (XH w picks k).1 picks k:Int)).bind _)=_;rw [lp,es];simp only [Bq0];rw [Yo (by omega)]
  rw [← fin];by_cases cp:k < picks.length
  ·rw [ZF cp,Cq1,Yy 0 cp];simp only [Bq0];rw [ZnI (hp.2 _ (Yl cp)) hpos];simp only [Bq0];unfold Ww;rw [if_pos cp]
  ·rw [decide_eq_false (by omega),Cq0];unfold Ww;rw [if_neg cp];rfl
 ·unfold Zmr;dsimp only;rw [decide_eq_false (show ¬ ((XH w picks n).1.wire.length:Int) > 0 by rw [he];simp),Cq0]
theorem Zuz (hF:400000 <=F) (hM:F <=1000000) (h:Wd w) (hw:w.wire.length < 400) {picks:List Int} (hp:ZzU picks) {n:Nat} (hn:n <=Zde w) (he:(XH w picks n).1.wire= []) (hlt:∀ i,i < n ->(XH w picks i).1.wire ≠ []):
 Zza F w picks=some ((XH w picks n).1,(XH w picks n).2,(n:Int)):=by
 have sm:Wi 400 w:=WZ h (by omega) hw;have hl:=hp.1;have hb:=ZrE h;unfold Zza;rw [Zzm (by omega) (sm.mono (by omega))];simp only [Bq0];refine Ya (fun k=>((XH w picks k).2,(k:Int),(XH w picks k).1.ZA,(XH w picks k).1.boxes,(XH w picks k).1.entries,(XH w picks k).1.held,(XH w picks k).1.wire,(XH w picks k).1.said)) rfl (n:=n) (by omega) (fun k hk next=>?_) (fun next=>?_)
 ·have I:=drI h picks k;have i1:=I.ev;have cw:=hlt k hk;have hwl:=Ztg h picks (M:=500) (by omega) (by omega) k;have smk:Wi 900 (XH w picks k).1:=WZ I.wd (by omega) (by omega);have hpos:=List.length_pos_iff.2 cw;have hk':=Zd6 cw picks k;have lp:=ZwH (F:=F) (by omega) I.wd smk hk';have le:=Zn2 I.wd hk';have es:=Zjc cw;unfold Zmn;dsimp only;rw [decide_eq_true (show((XH w picks k).1.wire.length:Int) > 0 by omega),Cq1]
  have fin:Zfy F (XH w picks k).2 (k:Int) (XH w picks k).1.ZA (XH w picks k).1.boxes (XH w picks k).1.entries (XH w picks k).1.held (XH w picks k).1.wire (XH w picks k).1.said next (Ww (XH w picks k).1 picks k:Int)=next ((XH w picks (k + 1)).2,((k + 1:Nat):Int),(XH w picks (k + 1)).1.ZA,(XH w picks (k + 1)).1.boxes,(XH w picks (k + 1)).1.entries,(XH w picks (k + 1)).1.held,(XH w picks (k + 1)).1.wire,(XH w picks (k + 1)).1.said):=by
   unfold Zfy;show((Zus F (XH w picks k).1 (Ww (XH w picks k).1 picks k:Int)).bind _)=_;rw [lp,es];simp only [Bq0];rw [ZfZ (by omega) (by omega)];simp only [Bq0];rw [Yo (by omega)]
  rw [← fin];by_cases cp:k < picks.length
  ·rw [ZF cp,Cq1,Yy 0 cp];simp only [Bq0];rw [ZnI (hp.2 _ (Yl cp)) hpos];simp only [Bq0];unfold Ww;rw [if_pos cp]
  ·rw [decide_eq_false (by omega),Cq0];unfold Ww;rw [if_neg cp];rfl
 ·unfold Zmn;dsimp only;rw [decide_eq_false (show ¬ ((XH w picks n).1.wire.length:Int) > 0 by rw [he];simp),Cq0]
theorem Ze2 {k:Nat} (hk:k < w.wire.length):JK w (w.wire.take (k + 1))=JK w (w.wire.take k) + U7 w (Zz w k):=by
 rw [List.take_succ_eq_append_getElem hk,Kc,ZbC,show Zz w k=w.wire[k] from JD hk]
def stB (w:Zb) (k:Nat):Int×Int:= (((w.wire.length + JK w (w.wire.take k):Nat):Int),(k:Int))
theorem Zjj (h:Wd w) {k:Nat} (hk:k < w.wire.length) (hw:w.wire.length < 400) (e:(Zz w k).kind=1):
 Y6 (((w.wire.length + JK w (w.wire.take k):Nat):Int) + Y6 (2 * Y6 ((sp w (Zz w k).Zl.place.toNat).age - (Zz w k).Zl.age)))= ((w.wire.length + JK w (w.wire.take (k + 1)):Nat):Int)∧(Zz w k).Zl.place= ((Zz w k).Zl.place.toNat:Int)∧(Zz w k).Zl.place.toNat < w.ZA.length:=by
 have m:=h.mai (Zz w k) (Yl hk) e;have m1:=m.1;have m2:=m.2.1;have a:=h.wm.ZbD (p:= (Zz w k).Zl.place.toNat) (by omega);have b1:=m.2.2.2.2.1.1;have b2:=m.2.2.2.2.1.2.1;have s:=Zr7 h.wm (w.wire.take k) fun x hx=>List.mem_of_mem_take hx
 have s2:=ZAA (l:=w.wire) k;have s3:=Zlo h;refine⟨?_,by omega,by omega⟩;rw [Zab (n:= (sp w (Zz w k).Zl.place.toNat).age - (Zz w k).Zl.age) (by omega) (by omega),Zab (n:=2 * _) (by omega) (by omega),Zab (by omega) (by omega),Ze2 hk];unfold U7;rw [if_pos e];omega
theorem ZrC (hF:400000 <=F) (hM:F <=1000000) (h:Wd w) (hw:w.wire.length < 400):Zri F w=some ((Zde w:Int),0):=by
 have sm:Wi 400 w:=WZ h (by omega) hw;unfold Zri;rw [Zjf hF hM sm h];simp only [Bq0];rw [Xw,Cq0];refine Ya (stB w) (by unfold stB;simp [JK]) (n:=w.wire.length) (by omega) (fun k hk next=>?_) (fun next=>?_)
 ·unfold stB Zmp;dsimp only;rw [ZF hk,Cq1,ZcU hk];simp only [Bq0];by_cases e:(Zz w k).kind=1
  ·have b:=Zjj h hk hw e;rw [Ye,decide_eq_true e,Cq1,b.2.1,Zvh (by omega) hM h (sm.mono (by omega)) b.2.2];simp only [Bq0];unfold ZfA;rw [b.1,Yo (by omega)]
  ·rw [Ye,decide_eq_false e,Cq0];unfold ZfA;rw [Yo (by omega),Ze2 hk];unfold U7;rw [if_neg e];rfl
 ·unfold stB Zmp;dsimp only;rw [ZN,Cq0,List.take_of_length_le (Nat.le_refl _)];rfl
theorem Zk1 (hF:400000 <=F) (hM:F <=1000000) (h:Wd w) (hw:w.wire.length < 400):Zut F w=some (Zde w:Int):=by
 have sm:Wi 400 w:=WZ h (by omega) hw;unfold Zut;refine Ya (stB w) (by unfold stB;simp [JK]) (n:=w.wire.length) (by omega) (fun k hk next=>?_) (fun next=>?_)
 ·unfold stB Zmo;dsimp only;rw [ZF hk,Cq1,ZcU hk];simp only [Bq0];by_cases e:(Zz w k).kind=1
  ·have b:=Zjj h hk hw e;have ag:=ZNS h (Zz w k).Zl.place.toNat;rw [Ye,decide_eq_true e,Cq1,b.2.1,ZBZ (by omega) h (sm.mono (by omega)) b.2.2];simp only [Bq0];unfold Zfz;rw [ag,b.1,Yo (by omega)]
  ·rw [Ye,decide_eq_false e,Cq0];unfold Zfz;rw [Yo (by omega),Ze2 hk];unfold U7;rw [if_neg e];rfl
 ·unfold stB Zmo;dsimp only;rw [ZN,Cq0,List.take_of_length_le (Nat.le_refl _)];rfl
theorem Zzv (hF:400000 <=F) (hM:F <=1000000) (sm:Wi 400 w) (h:¬ Wd w):Zri F w=some (0,2):=by
 unfold Zri;rw [Zpa hF hM sm h];rfl
theorem ZgT (F:Nat) (hF:400000 <=F) (hM:F <=1000000) (w:Zb) (picks:List Int):Zzh F w picks=some true:=by
 obtain⟨b,eb,ib⟩:=ZvC hF w;unfold Zzh;rw [eb];simp only [Bq0];cases b with
 | false=>rfl
 | true=>
 have sm0:=ib rfl;have sm:=sm0.mono (show 201 <=400 by omega);have hwl:=sm0.wire;by_cases ZGY:(picks.length:Int) > 100
 ·rw [decide_eq_true ZGY];rfl
 rw [decide_eq_false ZGY,Bool.not_true,Bool.or_self,Cq0];obtain⟨c,ec,ic⟩:=ZtO (F:=F) (picks:=picks) (by omega) (by omega);by_cases h:Wd w
 ·rw [ZrC hF hM h (by omega)];simp only [Bq0];rw [Zvf hF sm h];by_cases hp:ZzU picks
  ·obtain⟨n,hn,he,hlt⟩:=ZCb h picks;have I:=drI h picks n;have i1:=I.ev;have hb:=ZrE h;rw [Zrp hF hM h (by omega) hp hn he hlt];simp only [Bq0];rw [Bool.not_true,Cq0,Xw,Bool.not_false,Yz,Zk1 hF hM h (by omega)];simp only [Bq0];rw [Xw,Bool.or_self,Cq0,ec,ic.2 hp];simp only [Bq0];rw [Bool.not_true,Cq0,Zuz hF hM h (by omega) hp hn he hlt];simp only [Bq0];rw [beq_self_eq_true,Yz,Zku (WZ I.wd (n:=400) (by omega) (by rw [he];simp)) (by omega) hM];simp only [Bq0,Bool.and_self,Yz];rw [ZoT (by omega) hM];simp only [Bq0];rw [beq_self_eq_true,decide_eq_true (show(n:Int) <= (Zde w:Int) by omega)]
   rfl
  ·rw [Zo4 hF hM sm fun z=>hp z.2];simp only [Bq0];rw [Bool.not_true,Cq0,Xw,Bool.not_false,Yz,Zk1 hF hM h (by omega)];simp only [Bq0]
   have:c=false:=by
    cases c with
    | false=>rfl
    | true=>exact absurd (ic.1 rfl) hp
   rw [Xw,Bool.or_self,Cq0,ec,this];simp only [Bq0];rw [Bool.not_false,Cq1,beq_self_eq_true,Yz,ZhO hF hM]
   rfl
 ·rw [Zzv hF hM sm h,Zo4 hF hM sm fun z=>h z.1];simp only [Bq0];rw [Zvg hF sm h];simp only [Bq0];rw [Bool.not_false,Cq1];simp only [beq_self_eq_true,Bool.and_self,Yz];rw [ZhO hF hM]
  rfl
end
end Go.Proofs.YtbmbbcaaimehkaaGreat
end
