/- Plays Part 16 of the proof. -/
import Derived.Test.YtcnahmgekicbdaaGreatPa15
set_option linter.all false
set_option maxHeartbeats 2000000
section
namespace Go.Proofs.YtcnahmgekicbdaaGreat
open Go.Lf
section
def SD (σ:TS):Prop:=0 <=σ.sd∧σ.sd <= (σ.ev.length:Int)
structure Ok (s:Zc) (B:Nat) (σ:TS):Prop where
 gd:Gd s B σ
 p1:P1 s σ
 p2:P2 s σ
 ki:KI s σ
 sd:SD σ
section
variable {s:Zc} {σ τ υ:TS} {F B a b p q w i n d:Nat} {x:XC}
theorem SD.of (h:SD σ) (h1:τ.sd=σ.sd) (h2:σ.ev.length <=τ.ev.length):SD τ:= ⟨by rw [h1];exact h.1,by rw [h1];have:=h.2;omega⟩
theorem ZzE (p q:Nat) (n:Int) (σ:TS):σ.ev.length <= (see p q n σ).ev.length:=by
 unfold see;split
 ·show _ <= (σ.ev ++ [_]).length;rw [List.length_append];omega
 ·exact Nat.le_refl _
theorem SD.act (h:SD σ) (ac:Act s σ τ):SD τ:=by
 cases ac with
 | fall=>exact h.of rfl (by show _ <= (σ.ev ++ [_]).length;rw [List.length_append];omega)
 | ZlO=>exact h
 | @die p hp h2 hA=>
   have sA:=KX (s:=s) p σ;have:SD (Qd s p σ):=h.of sA.2.2.2.1 (by rw [sA.2.2.2.2.1,List.length_append];omega);unfold Zg7;split
   ·exact this
   ·split
    ·exact this
    ·exact this
 | @ZwV p q hp hq=>
   have e:=ZbK q p σ.sd (kK p q σ);have e2:=ZzE q p σ.sd (kK p q σ);have e3:(kK p q σ).ev.length=σ.ev.length + 1:=by show(σ.ev ++ [_]).length=_;simp
   refine⟨?_,?_⟩
   ·rw [e.2.2.2.2.2.2.2];show 0 <=σ.sd + 1;have:=h.1;omega
   ·rw [e.2.2.2.2.2.2.2];show σ.sd + 1 <=_;have:=h.2;omega
 | @ZwU p q=>
   have e3:(kK p q σ).ev.length=σ.ev.length + 1:=by show(σ.ev ++ [_]).length=_;simp
   exact⟨by show 0 <=σ.sd + 1;have:=h.1;omega,by show σ.sd + 1 <= ((kK p q σ).ev.length:Int);have:=h.2;omega⟩
 | @ZwK p q=>
   have e:=ZaF (s:=s) p q (tell 3 p q 0 σ);exact h.of e.2.2.2.2.1 (by rw [e.2.2.2.2.2];show _ <= (σ.ev ++ [_]).length;rw [List.length_append];omega)
 | ZwJ=>exact h.of rfl (by show _ <= (σ.ev ++ [_]).length;rw [List.length_append];omega)
 | @Zxi a b p q=>exact h.of (ZbK q p (hd σ (li s a b)).n (drop1 (li s a b) σ)).2.2.2.2.2.2.2 (ZzE q p (hd σ (li s a b)).n (drop1 (li s a b) σ))
 | @Zxl a b p q=>have e:=ZaF (s:=s) p q (drop1 (li s a b) σ);exact h.of e.2.2.2.2.1 (by rw [e.2.2.2.2.2];exact Nat.le_refl _)
 | Zxj=>exact h
 | Zqk=>exact h
 | Zxk=>exact h
 | @ring w i=>
   refine h.of (ZaD s w i σ).2.2.2.2.2.2.2 ?_;unfold rung;split
   ·show _ <= (σ.ev ++ [_]).length;rw [List.length_append];omega
   ·exact Nat.le_refl _
theorem Ok.acts (hS:QN s) (h:Ok s B σ) (ha:U0 s σ τ) {B':Nat} (g:Gd s B' τ):Ok s B' τ:=by
 have:=ha.keep (P:=fun σ=>P1 s σ∧P2 s σ∧KI s σ∧SD σ) (fun _ _ ⟨a,b,c,d⟩ ac=>⟨a.act hS ac,b.act hS ac,c.act hS b ac,d.act ac⟩) ⟨h.p1,h.p2,h.ki,h.sd⟩;exact⟨g,this.1,this.2.1,this.2.2.1,this.2.2.2⟩
theorem Ok.head (h:Ok s B σ) (ha:a < mm s) (hb:b < mm s) (hl:σ.ld (li s a b) < (σ.sn (li s a b)).length):ZE8 s a b (hd σ (li s a b))∧Zu3 s (hd σ (li s a b)) σ:=by
 have hx:=h.p1.lets a b ha hb _ (ZCs hl);refine⟨hx,fun hk=>?_⟩
 have hh:(σ.sn (li s a b))[σ.ld (li s a b)]? =some (hd σ (li s a b)):=by
  unfold hd;rw [List.getD_eq_getElem?_getD,List.getElem?_eq_getElem hl];rfl
 obtain⟨k,e1,e2,e3,e4⟩:=h.ki.k1 _ _ _ hh hk;rw [e1,Int.toNat_natCast];exact⟨e3,fun m=>absurd (e4.1 m) (Nat.lt_irrefl _)⟩
theorem Zh9 (h:Gd s B σ) (p q:Nat):Gd s (B + 1) (kK p q σ):=
 ⟨(Wf.tell (σ:= {σ with sd:=σ.sd + 1}) ⟨h.wf.pot,h.wf.ld,h.wf.ws⟩ 1 p q σ.sd),⟨h.kn.srt,h.kn.rng⟩⟩
theorem Zh5 (h:Gd s B σ) (d p q n:Int):Gd s (B + 1) (tell d p q n σ):= ⟨h.wf.tell d p q n,⟨h.kn.srt,h.kn.rng⟩⟩
theorem Zu9 (h:Gd s B σ) (ha:a < mm s) (hb:b < mm s) (x:Zd):Gd s (B + 1 + ew x) (send s a b x σ):= ⟨h.wf.send ha hb x,⟨h.kn.srt,h.kn.rng⟩⟩
theorem Zf1 (hS:QN s) (h:Ok s B σ) (hx:Zed s x σ):Gd s (B + 4) (ZaN s x σ)∧U0 s σ (ZaN s x σ):=by
 unfold ZaN;rcases hx with⟨k,p,q,ep,eq,hp,hq,h1⟩ | ⟨k,p,q,ep,eq,hp,hq,h1⟩ | ⟨k,p,ep,hp,h1⟩ | ⟨k,a,b,ea,eb,ha,hb,hl⟩
 ·rw [if_pos k,ep,eq,Int.toNat_natCast,Int.toNat_natCast];by_cases e:pl s p=pl s q
  ·rw [if_pos e];exact⟨(ZzD (Zh9 h.gd p q) q p σ.sd).up (by omega),.one (.ZwV hp hq h1 e)⟩
  ·rw [if_neg e];exact⟨(Zu9 (Zh9 h.gd p q) (hS.pl hp).2 (hS.pl hq).2 _).up (by show B + 1 + 1 + 1 <=B + 4;omega),.one (.ZwU hp hq h1 e)⟩
 ·rw [if_neg (by omega),if_pos k,ep,eq,Int.toNat_natCast,Int.toNat_natCast];by_cases e:pl s p=pl s q
  ·rw [if_pos e];exact⟨(Zvq hS (Zh5 h.gd 3 p q 0) hp hq).up (by omega),.one (.ZwK hp hq h1 e)⟩
  ·rw [if_neg e];exact⟨(Zu9 (Zh5 h.gd 3 p q 0) (hS.pl hp).2 (hS.pl hq).2 _).up (by show B + 1 + 1 + 2 <=B + 4;omega),.one (.ZwJ hp hq h1 e)⟩
 ·rw [if_neg (by omega),if_neg (by omega),if_pos k,ep,Int.toNat_natCast];exact⟨(Zik hS _ _ _ _ hp (KL.all hS.inn) h.gd h1).up (by omega),Zmo hS _ _ _ hp (KL.all hS.inn) h1⟩
 ·rw [if_neg (by omega),if_neg (by omega),if_neg (by omega),ea,eb,Int.toNat_natCast,Int.toNat_natCast];obtain⟨hf,hD⟩:=h.head ha hb hl;exact⟨(ZBc hS h.gd ha hb hl hf.s hD).up (by omega),Zxh hS ha hb hl hf.s hD⟩
theorem P1.ZHT (h:P1 s σ):BeA s σ:=fun w hw x hx=>(h.bea w hw x hx).1
theorem step_ok (hS:QN s) (h:Ok s B σ) (hx:Zed s x σ):Ok s (B + 4) (stepW s x σ):=by
 obtain⟨g,ac⟩:=Zf1 hS h hx;have o1:=h.acts hS ac g;exact o1.acts hS (Zi0 (mm s) (Nat.le_refl _)) (ZiZ g o1.p1.ZHT (mm s) (Nat.le_refl _)).1
theorem ZwP (hS:QN s) (h:Ok s B σ) (hx:Zed s x σ):U0 s σ (stepW s x σ):= (Zf1 hS h hx).2.trans (Zi0 (mm s) (Nat.le_refl _))
theorem ZsI (hF:1000000 <=F) (hS:QN s) (hB:B <=600000) (h:Gd s B σ) (hb:BeA s σ):Zb8 F (Zb5 s σ)=some (hal s (rings s (mm s) σ)):=by
 have h4:=hS.mm.2.2;unfold Zb8;rw [show Zb5 s σ= (tab (nn s) σ.st,(tab (nn s) fun j=>tab (mm s * mm s) (σ.ma j)),tab (nn s) σ.kn,tab (nn s) σ.wa,tab (mm s) σ.be,tab (mm s * mm s) (Ju σ),σ.sd,s.qG,s.Zi,σ.ev) from rfl];dsimp only;refine XB (fun k=>((k:Int),Zb5 s (rings s k σ))) rfl (n:=mm s) (by omega) (fun k hk next=>?_) (fun next=>?_)
 ·obtain⟨g1,g2⟩:=ZiZ h hb k (by omega);have hl7:((rings s k σ).be k).length <=600000:=by have:=g1.wf.pot;have:=Ub (f:=fun m=>((rings s k σ).be m).length) hk;unfold Pot at *;omega
  unfold Zoc;rw [show Zb5 s (rings s k σ)= (tab (nn s) (rings s k σ).st,(tab (nn s) fun j=>tab (mm s * mm s) ((rings s k σ).ma j)),tab (nn s) (rings s k σ).kn,tab (nn s) (rings s k σ).wa,tab (mm s) (rings s k σ).be,tab (mm s * mm s) (Ju (rings s k σ)),(rings s k σ).sd,s.qG,s.Zi,(rings s k σ).ev) from rfl];dsimp only;rw [Zbq hS hk,Cq1,ZqR];unfold ZG9;rw [show loop F (ZeF F (k:Int)) ((hal s (rings s k σ)).Za.qV,(hal s (rings s k σ)).Za.qX,(hal s (rings s k σ)).Za.qZ,(hal s (rings s k σ)).Za.Zh,(hal s (rings s k σ)).Za.Zt,(hal s (rings s k σ)).Za.kQ,(hal s (rings s k σ)).Za.kK,(hal s (rings s k σ)).qK.qG,(hal s (rings s k σ)).qK.Zi,(hal s (rings s k σ)).kU)=some (hal s (rings s (k + 1) σ)) from ZwX hF hS hB hk _ F (rings s k σ) (by omega) (Nat.le_refl _) g1 g2];simp only [Bq0];rw [Qg (by omega)];rfl
 ·unfold Zoc Zb5;dsimp only;rw [ZfB hS,Cq0];rfl
theorem ZwO (hF:1000000 <=F) (hS:QN s) (hB:B <=500000) (h:Ok s B σ) (hx:Zed s x σ):ZDN F (hal s σ) x=some (hal s (stepW s x σ)):=by
 obtain⟨g,ac⟩:=Zf1 hS h hx;have o1:=h.acts hS ac g;have fin:=ZsI (F:=F) hF hS (by omega) g o1.p1.ZHT;unfold stepW;have fw:=h.gd.wf.few (by omega);have hsd:=h.sd;have hev:=fw.ev;unfold ZDN;simp only [Xo];unfold ZaN at fin ⊢;rcases hx with⟨k,p,q,ep,eq,hp,hq,h1⟩ | ⟨k,p,q,ep,eq,hp,hq,h1⟩ | ⟨k,p,ep,hp,h1⟩ | ⟨k,a,b,ea,eb,ha,hb,hl⟩
 ·rw [if_pos k,ep,eq,Int.toNat_natCast,Int.toNat_natCast] at fin ⊢;have es:Ye (σ.sd + 1)=σ.sd + 1:=ZbH (by have:=hsd.1;omega) (by have:=hsd.2;omega);rw [decide_eq_true k,Cq1,show(hal s σ).Za.kK=σ.sd from rfl,K6 fw];simp only [Bq0]
  have e5:Z7.mk (Zf.mk (hal s (tell 1 p q σ.sd σ)).Za.qV (hal s (tell 1 p q σ.sd σ)).Za.qX (hal s (tell 1 p q σ.sd σ)).Za.qZ (hal s (tell 1 p q σ.sd σ)).Za.Zh (hal s (tell 1 p q σ.sd σ)).Za.Zt (hal s (tell 1 p q σ.sd σ)).Za.kQ (Ye ((hal s (tell 1 p q σ.sd σ)).Za.kK + 1))) (hal s (tell 1 p q σ.sd σ)).qK (hal s (tell 1 p q σ.sd σ)).kU=hal s (kK p q σ):=by
   rw [show(hal s (tell 1 p q σ.sd σ)).Za.kK=σ.sd from rfl,es];rfl
  have gs:=Zh9 h.gd p q;rw [e5,Wz hS hp,Wz hS hq];simp only [Bq0];rw [show decide (((pl s p:Nat):Int)= ((pl s q:Nat):Int))=decide (pl s p=pl s q) by rw [← Xo];exact Wx _ _];by_cases e:pl s p=pl s q
  ·rw [if_pos e] at fin ⊢;rw [decide_eq_true e,Cq1,ZpE (gs.wf.few (by omega)) rfl hq];exact fin
  ·rw [if_neg e] at fin ⊢;rw [decide_eq_false e,Cq0,Zbk hS (gs.wf.few (by omega)) (hS.pl hp).2 (hS.pl hq).2];exact fin
 ·rw [if_neg (by omega),if_pos k,ep,eq,Int.toNat_natCast,Int.toNat_natCast] at fin ⊢;rw [decide_eq_false (by omega),Cq0,decide_eq_true k,Cq1,K6 fw];simp only [Bq0];have gs:=Zh5 h.gd 3 p q 0;rw [Wz hS hp,Wz hS hq];simp only [Bq0];rw [show decide (((pl s p:Nat):Int)= ((pl s q:Nat):Int))=decide (pl s p=pl s q) by rw [← Xo];exact Wx _ _];by_cases e:pl s p=pl s q
  ·rw [if_pos e] at fin ⊢;rw [decide_eq_true e,Cq1,Zl4 hS (gs.wf.few (by omega)) rfl rfl hp hq];exact fin
  ·rw [if_neg e] at fin ⊢;rw [decide_eq_false e,Cq0,Zbk hS (gs.wf.few (by omega)) (hS.pl hp).2 (hS.pl hq).2];exact fin
 ·rw [if_neg (by omega),if_neg (by omega),if_pos k,ep,Int.toNat_natCast] at fin ⊢;rw [decide_eq_false (by omega),Cq0,decide_eq_false (by omega),Cq0,decide_eq_true k,Cq1];unfold ZDD;have h8:nn s <=8:=hS.p2;rw [Zmn hF hS (nn s) _ _ F _ (by omega) hp (KL.all hS.inn) h.gd (by omega) h1];exact fin
 ·rw [if_neg (by omega),if_neg (by omega),if_neg (by omega),ea,eb,Int.toNat_natCast,Int.toNat_natCast] at fin ⊢;obtain⟨hf,hD⟩:=h.head ha hb hl;rw [decide_eq_false (by omega),Cq0,decide_eq_false (by omega),Cq0,decide_eq_false (by omega),Cq0,decide_eq_true k,Cq1,Zxg hF hS h.gd (by omega) ha hb hl hf.s hD];exact fin
end
end
section
section
variable {s:Zc} {σ τ υ:TS} {F B a b p q w i n d:Nat} {x:XC}
theorem Zfs {z:Int} (h:¬ ∃ k:Nat,z= (k:Int)∧k < nn s):(decide (z >=0) && decide (z < (s.Zi.length:Int)))=false:=Bool.eq_false_iff.2 fun e=>h ((Zl1 s z).1 e)
theorem ZY2 (h:σ.ld i <= (σ.sn i).length):(((Ju σ i).kG.length:Int)==0)=decide (¬ σ.ld i < (σ.sn i).length):=by
 have e:(Ju σ i).kG.length= (σ.sn i).length - σ.ld i:=by show((σ.sn i).drop (σ.ld i)).length=_;rw [List.length_drop]
 rw [Xo,e];congr 1;rw [eq_iff_iff];omega
theorem ZY1 (h:σ.ld i <= (σ.sn i).length):decide (((Ju σ i).kG.length:Int) > 0)=decide (σ.ld i < (σ.sn i).length):=by
 have e:(Ju σ i).kG.length= (σ.sn i).length - σ.ld i:=by show((σ.sn i).drop (σ.ld i)).length=_;rw [List.length_drop]
 rw [e];congr 1;rw [eq_iff_iff];omega
theorem Kr (hS:QN s) {z:Int}:(0 <=z∧z < s.qG)↔∃ k:Nat,z= (k:Int)∧k < mm s:=by
 rw [hS.mm.1]
 constructor
 ·rintro⟨h1,h2⟩;exact⟨z.toNat,by omega,by omega⟩
 ·rintro⟨k,rfl,h⟩;omega
theorem ZOD (hF:1000000 <=F) (hS:QN s) (hB:B <=500000) (h:Ok s B σ):ZDP F (XZ s σ) x=ifc (Zed s x σ) (some (XZ s (stepW s x σ),true)) (some (XZ s σ,false)):=by
 have fw:=h.gd.wf.few (by omega);have hsd:=h.sd;have hev:=fw.ev;unfold ZDP;by_cases k4:x.act=4
 ·rw [show(x.act==4)=true by rw [k4];rfl,Cq1,show(XZ s σ).s.qG=s.qG from rfl];by_cases hr:(0 <=x.a∧x.a < s.qG)∧(0 <=x.b∧x.b < s.qG)
  ·have:(!((((decide (x.a < 0)) || (decide (x.a >=s.qG))) || (decide (x.b < 0))) || (decide (x.b >=s.qG))))=true:=by
    rw [decide_eq_false (by omega),decide_eq_false (by omega),decide_eq_false (by omega),decide_eq_false (by omega)];rfl
   rw [this,Cq1];obtain⟨a,ea,ha⟩:= (Kr hS).1 hr.1;obtain⟨b,eb,hb⟩:= (Kr hS).1 hr.2;have hi:=KN ha hb;rw [ea,eb,Uw hS ha hb,show(XZ s σ).w.kQ=tab (mm s * mm s) (Ju σ) from rfl,Z5 hi];simp only [Bq0];rw [ZY2 (h.p2.ld _)];by_cases hl:σ.ld (li s a b) < (σ.sn (li s a b)).length
   ·have hA:Zed s x σ:= .inr (.inr (.inr ⟨k4,a,b,ea,eb,ha,hb,hl⟩));obtain⟨g,ac⟩:=Zf1 hS h hA;have o1:=h.acts hS ac g;obtain⟨hf,hD⟩:=h.head ha hb hl;rw [decide_eq_false (fun z=>z hl),Cq0,Yk hA,ZBa hF hS h.gd (by omega) ha hb hl hf.s hD];simp only [Bq0]
    have ec:ZaN s x σ=ZfF s a b σ:=by
     unfold ZaN;rw [if_neg (by omega),if_neg (by omega),if_neg (by omega),ea,eb,Int.toNat_natCast,Int.toNat_natCast]
    rw [ec] at g o1;rw [ZlT hF hS (by omega) g o1.p1.ZHT];simp only [Bq0];unfold stepW;rw [ec]
   ·rw [decide_eq_true hl,Cq1,Z9];rintro(⟨k',_⟩ | ⟨k',_⟩ | ⟨k',_⟩ | ⟨_,a',b',e1,e2,_,_,h'⟩)
    ·omega
    ·omega
    ·omega
    ·have:a'=a:=by omega
     have:b'=b:=by omega
     subst a' b';exact hl h'
  ·have:(!((((decide (x.a < 0)) || (decide (x.a >=s.qG))) || (decide (x.b < 0))) || (decide (x.b >=s.qG))))=false:=by
    rw [Bool.not_eq_false',Bool.or_eq_true,Bool.or_eq_true,Bool.or_eq_true,decide_eq_true_eq,decide_eq_true_eq,decide_eq_true_eq,decide_eq_true_eq];omega
   rw [this,Cq0,Z9];rintro(⟨k',_⟩ | ⟨k',_⟩ | ⟨k',_⟩ | ⟨_,a',b',e1,e2,h1,h2,h'⟩)
   ·omega
   ·omega
   ·omega
   ·exact hr ⟨(Kr hS).2 ⟨a',e1,h1⟩,(Kr hS).2 ⟨b',e2,h2⟩⟩
 ·rw [show(x.act==4)=false by rw [Xo];exact decide_eq_false k4,Cq0];unfold ZxO;rw [show(XZ s σ).s=s from rfl];simp only [Bq0];by_cases hp:¬ ∃ p:Nat,x.a= (p:Int)∧p < nn s
  ·rw [Zfs hp];simp only [Bool.not_false,Bool.not_true,Jo,Bq0,Bool.true_or,Bool.false_and,Cq1];rw [Z9];rintro(⟨_,p,q,e1,_,h1,_⟩ | ⟨_,p,q,e1,_,h1,_⟩ | ⟨_,p,e1,h1,_⟩ | ⟨k',_⟩)
   ·exact hp ⟨p,e1,h1⟩
   ·exact hp ⟨p,e1,h1⟩
   ·exact hp ⟨p,e1,h1⟩
   ·omega
  obtain⟨p,ep,hp⟩:=Classical.not_not.1 hp;rw [ep,Zfr hp];simp only [Bool.not_true,Bool.not_false,Qp,Bool.false_or];unfold Zj8;rw [show(XZ s σ).w.qV=tab (nn s) σ.st from rfl,Z5 hp];simp only [Bq0];rw [Xo (σ.st p)];by_cases h1:σ.st p ≠ 1
  ·rw [decide_eq_false h1];simp only [Bool.not_false,Bool.not_true,Bool.false_and,Jo,Bq0,Bool.true_or,Cq1];rw [Z9];rintro(⟨_,p',q,e1,_,_,_,z⟩ | ⟨_,p',q,e1,_,_,_,z⟩ | ⟨_,p',e1,_,z⟩ | ⟨k',_⟩)
   ·have:p'=p:=by omega
    subst p';exact h1 z
   ·have:p'=p:=by omega
    subst p';exact h1 z
   ·have:p'=p:=by omega
    subst p';exact h1 z
   ·omega
  have h1:=Classical.not_not.1 h1;rw [decide_eq_true h1];simp only [Bool.not_true,Bool.not_false,Bool.true_and,Bool.false_or]
  have fin:∀ hA:Zed s x σ,Zb9 F (ZcK s (ZaN s x σ))=some (XZ s (stepW s x σ),true):=fun hA=>by
   obtain⟨g,ac⟩:=Zf1 hS h hA;have o1:=h.acts hS ac g;unfold Zb9 ZcK;dsimp only;rw [ZqY,ZlT hF hS (by omega) g o1.p1.ZHT];rfl
  by_cases k3:x.act=3
  ·rw [show(x.act !=3)=false by rw [k3];rfl,Jo];simp only [Bq0,Bool.false_and,Cq0];rw [show(x.act==1)=false by rw [k3];rfl,Cq0,show(x.act==2)=false by rw [k3];rfl,Cq0,show(x.act==3)=true by rw [k3];rfl,Cq1];have hA:Zed s x σ:= .inr (.inr (.inl ⟨k3,p,ep,hp,h1⟩))
   have ec:ZaN s x σ=JM s (nn s) p σ:=by
    unfold ZaN;rw [if_neg (by omega),if_neg (by omega),if_pos k3,ep,Int.toNat_natCast]
   have fin:=fin hA;rw [ec] at fin;unfold ZDH;have h8:nn s <=8:=hS.p2;rw [Zra hF hS (nn s) _ _ F _ (by omega) hp (KL.all hS.inn) h.gd (by omega),if_pos h1,Yk hA];exact fin
  ·rw [show(x.act !=3)=true by rw [KZ];exact decide_eq_true k3,Qp];simp only [Bq0,Bool.true_and];by_cases hq:¬ ∃ q:Nat,x.b= (q:Int)∧q < nn s
   ·rw [Zfs hq,Bool.not_false,Cq1,Z9];rintro(⟨_,p',q,_,e1,_,z,_⟩ | ⟨_,p',q,_,e1,_,z,_⟩ | ⟨k',_⟩ | ⟨k',_⟩)
    ·exact hq ⟨q,e1,z⟩
    ·exact hq ⟨q,e1,z⟩
    ·omega
    ·omega
   obtain⟨q,eq,hq⟩:=Classical.not_not.1 hq;rw [eq,Zfr hq,Bool.not_true,Cq0];by_cases k1:x.act=1
   ·rw [show(x.act==1)=true by rw [k1];rfl,Cq1];have hA:Zed s x σ:= .inl ⟨k1,p,q,ep,eq,hp,hq,h1⟩
    have ec:ZaN s x σ= (if pl s p=pl s q then see q p σ.sd (kK p q σ) else send s (pl s p) (pl s q) ⟨1,(p:Int),(q:Int),σ.sd,[]⟩ (kK p q σ)):=by
     unfold ZaN;rw [if_pos k1,ep,eq,Int.toNat_natCast,Int.toNat_natCast]
    have fin:=fin hA;rw [ec] at fin;have es:Ye (σ.sd + 1)=σ.sd + 1:=ZbH (by have:=hsd.1;omega) (by have:=hsd.2;omega);have w1:Few s 800000 {σ with sd:=σ.sd + 1}:= ⟨fw.ev,fw.sn,fw.be,fw.wa,fw.ld,fw.ws⟩
    rw [show(XZ s σ).w.kK=σ.sd from rfl,es,show Z6.mk s (Zf.mk (tab (nn s) σ.st) (XZ s σ).w.qX (XZ s σ).w.qZ (XZ s σ).w.Zh (XZ s σ).w.Zt (XZ s σ).w.kQ (σ.sd + 1)) (XZ s σ).kU=XZ s {σ with sd:=σ.sd + 1} from rfl,Zbi w1];simp only [Bq0];have gs:=Zh9 h.gd p q;rw [show XZ s (tell 1 (p:Int) (q:Int) σ.sd {σ with sd:=σ.sd + 1})=XZ s (kK p q σ) from rfl,Za9 hS hp,Za9 hS hq];simp only [Bq0];rw [Wx,Yk hA];by_cases e:pl s p=pl s q
    ·rw [if_pos e] at fin;rw [decide_eq_true e,Cq1,Zva (gs.wf.few (by omega)) hq hp];exact fin
    ·rw [if_neg e] at fin;rw [decide_eq_false e,Cq0,ZcY hS (gs.wf.few (by omega)) (hS.pl hp).2 (hS.pl hq).2];exact fin
   ·rw [show(x.act==1)=false by rw [Xo];exact decide_eq_false k1,Cq0];by_cases k2:x.act=2
    ·rw [show(x.act==2)=true by rw [k2];rfl,Cq1];have hA:Zed s x σ:= .inr (.inl ⟨k2,p,q,ep,eq,hp,hq,h1⟩)
     have ec:ZaN s x σ= (if pl s p=pl s q then note s p q (tell 3 p q 0 σ) else send s (pl s p) (pl s q) ⟨2,(p:Int),(q:Int),0,[]⟩ (tell 3 p q 0 σ)):=by
      unfold ZaN;rw [if_neg k1,if_pos k2,ep,eq,Int.toNat_natCast,Int.toNat_natCast]
     have fin:=fin hA;rw [ec] at fin;rw [Zbi fw];simp only [Bq0];have gs:=Zh5 h.gd 3 p q 0;rw [Za9 hS hp,Za9 hS hq];simp only [Bq0];rw [Wx,Yk hA];by_cases e:pl s p=pl s q
     ·rw [if_pos e] at fin;rw [decide_eq_true e,Cq1,Zqb hS (gs.wf.few (by omega)) hp hq];exact fin
     ·rw [if_neg e] at fin;rw [decide_eq_false e,Cq0,ZcY hS (gs.wf.few (by omega)) (hS.pl hp).2 (hS.pl hq).2];exact fin
    ·rw [show(x.act==2)=false by rw [Xo];exact decide_eq_false k2,Cq0,show(x.act==3)=false by rw [Xo];exact decide_eq_false k3,Cq0,Z9];rintro(⟨k',_⟩ | ⟨k',_⟩ | ⟨k',_⟩ | ⟨k',_⟩)
     ·omega
     ·omega
     ·omega
     ·omega
theorem ZoZ (hS:QN s) (h:Ok s B σ):ZDK (hal s σ) x=ifc (Zed s x σ) (some true) (some false):=by
 unfold ZDK Zn8;rw [show(hal s σ).qK=s from rfl];simp only [Bq0]
 obtain⟨L,v,eL,hL⟩:∃ (L:Bool) (v:Int),((gd (decide (x.a >=0) && decide (x.a < (s.Zi.length:Int))) (ZW (hal s σ).Za.qV x.a) default)=some v∧(((decide (x.a >=0) && decide (x.a < (s.Zi.length:Int))) && (v==1))=L))∧(L=true↔∃ p:Nat,x.a= (p:Int)∧p < nn s∧σ.st p=1):=by
  by_cases hp:∃ p:Nat,x.a= (p:Int)∧p < nn s
  ·obtain⟨p,ep,hp⟩:=hp;refine⟨decide (σ.st p=1),σ.st p,⟨?_,?_⟩,?_⟩
   ·rw [ep,Zfr hp,Qp];exact Z5 hp
   ·rw [ep,Zfr hp,Bool.true_and,Xo]
   ·rw [decide_eq_true_eq]
    constructor
    ·exact fun z=>⟨p,ep,hp,z⟩
    ·rintro⟨p',e,_,z⟩;have:p'=p:=by omega
     subst this;exact z
  ·refine⟨false,default,⟨by rw [Zfs hp];rfl,by rw [Zfs hp];rfl⟩,?_⟩
   constructor
   ·intro z;cases z
   ·rintro⟨p,e,h1,_⟩;exact absurd ⟨p,e,h1⟩ hp
 rw [eL.1];simp only [Bq0]
 have j:∀ v13:Bool,(v13=true↔x.act=1∨x.act=2) ->ZgW (hal s σ) x (decide (x.a >=0) && decide (x.a < (s.Zi.length:Int))) v v13=ifc (Zed s x σ) (some true) (some false):=fun v13 hv=>by
  unfold ZgW;rw [eL.2];by_cases k12:x.act=1∨x.act=2
  ·rw [hv.2 k12,Cq1];unfold Zn8;rw [show(hal s σ).qK=s from rfl];cases hLb:L with
   | false=>
     rw [Jo];simp only [Bq0,Bool.false_and];have:¬ ∃ p:Nat,x.a= (p:Int)∧p < nn s∧σ.st p=1:=fun z=>by have:=hL.2 z;rw [hLb] at this;cases this
     rw [Z9];rintro(⟨_,p,q,e1,_,h1,_,z⟩ | ⟨_,p,q,e1,_,h1,_,z⟩ | ⟨_,p,e1,h1,z⟩ | ⟨k',_⟩)
     ·exact this ⟨p,e1,h1,z⟩
     ·exact this ⟨p,e1,h1,z⟩
     ·exact this ⟨p,e1,h1,z⟩
     ·omega
   | true=>
     rw [Qp];simp only [Bq0,Bool.true_and];obtain⟨p,ep,hp,h1⟩:=hL.1 hLb;by_cases hq:∃ q:Nat,x.b= (q:Int)∧q < nn s
     ·obtain⟨q,eq,hq⟩:=hq;rw [eq,Zfr hq,Yk];rcases k12 with k | k
      ·exact .inl ⟨k,p,q,ep,eq,hp,hq,h1⟩
      ·exact .inr (.inl ⟨k,p,q,ep,eq,hp,hq,h1⟩)
     ·rw [Zfs hq,Z9];rintro(⟨_,p',q,_,e1,_,z,_⟩ | ⟨_,p',q,_,e1,_,z,_⟩ | ⟨k',_⟩ | ⟨k',_⟩)
      ·exact hq ⟨q,e1,z⟩
      ·exact hq ⟨q,e1,z⟩
      ·omega
      ·omega
  ·have:v13=false:=Bool.eq_false_iff.2 fun z=>k12 (hv.1 z)
   rw [this,Cq0,Xo,Xo];by_cases k3:x.act=3
   ·rw [decide_eq_true k3,Cq1];cases hLb:L with
    | false=>
      have:¬ ∃ p:Nat,x.a= (p:Int)∧p < nn s∧σ.st p=1:=fun z=>by have:=hL.2 z;rw [hLb] at this;cases this
      rw [Z9];rintro(⟨k',_⟩ | ⟨k',_⟩ | ⟨_,p,e1,h1,z⟩ | ⟨k',_⟩)
      ·omega
      ·omega
      ·exact this ⟨p,e1,h1,z⟩
      ·omega
    | true=>
      obtain⟨p,ep,hp,h1⟩:=hL.1 hLb;rw [Yk (.inr (.inr (.inl ⟨k3,p,ep,hp,h1⟩)))]
   ·rw [decide_eq_false k3,Cq0];by_cases k4:x.act=4
    ·rw [decide_eq_true k4,Cq1,show(hal s σ).qK.qG=s.qG from rfl];by_cases hr:((0 <=x.a∧x.a < s.qG)∧(0 <=x.b∧x.b < s.qG))∧x.a ≠ x.b
     ·have:((decide ((if x.b < x.a then x.b else x.a) >=0)) && (decide ((if x.b > x.a then x.b else x.a) < s.qG)) && (x.a !=x.b))=true:=by
       rw [KZ,decide_eq_true hr.2,decide_eq_true (by split <;> omega),decide_eq_true (by split <;> omega)];rfl
      rw [this,Cq1];obtain⟨a,ea,ha⟩:= (Kr hS).1 hr.1.1;obtain⟨b,eb,hb⟩:= (Kr hS).1 hr.1.2;have hi:=KN ha hb;rw [ea,eb,Uw hS ha hb,show(hal s σ).Za.kQ=tab (mm s * mm s) (Ju σ) from rfl,Z5 hi];simp only [Bq0];rw [ZY1 (h.p2.ld _)];by_cases hl:σ.ld (li s a b) < (σ.sn (li s a b)).length
      ·rw [decide_eq_true hl,Yk (.inr (.inr (.inr ⟨k4,a,b,ea,eb,ha,hb,hl⟩)))]
      ·rw [decide_eq_false hl,Z9];rintro(⟨k',_⟩ | ⟨k',_⟩ | ⟨k',_⟩ | ⟨_,a',b',e1,e2,_,_,h'⟩)
       ·omega
       ·omega
       ·omega
       ·have:a'=a:=by omega
        have:b'=b:=by omega
        subst a' b';exact hl h'
     ·have:((decide ((if x.b < x.a then x.b else x.a) >=0)) && (decide ((if x.b > x.a then x.b else x.a) < s.qG)) && (x.a !=x.b))=false:=by
       rw [Bool.eq_false_iff];intro z;rw [Ba0,Ba0,decide_eq_true_eq,decide_eq_true_eq,KZ,decide_eq_true_eq] at z;obtain⟨⟨z1,z2⟩,z3⟩:=z;split at z1 <;> split at z2 <;> (apply hr;omega)
      rw [this,Cq0,Z9];rintro(⟨k',_⟩ | ⟨k',_⟩ | ⟨k',_⟩ | ⟨_,a',b',e1,e2,h1,h2,h'⟩)
      ·omega
      ·omega
      ·omega
      ·refine hr ⟨⟨(Kr hS).2 ⟨a',e1,h1⟩,(Kr hS).2 ⟨b',e2,h2⟩⟩,fun z=>?_⟩;have:a'=b':=by omega
       subst this;rw [h.p1.self a' h1] at h';simp at h'
    ·rw [decide_eq_false k4,Cq0,Z9];rintro(⟨k',_⟩ | ⟨k',_⟩ | ⟨k',_⟩ | ⟨k',_⟩)
     ·omega
     ·omega
     ·omega
     ·omega
 rw [Xo];by_cases k1:x.act=1
 ·rw [decide_eq_true k1,Cq1];exact j true ⟨fun _=>.inl k1,fun _=>rfl⟩
 ·rw [decide_eq_false k1,Cq0,Xo];exact j _ ⟨fun z=>.inr (of_decide_eq_true z),fun z=>decide_eq_true (z.resolve_left k1)⟩
end
end
section
def ts0:TS:= ⟨fun _=>1,fun _ _=>0,fun _=>[],fun _=>[],fun _=>[],fun _=>[],fun _=>0,0,[]⟩
noncomputable def JB (s:Zc) (l:List XC):Nat ->TS×List Int
 | 0=>(ts0,[])
 | k + 1=>ifc (Zed s (l.getD k default) (JB s l k).1) (stepW s (l.getD k default) (JB s l k).1,(JB s l k).2 ++ [(k:Int)]) (JB s l k)
section
variable {s:Zc} {σ τ υ:TS} {F B a b p q w i n d k:Nat} {l:List XC}
theorem Zvz (hS:QN s):Ye (s.qG * s.qG)= ((mm s * mm s:Nat):Int):=by
 obtain⟨e,h1,h4⟩:=hS.mm;have h16:=Zek hS;rw [e,← Int.natCast_mul];exact ZbH (by omega) (by omega)
theorem ZgE {α:Type} (z:α) {JN n:Nat} (h:JN * n <=100000):mkL z JN (n:Int) (n:Int)=some (tab n fun _=>z):=by
 unfold mkL;rw [decide_eq_true (show(0:Int) <= (n:Int) by omega),decide_eq_true (show(n:Int) <= (n:Int) by omega),Int.toNat_natCast,Nm0 h,ZFP];rfl
theorem ZuC (hF:1000 <=F) (hS:QN s):ZDS F s=some (hal s ts0):=by
 have h8:nn s <=8:=hS.p2;obtain⟨em,h1,h4⟩:=hS.mm;have h16:=Zek hS;unfold ZDS;refine XB (fun k=>((k:Int),tab k (fun _=>(1:Int)),tab k (fun _=>tab (mm s * mm s) fun _=>(0:Int)),tab k (fun _=>([]:List Int)),tab k (fun _=>([]:List Int)))) rfl (n:=nn s) (by omega) (fun k hk next=>?_) (fun next=>?_)
 ·unfold Zog;dsimp only;rw [show((s.Zi.length:Nat):Int)= ((nn s:Nat):Int) from rfl,YH hk,Cq1,app1 (by rw [XA];omega) (by decide)];simp only [Bq0];rw [Zvz hS,ZgE _ (by omega)];simp only [Bq0];rw [app1 (by rw [XA];omega) (by decide)];simp only [Bq0];rw [app1 (by rw [XA];omega) (by decide)];simp only [Bq0];rw [Qg (by omega),Zbj,Zbj,Zbj]
 ·unfold Zog;dsimp only;rw [show((s.Zi.length:Nat):Int)= ((nn s:Nat):Int) from rfl,Xn,Cq0,Zvz hS];have e1:mkL ([]:List Zd) 24 s.qG s.qG=some (tab (mm s) fun _=>[]):=by rw [em];exact ZgE _ (by omega)
  rw [e1];simp only [Bq0];rw [ZgE _ (by omega)];rfl
theorem ZwQ (hF:1000 <=F) (hS:QN s):ZDQ F s=some (XZ s ts0):=by
 have h8:nn s <=8:=hS.p2;obtain⟨em,h1,h4⟩:=hS.mm;have h16:=Zek hS;unfold ZDQ;refine XB (fun k=>((k:Int),tab k (fun _=>(1:Int)),tab k (fun _=>tab (mm s * mm s) fun _=>(0:Int)),tab k (fun _=>([]:List Int)),tab k (fun _=>([]:List Int)))) rfl (n:=nn s) (by omega) (fun k hk next=>?_) (fun next=>?_)
 ·unfold Zoe;dsimp only;rw [show((s.Zi.length:Nat):Int)= ((nn s:Nat):Int) from rfl,YH hk,Cq1,app1 (by rw [XA];omega) (by decide)];simp only [Bq0];rw [Zvz hS,ZgE _ (by omega)];simp only [Bq0];rw [app1 (by rw [XA];omega) (by decide)];simp only [Bq0];rw [app1 (by rw [XA];omega) (by decide)];simp only [Bq0];rw [Qg (by omega),Zbj,Zbj,Zbj]
 ·unfold Zoe;dsimp only;rw [show((s.Zi.length:Nat):Int)= ((nn s:Nat):Int) from rfl,Xn,Cq0,Zvz hS];have e1:mkL ([]:List Zd) 24 s.qG s.qG=some (tab (mm s) fun _=>[]):=by rw [em];exact ZgE _ (by omega)
  rw [e1];simp only [Bq0];rw [ZgE _ (by omega)];rfl
theorem Zgr {n:Nat} {f:Nat ->Nat} (h:∀ k,k < n ->f k=0):Q5 n f=0:=by rw [ZbJ (g:=fun _=>0) h,ZiP];simp
theorem ZYJ (s:Zc):Pot s ts0=11 * nn s:=by
 have e1:Q5 (mm s * mm s) (lw ts0)=0:=Zgr fun k _=>rfl
 have e2:Q5 (mm s) (fun m=>(ts0.be m).length)=0:=Zgr fun k _=>rfl
 have e3:Q5 (nn s) (fun q=>2 * (ts0.wa q).length)=0:=Zgr fun k _=>rfl
 have e4:Q5 (nn s) (fun p=>sw (ts0.st p))=nn s * 11:= (ZbJ (g:=fun _=>11) fun k _=>rfl).trans (ZiP _ _);unfold Pot;rw [e1,e2,e3,e4];show 0 + 0 + 0 + 0 + nn s * 11=_;omega
theorem ok0 (hS:QN s):Ok s 88 ts0:=by
 have h8:nn s <=8:=hS.p2;have nil:∀ {α:Type} (x:α),¬ x ∈ ([]:List α):=fun x h=>by cases h
 have no3:∀ p,¬ ts0.st p=3:=fun p h=>absurd h (by show ¬ ((1:Int)=3);decide)
 have kn:Kn s ts0:= ⟨fun q _=>List.Pairwise.nil,fun q _ x hx=>absurd hx (nil x)⟩
 have k1:KI s ts0:= ⟨fun i j x hx _=>by simp [ts0] at hx,fun i i' j j' x x' hx _ _ _ _=>by simp [ts0] at hx,fun p _ h=>absurd h (no3 p),fun p _ h=>absurd h (no3 p)⟩
 have w:Wf s 88 ts0:= ⟨by rw [ZYJ];omega,fun i _=>Nat.le_refl _,fun q _ x hx=>absurd hx (nil x)⟩
 exact⟨⟨w,kn⟩,⟨fun a b _ _ x hx=>absurd hx (nil x),fun a _=>rfl,fun w _ x hx=>absurd hx (nil x),fun q _ x hx=>absurd hx (nil x)⟩,⟨fun i=>Nat.le_refl _,kn⟩,k1,⟨Int.le_refl _,Int.le_refl _⟩⟩
theorem Znf (hS:QN s):∀ k,Ok s (88 + 4 * k) (JB s l k).1∧(JB s l k).2.length <=k∧U0 s ts0 (JB s l k).1:=by
 intro k
 induction k with
 | zero=>exact⟨ok0 hS,Nat.le_refl _,.refl⟩
 | succ k ih=>
   obtain⟨h1,h2,h3⟩:=ih;rw [JB];by_cases hA:Zed s (l.getD k default) (JB s l k).1
   ·rw [Yk hA];refine⟨?_,by rw [List.length_append,List.length_singleton];omega,h3.trans (ZwP hS h1 hA)⟩;have:=step_ok hS h1 hA;exact⟨this.gd.up (by omega),this.p1,this.p2,this.ki,this.sd⟩
   ·rw [Z9 hA];exact⟨⟨h1.gd.up (by omega),h1.p1,h1.p2,h1.ki,h1.sd⟩,by omega,h3⟩
theorem Zw3 (hF:1000000 <=F) (hS:QN s) (hl:l.length <=100):ZDR F (hal s ts0) l=some (hal s (JB s l l.length).1,(JB s l l.length).2):=by
 unfold ZDR;refine XB (fun k=>((JB s l k).2,(k:Int),Zb5 s (JB s l k).1)) rfl (n:=l.length) (by omega) (fun k hk next=>?_) (fun next=>?_)
 ·obtain⟨h1,h2,_⟩:=Znf (l:=l) hS k;rw [JB];obtain⟨σ,hσ⟩:∃ σ,σ= (JB s l k).1:= ⟨_,rfl⟩
  obtain⟨dn,hd⟩:∃ dn,dn= (JB s l k).2:= ⟨_,rfl⟩
  rw [← hd] at h2;rw [← hσ] at h1 ⊢;unfold Zof;rw [show Zb5 s σ= (tab (nn s) σ.st,(tab (nn s) fun j=>tab (mm s * mm s) (σ.ma j)),tab (nn s) σ.kn,tab (nn s) σ.wa,tab (mm s) σ.be,tab (mm s * mm s) (Ju σ),σ.sd,s.qG,s.Zi,σ.ev) from rfl];dsimp only;rw [YH hk,Cq1,Ql default hk];simp only [Bq0];rw [ZqR,ZoZ hS h1];by_cases hA:Zed s (l.getD k default) σ
  ·rw [Yk hA,Yk hA];simp only [Bq0,Cq1];rw [ZwO hF hS (by omega) h1 hA];simp only [Bq0];rw [← hd,ZoY (by rw [List.length_singleton];omega)];simp only [Bq0];unfold ZgY;dsimp only;rw [Qg (by omega)];rfl
  ·rw [Z9 hA,Z9 hA];simp only [Bq0,Cq0];unfold ZgY;dsimp only;rw [Qg (by omega),← hσ];rfl
 ·unfold Zof Zb5;dsimp only;rw [Xn,Cq0];rfl
theorem ZAK (hF:1000000 <=F) (hS:QN s) (hl:l.length <=100):ZDX F s l=some (vw s (JB s l l.length).1,(JB s l l.length).1.ev,(JB s l l.length).2):=by
 unfold ZDX;rw [ZwQ (by omega) hS];simp only [Bq0];refine XB (fun k=>((JB s l k).2,(k:Int),ZcK s (JB s l k).1)) rfl (n:=l.length) (by omega) (fun k hk next=>?_) (fun next=>?_)
 ·obtain⟨h1,h2,_⟩:=Znf (l:=l) hS k;rw [JB];obtain⟨σ,hσ⟩:∃ σ,σ= (JB s l k).1:= ⟨_,rfl⟩
  obtain⟨dn,hd⟩:∃ dn,dn= (JB s l k).2:= ⟨_,rfl⟩
  rw [← hd] at h2;rw [← hσ] at h1 ⊢;unfold Zoq;rw [show ZcK s σ= (s.qG,s.Zi,tab (nn s) σ.st,(tab (nn s) fun j=>tab (mm s * mm s) (σ.ma j)),tab (nn s) σ.kn,tab (nn s) σ.wa,tab (mm s) σ.be,tab (mm s * mm s) (Ju σ),σ.sd,σ.ev) from rfl];dsimp only;rw [YH hk,Cq1,Ql default hk];simp only [Bq0];rw [ZqY,ZOD hF hS (by omega) h1];by_cases hA:Zed s (l.getD k default) σ
  ·rw [Yk hA,Yk hA];simp only [Bq0,Cq1];rw [← hd,ZoY (by rw [List.length_singleton];omega)];simp only [Bq0];unfold Zg1;dsimp only;rw [Qg (by omega)];rfl
  ·rw [Z9 hA,Z9 hA];simp only [Bq0,Cq0];unfold Zg1;dsimp only;rw [Qg (by omega),← hσ];rfl
 ·unfold Zoq ZcK;dsimp only;rw [Xn,Cq0];rfl
end
end
section
section
variable {s:Zc} {σ τ υ:TS} {F B a b p q w i n d k:Nat}
theorem ZfD {l:List Zd} (hF:1000000 <=F) (hl:l.length <=900000) (hm:∀ x ∈ l,x.qX.length <=16):Zud F l l=some true:=by
 unfold Zud;rw [Kc,Cq0];refine XB (fun k=>(k:Int)) rfl (n:=l.length) (by omega) (fun k hk next=>?_) (fun next=>?_)
 ·unfold Zod;rw [YH hk,Cq1,Ql default hk];simp only [Bq0,Kc,Bool.or_self,Bool.not_false,Qp];rw [Zbu (by have:=hm _ (QU (d:=default) hk);omega) (by have:=hm _ (QU (d:=default) hk);omega)];simp only [Bq0,Bool.not_true,Bool.or_self,Cq0];rw [Qg (by omega)]
 ·unfold Zod;rw [Xn,Cq0]
theorem ZxT (x:Zw):ZaM x x=true:=by simp [ZaM]
theorem Zrk {l:List Zw} (hF:1000000 <=F) (hl:l.length <=900000):ZxP F l l=some true:=by
 unfold ZxP;rw [Kc,Cq0];refine XB (fun k=>(k:Int)) rfl (n:=l.length) (by omega) (fun k hk next=>?_) (fun next=>?_)
 ·unfold Zoj;rw [YH hk,Cq1,Ql default hk];simp only [Bq0,ZxT,Bool.not_true,Cq0];rw [Qg (by omega)]
 ·unfold Zoj;rw [Xn,Cq0]
theorem ZSg {i:Nat} (h1:1 <=mm s) (h:i < mm s * mm s):∃ a b,a < mm s∧b < mm s∧i=li s a b:=by
 refine⟨i / mm s,i % mm s,Nat.div_lt_of_lt_mul h,Nat.mod_lt _ (by omega),?_⟩;unfold li;rw [Nat.mul_comm];exact(Nat.div_add_mod _ _).symm
theorem ZwW (hF:1000000 <=F) (hS:QN s) (h:Ok s B σ) (hB:B <=600000):Zue F (vw s σ) (vw s σ)=some true:=by
 have h8:nn s <=8:=hS.p2;have h16:=Zek hS;obtain⟨_,h1,h4⟩:=hS.mm;have fw:=h.gd.wf.few (by omega);unfold Zue;simp only [Kc,Bool.or_self,Cq0];refine XB (fun k=>(k:Int)) rfl (n:=nn s) (by omega) (fun k hk next=>?_) (fun next=>?_)
 ·unfold Zop;rw [show(vw s σ).qV=tab (nn s) σ.st from rfl,XA,YH hk,Cq1,Z5 hk];simp only [Bq0,Kc,Cq0];rw [Qg (by omega)]
 unfold Zop;rw [show(vw s σ).qV=tab (nn s) σ.st from rfl,XA,Xn,Cq0];refine XB (fun k=>(k:Int)) rfl (n:=nn s) (by omega) (fun k hk next=>?_) (fun next=>?_)
 ·unfold Zoo;rw [show(vw s σ).qX=Um s σ.ma from rfl,show(Um s σ.ma).length=nn s from XA,YH hk,Cq1,Zbp hk];simp only [Bq0];rw [Zbu (by rw [XA];omega) (by rw [XA];omega)];simp only [Bq0,Bool.not_true,Cq0];rw [Qg (by omega)]
 unfold Zoo;rw [show(vw s σ).qX=Um s σ.ma from rfl,show(Um s σ.ma).length=nn s from XA,Xn,Cq0];refine XB (fun k=>(k:Int)) rfl (n:=nn s) (by omega) (fun k hk next=>?_) (fun next=>?_)
 ·unfold Zon;have:=h.gd.kn.len hS hk;rw [show(vw s σ).qZ=tab (nn s) σ.kn from rfl,XA,YH hk,Cq1,Z5 hk];simp only [Bq0];rw [Zbu (by omega) (by omega)];simp only [Bq0,Bool.not_true,Cq0];rw [Qg (by omega)]
 unfold Zon;rw [show(vw s σ).qZ=tab (nn s) σ.kn from rfl,XA,Xn,Cq0];refine XB (fun k=>(k:Int)) rfl (n:=nn s) (by omega) (fun k hk next=>?_) (fun next=>?_)
 ·unfold Zom;have:=fw.wa k hk;rw [show(vw s σ).Zh=tab (nn s) σ.wa from rfl,XA,YH hk,Cq1,Z5 hk];simp only [Bq0];rw [Zbu (by omega) (by omega)];simp only [Bq0,Bool.not_true,Cq0];rw [Qg (by omega)]
 unfold Zom;rw [show(vw s σ).Zh=tab (nn s) σ.wa from rfl,XA,Xn,Cq0];refine XB (fun k=>(k:Int)) rfl (n:=mm s) (by omega) (fun k hk next=>?_) (fun next=>?_)
 ·unfold Zol;have:=fw.be k hk;rw [show(vw s σ).Zt=tab (mm s) σ.be from rfl,XA,YH hk,Cq1,Z5 hk];simp only [Bq0];rw [ZfD hF (by omega) (fun x hx=>by rw [(h.p1.bea k hk x hx).1.2.2];exact h16)];simp only [Bq0,Bool.not_true,Cq0];rw [Qg (by omega)]
 unfold Zol;rw [show(vw s σ).Zt=tab (mm s) σ.be from rfl,XA,Xn,Cq0];refine XB (fun k=>(k:Int)) rfl (n:=mm s * mm s) (by omega) (fun k hk next=>?_) (fun next=>?_)
 ·unfold Zok;have:=fw.sn k hk;obtain⟨a,b,ha,hb,e⟩:=ZSg h1 hk;rw [show(vw s σ).kQ=tab (mm s * mm s) (Ju σ) from rfl,XA,YH hk,Cq1,Z5 hk];simp only [Bq0,Kc,Bool.not_false,Qp]
  rw [ZfD hF (by show((σ.sn k).drop _).length <=_;rw [List.length_drop];omega) (fun x hx=>by
   obtain⟨p,_,_,hm,_⟩:=h.p1.lets a b ha hb x (by rw [← e];exact List.mem_of_mem_drop hx);exact hm)]
  simp only [Bq0,Bool.not_true,Bool.or_self,Cq0];rw [Qg (by omega)]
 unfold Zok;rw [show(vw s σ).kQ=tab (mm s * mm s) (Ju σ) from rfl,XA,Xn,Cq0]
theorem Zl5 (hF:1000000 <=F):ZDY F (Zf.mk [] [] [] [] [] [] 0)=some true:=by
 obtain⟨F',rfl⟩:∃ F',F=F' + 1:= ⟨F - 1,by omega⟩
 rfl
end
theorem ZlF {F:Nat} (hF:1000000 <=F) (s:Zc) (l:List XC):f3L F s l=some true:=by
 unfold f3L ZHd;simp only [Bq0];by_cases h30:(!decide ((s.Zi.length:Int) <=30) || decide ((l.length:Int) > 120))=true
 ·rw [h30];rfl
 rw [Bool.eq_false_iff.2 h30,Cq0];unfold ZHc;rw [Zuq (by omega),ZwT (by omega)];have f15:ZDZ=some true:=rfl;by_cases hS:QN s
 ·rw [Yk hS,Yk hS];simp only [Bq0,Kc,Bool.false_or,Bool.not_true];by_cases hl:(l.length:Int) > 100
  ·rw [decide_eq_true hl];simp only [Cq1,Bq0,beq_self_eq_true,Qp];rw [Zl5 hF];simp only [Bq0]
   rfl
  ·rw [decide_eq_false hl];simp only [Cq0];rw [ZuC (by omega) hS];simp only [Bq0];obtain⟨ok,dl,_⟩:=Znf (l:=l) hS l.length;rw [Zw3 hF hS (by omega),ZAK hF hS (by omega)];simp only [Bq0,beq_self_eq_true,Qp];rw [show(hal s (JB s l l.length).1).Za=vw s (JB s l l.length).1 from rfl,ZwW hF hS ok (by omega)];simp only [Bq0,Bool.true_and,Qp];have hev:= (ok.gd.wf.few (by omega)).ev;rw [show(hal s (JB s l l.length).1).kU= (JB s l l.length).1.ev from rfl,Zrk hF (by omega)];simp only [Bq0,Bool.true_and,Qp];rw [Zbu (by omega) (by omega)];simp only [Bq0,Qp];rw [f15];rfl
 ·rw [Z9 hS,Z9 hS];simp only [Bq0];simp only [show((2:Int) !=0)=true from rfl,Bool.true_or,Cq1,Bool.not_false,Bq0,beq_self_eq_true,Qp];rw [Zl5 hF]
  rfl
end
end Go.Proofs.YtcnahmgekicbdaaGreat
end
