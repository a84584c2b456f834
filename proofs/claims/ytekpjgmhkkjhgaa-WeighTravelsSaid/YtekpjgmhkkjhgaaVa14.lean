/- Travels Part 14 of the proof. -/
import Derived.Test.YtekpjgmhkkjhgaaVa13
set_option linter.all false
section
namespace Go.Proofs.Ytekpjgmhkkjhgaa
open Go.Lf
section
variable {w:Zb} {m:Model} {F:Nat}
theorem ZKN (X:Rx w Kr []) (n a:Int):-16 <=G w n a:=by
 have h2:0 <=YQ (YT a) (Jh w n):=Zaq fun x _=>KC a x
 unfold G Uf;cases e:YX w n a with
 | none=>simp only [Qf];omega
 | some c=>
   obtain⟨h,H⟩:=X.nm n (X.cn n a c e).1;have H:Nm w.cells.length n (YX w n) (Jh w n) h:=H;have:= (H.Zh5 e).1;simp only [Qf];omega
theorem Zk6 (R:Rt w) {d:Zo} (hf:Qp d w.cells.length=true) (he:YH w d d.at_.toNat=0) {K:Int} (hG:∀ n a,G w n a <=K) (hK:K <=900000) (hn:(Z7 w d).notes.length <=80):Kc (Z7 w d)=false:=by
 obtain⟨X1,X2,X3,X4,X5⟩:=ZeV R hf he;unfold Kc;rw [decide_eq_false (by omega),Bool.false_or,List.any_eq_false];intro a ha;rw [List.mem_range] at ha;rw [Bool.not_eq_true,List.any_eq_false];intro n hn2;have h1:=Zv3 R hf he (n:Int) (a:Int);have h2:=hG n a;have h3:=ZKN X1 (n:Int) (a:Int);rw [Zd7 _ ha];rw [show ZP (Uf (YX (Z7 w d) (n:Int)) (Jh (Z7 w d) (n:Int)) (a:Int))=G (Z7 w d) n a from YP (by show _ <=G _ _ _;omega) (by show G _ _ _ <=_;omega)];simp;omega
theorem Zee (R:Rt w) {d:Zo} (hf:Qp d w.cells.length=true) (he:YH w d d.at_.toNat=0):(Z7 w d).notes.length <=w.notes.length + 1∧(d.ZT=1∨d.ZT=5 ->(Z7 w d).notes.length <=w.notes.length):=by
 obtain⟨_,_,_,_,D5⟩:=Zbg R hf he;unfold Z7;rcases YR hf with⟨k,a0⟩ | ⟨k,a0,t0,ne,nm⟩ | ⟨k,a0,nm⟩ | ⟨k,a0⟩
 ·rw [show(d.ZT==1)=true by simp [k],Cq1];exact⟨Nat.le_succ _,fun _=>Nat.le_refl _⟩
 ·by_cases k2:d.ZT=2
  ·rw [show(d.ZT==1)=false by simp [k2],show(d.ZT==2)=true by simp [k2],Cq0,Cq1];exact⟨Nat.le_of_eq (ZmX _ _ _).1,fun z=>by omega⟩
  ·have k4:d.ZT=4:=by omega
   rw [show(d.ZT==1)=false by simp [k4],show(d.ZT==2)=false by simp [k4],show(d.ZT==5)=false by simp [k4],show(d.ZT==3)=false by simp [k4],Cq0,Cq0,Cq0,Cq0];exact⟨Nat.le_of_eq (Zew _),fun z=>by omega⟩
 ·rw [show(d.ZT==1)=false by simp [k],show(d.ZT==2)=false by simp [k],show(d.ZT==5)=false by simp [k],show(d.ZT==3)=true by simp [k],Cq0,Cq0,Cq0,Cq1];exact⟨(WZ _ _ _).1,fun z=>by omega⟩
 ·rw [show(d.ZT==1)=false by simp [k],show(d.ZT==2)=false by simp [k],show(d.ZT==5)=true by simp [k],Cq0,Cq0,Cq1];obtain⟨x,hx,_⟩:=D5 k;rw [hx,Option.getD_some];obtain⟨hkl,_⟩:=Li0 hx;obtain⟨R0,M0⟩:=Zk5 R hx;have q:= (Zoh R0 M0).2.2.1;have:(UF w d.at_.toNat).notes.length + 1=w.notes.length:=by unfold UF;simp;omega
  exact⟨by omega,fun _=>by omega⟩
theorem Zr3 (R:Rt w) {d:Zo} {M nm nt:Int} (hM:M=w.cells.length) (hnm:nm=w.names) (hnt:nt=w.notes.length) (D:Zjh d M nm nt) {K:Int} (hG:∀ n a,G w n a <=K) (hK:K <=900000):
 ((stepW w d).2=7∧YH w d d.at_.toNat=7∧(d.ZT=2∨d.ZT=3 ->¬ Uses w ⟨d.at_,d.name⟩)∧(d.ZT=2∨d.ZT=3∨d.ZT=4))∨((stepW w d).2=3∧d.ZT ≠ 5∧w.notes.length=80)∨((stepW w d).2=0∧(stepW w d).1=Z7 w d∧YH w d d.at_.toNat=0∧Kc (Z7 w d)=false):=by
 have hf:Qp d w.cells.length=true:=by rw [← hM];exact D.form
 have ZuP:=R.KA
 have e07:YH w d d.at_.toNat=0∨(YH w d d.at_.toNat=7∧(d.ZT=2∨d.ZT=3 ->¬ Uses w ⟨d.at_,d.name⟩)∧(d.ZT=2∨d.ZT=3∨d.ZT=4)):=by
  rcases D.kind with k | k | k | k | k
  ·left;have:=D.make k;unfold YH;rw [show(d.ZT==1)=true by simp [k],Cq1,decide_eq_false (by omega),Cq0]
  ·have hat:0 <=d.at_∧d.at_ < (w.cells.length:Int):=by rcases YR hf with⟨z,_⟩ | ⟨_,z,_⟩ | ⟨z,_⟩ | ⟨z,_⟩ <;> omega
   have hl:=KN (w:=w) (m:=d.at_.toNat) (n:=d.name) (by omega);rw [show((d.at_.toNat:Nat):Int)=d.at_ by omega] at hl;unfold YH;rw [show(d.ZT==1)=false by simp [k],show(d.ZT==5)=false by simp [k],Cq0,Cq0,show(d.ZT==4)=false by simp [k]];unfold look at hl;cases h:UI (rowOf w d.at_.toNat) d.name with
   | none=>rw [h] at hl;exact .inr ⟨rfl,fun _ z=>(by have:=hl.2 z;cases this),.inl k⟩
   | some c=>
     rw [h] at hl;simp only [Cq0];cases hu:c.use
     ·exact .inr ⟨rfl,fun _ z=>(by have:=hl.2 z;simp [hu] at this),.inl k⟩
     ·exact .inl rfl
  ·have hat:0 <=d.at_∧d.at_ < (w.cells.length:Int):=by rcases YR hf with⟨z,_⟩ | ⟨z,_⟩ | ⟨_,z,_⟩ | ⟨z,_⟩ <;> omega
   have hl:=KN (w:=w) (m:=d.at_.toNat) (n:=d.name) (by omega);rw [show((d.at_.toNat:Nat):Int)=d.at_ by omega] at hl;unfold YH;rw [show(d.ZT==1)=false by simp [k],show(d.ZT==5)=false by simp [k],Cq0,Cq0,show(d.ZT==4)=false by simp [k]];unfold look at hl;cases h:UI (rowOf w d.at_.toNat) d.name with
   | none=>rw [h] at hl;exact .inr ⟨rfl,fun _ z=>(by have:=hl.2 z;cases this),.inr (.inl k)⟩
   | some c=>
     rw [h] at hl;simp only [Cq0];cases hu:c.use
     ·exact .inr ⟨rfl,fun _ z=>(by have:=hl.2 z;simp [hu] at this),.inr (.inl k)⟩
     ·exact .inl rfl
  ·unfold YH;rw [show(d.ZT==1)=false by simp [k],show(d.ZT==5)=false by simp [k],Cq0,Cq0,show(d.ZT==4)=true by simp [k]];cases h:UI (rowOf w d.at_.toNat) d.name with
   | none=>exact .inr ⟨rfl,fun z=>(by omega),.inr (.inr k)⟩
   | some c=>
     simp only [Cq1];cases hu:c.root
     ·exact .inr ⟨rfl,fun z=>(by omega),.inr (.inr k)⟩
     ·exact .inl rfl
  ·left;have:=D.note k;unfold YH;rw [show(d.ZT==1)=false by simp [k],show(d.ZT==5)=true by simp [k],Cq0,Cq1,decide_eq_false (by omega),Cq0]
 rcases e07 with e | ⟨e,e2,e3⟩
 ·right;obtain⟨n1,n2⟩:=Zee R hf e;cases ho:Kc (Z7 w d)
  ·right;unfold stepW;rw [e,ho];exact⟨rfl,rfl,rfl,rfl⟩
  ·left;have h3:(stepW w d).2=3:=by unfold stepW;rw [e,ho];rfl
   by_cases hn:(Z7 w d).notes.length <=80
   ·rw [Zk6 R hf e hG hK hn] at ho;cases ho
   ·refine⟨h3,fun k=>?_,by omega⟩;have:=n2 (.inr k);omega
 ·left;refine⟨?_,e,e2,e3⟩;unfold stepW;rw [e];rfl
structure LV (M:Nat) (K:Nat) (w:Zb) (m:Model):Prop where
 rt:Rt w
 fit:Fits w m
 len:w.cells.length=M
 g:∀ n a,G w n a <=16 * (K:Int)
theorem LV.mono {M K K':Nat} (h:LV M K w m) (hk:K <=K'):LV M K' w m:= ⟨h.rt,h.fit,h.len,fun n a=>by have:=h.g n a;omega⟩
theorem LV.step (hF:1000 <=F) {M K:Nat} (L:LV M K w m) {d:Zo} (hf:Qp d w.cells.length=true) (he:YH w d d.at_.toNat=0) (hv:Kc (Z7 w d)=false):∃ m',Zhc F m w d=some m'∧LV M (K + 1) (Z7 w d) m':=by
 obtain⟨m',e,f⟩:=Zqh hF L.rt L.fit hf he;obtain⟨r,l⟩:=Zry L.rt hf he hv;exact⟨m',e,⟨r,f,l.trans L.len,fun n a=>by have:=Zv3 L.rt hf he n a;have:=L.g n a;omega⟩⟩
theorem Zpa (hF:1000 <=F) {M:Nat} (z:List Uz) (hz:z.length <=120) (hu:∀ a ∈ z,U8 a):∀ (k i F':Nat) (w:Zb) (m:Model),LV M i w m ->i + k=z.length ->k < F' ->
 ∃ w' m',loop F' (Zeb F z) ((i:Int),m.uses,m.ways,w.cells,w.notes,w.names,w.freed)=some (w',m',true)∧LV M z.length w' m':=by
 intro k
 induction k with
 | zero=>
   intro i F' w m L hi hF';obtain⟨F',rfl⟩:=Ne0 (n:=F') (by omega);rw [Yi];simp only [Zeb];rw [decide_eq_false (by omega),Cq0];exact⟨w,m,rfl,L.mono (by omega)⟩
 | succ k ih=>
   intro i F' w m L hi hF';obtain⟨F',rfl⟩:=Ne0 (n:=F') (by omega);have hlt:i < z.length:=by omega
   have hua:=hu z[i] (List.getElem_mem hlt);have R:=L.rt;have:=R.c1;have:=R.c6;have:=R.n0;have:=R.n12;have ZuP:=R.KA;obtain⟨hus,hws⟩:=L.fit.small R;rw [Yi];simp only [Zeb];rw [decide_eq_true (by omega),Cq1,Z5,List.getElem?_eq_getElem hlt,Bq0];obtain⟨d,b,e1,e2⟩:=Zrz hua (M:=w.cells.length) (nm:=w.names) (nt:=w.notes.length) ⟨by omega,by omega⟩ ⟨by omega,by omega⟩ ⟨by omega,by omega⟩;rw [e1,Bq0]
   have skip:∃ w' m',ZbQ (i:Int) (loop F' (Zeb F z)) (m.uses,m.ways,w.cells,w.notes,w.names,w.freed)=some (w',m',true)∧LV M z.length w' m':=by
    unfold ZbQ;rw [Xd (by omega)];exact ih (i + 1) F' w m (L.mono (by omega)) (by omega) (by omega)
   cases b
   ·simp only [Bool.not_false,Cq1];exact skip
   ·have D:=e2 rfl;have hfd:=D.form;simp only [Bool.not_true,Cq0];have ew:(⟨w.cells,w.notes,w.names,w.freed⟩:Zb)=w:=rfl;have em:(⟨m.uses,m.ways⟩:Model)=m:=rfl;rw [ew,Zmc hF R.small,Bq0,Zmb R hfd];rcases Zr3 R rfl rfl rfl D L.g (by omega) with⟨s1,s2,s3,s4⟩ | ⟨s1,s2,s3⟩ | ⟨s1,s2,s3,s4⟩
    ·rw [s1];rw [show((7:Int)==7)=true from rfl,Cq1];by_cases k4:d.ZT=4
     ·rw [show(d.ZT !=4)=false by simp [k4]];simp only [Bool.false_and,ZnE,Bq0,Cq0];exact skip
     ·have hk:d.ZT=2∨d.ZT=3:=by omega
      have hni:¬ (⟨d.at_,d.name⟩:Yp) ∈ m.uses:=fun z=>s3 hk ((L.fit.mem _).1 z)
      have hb:((d.ZT !=2) && (d.ZT !=3))=false:=by rcases hk with h | h <;> simp [h]
      rw [show(d.ZT !=4)=true by simp [k4],hb];simp only [Bool.not_false,Bool.and_true,ZeL];rw [WN hF (by omega),decide_eq_false hni];simp only [Bq0,Bool.or_self,Bool.and_false,Cq0];exact skip
    ·rw [s1];rw [show((3:Int)==7)=false from rfl,Cq0,show((3:Int)==3)=true from rfl,show(d.ZT !=5)=true by simp [s2],show((w.notes.length:Int)==80)=true by simp;omega];simp only [Bool.and_self,Cq1];exact skip
    ·rw [s1,s2];rw [show((0:Int)==7)=false from rfl,Cq0,show((0:Int)==3)=false from rfl];simp only [Bool.false_and,Cq0];obtain⟨m',q1,q2⟩:=L.step hF (by exact hfd) s3 s4;rw [show((0:Int) !=0)=false from rfl,show(((Z7 w d).cells.length:Int) != (w.cells.length:Int))=false by rw [q2.len,L.len];simp];simp only [Bool.or_self,Cq0];rw [em,q1,Bq0,ZlE hF q2.rt q2.fit,Bq0];simp only [Bool.not_true,Cq0];unfold ZbQ;rw [Xd (by omega)];exact ih (i + 1) F' _ m' q2 (by omega) (by omega)
theorem Zyx (p:Int) (n a:Int):G (JU p) n a=0:=by
 unfold G Uf
 have h1:YX (JU p) n a=none:=by
  unfold YX;split
  ·rw [Xb]
   have:rowOf (JU p) a.toNat= []:=by
    unfold rowOf JU;rw [List.getElem?_replicate];split <;> rfl
   rw [this];rfl
  ·rfl
 rw [h1];rfl
theorem ZpF (p:Int):Fits (JU p) ⟨[],[]⟩:=by
 refine⟨fun s=>⟨fun z=>(by cases z),fun z=>?_⟩,List.nodup_nil,rfl⟩;exfalso;obtain⟨c,h,_⟩:=z;obtain⟨h1,h2⟩:=Qr h;rw [Xb] at h2
 have:rowOf (JU p) s.at_.toNat= []:=by
  unfold rowOf JU;rw [List.getElem?_replicate];split <;> rfl
 rw [this] at h2;cases h2
theorem ZuD (hF:1000 <=F) {p:Int} (h0:0 <=p) (h1:p <=255) {l:List Uz} (hl:∀ a ∈ l,U8 a):∃ w m,ZsJ F p l=some (w,m,true)∧LV (1 + p % 6).toNat 120 w m:=by
 rw [Znh hF h0 h1,show slL l 0 (if 120 < (l.length:Int) then 120 else(l.length:Int))=some (l.take 120) from Zqw l 120,Bq0];obtain⟨R0,hlen⟩:=ZnL h0;have hl2:(l.take 120).length <=120:=by rw [List.length_take];omega
 obtain⟨w,m,e,L⟩:=Zpa hF (l.take 120) hl2 (fun a h=>hl a (List.mem_of_mem_take h)) (l.take 120).length 0 F (JU p) ⟨[],[]⟩ ⟨R0,ZpF p,hlen,fun n a=>by rw [Zyx];omega⟩ (by omega) (by omega);exact⟨w,m,e,L.mono hl2⟩
end
end Go.Proofs.Ytekpjgmhkkjhgaa
end
section
namespace Go.Proofs.Ytekpjgmhkkjhgaa
open Go.Lf
def SS (w:Zb) (s:Yp):Prop:=Uses w s∨s ∈ gives w.notes
def ZbU (j:Nat):Zo:= ⟨5,(j:Int),0,0⟩
section
variable {w:Zb} {m:Model} {F:Nat}
theorem ZsW (j:Nat) (M:Int):Qp (ZbU j) M=true:=by
 unfold Qp ZbU;simp
theorem Zwf {j:Nat} (hj:j < w.notes.length) (k:Nat):YH w (ZbU j) k=0:=by
 unfold YH ZbU;rw [show((5:Int)==1)=false from rfl,show((5:Int)==5)=true from rfl,Cq0,Cq1,decide_eq_false (by show ¬ (j:Int) >=_;omega),Cq0]
theorem ZsX {j:Nat} {x:Zd} (hx:w.notes[j]? =some x):Z7 w (ZbU j)=Qs (UF w j) x:=by
 unfold Z7 ZbU;rw [show((5:Int)==1)=false from rfl,show((5:Int)==2)=false from rfl,show((5:Int)==5)=true from rfl,Cq0,Cq0,Cq1];dsimp only;rw [Int.toNat_natCast,hx,Option.getD_some]
theorem ZiW (hF:1000 <=F) {M K:Nat} (L:LV M K w m) (hK:K <=50000) {j:Nat} (hj:j < w.notes.length):∃ m',ZiM F w (ZbU j)=some (Z7 w (ZbU j),0)∧Zhc F m w (ZbU j)=some m'∧LV M K (Z7 w (ZbU j)) m'∧mu (Z7 w (ZbU j)) + 1 <=mu w∧(∀ s,SS (Z7 w (ZbU j)) s↔SS w s)∧(Z7 w (ZbU j)).names=w.names∧(Z7 w (ZbU j)).notes.length <=w.notes.length:=by
 have R:=L.rt;have hf:=ZsW j (w.cells.length:Int);have he:=Zwf hj (ZbU j).at_.toNat;have ZuP:=R.KA;obtain⟨n1,n2⟩:=Zee R hf he;have n2:=n2 (.inr rfl);have hv:=Zk6 R hf he L.g (by omega) (by omega);obtain⟨m',e1,L'⟩:=L.step hF hf he hv;obtain⟨x,hx⟩:∃ x,w.notes[j]? =some x:= ⟨_,List.getElem?_eq_getElem hj⟩
 have hd:=ZsX hx;have X4:= (ZeV R hf he).2.2.2.1 (show(5:Int) ≠ 1 by decide);refine⟨m',?_,e1,⟨L'.rt,L'.fit,L'.len,fun n a=>?_⟩,?_,fun s=>?_,X4,n2⟩
 ·rw [Zmc hF R.small,Zmb R hf];unfold stepW;rw [he,hv];rfl
 ·rw [hd];have:=ZrB R hx n a;have:=L.g n a;omega
 ·rw [hd];exact ZiX R hx
 ·obtain⟨y,hy,a,b⟩:= (Zbg R hf he).2.2.2.2 rfl;have hj2:(ZbU j).at_.toNat=j:=rfl;rw [hj2] at hy b;rw [hx] at hy;cases hy;unfold SS;rw [a,b];obtain⟨g1,g2⟩:=ZfI hx;by_cases h:x.kind=1
  ·rw [if_pos h];obtain⟨q,hq⟩:∃ q,(gives (w.notes.take j)).length=q:= ⟨_,rfl⟩
   have g2:=g2 h;rw [hq] at g2 ⊢;obtain⟨hql,hqx⟩:=Li0 g2
   have Zan:gives w.notes= (gives w.notes).take q ++ ⟨x.Zx,x.name⟩::(gives w.notes).drop (q + 1):=by
    rw [← hqx,← List.drop_eq_getElem_cons,List.take_append_drop]
   constructor
   ·rintro((z | ⟨_,z⟩) | z)
    ·exact .inl z
    ·right;rw [Zan,z];simp
    ·right;rw [Zan];rcases List.mem_append.1 z with z | z
     ·exact List.mem_append_left _ z
     ·exact List.mem_append_right _ (List.mem_cons_of_mem _ z)
   ·rintro(z | z)
    ·exact .inl (.inl z)
    ·rw [Zan] at z;rcases List.mem_append.1 z with z | z
     ·exact .inr (List.mem_append_left _ z)
     ·rcases List.mem_cons.1 z with z | z
      ·exact .inl (.inr ⟨h,z⟩)
      ·exact .inr (List.mem_append_right _ z)
  ·rw [if_neg h];exact⟨fun z=>z.imp (fun y=>y.elim id fun u=>absurd u.1 h) id,fun z=>z.imp .inl id⟩
structure Calm (M K:Nat) (w w':Zb) (m':Model):Prop where
 lv:LV M K w' m'
 notes:w'.notes= []
 ss:∀ s,SS w' s↔SS w s
 names:w'.names=w.names
theorem ZsY (hF:1000 <=F) {M K:Nat} (hK:K <=50000) {q:List Int} (hq:∀ x ∈ q,0 <=x∧x <=255):∀ (b k F':Nat) (w:Zb) (m:Model),LV M K w m ->mu w <=b ->k + b <=1000 ->b < F' ->
 ∃ w' m',loop F' (Zea F q) ((k:Int),w.cells,w.notes,w.names,w.freed,m.uses,m.ways)=some (w',m',true)∧Calm M K w w' m':=by
 intro b
 have fin:∀ (k F':Nat) (w:Zb) (m:Model),LV M K w m ->w.notes= [] ->0 < F' ->∃ w' m',loop F' (Zea F q) ((k:Int),w.cells,w.notes,w.names,w.freed,m.uses,m.ways)=some (w',m',true)∧Calm M K w w' m':=by
  intro k F' w m L h0 hF';obtain⟨F',rfl⟩:=Ne0 (n:=F') (by omega);rw [Yi];simp only [Zea];rw [decide_eq_false (by rw [h0];simp),Cq0];have ew:(⟨w.cells,w.notes,w.names,w.freed⟩:Zb)=w:=rfl;have em:(⟨m.uses,m.ways⟩:Model)=m:=rfl;rw [ew,em,ZlE hF L.rt L.fit];exact⟨w,m,rfl,L,h0,fun s=>Iff.rfl,rfl⟩
 induction b with
 | zero=>
   intro k F' w m L hm hk hF';refine fin k F' w m L ?_ (by omega);cases hx:w.notes with
   | nil=>rfl
   | cons x l=>
     exfalso;have:=ZiX L.rt (k:=0) (x:=x) (by rw [hx];rfl);omega
 | succ b ih=>
   intro k F' w m L hm hk hF';by_cases h0:w.notes= []
   ·exact fin k F' w m L h0 (by omega)
   obtain⟨F',rfl⟩:=Ne0 (n:=F') (by omega);have hpos:0 < w.notes.length:=List.length_pos_iff.2 h0;have ZuP:=L.rt.KA;rw [Yi];simp only [Zea];rw [decide_eq_true (by omega),Cq1];have ew:(⟨w.cells,w.notes,w.names,w.freed⟩:Zb)=w:=rfl;have em:(⟨m.uses,m.ways⟩:Model)=m:=rfl
   have go:∀ j:Nat,j < w.notes.length ->∃ w' m',Zf3 F (k:Int) w.cells w.notes w.names w.freed m.uses m.ways (loop F' (Zea F q)) (j:Int)=some (w',m',true)∧Calm M K w w' m':=by
    intro j hj;obtain⟨m1,e1,e2,L1,l1,s1,n1,_⟩:=ZiW hF L hK hj;unfold Zf3;rw [ew,em];rw [show ZiM F w ⟨5,(j:Int),0,0⟩=_ from e1,Bq0];dsimp only;rw [show((0:Int) !=0)=false from rfl,decide_eq_false (by omega),show(((Z7 w (ZbU j)).cells.length:Int) != (w.cells.length:Int))=false by rw [L1.len,L.len];simp];simp only [Bool.or_self,Cq0];rw [show Zhc F m w ⟨5,(j:Int),0,0⟩=_ from e2,Bq0,Xd (by omega)];obtain⟨w',m',e3,C⟩:=ih (k + 1) F' _ m1 L1 (by omega) (by omega) (by omega);exact⟨w',m',e3,C.lv,C.notes,fun s=>(C.ss s).trans (s1 s),C.names.trans n1⟩
   cases hq0:decide ((q.length:Int) > 0)
   ·rw [Cq0];exact go 0 hpos
   ·rw [Cq1];have hqp:(0:Int) < q.length:=by simpa using hq0
    obtain⟨e1,a0,a1⟩:=UA (a:= (k:Int)) (b:= (q.length:Int)) (by omega) hqp;rw [e1,Bq0];obtain⟨i,hi⟩:∃ i:Nat,(k:Int) % (q.length:Int)= (i:Int):= ⟨((k:Int) % (q.length:Int)).toNat,by omega⟩
    rw [hi] at a0 a1 ⊢;have hiq:i < q.length:=by omega
    rw [Z5,List.getElem?_eq_getElem hiq,Bq0];have hr:=hq q[i] (List.getElem_mem hiq);rw [YP (n:=q[i]) (by omega) (by omega)];obtain⟨e2,b0,b1⟩:=UA (a:=q[i]) (b:= (w.notes.length:Int)) hr.1 (by omega);rw [e2,Bq0];obtain⟨j,hj⟩:∃ j:Nat,q[i] % (w.notes.length:Int)= (j:Int):= ⟨(q[i] % (w.notes.length:Int)).toNat,by omega⟩
    rw [hj] at b0 b1 ⊢;exact go j (by omega)
theorem ZrC (hF:1000 <=F) {M K:Nat} (hK:K <=50000) {q:List Int} (hq:∀ x ∈ q,0 <=x∧x <=255) (L:LV M K w m):∃ w' m',ZvS F w m q=some (w',m',true)∧Calm M K w w' m':=by
 have:=Zuv L.rt;exact ZsY hF hK hq 232 0 F w m L (by omega) (by omega) (by omega)
end
end Go.Proofs.Ytekpjgmhkkjhgaa
end
section
namespace Go.Proofs.Ytekpjgmhkkjhgaa
open Go.Lf
section
variable {w:Zb} {m:Model} {F:Nat} {n:Int}
theorem ZmS {f:Nat ->Int}:∀ {M:Nat},1 <=Ko f M ->∃ k,k < M∧1 <=f k
 | 0,h=>by simp [Ko] at h
 | M + 1,h=>by
   unfold Ko at h;by_cases e:1 <=f M
   ·exact⟨M,by omega,e⟩
   ·obtain⟨k,h1,h2⟩:=ZmS (M:=M) (f:=f) (by omega);exact⟨k,by omega,h2⟩
theorem Zkw (dep:Int ->Nat):∀ M:Nat,∃ B,∀ k:Nat,k < M ->dep (k:Int) <=B
 | 0=>⟨0,fun k h=>by omega⟩
 | M + 1=>by
   obtain⟨B,h⟩:=Zkw dep M;refine⟨B + dep (M:Int),fun k hk=>?_⟩;by_cases e:k=M
   ·subst e;omega
   ·have:=h k (by omega);omega
theorem ZoQ (R:Rt w) (h0:w.notes= []) (hn:Yr w n=true):∃ a,Uses w ⟨a,n⟩:=by
 by_cases hex:∃ a,Uses w ⟨a,n⟩
 ·exact hex
 exfalso;obtain⟨h,H,_⟩:=R.nm n hn;have hns:Jh w n= []:=by unfold Jh;rw [h0];rfl
 rw [hns] at H;have hone:=H.one;have hc0:J6 ([]:List Zd)=0:=rfl;rw [hc0] at hone
 have child:∀ a c,YX w n a=some c ->∃ b d,YX w n b=some d∧d.from_=a∧b ≠ h:=by
  intro a c hc;have hr:=H.rng a c hc;have hout:= (H.Zh5 hc).2.2 hc0
  have hnu:c.use=false:=by
   cases hu:c.use
   ·rfl
   ·exact absurd ⟨a,c,hc,hu⟩ hex
  have hnz:= (R.rx.1.cn n a c hc).2
  have hne:c.out ≠ 0:=by
   rcases hnz with z | z | z
   ·rw [hnu] at z;cases z
   ·exact z
   ·exact z.elim
  have hacc:=H.acc a hr.1 hr.2;unfold Uf Jl at hacc;rw [hc] at hacc;simp only [Qf,YQ] at hacc;obtain⟨k,k1,k2⟩:=ZmS (f:=fun m=>Wu a (YX w n m)) (M:=w.cells.length) (by omega);cases hd:YX w n (k:Int) with
  | none=>rw [hd] at k2;simp [Wu] at k2
  | some d=>
    rw [hd,Qg] at k2
    have ZE3:d.from_=a:=by
     by_cases e:d.from_=a
     ·exact e
     ·rw [if_neg e] at k2;omega
    refine⟨k,d,hd,ZE3,fun e=>?_⟩;have hroot:Jy (YX w n h)=1:=by omega
    rw [← e,hd] at hroot
    have hdr:d.root=true:=by
     by_cases z:d.root=true
     ·exact z
     ·have hz:Jy (some d)=0:=if_neg z;omega
    rcases H.cel _ d hd with z | z
    ·rw [hdr] at z;cases z.1
    ·omega
 obtain⟨dep,L⟩:=H.lead;obtain⟨B,hB⟩:=Zkw dep w.cells.length
 have deep:∀ k:Nat,∃ a c,YX w n a=some c∧k <=dep a:=by
  intro k
  induction k with
  | zero=>
    cases hc:YX w n h with
    | none=>rw [hc] at hone;simp [Jy] at hone
    | some c=>exact⟨h,c,hc,Nat.zero_le _⟩
  | succ k ih=>
    obtain⟨a,c,hc,hk⟩:=ih;obtain⟨b,d,hd,hf,hb⟩:=child a c hc;have:= (L b d hd hb).2.2;rw [hf] at this;exact⟨b,d,hd,by omega⟩
 obtain⟨a,c,hc,hk⟩:=deep (B + 1);have hr:=H.rng a c hc;have:=hB a.toNat (by omega);rw [show((a.toNat:Nat):Int)=a by omega] at this;omega
end
end Go.Proofs.Ytekpjgmhkkjhgaa
end
section
namespace Go.Proofs.Ytekpjgmhkkjhgaa
open Go.Lf
section
variable {w:Zb} {m:Model} {F:Nat}
theorem ZrP (h:gives w.notes= []) (s:Yp):SS w s↔Uses w s:=by
 unfold SS;rw [h];simp
theorem Zki (h:w.notes= []):gives w.notes= []:=by rw [h];rfl
theorem ZrI:∀ {l r:List Int},l.Pairwise (· < ·) ->r.Pairwise (· < ·) ->(∀ x,x ∈ l↔x ∈ r) ->l=r
 | [],[],_,_,_=>rfl
 | [],y::r,_,_,h=>by have:= (h y).2 (by simp);simp at this
 | x::l,[],_,_,h=>by have:= (h x).1 (by simp);simp at this
 | x::l,y::r,hl,hr,h=>by
   rw [List.pairwise_cons] at hl hr
   have e:x=y:=by
    have h1:= (h x).1 (by simp);have h2:= (h y).2 (by simp);rcases List.mem_cons.1 h1 with z | z
    ·exact z
    ·rcases List.mem_cons.1 h2 with u | u
     ·exact u.symm
     ·have:=hr.1 x z;have:=hl.1 y u;omega
   subst e;rw [ZrI hl.2 hr.2 fun z=>?_]
   constructor
   ·intro hz;rcases List.mem_cons.1 ((h z).1 (List.mem_cons_of_mem _ hz)) with u | u
    ·have:=hl.1 z hz;omega
    ·exact u
   ·intro hz;rcases List.mem_cons.1 ((h z).2 (List.mem_cons_of_mem _ hz)) with u | u
    ·have:=hr.1 z hz;omega
    ·exact u
theorem Calm.ZkT {M K K':Nat} {w1 w2:Zb} {m1 m2:Model} (A:Calm M K w w1 m1) (B:Calm M K' w w2 m2) (s:Yp):Uses w1 s↔Uses w2 s:=by
 rw [← ZrP (Zki A.notes),← ZrP (Zki B.notes),A.ss,B.ss]
theorem Calm.Zvz {M K K':Nat} {w1 w2:Zb} {m1 m2:Model} (A:Calm M K w w1 m1) (B:Calm M K' w w2 m2):w1.freed=w2.freed:=by
 have one:∀ {K K':Nat} {w1 w2:Zb} {m1 m2:Model},Calm M K w w1 m1 ->Calm M K' w w2 m2 ->∀ x,x ∈ w1.freed ->x ∈ w2.freed:=by
  intro K K' w1 w2 m1 m2 A B x hx;have hr:=A.lv.rt.frr x hx;by_cases h:x ∈ w2.freed
  ·exact h
  ·exfalso
   have hn:Yr w2 x=true:=by
    unfold Yr;rw [decide_eq_true hr.1,decide_eq_true (by rw [B.names,← A.names];exact hr.2)]
    have:(w2.freed.any fun y=>y==x)=false:=by
     rw [List.any_eq_false];intro y hy z;rw [beq_iff_eq] at z;rw [z] at hy;exact h hy
    rw [this];rfl
   obtain⟨a,ha⟩:=ZoQ B.lv.rt B.notes hn;have:= ((A.ZkT B _).2 ha).name A.lv.rt;have:=KY this;rw [List.any_eq_false] at this;exact this x hx (by simp)
 exact ZrI A.lv.rt.fr B.lv.rt.fr fun x=>⟨one A B x,one B A x⟩
theorem Calm.len_eq {M K K':Nat} {w1 w2:Zb} {m1 m2:Model} (A:Calm M K w w1 m1) (B:Calm M K' w w2 m2):m1.uses.length=m2.uses.length:=by
 refine List.Perm.length_eq ((List.perm_ext_iff_of_nodup A.lv.fit.nd B.lv.fit.nd).2 fun s=>?_);rw [A.lv.fit.mem,B.lv.fit.mem,A.ZkT B]
structure TV (M K:Nat) (w0 w:Zb) (m:Model):Prop where
 lv:LV M K w m
 ss:∀ s,SS w s↔SS w0 s
 names:w.names=w0.names
theorem TV.mono {M K K':Nat} {w0:Zb} (h:TV M K w0 w m) (hk:K <=K'):TV M K' w0 w m:= ⟨h.lv.mono hk,h.ss,h.names⟩
theorem go_step (hF:1000 <=F) {M K:Nat} {w0:Zb} (T:TV M K w0 w m) (hK:K <=50000) {j:Nat} (hj:j < w.cells.length) {n Zx:Int} {c:Za} (hc:UI (rowOf w j) n=some c) (hr:c.root=true) (hto:0 <=Zx∧Zx < (w.cells.length:Int)) (hne:Zx ≠ (j:Int)) (hn0:0 <=n) (hl:w.notes.length ≠ 80):∃ m',ZiM F w ⟨4,(j:Int),n,Zx⟩=some (Z7 w ⟨4,(j:Int),n,Zx⟩,0)∧Zhc F m w ⟨4,(j:Int),n,Zx⟩=some m'∧TV M (K + 1) w0 (Z7 w ⟨4,(j:Int),n,Zx⟩) m':=by
 have L:=T.lv;have R:=L.rt;have ZuP:=R.KA
 have hf:Qp ⟨4,(j:Int),n,Zx⟩ (w.cells.length:Int)=true:=by
  unfold Qp;simp;omega
 have he:YH w ⟨4,(j:Int),n,Zx⟩ ((j:Int).toNat)=0:=by
  unfold YH;rw [Int.toNat_natCast];dsimp only;rw [hc];simp [hr]
 have hv:=Zk6 R hf he L.g (by omega) (by have:= (Zee R hf he).1;omega);obtain⟨m',e,L'⟩:=L.step hF hf he hv;obtain⟨a,b⟩:= (Zbg R hf he).2.2.2.1 rfl;have X4:= (ZeV R hf he).2.2.2.1 (show(4:Int) ≠ 1 by decide);refine⟨m',?_,e,⟨L',fun s=>?_,X4.trans T.names⟩⟩
 ·rw [Zmc hF R.small,Zmb R hf];unfold stepW;rw [show YH w ⟨4,(j:Int),n,Zx⟩ (Zo.mk 4 (j:Int) n Zx).at_.toNat=0 from he,hv];rfl
 ·rw [← T.ss s];unfold SS;rw [a,b]
theorem ZtZ (n:Int):∀ {r:Row},Ug r ->∀ {c:Za},c ∈ r ->c.name=n ->UI r n=some c:=by
 intro r s c hc hn;rw [← hn];exact Zlv s hc
section
variable {M K:Nat} {w0:Zb} {k:Nat} {next:Int×(List (List Za))×(List Zd)×Int×(List Int)×(List Yp)×(List Yp) ->Option Bool}
def Nx (M K:Nat) (w0:Zb) (k:Nat) (next:Int×(List (List Za))×(List Zd)×Int×(List Int)×(List Yp)×(List Yp) ->Option Bool):Prop:=
 ∀ (w':Zb) (m':Model),TV M (K + 1) w0 w' m' ->next (((k + 1:Nat):Int),w'.cells,w'.notes,w'.names,w'.freed,m'.uses,m'.ways)=some true
theorem ZkU (T:TV M K w0 w m) (hk:k <=1000) (hx:Nx M K w0 k next):ZcE (k:Int) next (w.cells,w.notes,w.names,w.freed,m.uses,m.ways)=some true:=by
 unfold ZcE;rw [Xd (by omega)];exact hx w m (T.mono (by omega))
theorem ZkV (hF:1000 <=F) (T:TV M K w0 w m) (hk:k <=1000) (hx:Nx M K w0 k next) {d:Zo} {b:Bool} {x y:Int} {w':Zb} {m':Model} (h1:ZiM F w ⟨d.ZT,x,d.name,y⟩=some (w',0)) (h2:Zhc F m w ⟨d.ZT,x,d.name,y⟩=some m') (T':TV M (K + 1) w0 w' m'):Zed F (k:Int) w.cells w.notes w.names w.freed m.uses m.ways next (d,b) (x,y)=some true:=by
 unfold Zed;have ew:(⟨w.cells,w.notes,w.names,w.freed⟩:Zb)=w:=rfl;have em:(⟨m.uses,m.ways⟩:Model)=m:=rfl;dsimp only;rw [ew,em,h1,Bq0];dsimp only;rw [show((0:Int) !=0)=false from rfl,show((w'.cells.length:Int) != (w.cells.length:Int))=false by rw [T'.lv.len,T.lv.len];simp];simp only [Bool.or_self,Cq0];rw [h2,Bq0,ZlE hF T'.lv.rt T'.lv.fit,Bq0];simp only [Bool.not_true,Cq0];unfold ZcE;rw [Xd (by omega)];exact hx w' m' T'
theorem Zxf (hF:1000 <=F) (T:TV M K w0 w m) (hK:K <=50000) (hk:k <=1000) (hx:Nx M K w0 k next) {d:Zo} {b:Bool} (hd:d.ZT=4) (hf:Qp d w.cells.length=true) {j:Nat} (hj:j < w.cells.length) {c:Za} (hc:UI (rowOf w j) d.name=some c) (hr:c.root=true):Zec F (k:Int) w.cells w.notes w.names w.freed m.uses m.ways next (d,b) (j:Int)=some true:=by
 have hc6:=T.lv.rt.c6
 have hfm:(0 <=d.at_∧d.at_ < (w.cells.length:Int))∧(0 <=d.Zx∧d.Zx < (w.cells.length:Int))∧d.at_ ≠ d.Zx∧0 <=d.name:=by
  rcases YR hf with⟨z,_⟩ | ⟨_,z⟩ | ⟨z,_⟩ | ⟨z,_⟩
  ·omega
  ·exact z
  ·omega
  ·omega
 obtain⟨a0,t0,ne,n0⟩:=hfm;unfold Zec;dsimp only;rw [decide_eq_false (by omega),Bool.false_or];cases hl:((w.notes.length:Int)==80)
 ·rw [Cq0]
  have hl:w.notes.length ≠ 80:=by
   intro z;rw [z] at hl;cases hl
  cases ht:(d.Zx== (j:Int))
  ·rw [Cq0];have ht:d.Zx ≠ (j:Int):=by simpa using ht
   obtain⟨m',e1,e2,T'⟩:=go_step hF T hK hj hc hr t0 ht n0 hl;refine ZkV hF T hk hx (w':=Z7 w ⟨4,(j:Int),d.name,d.Zx⟩) (m':=m') ?_ ?_ T'
   ·rw [hd];exact e1
   ·rw [hd];exact e2
  ·rw [Cq1,YP (n:= (j:Int) + 1) (by omega) (by omega)];have ht:d.Zx= (j:Int):=by simpa using ht
   obtain⟨e0,b0,b1⟩:=UA (a:= (j:Int) + 1) (b:= (w.cells.length:Int)) (by omega) (by omega);rw [e0,Bq0]
   have hne:((j:Int) + 1) % (w.cells.length:Int) ≠ (j:Int):=by
    by_cases z:(j:Int) + 1 < (w.cells.length:Int)
    ·rw [Int.emod_eq_of_lt (by omega) z];omega
    ·have:(j:Int) + 1= (w.cells.length:Int):=by omega
     rw [this,Int.emod_self];omega
   obtain⟨m',e1,e2,T'⟩:=go_step hF T hK hj hc hr ⟨b0,b1⟩ hne n0 hl;refine ZkV hF T hk hx (w':=Z7 w ⟨4,(j:Int),d.name,((j:Int) + 1) % (w.cells.length:Int)⟩) (m':=m') ?_ ?_ T'
   ·rw [hd];exact e1
   ·rw [hd];exact e2
 ·rw [Cq1];exact ZkU T hk hx
theorem Zxe (hF:1000 <=F) (T:TV M K w0 w m) (hK:K <=50000) (hk:k <=1000) (hx:Nx M K w0 k next) {d:Zo} {b:Bool} (hd:d.ZT=4) (hf:Qp d w.cells.length=true):∀ (e j F':Nat),j + e=w.cells.length ->e < F' ->loop F' (Zf5 F (k:Int) w.cells w.notes w.names w.freed m.uses m.ways next (d,b)) (j:Int)=some true:=by
 intro e;have hc6:=T.lv.rt.c6;have R:=T.lv.rt
 induction e with
 | zero=>
   intro j F' hj hF';obtain⟨F',rfl⟩:=Ne0 (n:=F') (by omega);rw [Yi];simp only [Zf5];rw [decide_eq_false (by omega),Cq0];unfold Zec;rw [show decide ((-1:Int) < 0)=true from rfl,Bool.true_or,Cq1];exact ZkU T hk hx
 | succ e ih=>
   intro j F' hj hF';obtain⟨F',rfl⟩:=Ne0 (n:=F') (by omega);have hlt:j < w.cells.length:=by omega
   have hrl:=Szd.Zbx R.n12 (R.Yx j hlt) (fun c hc=>R.rx.1.range j hlt c hc);rw [Yi];simp only [Zf5];rw [decide_eq_true (by omega),Cq1,Z5,QJ hlt,Bq0];obtain⟨nx,hnx⟩:∃ nx,loop F' (Zf5 F (k:Int) w.cells w.notes w.names w.freed m.uses m.ways next (d,b))=nx:= ⟨_,rfl⟩
   rw [hnx]
   have e1:=Xf (rowOf w j) (fun v (_:Unit)=>v) (Zf4 F (k:Int) w.cells w.notes w.names w.freed m.uses m.ways next (d,b) (j:Int) nx (rowOf w j)) (fun i y s q=>bif(y.name==d.name) && y.root then K9 F (k:Int) w.cells w.notes w.names w.freed m.uses m.ways next (d,b) (j:Int) nx (i:Int) else q ()) (fun _=>K9 F (k:Int) w.cells w.notes w.names w.freed m.uses m.ways next (d,b) (j:Int) nx (-1)) (by omega) (fun i y s q hy hi=>by
    simp only [Zf4,Z5,hy,hi,decide_true,Bq0,Cq1]) (fun s q=>by simp [Zf4]) (by omega:(rowOf w j).length < F) ()
   rw [show loop F (Zf4 F (k:Int) w.cells w.notes w.names w.freed m.uses m.ways next (d,b) (j:Int) nx (rowOf w j)) 0=_ from e1];rcases Zdb (l:=rowOf w j) (i:=0) (s:= ()) (d:=fun _=>K9 F (k:Int) w.cells w.notes w.names w.freed m.uses m.ways next (d,b) (j:Int) nx (-1)) (g:=fun i (y:Za) (_:Unit) q=>bif(y.name==d.name) && y.root then K9 F (k:Int) w.cells w.notes w.names w.freed m.uses m.ways next (d,b) (j:Int) nx (i:Int) else q ()) (fun i=>K9 F (k:Int) w.cells w.notes w.names w.freed m.uses m.ways next (d,b) (j:Int) nx (i:Int)) (fun y=>(y.name==d.name) && y.root) (fun _ _ _ _=>rfl) with⟨i,y,h1,h2,h3⟩ | ⟨h1,h2⟩
   ·rw [h3];have hy:=List.find?_some h1;rw [Ba0,beq_iff_eq] at hy;unfold K9;rw [decide_eq_true (by omega),Cq1];exact Zxf hF T hK hk hx hd hf hlt (ZtZ d.name (R.Yx j hlt) (List.mem_of_find?_eq_some h1) hy.1) hy.2
   ·rw [h2];unfold K9;rw [show decide ((-1:Int) >=0)=false from rfl,Cq0,Xd (by omega),← hnx];exact ih (j + 1) F' (by omega) (by omega)
end
end
end Go.Proofs.Ytekpjgmhkkjhgaa
end
section
namespace Go.Proofs.Ytekpjgmhkkjhgaa
open Go.Lf
section
variable {F:Nat}
theorem ZDU {x:Int} (h0:0 <=x) (h1:x <=255):IntKind.wrap .u8 x=x:=by
 unfold Go.IntKind.wrap;have e1:(2 ^ IntKind.u8.bits:Int)=256:=by decide
 simp only [e1,show IntKind.u8.signed=false from rfl];have:=Int.emod_eq_of_lt h0 (by omega:x < 256)
 simpa using this
theorem ZxG {a:Uz} {M nm nt x5 v14 v26 k:Int} {d:Zo} (hk:k=4∨k=5) (h:ZcA a M nm nt x5 v14 v26 k false=some (d,true)):d.ZT=4∨(d.ZT=5∧d.name=0∧d.Zx=0):=by
 unfold ZcA at h;rw [Cq0,show(k==3)=false by simp;omega,Cq0] at h;cases h4:(k==4)
 ·rw [h4,Cq0] at h;cases h0:(nt==0)
  ·rw [h0,Cq0] at h;cases e:Zam (ZP a.at_) nt with
   | none=>rw [e] at h;cases h
   | some y=>
     rw [e,Bq0] at h;have:=Oi0 h;have e1:= (Prod.mk.inj this).1;subst e1;exact .inr ⟨rfl,rfl,rfl⟩
  ·rw [h0,Cq1] at h;have:= (Prod.mk.inj (Oi0 h)).2;cases this
 ·rw [h4,Cq1] at h;have e1:= (Prod.mk.inj (Oi0 h)).1;subst e1;exact .inl rfl
theorem ZqS {a:Uz} {M nm nt x5 v14 v26:Int} {d:Zo} (hk:a.ZT=4∨a.ZT=5) (h:ZcB a M nm nt x5 v14 v26=some (d,true)):d.ZT=4∨(d.ZT=5∧d.name=0∧d.Zx=0):=by
 unfold ZcB at h;rw [(UA (a:=a.ZT) (b:=9) (by omega) (by omega)).1,Bq0] at h;rw [show(a.ZT % 9==0)=false by simp;omega,Cq0,show(a.ZT % 9==1)=false by simp;omega,Cq0,show(a.ZT % 9==2)=false by simp;omega] at h;exact ZxG (by omega) h
theorem ZqT {a:Uz} {M nm nt x5 v14:Int} {d:Zo} (hk:a.ZT=4∨a.ZT=5) (h:ZcC a M nm nt x5 v14=some (d,true)):d.ZT=4∨(d.ZT=5∧d.name=0∧d.Zx=0):=by
 unfold ZcC at h;cases h1:decide (M > 1)
 ·rw [h1,Cq0] at h;exact ZqS hk h
 ·rw [h1,Cq1] at h;cases e:Zam (ZP a.Zx) (ZP (M - 1)) with
  | none=>rw [e] at h;cases h
  | some y=>
    rw [e,Bq0] at h;cases e':Zam (ZP (ZP (x5 + 1) + y)) M with
    | none=>rw [e'] at h;cases h
    | some y'=>
      rw [e',Bq0] at h;exact ZqS hk h
theorem ZsR {a:Uz} {M nm nt:Int} {d:Zo} (hk:a.ZT=4∨a.ZT=5) (h:ZnQ a M nm nt=some (d,true)):d.ZT=4∨(d.ZT=5∧d.name=0∧d.Zx=0):=by
 unfold ZnQ at h;cases e:Zam (ZP a.at_) M with
 | none=>rw [e] at h;cases h
 | some x5=>
   rw [e,Bq0] at h;cases h1:decide (nm > 0)
   ·rw [h1,Cq0] at h;exact ZqT hk h
   ·rw [h1,Cq1] at h;cases e':Zam (ZP a.name) nm with
    | none=>rw [e'] at h;cases h
    | some y=>
      rw [e',Bq0] at h;exact ZqT hk h
theorem ZmP (hF:1000 <=F) {M K:Nat} {w0 w1:Zb} {m1:Model} (A:Calm M K w0 w1 m1) {q:List Int} (hq:∀ x ∈ q,0 <=x∧x <=255) (z:List Uz) (hz:z.length <=120) (hu:∀ a ∈ z,U8 a):∀ (e i F':Nat) (w:Zb) (m:Model),TV M (120 + i) w0 w m ->i + e=z.length ->e < F' ->
 loop F' (Zf6 F q (w1,m1,true) z) ((i:Int),w.cells,w.notes,w.names,w.freed,m.uses,m.ways)=some true:=by
 intro e
 induction e with
 | zero=>
   intro i F' w m T hi hF';obtain⟨F',rfl⟩:=Ne0 (n:=F') (by omega);rw [Yi];simp only [Zf6];rw [decide_eq_false (by omega),Cq0];have ew:(⟨w.cells,w.notes,w.names,w.freed⟩:Zb)=w:=rfl;have em:(⟨m.uses,m.ways⟩:Model)=m:=rfl;obtain⟨w2,m2,e2,C⟩:=ZrC hF (by omega) hq T.lv;have B:Calm M (120 + i) w0 w2 m2:= ⟨C.lv,C.notes,fun s=>(C.ss s).trans (T.ss s),C.names.trans T.names⟩
   rw [ew,em,e2,Bq0];simp only [Bool.not_true,Bool.not_false,ZeL];rw [← A.Zvz B,Zsk hF A.lv.rt.small.freed,Bq0];have hlen:=A.len_eq B;rw [show((m1.uses.length:Int) != (m2.uses.length:Int))=false by simp;omega];simp only [Bool.not_true,Bool.or_self,Cq0];obtain⟨hu1,_⟩:=A.lv.fit.small A.lv.rt;obtain⟨hu2,_⟩:=B.lv.fit.small B.lv.rt;refine Wn (l:=m1.uses) (by omega) hF _ (fun k y next hy=>?_) (fun next=>?_)
   ·have hk:= (Li0 hy).1;have hin:y ∈ m2.uses:= (B.lv.fit.mem y).2 ((A.ZkT B y).1 ((A.lv.fit.mem y).1 (List.mem_of_getElem? hy)));simp only [ZlX,Z5,hy,Bq0];rw [decide_eq_true (by omega),Cq1,WN hF (by omega),decide_eq_true hin];rfl
   ·simp only [ZlX];rw [decide_eq_false (by omega),Cq0];simp [ZCM]
 | succ e ih=>
   intro i F' w m T hi hF';obtain⟨F',rfl⟩:=Ne0 (n:=F') (by omega);have hlt:i < z.length:=by omega
   have hua:=hu z[i] (List.getElem_mem hlt);have R:=T.lv.rt;have:=R.c1;have:=R.c6;have:=R.n0;have:=R.n12;have ZuP:=R.KA;rw [Yi];simp only [Zf6];rw [decide_eq_true (by omega),Cq1,Z5,List.getElem?_eq_getElem hlt,Bq0];obtain⟨e0,b0,b1⟩:=UA (a:=z[i].ZT) (b:=2) hua.ud.1 (by omega);rw [e0,Bq0,ZDU (x:=4 + z[i].ZT % 2) (by omega) (by omega)];have hx:Nx M (120 + i) w0 i (loop F' (Zf6 F q (w1,m1,true) z)):=fun w' m' T'=>ih (i + 1) F' w' m' T' (by omega) (by omega)
   have ub:U8 ⟨4 + z[i].ZT % 2,z[i].at_,z[i].name,z[i].Zx⟩:= ⟨⟨by show 0 <=4 + z[i].ZT % 2;omega,by show 4 + z[i].ZT % 2 <=255;omega⟩,hua.ua,hua.un,hua.ut⟩
   obtain⟨d,b,e1,e2⟩:=Zrz ub (M:=w.cells.length) (nm:=w.names) (nt:=w.notes.length) ⟨by omega,by omega⟩ ⟨by omega,by omega⟩ ⟨by omega,by omega⟩;rw [e1,Bq0];cases b
   ·simp only [Bool.not_false,Cq1];exact ZkU T (by omega) hx
   ·have D:=e2 rfl;have hfd:=D.form;simp only [Bool.not_true,Cq0];cases h4:(d.ZT==4)
    ·rw [Cq0]
     have k5:d=ZbU d.at_.toNat∧d.at_.toNat < w.notes.length:=by
      have n4:d.ZT ≠ 4:=by simpa using h4
      obtain⟨q5,q6,q7⟩:= (ZsR (by show(4 + z[i].ZT % 2=4∨4 + z[i].ZT % 2=5);omega) e1).resolve_left n4;obtain⟨q8,q9⟩:=D.note q5;refine⟨?_,by omega⟩;have e8:(d.at_.toNat:Int)=d.at_:=Int.toNat_of_nonneg q8;obtain⟨x1,x2,x3,x4⟩:=d;simp only at q5 q6 q7 q8 e8;subst q5 q6 q7;unfold ZbU;simp only [e8]
     obtain⟨k5,hj⟩:=k5;obtain⟨m',q1,q2,L1,_,s1,n1,_⟩:=ZiW hF T.lv (by omega) hj;rw [← k5] at q1 q2 L1 s1 n1;exact ZkV hF T (by omega) hx (w':=Z7 w d) (m':=m') q1 q2 ⟨L1.mono (by omega),fun s=>(s1 s).trans (T.ss s),n1.trans T.names⟩
    ·rw [Cq1];exact Zxe hF T (by omega) (by omega) hx (by simpa using h4) hfd w.cells.length 0 F (by omega) (by omega)
theorem Zgt (p:Int) (l r:List Uz) (q:List Int) (hp:0 <=p∧p <=255) (hl:∀ a ∈ l,U8 a) (hr:∀ a ∈ r,U8 a) (hq:∀ x ∈ q,0 <=x∧x <=255):ZsL 1000 p l r q=some true:=by
 have hF:1000 <=1000:=Nat.le_refl _;obtain⟨w,m,e,L⟩:=ZuD hF hp.1 hp.2 hl;obtain⟨hus,hws⟩:=L.fit.small L.rt;unfold ZsL ZpS;rw [e,Bq0];simp only [Bool.not_true,Cq0];rw [XK (by simp;omega) (by decide),Bq0,Bq0,XK (by simp;omega) (by decide),Bq0,Bq0];simp only [List.nil_append];obtain⟨w1,m1,e1,A⟩:=ZrC hF (by omega) hq L;rw [e1,Bq0];simp only [Bool.not_true,Cq0];rw [show slL r 0 (if 60 < (r.length:Int) then 60 else(r.length:Int))=some (r.take 60) from Zqw r 60,Bq0];have hlen:(r.take 60).length <=120:=by rw [List.length_take];omega
 exact ZmP hF A hq (r.take 60) hlen (fun a h=>hr a (List.mem_of_mem_take h)) (r.take 60).length 0 1000 w m ⟨L,fun s=>Iff.rfl,rfl⟩ (by omega) (by omega)
end
end Go.Proofs.Ytekpjgmhkkjhgaa
end
