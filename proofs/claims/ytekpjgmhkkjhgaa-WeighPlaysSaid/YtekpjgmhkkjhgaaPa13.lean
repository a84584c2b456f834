/- Plays Part 13 of the proof. -/
import Derived.Test.YtekpjgmhkkjhgaaPa12
set_option linter.all false
section
namespace Go.Proofs.Ytekpjgmhkkjhgaa
open Go.Lf
section
variable {κ ν:Type} [DecidableEq κ]
def UK (l:List (κ×ν)):Prop:= (l.map (·.1)).Nodup
theorem UK.nil:UK ([]:List (κ×ν)):=List.nodup_nil
theorem UK.Xi {l:List (κ×ν)} (u:UK l) (k:κ) (x:ν):UK (Xi l k x):=by
 unfold Go.Lf.Xi;cases e:Yd l k with
 | some q=>
   unfold UK at u ⊢
   have:(l.modify q.1 fun p=>(p.1,x)).map (·.1)=l.map (·.1):=by
    apply List.ext_getElem?;intro i;rw [List.getElem?_map,List.getElem?_map,List.getElem?_modify];cases l[i]? with
    | none=>rfl
    | some p=>simp only [Option.map_some];split <;> rfl
   dsimp only;rw [this];exact u
 | none=>
   unfold UK at u ⊢;dsimp only;rw [List.map_append,List.nodup_append];refine⟨u,by simp,fun a ha b hb=>?_⟩;simp at hb;subst hb;obtain⟨p,hp,rfl⟩:=List.mem_map.1 ha;exact ZbE.1 e p hp
theorem UK.ZaY {l:List (κ×ν)} (u:UK l) (k:κ):UK (ZaY l k):=by
 unfold Go.Lf.ZaY;cases e:Yd l k with
 | some q=>
   unfold UK at u ⊢;dsimp only;exact u.sublist ((List.eraseIdx_sublist l q.1).map _)
 | none=>exact u
theorem K3 (p:κ×ν) (l:List (κ×ν)) (k:κ):Yd (p::l) k=if p.1=k then some (0,p.2) else(Yd l k).map fun q=>(q.1 + 1,q.2):=rfl
theorem ZkA:∀ {l:List (κ×ν)},UK l ->∀ k k':κ,XF (ZaY l k) k'=if k'=k then none else XF l k'
 | [],_,k,k'=>by simp [ZaY,XF,Yd]
 | p::l,u,k,k'=>by
   have u':p.1 ∉ l.map (·.1)∧UK l:=List.nodup_cons.1 u;have ih:=ZkA u'.2 k k';unfold ZaY XF at ih ⊢;rw [K3 p l k,K3 p l k'];have hmm:∀ o:Option (Nat×ν),Option.map (·.2) (Option.map (fun q=>(q.1 + 1,q.2)) o)=Option.map (·.2) o:=fun o=>by cases o <;> rfl
   by_cases hp:p.1=k
   ·rw [if_pos hp];show Option.map _ (Yd ((p::l).eraseIdx 0) k')=_;rw [List.eraseIdx_cons_zero];by_cases hk:k'=k
    ·rw [if_pos hk,hk];have:Yd l k=none:=ZbE.2 fun q hq e=>u'.1 (List.mem_map.2 ⟨q,hq,e.trans hp.symm⟩)
     rw [this];rfl
    ·rw [if_neg hk,if_neg (fun z=>hk (z.symm.trans hp)),hmm]
   ·rw [if_neg hp];cases e:Yd l k with
    | none=>
      rw [e] at ih;dsimp only [Option.map_none] at ih ⊢;rw [K3];by_cases hk:k'=k
      ·rw [if_pos hk] at ih ⊢;rw [if_neg (fun z=>hp (z.trans hk)),hmm];exact ih
      ·rw [if_neg hk]
    | some q=>
      rw [e] at ih;dsimp only [Option.map_some] at ih ⊢;rw [List.eraseIdx_cons_succ,K3];by_cases h3:p.1=k'
      ·rw [if_pos h3,if_neg (fun z=>hp (h3.trans z)),if_pos h3]
      ·rw [if_neg h3,if_neg h3,hmm,hmm];exact ih
end
theorem MapOf.KQ {w:Za} {m:Nat} {n:Int} {l:List (Zg×Zb)} (s:MapOf w l) (u:UK l) (hm:m < w.cells.length):MapOf (cw w m (KQ n (rowOf w m))) (ZaY l ⟨m,n⟩):=by
 intro a b;rw [ZkA u,Yg,s a b];by_cases ha:0 <=a∧a < (w.cells.length:Int)
 ·rw [if_pos ha,if_pos ha,QH,QH];by_cases he:a= (m:Int)
  ·subst he;rw [Int.toNat_natCast,Qh hm,Zro];by_cases hb:b=n
   ·subst hb;rw [if_pos rfl,if_pos rfl]
   ·rw [if_neg (fun z=>hb (by injection z)),if_neg hb]
  ·rw [if_neg (fun z=>he (by injection z)),UE (by omega)]
 ·rw [if_neg ha,if_neg ha];split <;> rfl
end Go.Proofs.Ytekpjgmhkkjhgaa
end
section
namespace Go.Proofs.Ytekpjgmhkkjhgaa
open Go.Lf
def Asc (l:List Int):Prop:=l.Pairwise (· <=·)
theorem Zyh (a b:Int):Zg0 a b=some (decide (a < b)):=by
 unfold Zg0 ZkV;simp [gd]
theorem Zil {x:Int}:∀ {l:List Int},(∀ y ∈ l,y <=x) ->Q5 x l=l ++ [x]
 | [],_=>rfl
 | y::l,h=>by
   have:=h y (by simp);rw [Q5,if_neg (by omega),Zil (fun z hz=>h z (by simp [hz]))];rfl
theorem ZkD {x y:Int} (h:x < y):∀ {l:List Int},Q5 x (l ++ [y])=Q5 x l ++ [y]
 | []=>by
   have h':y > x:=h;show(if y > x then x::y:: [] else y::Q5 x [])=_;rw [if_pos h'];rfl
 | z::l=>by
   rw [List.cons_append,Q5,Q5];by_cases hz:z > x
   ·rw [if_pos hz,if_pos hz];rfl
   ·rw [if_neg hz,if_neg hz,ZkD h];rfl
theorem ZeG {x z:Int}:∀ {l:List Int},z ∈ Q5 x l ->z=x∨z ∈ l
 | [],h=>by simp [Q5] at h;exact .inl h
 | y::l,h=>by
   rw [Q5] at h;split at h
   ·rcases List.mem_cons.1 h with h | h
    ·exact .inl h
    ·exact .inr h
   ·rcases List.mem_cons.1 h with h | h
    ·exact .inr (by simp [h])
    ·exact(ZeG h).imp id fun q=>by simp [q]
theorem Asc.Q5 {x:Int}:∀ {l:List Int},Asc l ->Asc (Q5 x l)
 | [],_=>List.pairwise_singleton _ _
 | y::l,s=>by
   have s':=List.pairwise_cons.1 s;unfold Go.Proofs.Ytekpjgmhkkjhgaa.Q5;by_cases h:y > x
   ·rw [if_pos h];refine List.pairwise_cons.2 ⟨fun z hz=>?_,s⟩;rcases List.mem_cons.1 hz with rfl | hz
    ·omega
    ·have:=s'.1 z hz;omega
   ·rw [if_neg h];refine List.pairwise_cons.2 ⟨fun z hz=>?_,Asc.Q5 s'.2⟩;rcases ZeG hz with rfl | hz
    ·omega
    ·exact s'.1 z hz
theorem Zik (x:Int):∀ l:List Int,(Q5 x l).length=l.length + 1
 | []=>rfl
 | y::l=>by
   rw [Q5];split
   ·rfl
   ·simp [Zik x l]
theorem Zrn {α:Type} (p s:List α) (x:α):(p ++ x::s)[p.length]? =some x:=by simp
theorem Zps (i:Int) (next:Int×List Int ->Option (List Int)):∀ (k:Nat) (pre suf:List Int) (x:Int) (F:Nat),pre.length=k ->k < F ->k < 100000 ->Asc pre ->loop F (ZhB 0 i next) ((k:Int),pre ++ x::suf)=next (ZP (i + 1),Q5 x pre ++ suf):=by
 intro k
 induction k with
 | zero=>
   intro pre suf x F hp hF _ _;obtain⟨F,rfl⟩:=Ne0 (n:=F) (by omega);have:pre= []:=List.eq_nil_of_length_eq_zero hp;subst this;rw [Yk]
   rfl
 | succ k ih=>
   intro pre suf x F hp hF hk hs;obtain⟨F,rfl⟩:=Ne0 (n:=F) (by omega)
   obtain⟨p,y,rfl⟩:∃ p y,pre=p ++ [y]:=by
    refine⟨pre.dropLast,pre.getLast (by intro z;rw [z] at hp;simp at hp),?_⟩;exact(List.dropLast_concat_getLast _).symm
   have hpl:p.length=k:=by simpa using hp
   have hs':=List.pairwise_append.1 hs;rw [Yk];have e0:(p ++ [y]) ++ x::suf=p ++ y::x::suf:=by simp
   rw [e0]
   have g1:ZM (p ++ y::x::suf) ((k + 1:Nat):Int)=some x:=by
    rw [ZB,← hpl];rw [List.getElem?_append_right (by omega)];simp
   have g2:ZM (p ++ y::x::suf) (k:Int)=some y:=by rw [ZB,← hpl];exact Zrn _ _ _
   have ew:ZP (((k + 1:Nat):Int) - 1)= (k:Int):=by rw [ZmO (by omega) (by omega)];rfl
   have hgt:decide (((k + 1:Nat):Int) > 0)=true:=decide_eq_true (by omega);simp only [ZhB,hgt,gd,Cq1,g1,g2,ew,Bq0,Zyh,Bool.true_and];cases hlt:decide (x < y)
   ·rw [Cq0];have hle:y <=x:=by simpa using hlt
    rw [Zil (fun z hz=>by
     rcases List.mem_append.1 hz with hz | hz
     ·have:=hs'.2.2 z hz y (by simp);omega
     ·simp at hz;omega)]
    simp
   ·rw [Cq1];have hxy:x < y:=by simpa using hlt
    have s1:YK (p ++ y::x::suf) ((k + 1:Nat):Int) y=p ++ y::y::suf:=by
     unfold YK;rw [Int.toNat_natCast,← hpl,List.set_append_right _ _ (by omega)];simp
    have g3:ZM (p ++ y::y::suf) (k:Int)=some y:=by rw [ZB,← hpl];exact Zrn _ _ _
    have s2:YK (p ++ y::y::suf) (k:Int) x=p ++ x::y::suf:=by
     unfold YK;rw [Int.toNat_natCast,← hpl,List.set_append_right _ _ (by omega)];simp
    rw [s1,g3,Bq0,s2,ih p (y::suf) x F hpl (by omega) (by omega) hs'.1,ZkD hxy];simp
theorem Zh5 {F:Nat} (hF:100 <=F):∀ (d:Nat) (S rest:List Int) (n F':Nat),rest.length=d ->S.length + d=n ->n <=90 ->d < F' ->Asc S ->loop F' (Zdd F 0 n) ((S.length:Int),S ++ rest)=some (rest.foldl (fun S x=>Q5 x S) S):=by
 intro d
 induction d with
 | zero=>
   intro S rest n F' hr hn hn9 hF' hs;obtain⟨F',rfl⟩:=Ne0 (n:=F') (by omega);have:rest= []:=List.eq_nil_of_length_eq_zero hr;subst this;rw [Yk];simp only [Zdd];rw [decide_eq_false (by omega),Cq0];simp
 | succ d ih=>
   intro S rest n F' hr hn hn9 hF' hs;obtain⟨F',rfl⟩:=Ne0 (n:=F') (by omega)
   match rest,hr with
   | x::r,hr=>
     rw [Yk];simp only [Zdd];rw [decide_eq_true (by omega),Cq1,Zps _ _ S.length S r x F rfl (by omega) (by omega) hs,Qf (by omega),List.foldl_cons];have:=ih (Q5 x S) r n F' (by simpa using hr) (by rw [Zik];omega) hn9 (by omega) hs.Q5;rw [Zik] at this;exact this
theorem ZnY:∀ (l S:List Int),Asc (S ++ l) ->l.foldl (fun S x=>Q5 x S) S=S ++ l
 | [],S,_=>by simp
 | x::l,S,h=>by
   rw [List.foldl_cons,Zil (fun y hy=>(List.pairwise_append.1 h).2.2 y hy x (by simp)),ZnY l _ (by simpa using h)];simp
theorem ZxT {F:Nat} (hF:100 <=F) {l:List Int} (hl:l.length <=11) (hs:Asc l) (n:Int):Zn4 F (l ++ [n])=some (Q5 n l):=by
 have hlen:(l ++ [n]).length=l.length + 1:=by simp
 unfold Zn4 ZwE
 have e1:∃ q,Qk (IntKind.wrap .u64 ((l ++ [n]).length:Int))=some q:=by
  rw [hlen];have hw:∀ k:Nat,k <=12 ->IntKind.wrap .u64 (k:Int)= (k:Int):=by decide
  have:=hw (l.length + 1) (by omega);rw [this];unfold Qk;rw [decide_eq_true (by omega),decide_eq_true (by omega)];exact⟨_,rfl⟩
 obtain⟨q,e1⟩:=e1;rw [e1,Bq0];unfold Zrz;obtain⟨F',rfl⟩:=Ne0 (n:=F) (by omega);rw [Yk];simp only [Zl4];have ew:ZP (((l ++ [n]).length:Int) - 0)= ((l.length + 1:Nat):Int):=by rw [hlen];exact Ja (by omega) (by omega)
 rw [ew,decide_eq_true (by omega),Cq1];unfold Zry;have e2:ZP ((0:Int) + 1)=1:=by rw [show(0:Int) + 1=1 from rfl];exact Ja (by omega) (by omega)
 rw [e2]
 have key:loop (F' + 1) (Zdd (F' + 1) 0 ((l ++ [n]).length:Int)) (1,l ++ [n])=some (Q5 n l):=by
  match l,hl,hs,hlen with
  | [],_,_,_=>exact Zh5 (F:=F' + 1) hF 0 [n] [] 1 (F' + 1) rfl rfl (by omega) (by omega) (List.pairwise_singleton _ _)
  | x::r,hl,hs,hlen=>
    have:=Zh5 (F:=F' + 1) hF (r.length + 1) [x] (r ++ [n]) ((x::r ++ [n]).length) (F' + 1) (by simp) (by simp;omega) (by simp at hl ⊢;omega) (by simp at hl;omega) (List.pairwise_singleton _ _);rw [List.foldl_append,ZnY r [x] hs] at this;exact this
 rw [key];rfl
def CI (c:Zb):Prop:= (c.from_ >=0∧c.root=false)∨(c.from_=-1∧c.has=0)
theorem ZwH {c:Zb} {n:Int} (hn:c.name=n) (hu:c.use=false) (ho:c.out=0) (hr:c.root=false) (hi:CI c):JX c (blank n)= !decide (c.from_ >=0):=by
 unfold JX blank;rcases hi with⟨h,_⟩ | ⟨h1,h2⟩
 ·rw [decide_eq_true h];have:(c.from_==-1)=false:=by simp;omega
  simp [this]
 ·rw [decide_eq_false (by omega)];simp [hn,hu,ho,hr,h1,h2]
theorem Zaj {F:Nat} (hF:100 <=F) {w:Za} {st:Store} {m:Nat} {n:Int} (s:Qo w st) (u:UK st.cells) (hm:m < w.cells.length) (hnl:w.notes.length < 1000) {c:Zb} (hc:Ju (rowOf w m) n=some c) (hi:CI c) (ha:Asc w.freed) (hf:w.freed.length <=11):
 ∃ st',Zg1 F st m n=some st'∧Qo (XT w m n c) st'∧UK st'.cells:=by
 have hcn:=QA hc;unfold Zg1 XT;rw [Zfm s hm,QN hc,Bq0];cases hu:(c.use || (c.out !=0))
 ·simp only [Cq0]
  have hu1:c.use=false:=by
   cases h:c.use
   ·rfl
   ·rw [h] at hu;cases hu
  have hu2:c.out=0:=by
   rw [hu1,Bool.false_or] at hu
   simpa using hu
  have hmap:MapOf (cw w m (KQ n (rowOf w m))) (ZaY st.cells ⟨m,n⟩):=s.cells.KQ u hm;cases hr:c.root
  ·simp only [Cq0];unfold Zn5;rw [Bq0];have he:=ZwH hcn hu1 hu2 hr hi;unfold blank at he;rw [he];cases hfr:decide (c.from_ >=0)
   ·refine⟨_,rfl,⟨by show st.machines=_;rw [s.m];simp,s.n,s.notes,s.freed,hmap⟩,u.ZaY _⟩
   ·simp only [Bool.not_true,Bool.not_false,Cq1];unfold Zav;dsimp only;rw [s.notes,YQ (by simp;omega) (by decide)];refine⟨_,rfl,⟨by show st.machines=_;rw [s.m];simp,s.n,rfl,s.freed,hmap⟩,u.ZaY _⟩
  ·simp only [Cq1];rw [s.freed,YQ (by simp;omega) (by decide),Bq0,ZxT hF hf ha,Bq0];refine⟨_,rfl,⟨by show st.machines=_;rw [s.m];simp,s.n,s.notes,rfl,hmap⟩,u.ZaY _⟩
 ·simp only [Cq1];exact⟨st,rfl,s,u⟩
theorem CI.blank (n:Int):CI (blank n):= .inr ⟨rfl,rfl⟩
theorem ZrP {F:Nat} {w:Za} {st:Store} {m:Nat} {n:Int} (s:Qo w st) (u:UK st.cells) (hm:m < w.cells.length) (Xh:Ub (rowOf w m)) (hn:w.notes.length < 1000) (ZH x:Int):∃ st',Zg2 st m n ZH x=some st'∧Qo (Qr w m n ZH x) st'∧UK st'.cells:=by
 obtain⟨st',h1,h2⟩:=Zs0 s hm Xh hn ZH x (n:=n);refine⟨st',h1,h2,?_⟩;unfold Zg2 Zav at h1;cases ht:(ZH != (m:Int))
 ·rw [ht,Cq0,Zfm s hm,Bq0] at h1;cases h1;exact u.Xi _ _
 ·rw [ht,Cq1,s.notes,YQ (by simp;omega) (by decide)] at h1;cases h1;exact u
theorem Zs1 {w:Za} {m:Nat} {n:Int} (hm:m < w.cells.length) (Xh:Ub (rowOf w m)) (ZH x:Int) (hi:CI (look (rowOf w m) n)):CI (look (rowOf (Qr w m n ZH x) m) n):=by
 rcases Zdn hm n ZH x with h | h <;> rw [h]
 ·exact hi
 ·rw [QN (by rw [Wh _ Xh,if_pos (by exact(WN _ _).symm)])];exact hi
theorem Zjn {F:Nat} (hF:100 <=F) {w:Za} {st:Store} (s:Qo w st) (u:UK st.cells) (sm:Small w) {m:Nat} (hm:m < w.cells.length) (hrl:(rowOf w m).length < 900) (hnl:w.notes.length < 900) (x:Zd) (hto:x.ZH= (m:Int)) (Xh:Ub (rowOf w m)) (hi:CI (look (rowOf w m) x.name)) (ha:Asc w.freed) (hf:w.freed.length <=11):
 ∃ st',ZsE F st x=some st'∧Qo (Qt w x) st'∧UK st'.cells:=by
 have hln:=WN (rowOf w m) x.name;have hat:∀ {d:Zb},d.name=x.name ->At1 (cw w m (put d (rowOf w m))) m x.name:=fun hd=>At1.put sm hm Xh (by omega) (by omega) hd
 have hst:∀ {d:Zb},d.name=x.name ->Qo (cw w m (put d (rowOf w m))) ⟨st.machines,st.names,Xi st.cells ⟨m,x.name⟩ d,st.notes,st.freed⟩:=fun hd=>s.put hm Xh hd
 unfold ZsE Qt;rw [hto,Zfm s hm];simp only [Bq0,Int.toNat_natCast];obtain⟨c,hcc⟩:∃ c,look (rowOf w m) x.name=c:= ⟨_,rfl⟩
 rw [hcc] at hln hi;simp only [hcc]
 have hlt:decide (c.from_ < 0)= (c.from_==-1):=by
  rcases hi with⟨h,_⟩ | ⟨h,_⟩
  ·rw [decide_eq_false (by omega)];symm;simp;omega
  ·rw [decide_eq_true (by omega),h];rfl
 have hge:(decide (c.from_ >=0) && (c.from_==x.via))= ((!c.root && decide (c.from_ >=0)) && (c.from_==x.via)):=by
  rcases hi with⟨h,h2⟩ | ⟨h,_⟩
  ·rw [h2];simp
  ·rw [decide_eq_false (by omega)];simp
 cases hk1:(x.kind==1)
 ·simp only [Cq0];cases hk2:(x.kind==2)
  ·simp only [Cq0];have h1:=hst (d:= ⟨c.name,true,-1,0,ZP (c.out + 16),c.use⟩) hln;have hA:=hat (d:= ⟨c.name,true,-1,0,ZP (c.out + 16),c.use⟩) hln;have u1:=u.Xi (⟨m,x.name⟩:Zg) (⟨c.name,true,-1,0,ZP (c.out + 16),c.use⟩:Zb);have hd:(⟨c.name,true,-1,0,ZP (c.out + 16),c.use⟩:Zb).name=x.name:=hln;have hlk:=QN (ZcC hm Xh hd);cases hfr:decide (c.from_ >=0)
   ·simp only [Cq0];unfold Zgh;rw [hto];obtain⟨d,hdd⟩:=hA.has;obtain⟨st',q1,q2,q3⟩:=Zaj hF h1 u1 hA.hm (by show w.notes.length < 1000;omega) hdd (by rw [← QN hdd,hlk];exact .inr ⟨rfl,rfl⟩) ha hf;rw [show st.notes=w.notes from s.notes,show st.freed=w.freed from s.freed] at q1;rw [show st.notes=w.notes from s.notes,show st.freed=w.freed from s.freed];refine⟨st',(congrArg (fun o=>Option.bind o fun x61=>some x61) q1).trans rfl,?_,q3⟩;rw [QN hdd];exact q2
   ·simp only [Cq1];obtain⟨st1,p1,p2,p3⟩:=ZrP (F:=F) (n:=x.name) h1 u1 hA.hm hA.Xh (by show w.notes.length < 1000;omega) c.from_ c.has;rw [p1,Bq0];have hbh:=ZoG hA.sm hA.hm hA.Xh (by have:=Zex (c:= (⟨c.name,true,-1,0,ZP (c.out + 16),c.use⟩:Zb)) (rowOf w m);rw [Qh hm];omega) (by show w.notes.length < 945;omega) c.from_ c.has hA.has;have hci:CI (look (rowOf (Qr (cw w m (put (⟨c.name,true,-1,0,ZP (c.out + 16),c.use⟩:Zb) (rowOf w m))) m x.name c.from_ c.has) m) x.name):=Zs1 hA.hm hA.Xh _ _ (by rw [hlk];exact .inr ⟨rfl,rfl⟩);obtain⟨d,hdd⟩:=hbh.has
    have hfree:(Qr (cw w m (put (⟨c.name,true,-1,0,ZP (c.out + 16),c.use⟩:Zb) (rowOf w m))) m x.name c.from_ c.has).freed=w.freed:=by
     unfold Qr;cases (c.from_ != (m:Int)) <;> rfl
    obtain⟨st',q1,q2,q3⟩:=Zaj hF p2 p3 hbh.hm (by have:=hbh.nl;omega) hdd (by rw [← QN hdd];exact hci) (by rw [hfree];exact ha) (by rw [hfree];exact hf);unfold Zgh;rw [hto];refine⟨st',(congrArg (fun o=>Option.bind o fun x61=>some x61) q1).trans rfl,?_,q3⟩;rw [QN hdd];exact q2
  ·simp only [Cq1];have h1:=hst (d:= ⟨c.name,c.root,c.from_,c.has,ZP (c.out - x.w),c.use⟩) hln;have hd:(⟨c.name,c.root,c.from_,c.has,ZP (c.out - x.w),c.use⟩:Zb).name=x.name:=hln;have u1:=u.Xi (⟨m,x.name⟩:Zg) (⟨c.name,c.root,c.from_,c.has,ZP (c.out - x.w),c.use⟩:Zb);obtain⟨st',q1,q2,q3⟩:=Zaj hF h1 u1 (hat hd).hm (by show w.notes.length < 1000;omega) (ZcC hm Xh hd) hi ha hf;exact⟨st',(congrArg (fun o=>Option.bind o fun x61=>some x61) q1).trans rfl,q2,q3⟩
 ·simp only [Cq1];rw [hlt,hge];cases hc1:((!c.root && (c.from_==-1)) && (x.via != (m:Int)))
  ·simp only [Cq0];cases hc2:((!c.root && decide (c.from_ >=0)) && (c.from_==x.via))
   ·simp only [Cq0];have h1:=hst (d:= ⟨c.name,c.root,c.from_,c.has,c.out,true⟩) hln;have hA:=hat (d:= ⟨c.name,c.root,c.from_,c.has,c.out,true⟩) hln;obtain⟨st1,p1,p2,p3⟩:=ZrP (F:=F) (n:=x.name) h1 (u.Xi _ _) hA.hm hA.Xh (by show w.notes.length < 1000;omega) x.via x.w;exact⟨st1,(congrArg (fun o=>Option.bind o fun x18=>some x18) p1).trans rfl,p2,p3⟩
   ·simp only [Cq1];exact⟨_,rfl,hst (d:= ⟨c.name,c.root,c.from_,ZP (c.has + x.w),c.out,true⟩) hln,u.Xi _ _⟩
  ·simp only [Cq1];exact⟨_,rfl,hst (d:= ⟨c.name,c.root,x.via,x.w,c.out,true⟩) hln,u.Xi _ _⟩
def Zeu (w:Za) (d:Zv) (m:Nat) (c:Zb):Za:=
 bif decide (c.from_ >=0) && decide (c.has >=2) then sent (cw w m (put ⟨c.name,c.root,c.from_,ZP (c.has - ZP (c.has.tdiv 2)),c.out,c.use⟩ (rowOf w m))) ⟨1,d.ZH,d.name,c.from_,ZP (c.has.tdiv 2)⟩
 else sent (cw w m (put ⟨c.name,c.root,c.from_,c.has,ZP (c.out + 16),c.use⟩ (rowOf w m))) ⟨1,d.ZH,d.name,d.at_,16⟩
theorem ZFd (a:Int):Zpg a 2=some (ZP (a.tdiv 2)):=rfl
theorem CI.cond {c:Zb} (hi:CI c):(!c.root && decide (c.from_ >=0))=decide (c.from_ >=0):=by
 rcases hi with⟨h,h2⟩ | ⟨h,_⟩
 ·rw [h2];simp
 ·rw [decide_eq_false (by omega)];simp
theorem ZxX {F:Nat} (hF:1000 <=F) {w:Za} (sm:Small w) {m:Nat} (hm:m < w.cells.length) (Xh:Ub (rowOf w m)) (d:Zv) (hat:d.at_= (m:Int)) {c:Zb} (hc:Ju (rowOf w m) d.name=some c) (hi:CI c):Zob F w d=some (Zeu w d m c):=by
 have hr:=Yn hm;have hno:=sm.notes;have hn:=QA hc;rcases find_eq hF sm hm d.name with⟨j,c',h1,h2,h3⟩ | ⟨h1,_⟩
 ·have hcc:c'=c:=by
   have:Ju (rowOf w m) d.name=some c':=h1;rw [hc] at this;exact(Oi0 this).symm
  subst hcc;unfold Zob Zeu;rw [hat,h3];simp only [Bq0,ZB,hr,h2,hi.cond,ZFd];cases (decide (c'.from_ >=0) && decide (c'.has >=2))
  ·simp only [Cq0];unfold Zdi;rw [hat];simp only [ZB,hr,Bq0,h2];rw [YQ (by simp;omega) (by decide),Bq0];simp only [YK,Int.toNat_natCast];rw [Zew Xh h2 (by rfl)]
   rfl
  ·simp only [Cq1];unfold Zdi;rw [hat];simp only [ZB,hr,Bq0,h2];rw [YQ (by simp;omega) (by decide),Bq0];simp only [YK,Int.toNat_natCast];rw [Zew Xh h2 (by rfl)]
   rfl
 ·exfalso;have:Ju (rowOf w m) d.name=none:=h1;rw [this] at hc;cases hc
theorem ZtG {w:Za} {st:Store} (s:Qo w st) (u:UK st.cells) {m:Nat} (hm:m < w.cells.length) (Xh:Ub (rowOf w m)) (hnl:w.notes.length < 1000) (d:Zv) (hat:d.at_= (m:Int)) {c:Zb} (hc:Ju (rowOf w m) d.name=some c):
 ∃ st',Zn7 st d=some st'∧Qo (Zeu w d m c) st'∧UK st'.cells:=by
 have hn:=QA hc;unfold Zn7 Zeu;rw [hat,Zfm s hm,QN hc,Bq0];simp only [ZFd,Bq0];cases (decide (c.from_ >=0) && decide (c.has >=2))
 ·simp only [Cq0];unfold Zde;rw [hat];have h1:=s.put hm Xh (c:= ⟨c.name,c.root,c.from_,c.has,ZP (c.out + 16),c.use⟩) hn;obtain⟨st',q1,q2⟩:=h1.sent (by show w.notes.length < 1000;exact hnl) ⟨1,d.ZH,d.name,(m:Int),16⟩;refine⟨st',(congrArg (fun o=>Option.bind o fun x21=>some x21) q1).trans rfl,q2,?_⟩;unfold Zav at q1;dsimp only at q1;rw [s.notes,YQ (by simp;omega) (by decide)] at q1;cases q1;exact u.Xi _ _
 ·simp only [Cq1];unfold Zde;rw [hat];have h1:=s.put hm Xh (c:= ⟨c.name,c.root,c.from_,ZP (c.has - ZP (c.has.tdiv 2)),c.out,c.use⟩) hn;obtain⟨st',q1,q2⟩:=h1.sent (by show w.notes.length < 1000;exact hnl) ⟨1,d.ZH,d.name,c.from_,ZP (c.has.tdiv 2)⟩;refine⟨st',(congrArg (fun o=>Option.bind o fun x21=>some x21) q1).trans rfl,q2,?_⟩;unfold Zav at q1;dsimp only at q1;rw [s.notes,YQ (by simp;omega) (by decide)] at q1;cases q1;exact u.Xi _ _
theorem Zlg {α:Type} {xs:List α} {a b:Nat} (h1:a <=b) (h2:b <=xs.length):slL xs (a:Int) (b:Int)=some ((xs.take b).drop a):=by
 unfold slL;rw [decide_eq_true (by omega),decide_eq_true (by omega),decide_eq_true (by omega)];simp
theorem ZtY {l:List Zd} {k:Nat} (hk:k < l.length) (hl:l.length < 1000):Zn6 l (k:Int) (ZP ((k:Int) + 1))=some (l.take k ++ l.drop (k + 1)):=by
 unfold Zn6;have e0:slL l 0 (k:Int)=some ((l.take k).drop 0):=Zlg (a:=0) (Nat.zero_le k) (by omega);rw [Qf (by omega),Zlg (by omega) (by omega),Bq0,e0,Zlg (by omega) (Nat.le_refl _)];have:((k:Int)== ((k + 1:Nat):Int))=false:=by simp;omega
 rw [this,Cq0];simp only [Bq0,List.drop_zero,List.take_length];rw [YQ (by simp;omega) (by decide)]
 rfl
def Zer (k:Nat) (i:Nat) (c:Zd) (s:List Zd):List Zd:=bif((i:Int) != (k:Int)) then s ++ [c] else s
theorem ZhQ (k:Nat):∀ (r:List Zd) (i:Nat) (acc:List Zd),foldI (Zer k) i r acc=acc ++ (if k < i then r else r.take (k - i) ++ r.drop (k - i + 1))
 | [],i,acc=>by simp [foldI]
 | c::r,i,acc=>by
   rw [foldI,ZhQ k r];by_cases h:k < i
   ·have:Zer k i c acc=acc ++ [c]:=by
     unfold Zer;have:((i:Int) != (k:Int))=true:=by simp;omega
     rw [this];rfl
    rw [this,if_pos (by omega),if_pos h];simp
   ·by_cases h2:k=i
    ·subst h2;have:Zer k k c acc=acc:=by unfold Zer;simp
     rw [this,if_pos (by omega),if_neg h];simp
    ·have:Zer k i c acc=acc ++ [c]:=by
      unfold Zer;have:((i:Int) != (k:Int))=true:=by simp;omega
      rw [this];rfl
     rw [this,if_neg (by omega),if_neg h];obtain⟨d,rfl⟩:∃ d,k=i + (d + 1):= ⟨k - i - 1,by omega⟩
     have e1:i + (d + 1) - (i + 1)=d:=by omega
     have e2:i + (d + 1) - i=d + 1:=by omega
     rw [e1,e2];simp
theorem Zx9 {F:Nat} (hF:1000 <=F) {w:Za} (sm:Small w) (d:Zv) {k:Nat} (hat:d.at_= (k:Int)) (x:Zd):loop F (Zgf F w d x) ([],0)= (Zje F ⟨w.cells,w.notes.take k ++ w.notes.drop (k + 1),w.names,w.freed⟩ x).bind fun y=>some y:=by
 have hno:=sm.notes;refine(Z9 w.notes (fun v (s:List Zd)=>(s,v)) (Zgf F w d x) (fun i y s next=>bif((i:Int) != (k:Int)) then(app 40 s [y]).bind fun z=>next z else next s) (fun s=>(Zje F ⟨w.cells,s,w.names,w.freed⟩ x).bind fun y=>some y) (by omega) (fun i y s next hy hk=>?_) (fun s next=>?_) (by omega) []).trans ?_
 ·simp only [Zgf,ZiR,hat,ZB,hy,hk,decide_true,Bq0,Cq1]
 ·simp only [Zgf];rw [decide_eq_false (by omega),Cq0]
 ·refine(Y9 (i:=0) (s:= []) (l:=w.notes) (Zer k) (fun k (s:List Zd)=>s.length <=k) (Nat.le_refl _) (fun i y s next hx hs=>by
   have:= (List.getElem?_eq_some_iff.1 hx).1;unfold Zer;rw [Nat.zero_add] at hs ⊢;cases ((i:Int) != (k:Int))
   ·exact⟨rfl,by simp;omega⟩
   ·simp only [Cq1];rw [YQ (by simp;omega) (by decide)];exact⟨rfl,by simp;omega⟩)).1.trans ?_
  rw [ZhQ,if_neg (by omega),List.nil_append,Nat.sub_zero]
theorem ZqY {c:Zb}:∀ {r:Row},(∀ x ∈ r,x.name < c.name) ->put c r=r ++ [c]
 | [],_=>rfl
 | d::r,h=>by
   have:=h d (by simp);rw [put,if_pos this,ZqY fun x hx=>h x (by simp [hx])];rfl
def Zlt (w:Za):Zb:= ⟨w.names,true,-1,0,0,true⟩
def ZeC (w:Za) (m:Nat):Za:= ⟨w.cells.set m (put (Zlt w) (rowOf w m)),w.notes,ZP (w.names + 1),w.freed⟩
theorem Zyd {F:Nat} {w:Za} (sm:Small w) {m:Nat} (hm:m < w.cells.length) (d:Zv) (hd:d.Xf=1) (hat:d.at_= (m:Int)) (hlt:∀ x ∈ rowOf w m,x.name < w.names):Zgg F w d=some (ZeC w m):=by
 have hr:=Yn hm;have hl:=sm.row m;unfold Zgg ZeC;rw [hd,hat];have:((1:Int)==1)=true:=rfl;rw [this,Cq1,ZB,hr,Bq0,YQ (by simp;omega) (by decide),Bq0,Bq0,ZqY (by exact hlt)];simp only [YK,Int.toNat_natCast]
 rfl
theorem Zuj {w:Za} {st:Store} (s:Qo w st) (u:UK st.cells) {m:Nat} (hm:m < w.cells.length) (Xh:Ub (rowOf w m)):Qo (ZeC w m) ⟨st.machines,ZP (st.names + 1),Xi st.cells ⟨m,w.names⟩ (Zlt w),st.notes,st.freed⟩∧UK (Xi st.cells (⟨m,w.names⟩:Zg) (Zlt w)):=by
 have h:=s.put hm Xh (c:=Zlt w) (n:=w.names) rfl;refine⟨⟨?_,by show ZP (st.names + 1)=ZP (w.names + 1);rw [s.n],s.notes,s.freed,?_⟩,u.Xi _ _⟩
 ·show st.machines=_;rw [s.m];unfold ZeC;simp
 ·exact h.cells
def Zbb (c:Zb):Zb:= ⟨c.name,c.root,c.from_,c.has,c.out,false⟩
def Zg5 (w:Za) (m:Nat) (n:Int) (c:Zb):Za:=XT (cw w m (put (Zbb c) (rowOf w m))) m n (Zbb c)
theorem ZwK {F:Nat} (hF:1000 <=F) {w:Za} (sm:Small w) {m:Nat} (hm:m < w.cells.length) (Xh:Ub (rowOf w m)) (hrl:(rowOf w m).length < 900) (hnl:w.notes.length < 900) (d:Zv) (hd:d.Xf=3) (hat:d.at_= (m:Int)) {c:Zb} (hc:Ju (rowOf w m) d.name=some c):Zgg F w d=some (Zg5 w m d.name c):=by
 have hr:=Yn hm;have hn:=QA hc;rcases find_eq hF sm hm d.name with⟨j,c',h1,h2,h3⟩ | ⟨h1,_⟩
 ·have hcc:c'=c:=by
   have:Ju (rowOf w m) d.name=some c':=h1;rw [hc] at this;exact(Oi0 this).symm
  subst hcc;unfold Zgg Zg5;rw [hd,hat];have e1:((3:Int)==1)=false:=rfl;have e2:((3:Int)==2)=false:=rfl;have e5:((3:Int)==5)=false:=rfl;have e3:((3:Int)==3)=true:=rfl;rw [e1,e2,e5,e3];simp only [Cq0,Cq1,h3,Bq0,ZB,hr,h2,YK,Int.toNat_natCast];have hA:At1 (cw w m (put (Zbb c') (rowOf w m))) m d.name:=At1.put sm hm Xh (by omega) (by omega) hn;have e:(rowOf w m).set j (⟨c'.name,c'.root,c'.from_,c'.has,c'.out,false⟩:Zb)=put (Zbb c') (rowOf w m):=Zew Xh h2 rfl;rw [e];have q:=hA.settle hF;rw [QN (ZcC hm Xh (show(Zbb c').name=d.name from hn))] at q;exact(congrArg (fun o=>Option.bind o fun x=>some x) q).trans rfl
 ·exfalso;have:Ju (rowOf w m) d.name=none:=h1;rw [this] at hc;cases hc
theorem ZsO {F:Nat} (hF:100 <=F) {w:Za} {st:Store} (s:Qo w st) (u:UK st.cells) {m:Nat} (hm:m < w.cells.length) (Xh:Ub (rowOf w m)) (hnl:w.notes.length < 1000) {n:Int} {c:Zb} (hc:Ju (rowOf w m) n=some c) (hi:CI c) (ha:Asc w.freed) (hf:w.freed.length <=11):
 ∃ st',Zg1 F ⟨st.machines,st.names,Xi st.cells ⟨m,n⟩ (Zbb c),st.notes,st.freed⟩ m n=some st'∧Qo (Zg5 w m n c) st'∧UK st'.cells:=by
 have hn:=QA hc;have h1:=s.put hm Xh (c:=Zbb c) (n:=n) hn;exact Zaj hF h1 (u.Xi _ _) (by rw [Yg];exact hm) hnl (ZcC hm Xh (show(Zbb c).name=n from hn)) hi ha hf
def goC (c:Zb) (ZH:Int):Zb:= ⟨c.name,false,ZH,16,c.out,c.use⟩
def goW (w:Za) (d:Zv) (m:Nat) (c:Zb):Za:=sent (cw w m (put (goC c d.ZH) (rowOf w m))) ⟨3,d.ZH,d.name,0,16⟩
theorem ZDn {F:Nat} (hF:1000 <=F) {w:Za} (sm:Small w) {m:Nat} (hm:m < w.cells.length) (Xh:Ub (rowOf w m)) (d:Zv) (hd:d.Xf=4) (hat:d.at_= (m:Int)) {c:Zb} (hc:Ju (rowOf w m) d.name=some c):Zgg F w d=some (goW w d m c):=by
 have hr:=Yn hm;have hn:=QA hc;have hno:=sm.notes;rcases find_eq hF sm hm d.name with⟨j,c',h1,h2,h3⟩ | ⟨h1,_⟩
 ·have hcc:c'=c:=by
   have:Ju (rowOf w m) d.name=some c':=h1;rw [hc] at this;exact(Oi0 this).symm
  subst hcc;unfold Zgg goW;rw [hd,hat];have e1:((4:Int)==1)=false:=rfl;have e2:((4:Int)==2)=false:=rfl;have e5:((4:Int)==5)=false:=rfl;have e3:((4:Int)==3)=false:=rfl;have hj:j < (rowOf w m).length:= (List.getElem?_eq_some_iff.1 h2).1;rw [e1,e2,e5,e3];have hsm:∀ (cs:List Row) (r:Row),m < cs.length ->(cs.set m r)[m]? =some r:=fun cs r h=>by simp [h]
  have hsj:∀ (r:Row) (x:Zb),j < r.length ->(r.set j x)[j]? =some x:=fun r x h=>by simp [h]
  simp only [Cq0,h3,Bq0,ZB,hr,h2,YK,Int.toNat_natCast,List.set_set,hsm _ _ hm,hsj _ _ hj];rw [YQ (by simp;omega) (by decide),Bq0];have e:(rowOf w m).set j (⟨c'.name,false,d.ZH,16,c'.out,c'.use⟩:Zb)=put (goC c' d.ZH) (rowOf w m):=Zew Xh h2 rfl;rw [e]
  rfl
 ·exfalso;have:Ju (rowOf w m) d.name=none:=h1;rw [this] at hc;cases hc
theorem ZyT {w:Za} {st:Store} (s:Qo w st) (u:UK st.cells) {m:Nat} (hm:m < w.cells.length) (Xh:Ub (rowOf w m)) (hnl:w.notes.length < 1000) (d:Zv) {c:Zb} (hc:Ju (rowOf w m) d.name=some c):
 ∃ st',Zav ⟨st.machines,st.names,Xi st.cells ⟨m,d.name⟩ (goC c d.ZH),st.notes,st.freed⟩ ⟨3,d.ZH,d.name,0,16⟩=some st'∧Qo (goW w d m c) st'∧UK st'.cells:=by
 have hn:=QA hc;have h1:=s.put hm Xh (c:=goC c d.ZH) (n:=d.name) hn;obtain⟨st',q1,q2⟩:=h1.sent (by show w.notes.length < 1000;exact hnl) ⟨3,d.ZH,d.name,0,16⟩;refine⟨st',q1,q2,?_⟩;unfold Zav at q1;dsimp only at q1;rw [s.notes,YQ (by simp;omega) (by decide)] at q1;cases q1;exact u.Xi _ _
def Xx (w:Za) (d:Zv) (m:Nat):Int:=
 bif d.Xf==1 then(bif decide (w.names >=12) then 3 else 0) else bif d.Xf==5 then(bif decide (d.at_ >= (w.notes.length:Int)) then 5 else 0) else
  match Ju (rowOf w m) d.name with
  | none=>7
  | some c=>bif d.Xf==4 then(bif !c.root then 7 else 0) else(bif !c.use then 7 else 0)
theorem Zqn {w:Za} {st:Store} (s:Qo w st) {m:Nat} (hm:m < w.cells.length) (d:Zv) (hat:d.Xf=1∨d.Xf=5∨d.at_= (m:Int)):Zn8 st d=some (bif Xx w d m==0 then .ok () else .Jz (Xx w d m)):=by
 unfold Zn8 Xx Zal;rw [Bq0,s.n,s.notes];cases h1:(d.Xf==1)
 ·cases h5:(d.Xf==5)
  ·have ha:d.at_= (m:Int):=by
    rcases hat with h | h | h
    ·rw [h] at h1;cases h1
    ·rw [h] at h5;cases h5
    ·exact h
   rw [ha,s.get hm];simp only [Cq0];cases hf:Ju (rowOf w m) d.name with
   | none=>
     cases (d.Xf==4) <;> rfl
   | some c=>
     cases (d.Xf==4)
     ·cases hu:c.use <;> simp [hu]
     ·cases hr:c.root <;> simp [hr]
  ·simp only [Cq0,Cq1];cases decide (d.at_ >= (w.notes.length:Int)) <;> rfl
 ·simp only [Cq1];cases decide (w.names >=12) <;> rfl
theorem ZsS {F:Nat} (hF:1000 <=F) {w:Za} (sm:Small w) {m:Nat} (hm:m < w.cells.length) (d:Zv) (hat:d.Xf=1∨d.Xf=5∨d.at_= (m:Int)):Zwf F w d=some (Xx w d m):=by
 have hr:=Yn hm;unfold Zwf Xx;cases h1:(d.Xf==1)
 ·cases h5:(d.Xf==5)
  ·have ha:d.at_= (m:Int):=by
    rcases hat with h | h | h
    ·rw [h] at h1;cases h1
    ·rw [h] at h5;cases h5
    ·exact h
   rw [ha];simp only [Cq0];rcases find_eq hF sm hm d.name with⟨j,c,q1,q2,q3⟩ | ⟨q1,q3⟩
   ·have hf:Ju (rowOf w m) d.name=some c:=q1;have hj:decide ((j:Int) < 0)=false:=decide_eq_false (by omega);rw [q3,hf];simp only [Bq0,hj];cases h4:(d.Xf==4)
    ·have h4':(d.Xf !=4)=true:=by simp only [bne,h4];rfl
     cases hu:c.use <;> simp [gd,h4',ZB,hr,q2,hu]
    ·have h4':(d.Xf !=4)=false:=by simp only [bne,h4];rfl
     cases hro:c.root <;> simp [gd,h4',ZB,hr,q2,hro]
   ·have hf:Ju (rowOf w m) d.name=none:=q1;rw [q3,hf]
    rfl
  ·simp only [Cq0,Cq1];cases decide (d.at_ >= (w.notes.length:Int)) <;> rfl
 ·simp only [Cq1];cases decide (w.names >=12) <;> rfl
theorem Zya {F:Nat} (hF:1000 <=F) {w:Za} (sm:Small w):∃ cs,ZiX F w=some ⟨(w.cells.length:Int),w.names,cs,w.notes,w.freed⟩∧UK cs:=by
 have hc:=sm.cells;have hn:=sm.notes;have hf:=sm.freed;unfold ZiX Zp6 Zp5;rw [YQ (by simp only [List.length_nil];omega) (by decide),YQ (by simp only [List.length_nil];omega) (by decide)];simp only [Bq0,List.nil_append]
 have inner:∀ (m:Nat) (row:List Zb) (next:Int×(List (Zg×Zb)) ->Option Store) (l:List (Zg×Zb)),w.cells[m]? =some row ->UK l ->∃ l',UK l'∧loop F (ZaJ m next row) (0,l)=next (ZP ((m:Int) + 1),l'):=by
  intro m row next l hm hI;have hr:=sm.rows row (List.mem_of_getElem? hm)
  have e:=Z9 row (fun v s=>(v,s)) (ZaJ m next row) (fun _ c s nx=>nx (Xi s (Zg.mk m c.name) c)) (fun s=>next (ZP ((m:Int) + 1),s)) (by omega) (fun k y s nx hy hk=>by
   simp only [ZaJ,ZB,hy,hk,decide_true,Cq1,Bq0]) (fun s nx=>by simp only [ZaJ];rw [decide_eq_false (by omega),Cq0]) (by omega:row.length < F) l
  obtain⟨e2,hJ⟩:=Y9 (d:=fun s=>next (ZP ((m:Int) + 1),s)) (g:=fun(_:Nat) (c:Zb) s nx=>nx (Xi s (Zg.mk m c.name) c)) (fun _ c s=>Xi s (Zg.mk m c.name) c) (fun _ s=>UK s) (l:=row) (i:=0) (s:=l) hI (fun k c s nx hk hJ=>⟨rfl,hJ.Xi _ _⟩);exact⟨_,hJ,e.trans e2⟩
 have key:∀ (d m:Nat) (F':Nat) (l:List (Zg×Zb)),m + d=w.cells.length ->d < F' ->UK l ->∃ cs,loop F' (ZaK F w w.notes w.freed) ((m:Int),l)=some ⟨(w.cells.length:Int),w.names,cs,w.notes,w.freed⟩∧UK cs:=by
  intro d
  induction d with
  | zero=>
    intro m F' l hm hF' hI;obtain⟨F',rfl⟩:=Ne0 (n:=F') (by omega);refine⟨l,?_,hI⟩;rw [Yk];simp only [ZaK];rw [decide_eq_false (by omega),Cq0]
  | succ d ih=>
    intro m F' l hm hF' hI;obtain⟨F',rfl⟩:=Ne0 (n:=F') (by omega);have hr:=Yn (w:=w) (m:=m) (by omega);obtain⟨l',q1,q2⟩:=inner m _ (loop F' (ZaK F w w.notes w.freed)) l hr hI;obtain⟨cs,q3,q4⟩:=ih (m + 1) F' l' (by omega) (by omega) q1;refine⟨cs,?_,q4⟩;rw [Yk];simp only [ZaK];rw [decide_eq_true (by omega),Cq1,ZB,hr,Bq0,q2,Qf (by omega),q3]
 exact key w.cells.length 0 F [] (by omega) (by omega) UK.nil
def X0 (w:Za) (n:Int):CV:=fun a=>if 0 <=a∧a < (w.cells.length:Int) then cellOf w a.toNat n else none
def Ur (w:Za) (n:Int):List Zd:=w.notes.filter fun x=>x.name==n
def Mst (M:Nat) (cv:CV) (ns:List Zd):Prop:=∀ a:Int,0 <=a ->a < M ->K4 cv ns a <=1000000
structure Rt (w:Za):Prop where
 c1:1 <=w.cells.length
 c6:w.cells.length <=6
 n0:0 <=w.names
 n12:w.names <=12
 nts:w.notes.length <=80
 fr:w.freed.Pairwise (· < ·)
 frr:∀ x ∈ w.freed,0 <=x∧x < w.names
 Xh:∀ m,m < w.cells.length ->Ub (rowOf w m)
 cn:∀ m,m < w.cells.length ->∀ c ∈ rowOf w m,Yu w c.name=true∧(c.use=true∨c.out ≠ 0)
 nn:∀ x ∈ w.notes,Yu w x.name=true
 nm:∀ n,Yu w n=true ->∃ h,Nm w.cells.length n (X0 w n) (Ur w n) h∧Mst w.cells.length (X0 w n) (Ur w n)
section
variable {w:Za} {n:Int}
theorem Kb {m:Nat} (hm:m < w.cells.length) (n:Int):X0 w n (m:Int)=cellOf w m n:=by
 unfold X0;rw [if_pos (by omega)]
 rfl
theorem Wl {a:Int} {c:Zb} (h:X0 w n a=some c):(0 <=a∧a < (w.cells.length:Int))∧cellOf w a.toNat n=some c:=by
 unfold X0 at h;split at h
 ·rename_i z;exact⟨z,h⟩
 ·cases h
theorem ZhN (w:Za) (m n:Int):Xb (Qj m) (Ur w n)=16 * (ZaG w m n:Int):=by
 unfold Ur ZaG
 induction w.notes with
 | nil=>rfl
 | cons x l ih=>
   rw [List.countP_cons,List.filter_cons];by_cases hn:x.name=n
   ·have:(x.name==n)=true:=by simp [hn]
    rw [this,if_pos rfl];simp only [Xb,ih,Bool.and_true];unfold Qj;by_cases z:x.kind=3∧x.ZH=m
    ·rw [if_pos z,if_pos (by simp [z.1,z.2])];omega
    ·rw [if_neg z,if_neg (by simpa using z)];omega
   ·have:(x.name==n)=false:=by simp [hn]
    rw [this,if_neg (by simp),ih];simp
theorem ZiD (w:Za) {m:Nat} (hm:m < w.cells.length) (n:Int):XC w m n=ZP (K4 (X0 w n) (Ur w n) m):=by
 unfold XC K4;rw [ZhN,Kb hm];unfold Zkv Qx;congr 1;cases cellOf w m n <;> dsimp only <;> omega
theorem ZpM (m n:Int) (l:List Zd) (t:Int):l.foldl (fun s x=>Za4 m n x s) (ZP t)=ZP (t + Xb (U8 m) (l.filter fun x=>x.name==n)):=by
 induction l generalizing t with
 | nil=>simp [Xb]
 | cons x l ih=>
   rw [List.foldl_cons,List.filter_cons];by_cases hn:x.name=n
   ·have hb:(x.name==n)=true:=by simp [hn]
    rw [hb,if_pos rfl];unfold Za4;rw [hb,Bool.true_and];simp only [Xb];rw [show U8 m x=if(x.kind=1∧x.via=m)∨(x.kind=2∧x.ZH=m) then x.w else 0 from rfl];by_cases z:(x.kind=1∧x.via=m)∨(x.kind=2∧x.ZH=m)
    ·have:((x.kind==1) && (x.via==m) || (x.kind==2) && (x.ZH==m))=true:=by simpa using z
     rw [this,Cq1,Zhq,if_pos z];refine(ih _).trans ?_;congr 1;omega
    ·have:((x.kind==1) && (x.via==m) || (x.kind==2) && (x.ZH==m))=false:=by
      rw [← Bool.not_eq_true];simpa using z
     rw [this,Cq0,if_neg z];refine(ih _).trans ?_;congr 1;omega
   ·have hb:(x.name==n)=false:=by simp [hn]
    rw [hb,if_neg (by simp)];have:Za4 m n x (ZP t)=ZP t:=by unfold Za4;rw [hb];rfl
    rw [this];exact ih t
theorem ZpN (w:Za) (m n:Int) {M:Nat} (hM:M <=w.cells.length):(List.range M).foldl (fun s k=>ZeO w m n k s) 0=ZP (Zag (fun k=>Kn m (X0 w n k)) M):=by
 induction M with
 | zero=>rfl
 | succ M ih=>
   rw [List.range_succ,List.foldl_append,ih (by omega)];simp only [List.foldl_cons,List.foldl_nil,Zag];rw [Kb (by omega)];unfold ZeO Kn;cases cellOf w M n with
   | none=>simp
   | some c=>
     dsimp only;by_cases z:c.from_=m
     ·rw [if_pos z,show(c.from_==m)=true by simp [z],Cq1,Zhq]
     ·rw [if_neg z,show(c.from_==m)=false by simp [z],Cq0];simp
theorem Zss (w:Za) (m n:Int):ZbH w m n=ZP (JG w.cells.length (X0 w n) (Ur w n) m):=by
 unfold ZbH JG Ur;rw [ZpN w m n (Nat.le_refl _),ZpM]
theorem ZhM {f:Zd ->Int} {l:List Zd} {B:Int} (h:∀ x ∈ l,0 <=f x∧f x <=B):0 <=Xb f l∧Xb f l <=B * (l.length:Int):=by
 induction l with
 | nil=>simp [Xb]
 | cons x l ih=>
   have h1:=h x (by simp);have h2:=ih fun y hy=>h y (by simp [hy])
   simp only [Xb,List.length_cons]
   have:B * ((l.length + 1:Nat):Int)=B * (l.length:Int) + B:=by
    rw [Int.natCast_add,Int.mul_add];simp
   omega
theorem Zo4 {f:Nat ->Int} {B:Int} {M:Nat} (h:∀ m,m < M ->0 <=f m∧f m <=B):0 <=Zag f M∧Zag f M <=B * (M:Int):=by
 induction M with
 | zero=>simp [Zag]
 | succ M ih=>
   have h1:=h M (by omega);have h2:=ih fun m hm=>h m (by omega)
   simp only [Zag]
   have:B * ((M + 1:Nat):Int)=B * (M:Int) + B:=by
    rw [Int.natCast_add,Int.mul_add];simp
   omega
theorem Zbe {m:Int} {c:Zb} (h:Ua w m c=true):Yu w c.name=true∧(-16 <=c.out∧c.out <=1000000)∧(c.use=true∨c.out ≠ 0)∧
 ((c.root=false∧0 <=c.from_∧c.from_ < (w.cells.length:Int)∧c.from_ ≠ m∧1 <=c.has∧c.has <=1000000)∨(c.from_=-1∧c.has=0)):=by
 unfold Ua Kz at h;rw [Bool.and_eq_true,Bool.and_eq_true,Bool.and_eq_true] at h;obtain⟨⟨⟨h1,h2⟩,h3⟩,h4⟩:=h;refine⟨h1,by simpa using h2,?_,?_⟩
 ·simpa using h3
 ·cases hr:(c.root || c.from_==-1)
  ·rw [hr,Cq0] at h4;simp at h4 hr;exact .inl ⟨hr.1,by omega,by omega,h4.1.2,by omega,by omega⟩
  ·rw [hr,Cq1] at h4;simp at h4;exact .inr h4
theorem ZwS {m:Int} {c:Zb} (h1:Yu w c.name=true) (h2:-16 <=c.out∧c.out <=1000000) (h3:c.use=true∨c.out ≠ 0)
 (h4:(c.root=false∧0 <=c.from_∧c.from_ < (w.cells.length:Int)∧c.from_ ≠ m∧1 <=c.has∧c.has <=1000000)∨(c.from_=-1∧c.has=0)):Ua w m c=true:=by
 unfold Ua Kz;rw [Bool.and_eq_true,Bool.and_eq_true,Bool.and_eq_true];refine⟨⟨⟨h1,by simpa using h2⟩,by simpa using h3⟩,?_⟩;rcases h4 with⟨q1,q2,q3,q4,q5,q6⟩ | ⟨q1,q2⟩
 ·have:(c.root || c.from_==-1)=false:=by simp [q1];omega
  rw [this,Cq0];simp;exact⟨⟨⟨q2,q3⟩,q4⟩,q5,q6⟩
 ·have:(c.root || c.from_==-1)=true:=by simp [q1]
  rw [this,Cq1];simp [q1,q2]
theorem WK {x:Zd} (h:JE w x=true):(0 <=x.ZH∧x.ZH < (w.cells.length:Int))∧Yu w x.name=true∧(1 <=x.w∧x.w <=1000000)∧
 ((x.kind=1∧0 <=x.via∧x.via < (w.cells.length:Int))∨(x.kind=2∧x.via=0)∨(x.kind=3∧x.via=0∧x.w=16)):=by
 unfold JE Kz at h;rw [Bool.and_eq_true,Bool.and_eq_true,Bool.and_eq_true] at h;obtain⟨⟨⟨h1,h2⟩,h3⟩,h4⟩:=h;refine⟨by simpa using h1,h2,by simpa using h3,?_⟩;cases k1:(x.kind==1)
 ·rw [k1,Cq0] at h4;cases k2:(x.kind==2)
  ·rw [k2,Cq0] at h4;simp at h4;exact .inr (.inr ⟨h4.1.1,h4.1.2,h4.2⟩)
  ·rw [k2,Cq1] at h4;exact .inr (.inl ⟨by simpa using k2,by simpa using h4⟩)
 ·rw [k1,Cq1] at h4;exact .inl ⟨by simpa using k1,by simpa using h4⟩
theorem Zt4 {x:Zd} (h1:0 <=x.ZH∧x.ZH < (w.cells.length:Int)) (h2:Yu w x.name=true) (h3:1 <=x.w∧x.w <=1000000)
 (h4:(x.kind=1∧0 <=x.via∧x.via < (w.cells.length:Int))∨(x.kind=2∧x.via=0)∨(x.kind=3∧x.via=0∧x.w=16)):JE w x=true:=by
 unfold JE Kz;rw [Bool.and_eq_true,Bool.and_eq_true,Bool.and_eq_true];refine⟨⟨⟨by simpa using h1,h2⟩,by simpa using h3⟩,?_⟩;rcases h4 with⟨k,v⟩ | ⟨k,v⟩ | ⟨k,v,u⟩
 ·rw [k];simpa using v
 ·rw [k];simpa using v
 ·rw [k];simp [v,u]
theorem Shp.ZmW (sh:Shp w) {m:Nat} (hm:m < w.cells.length) (n:Int):XC w m n=K4 (X0 w n) (Ur w n) m:=by
 rw [ZiD w hm];have h1:=ZhM (f:=Qj (m:Int)) (l:=Ur w n) (B:=16) (fun x _=>by unfold Qj;split <;> omega);have h2:(Ur w n).length <=w.notes.length:=List.length_filter_le _ _;have h3:=sh.notes
 have h4:-16 <=Qx (X0 w n m)∧Qx (X0 w n m) <=1000000:=by
  rw [Kb hm];cases e:cellOf w m n with
  | none=>simp [Qx]
  | some c=>
    obtain⟨row,k,r1,r2⟩:=K9 e;exact(Zbe (sh.cell m row k c r1 r2).1).2.1
 unfold K4;rw [Ja] <;> omega
theorem Shp.Zo9 (sh:Shp w) {m:Nat} (hm:m < w.cells.length) (n:Int):ZbH w m n=JG w.cells.length (X0 w n) (Ur w n) m:=by
 rw [Zss w]
 have h1:=ZhM (f:=U8 (m:Int)) (l:=Ur w n) (B:=1000000) (fun x hx=>by
  have:=WK (sh.note x (List.mem_filter.1 hx).1);unfold U8;split <;> omega)
 have h2:(Ur w n).length <=w.notes.length:=List.length_filter_le _ _;have h3:=sh.notes
 have h4:=Zo4 (f:=fun k=>Kn (m:Int) (X0 w n k)) (B:=1000000) (M:=w.cells.length) (fun k hk=>by
  rw [Kb hk];cases e:cellOf w k n with
  | none=>simp [Kn]
  | some c=>
    obtain⟨row,j,r1,r2⟩:=K9 e;have:= (Zbe (sh.cell k row j c r1 r2).1).2.2.2;unfold Kn;dsimp only;split <;> omega)
 have:=sh.c6;unfold JG;rw [Ja] <;> omega
theorem Zng (n h:Int) (k:Nat):YV w n h k h=true:=by cases k <;> simp [YV]
theorem ZgX {h:Int}:∀ {k:Nat} {a:Int},YV w n h k a=true ->YV w n h (k + 1) a=true
 | 0,a,q=>by
   have:a=h:=by simpa [YV] using q
   subst this;exact Zng _ _ _
 | k + 1,a,q=>by
   rw [YV] at q ⊢;cases e:(a==h)
   ·rw [e,Cq0] at q;rw [Cq0];cases ec:cellOf w a.toNat n with
    | none=>rw [ec] at q;cases q
    | some c=>
      rw [ec] at q;dsimp only at q ⊢;cases ef:decide (c.from_ < 0)
      ·rw [ef,Cq0] at q;exact ZgX q
      ·rw [ef] at q;cases q
   ·rfl
theorem Zlx {h:Int} {k:Nat} {a:Int} (q:YV w n h k a=true):a=h∨cellOf w a.toNat n ≠ none:=by
 by_cases e:a=h
 ·exact .inl e
 ·right;intro z;cases k with
  | zero=>exact e (by simpa [YV] using q)
  | succ k=>
    rw [YV,z,show(a==h)=false by simp [e]] at q;cases q
theorem Zaq {h:Int} {k:Nat} {a:Int} {c:Zb} (ha:a ≠ h) (hc:cellOf w a.toNat n=some c):YV w n h (k + 1) a= (!decide (c.from_ < 0) && YV w n h k c.from_):=by
 rw [YV,hc,show(a==h)=false by simp [ha],Cq0];dsimp only;cases decide (c.from_ < 0) <;> rfl
theorem ZsQ {α:Type} {p q:α ->Bool} {l:List α} (h:∀ x ∈ l,p x=true ->q x=true) {x:α} (hx:x ∈ l) (h1:p x=false) (h2:q x=true):l.countP p < l.countP q:=by
 induction l with
 | nil=>simp at hx
 | cons y l ih=>
   rw [List.countP_cons,List.countP_cons];have hm:l.countP p <=l.countP q:=List.countP_mono_left fun z hz=>h z (by simp [hz])
   have hy:=h y (by simp);rcases List.mem_cons.1 hx with rfl | hx
   ·rw [h1,h2];simp;omega
   ·have:=ih (fun z hz=>h z (by simp [hz])) hx;cases ep:p y
    ·simp;omega
    ·rw [hy ep];simp;omega
theorem switch {f:Nat ->Bool}:∀ {K:Nat},f 0=false ->f (K + 1)=true ->∃ j,j <=K∧f j=false∧f (j + 1)=true
 | 0,h0,h1=>⟨0,Nat.le_refl _,h0,h1⟩
 | K + 1,h0,h1=>by
   cases e:f (K + 1) with
   | false=>exact⟨K + 1,Nat.le_refl _,e,h1⟩
   | true=>
     obtain⟨j,j1,j2⟩:=switch h0 e;exact⟨j,by omega,j2⟩
theorem Zyi {h:Int} (sh:Shp w) (L:U9 w n h=true):∃ dep:Int ->Nat,∀ m c,X0 w n m=some c ->m ≠ h ->0 <=c.from_∧(X0 w n c.from_ ≠ none∨c.from_=h)∧dep c.from_ < dep m:=by
 have all:∀ m:Nat,m < w.cells.length ->cellOf w m n ≠ none ->YV w n h w.cells.length m=true:=by
  intro m hm hc;unfold U9 at L;rw [Bool.not_eq_true',List.any_eq_false] at L;have:=L m (List.mem_range.2 hm);cases e:YV w n h w.cells.length m with
  | true=>rfl
  | false=>
    exfalso;apply this;rw [e];cases ec:cellOf w m n with
    | none=>exact absurd ec hc
    | some c=>rfl
 refine⟨fun a=>(List.range (w.cells.length + 1)).countP fun k=>!YV w n h k a,fun m c hc hm=>?_⟩;obtain⟨hr,hc'⟩:=Wl hc;have hmn:((m.toNat:Nat):Int)=m:=by omega
 have q:=all m.toNat (by omega) (by rw [hc'];simp);rw [hmn] at q;have hM:=sh.c1;obtain⟨K,hK⟩:=Ne0 (n:=w.cells.length) (by omega);rw [hK,Zaq hm hc',Bool.and_eq_true] at q;have hf:0 <=c.from_:=by have:=q.1;simp at this;omega
 have hfr:=sh.from_ hc' (by omega);refine⟨hf,?_,?_⟩
 ·rcases Zlx q.2 with z | z
  ·exact .inr z
  ·left;unfold X0;rw [if_pos hfr];exact z
 ·have hp:w.cells.length=K + 1:=hK
  obtain⟨j,j1,j2,j3⟩:=switch (f:=fun k=>YV w n h k m) (K:=K) (by simp [YV,hm]) (by
   show YV w n h (K + 1) m=true;rw [Zaq hm hc',Bool.and_eq_true];exact q)
  rw [Zaq hm hc',Bool.and_eq_true] at j3;refine ZsQ (x:=j) (fun k hk hp=>?_) (List.mem_range.2 (by omega)) (by rw [j3.2];rfl) (by rw [j2];rfl);rw [Bool.not_eq_true'] at hp ⊢;cases k with
  | zero=>simp [YV,hm]
  | succ k=>
    rw [Zaq hm hc',Bool.and_eq_false_iff];right;cases e:YV w n h k c.from_ with
    | false=>rfl
    | true=>rw [ZgX e] at hp;cases hp
end
end Go.Proofs.Ytekpjgmhkkjhgaa
end
section
namespace Go.Proofs.Ytekpjgmhkkjhgaa
open Go.Lf
theorem ZrR {α:Type} [Inhabited α] (f:α ->Int) {l:List α} (h:∀ k x,l[k]? =some x ->0 < k ->f (Qi l k) < f x):l.Pairwise fun a b=>f a < f b:=by
 rw [List.pairwise_iff_getElem]
 have key:∀ (j i:Nat) (hi:i < l.length) (hj:j < l.length),i < j ->f l[i] < f l[j]:=by
  intro j
  induction j with
  | zero=>intro i hi hj h;omega
  | succ j ih=>
    intro i hi hj hij;have q:=h (j + 1) l[j + 1] (by simp [hj]) (by omega)
    have e:Qi l (j + 1)=l[j]'(by omega):=by
     unfold Qi;rw [Nat.add_sub_cancel,List.getElem?_eq_getElem (by omega)];rfl
    rw [e] at q;by_cases z:i=j
    ·subst z;exact q
    ·have:=ih i hi (by omega) (by omega);omega
 exact fun i j hi hj hij=>key j i hi hj hij
theorem ZrS {α:Type} [Inhabited α] (f:α ->Int) {l:List α} (h:l.Pairwise fun a b=>f a < f b) {k:Nat} {x:α} (hk:l[k]? =some x) (h0:0 < k):f (Qi l k) < f x:=by
 rw [List.pairwise_iff_getElem] at h;obtain⟨hl,rfl⟩:=List.getElem?_eq_some_iff.1 hk
 have e:Qi l k=l[k - 1]'(by omega):=by
  unfold Qi;rw [List.getElem?_eq_getElem (by omega)];rfl
 rw [e];exact h _ _ _ _ (by omega)
theorem Zbg {b:Int}:∀ {l:List Int} {a:Int},l.Pairwise (· < ·) ->(∀ x ∈ l,a <=x∧x < b) ->a <=b ->a + (l.length:Int) <=b
 | [],a,_,_,h=>by simp;exact h
 | x::l,a,p,hr,h=>by
   rw [List.pairwise_cons] at p;have h0:=hr x (by simp);have:=Zbg (l:=l) (a:=x + 1) (b:=b) p.2 (fun y hy=>by have h1:=p.1 y hy;have h2:=hr y (by simp [hy]);omega) (by omega);simp only [List.length_cons];omega
theorem Zeg {α:Type} {c:Nat ->α ->Bool} {l:List α} (h:∀ k x,l[k]? =some x ->c k x=false):anyI c 0 l=false:=by
 rw [← Bool.not_eq_true,Zbh];rintro⟨k,x,h1,h2⟩;rw [Nat.zero_add,h k x h1] at h2;cases h2
theorem Zz3 {α:Type} {c:Nat ->α ->Bool} {l:List α} (h:anyI c 0 l=false) {k:Nat} {x:α} (hk:l[k]? =some x):c k x=false:=by
 rw [← Bool.not_eq_true,Zbh] at h;cases e:c k x with
 | false=>rfl
 | true=>exact absurd ⟨k,x,hk,by rw [Nat.zero_add];exact e⟩ h
section
variable {w:Za} {n:Int}
theorem Zx2 {m:Nat} (hm:m < w.cells.length) {c:Zb} (hc:c ∈ rowOf w m):∃ k:Nat,w.cells[m]? =some (rowOf w m)∧(rowOf w m)[k]? =some c:=by
 obtain⟨k,hk⟩:=List.getElem?_of_mem hc;exact⟨k,Yn hm,hk⟩
theorem ZrM {m:Nat} (hm:m < w.cells.length) (n:Int):Zgz w m n=ZaG w m n + UF (X0 w n m):=by
 rw [Kb hm];unfold Zgz UF;cases cellOf w m n with
 | none=>rfl
 | some c=>dsimp only;cases c.root <;> rfl
theorem ZpH {m:Int} {x:Zd} (hx:x ∈ Ur w n) (k:x.kind=3) (h:x.ZH=m):1 <=ZaG w m n:=by
 unfold Ur at hx;rw [List.mem_filter] at hx;refine List.countP_pos_iff.2 ⟨x,hx.1,?_⟩;simp [k,h];simpa using hx.2
theorem Rt.of (h:Uf w=true):Rt w:=by
 unfold Uf at h;rw [Bool.and_eq_true] at h;obtain⟨hs,hn⟩:=h;have sh:=Zb8 hs;unfold U4 at hs;simp only [Bool.and_eq_true,Bool.not_eq_true'] at hs;obtain⟨s1,s2,s3,s4⟩:=hs
 have hfr:∀ k x,w.freed[k]? =some x ->(0 <=x∧x < w.names)∧(0 < k ->Qi w.freed k < x):=by
  intro k x hk;have:=Zz3 s2 hk;unfold QY at this;simp at this;exact⟨this.1,fun h0=>this.2 h0⟩
 refine⟨sh.c1,sh.c6,sh.n0,sh.n12,sh.notes,ZrR (fun x=>x) (fun k x hk h0=>(hfr k x hk).2 h0),?_,?_,?_,?_,?_⟩
 ·intro x hx;obtain⟨k,hk⟩:=List.getElem?_of_mem hx;exact(hfr k x hk).1
 ·intro m hm;exact ZrR (fun c:Zb=>c.name) (fun k c hk h0=>(sh.cell m _ k c (Yn hm) hk).2 h0)
 ·intro m hm c hc;obtain⟨k,r1,r2⟩:=Zx2 hm hc;have:=Zbe (sh.cell m _ k c r1 r2).1;exact⟨this.1,this.2.2.1⟩
 ·exact fun x hx=>(WK (sh.note x hx)).2.1
 ·intro n hnn
  have hr:0 <=n∧n < w.names:=by
   have:=hnn;unfold Yu at this;simp at this;exact this.1
  rw [Bool.not_eq_true',List.any_eq_false] at hn
  have hro:JD w n=true:=by
   have:=hn n.toNat (List.mem_range.2 (by omega));rw [show((n.toNat:Nat):Int)=n by omega,hnn] at this;cases e:JD w n with
   | true=>rfl
   | false=>rw [e] at this;exact absurd rfl this
  unfold JD at hro;simp only [Bool.and_eq_true,Bool.not_eq_true',beq_iff_eq] at hro;obtain⟨h1,h2,h3⟩:=hro;rw [List.any_eq_false] at h1
  have hbad:∀ m:Nat,m < w.cells.length ->K4 (X0 w n) (Ur w n) m=JG w.cells.length (X0 w n) (Ur w n) m∧K4 (X0 w n) (Ur w n) m <=1000000:=by
   intro m hm;have:=h1 m (List.mem_range.2 hm);unfold Zjs at this;rw [sh.ZmW hm,sh.Zo9 hm] at this
   simpa using this
  obtain⟨f1,f2⟩:=Zkp sh n
  have hL:Xy w n= [(Jd w n).2]:=by
   have:(Xy w n).length=1:=by
    unfold Jd at h2;rw [f1] at h2;omega
   obtain⟨z,hz⟩:=List.length_eq_one_iff.1 this;rw [show(Jd w n).2=z from f2 z hz];exact hz
  obtain⟨z,hz⟩:∃ z,(Jd w n).2=z:= ⟨_,rfl⟩
  rw [hz] at hL h3;have hzr:=ZeJ sh n z (by rw [hL];simp)
  have hcnt:∀ m:Nat,m < w.cells.length ->Zgz w m n=if(m:Int)=z then 1 else 0:=by
   intro m hm;rw [← ZeK hm,hL];by_cases e:(m:Int)=z
   ·rw [if_pos e,e];simp
   ·rw [if_neg e];rw [List.count_eq_zero];simp;exact e
  have hcell:∀ m c,X0 w n m=some c ->∃ (row:List Zb) (k:Nat),w.cells[m.toNat]? =some row∧row[k]? =some c∧Ua w m.toNat c=true:=by
   intro m c hc;obtain⟨row,k,r1,r2⟩:=K9 (Wl hc).2;exact⟨row,k,r1,r2,(sh.cell _ row k c r1 r2).1⟩
  have h3n:∀ x ∈ Ur w n,x.kind=3 ->x.ZH=z:=by
   intro x hx k;have hx':=WK (sh.note x (List.mem_filter.1 hx).1);have:=ZpH hx k (m:= ((x.ZH.toNat:Nat):Int)) (by omega);have hc:=hcnt x.ZH.toNat (by omega);rw [ZrM (by omega)] at hc;by_cases e:((x.ZH.toNat:Nat):Int)=z
   ·omega
   ·rw [if_neg e] at hc;omega
  refine⟨z,⟨?_,?_,?_,?_,hzr,?_,?_,?_,?_⟩,?_⟩
  ·exact fun m c hc=>(Wl hc).1
  ·exact fun m c hc=>Q7 (Wl hc).2
  ·intro m c hc;have hr:= (Wl hc).1;obtain⟨_,_,_,_,q⟩:=hcell m c hc;have:= (Zbe q).2.2.2;rw [show((m.toNat:Nat):Int)=m by omega] at this;rcases this with⟨a1,a2,a3,a4,a5,a6⟩ | a
   ·exact .inl ⟨a1,a2,a3,a4,a5⟩
   ·exact .inr a
  ·intro x hx;have hx':=WK (sh.note x (List.mem_filter.1 hx).1);refine⟨hx'.1,by simpa using (List.mem_filter.1 hx).2,hx'.2.2.1.1,?_⟩;rcases hx'.2.2.2 with a | a | a
   ·exact .inl a
   ·exact .inr (.inl a)
   ·exact .inr (.inr ⟨a.1,a.2.1,a.2.2,h3n x hx a.1⟩)
  ·intro m c hc hrt;have hr:= (Wl hc).1;have q:=hcnt m.toNat (by omega);unfold Zgz at q;rw [(Wl hc).2] at q;dsimp only at q;rw [hrt,Cq1] at q;split at q <;> omega
  ·have q:=hcnt z.toNat (by omega);have hzn:((z.toNat:Nat):Int)=z:=by omega
   rw [if_pos hzn,ZrM (by omega)] at q;rw [hzn] at q;have g1:=ZhN w z n;rw [ZmU h3n,if_pos rfl] at g1;omega
  ·intro a a0 a1;have:= (hbad a.toNat (by omega)).1;rw [show((a.toNat:Nat):Int)=a by omega] at this;exact this
  ·exact Zyi sh h3
  ·intro a a0 a1;have:= (hbad a.toNat (by omega)).2;rw [show((a.toNat:Nat):Int)=a by omega] at this;exact this
theorem Rt.ZkQ (R:Rt w):(w.freed.length:Int) <=w.names:=by
 have:=Zbg R.fr R.frr R.n0;omega
theorem Rt.ZsT (R:Rt w) {m:Nat} (hm:m < w.cells.length) {c:Zb} (hc:c ∈ rowOf w m):X0 w c.name m=some c:=by
 rw [Kb hm];exact Zp0 (R.Xh m hm) hc
theorem Rt.Ua (R:Rt w) {m:Nat} (hm:m < w.cells.length) {c:Zb} (hc:c ∈ rowOf w m):Ua w m c=true:=by
 obtain⟨q1,q2⟩:=R.cn m hm c hc;obtain⟨h,H,Mx⟩:=R.nm _ q1;have e:=R.ZsT hm hc;have ho:=H.Zpi e;have hmx:=Mx m (by omega) (by omega);rw [H.giv,e] at hmx;simp only [Qx] at hmx;refine ZwS q1 ⟨ho.1,?_⟩ q2 ?_
 ·split at hmx <;> omega
 ·rcases H.cel m c e with⟨a1,a2,a3,a4,a5⟩ | a
  ·have h1:=H.Zda e a2;have h2:=H.acc c.from_ a2 a3;have h3:=Mx c.from_ a2 a3;exact .inl ⟨a1,a2,a3,a4,a5,by omega⟩
  ·exact .inr a
theorem Rt.JE (R:Rt w) {x:Zd} (hx:x ∈ w.notes):JE w x=true:=by
 have q1:=R.nn x hx;obtain⟨h,H,Mx⟩:=R.nm _ q1;have hx':x ∈ Ur w x.name:=List.mem_filter.2 ⟨hx,by simp⟩;obtain⟨a1,a2,a3,a4⟩:=H.nts x hx';refine Zt4 a1 q1 ⟨a3,?_⟩ ?_
 ·rcases a4 with z | z | z
  ·have h1:=H.UH z.2.1 hx';rw [WZ z.1,if_pos rfl] at h1;have h2:=H.acc _ z.2.1 z.2.2;have h3:=Mx _ z.2.1 z.2.2;omega
  ·have h1:=H.UH a1.1 hx';rw [ZbC z.1,if_pos rfl] at h1;have h2:=H.acc _ a1.1 a1.2;have h3:=Mx _ a1.1 a1.2;omega
  ·omega
 ·rcases a4 with z | z | z
  ·exact .inl z
  ·exact .inr (.inl z)
  ·exact .inr (.inr ⟨z.1,z.2.1,z.2.2.1⟩)
theorem Rt.shaped (R:Rt w):U4 w=true:=by
 have hfl:=R.ZkQ;have:=R.c1;have:=R.c6;have:=R.n0;have:=R.n12;have:=R.nts;unfold U4;simp only [Bool.and_eq_true,Bool.not_eq_true'];refine⟨?_,?_,?_,?_⟩
 ·unfold Ud;simp only [Bool.and_eq_true,decide_eq_true_eq];omega
 ·refine Zeg fun k x hk=>?_
  have h1:=R.frr x (List.mem_of_getElem? hk);unfold QY;have h2:0 < k ->Qi w.freed k < x:=fun h0=>ZrS (fun x=>x) R.fr hk h0
  simp;exact⟨h1,h2⟩
 ·unfold KX;rw [Bool.not_eq_true'];refine Zeg fun m row hm=>?_
  have hml:m < w.cells.length:= (List.getElem?_eq_some_iff.1 hm).1;have hro:row=rowOf w m:=by have:=Yn hml;rw [hm] at this;exact Oi0 this
  subst hro;refine Zeg fun k c hk=>?_
  unfold Jc;rw [R.Ua hml (List.mem_of_getElem? hk)];simp;exact fun h0=>ZrS (fun c:Zb=>c.name) (R.Xh m hml) hk h0
 ·unfold JA;rw [Bool.not_eq_true',List.any_eq_false];intro x hx;rw [R.JE hx];simp
theorem Rt.shp (R:Rt w):Shp w:=Zb8 R.shaped
end
end Go.Proofs.Ytekpjgmhkkjhgaa
end
section
namespace Go.Proofs.Ytekpjgmhkkjhgaa
open Go.Lf
def flN (n:Int) (fl:List Zd):List Zd:=fl.filter fun x=>x.name==n
structure Rx (w:Za) (ex:Int ->Int ->Prop) (fl:List Zd):Prop where
 c1:1 <=w.cells.length
 c6:w.cells.length <=6
 n0:0 <=w.names
 n12:w.names <=12
 fr:w.freed.Pairwise (· < ·)
 frr:∀ x ∈ w.freed,0 <=x∧x < w.names
 Xh:∀ m,m < w.cells.length ->Ub (rowOf w m)
 cn:∀ n m c,X0 w n m=some c ->Yu w n=true∧(c.use=true∨c.out ≠ 0∨ex m n)
 nn:∀ x ∈ fl ++ w.notes,Yu w x.name=true
 nm:∀ n,Yu w n=true ->∃ h,Nm w.cells.length n (X0 w n) (flN n fl ++ Ur w n) h
def Mw (w:Za) (fl:List Zd):Prop:=∀ n,Yu w n=true ->Mst w.cells.length (X0 w n) (flN n fl ++ Ur w n)
def KH:Int ->Int ->Prop:=fun _ _=>False
theorem Rt.rx {w:Za} (R:Rt w):Rx w KH []∧Mw w []:=by
 refine⟨⟨R.c1,R.c6,R.n0,R.n12,R.fr,R.frr,R.Xh,fun n m c hc=>?_,R.nn,fun n hn=>?_⟩,fun n hn=>?_⟩
 ·obtain⟨h1,h2⟩:=Wl hc;have hm:m.toNat < w.cells.length:=by omega
  obtain⟨row,k,r1,r2⟩:=K9 h2;have:row=rowOf w m.toNat:=by have:=Yn hm;rw [r1] at this;exact Oi0 this
  subst this;have q:=R.cn _ hm c (List.mem_of_getElem? r2);rw [Q7 h2] at q;exact⟨q.1,q.2.elim .inl fun z=>.inr (.inl z)⟩
 ·obtain⟨h,H,_⟩:=R.nm n hn;exact⟨h,H⟩
 ·obtain⟨h,_,H⟩:=R.nm n hn;exact H
theorem Rx.rt {w:Za} (R:Rx w KH []) (Mx:Mw w []) (hl:w.notes.length <=80):Rt w:=by
 refine⟨R.c1,R.c6,R.n0,R.n12,hl,R.fr,R.frr,R.Xh,fun m hm c hc=>?_,R.nn,fun n hn=>?_⟩
 ·have e:X0 w c.name m=some c:=by rw [Kb hm];exact Zp0 (R.Xh m hm) hc
  obtain⟨q1,q2⟩:=R.cn _ _ _ e;refine⟨q1,?_⟩;rcases q2 with q | q | q
  ·exact .inl q
  ·exact .inr q
  ·exact q.elim
 ·obtain⟨h,H⟩:=R.nm n hn;exact⟨h,H,Mx n hn⟩
structure Upd (w w':Za) (n:Int):Prop where
 len:w'.cells.length=w.cells.length
 nms:w'.names=w.names
 fre:w'.freed=w.freed
 Xh:∀ m,m < w.cells.length ->Ub (rowOf w' m)
 oc:∀ k,k ≠ n ->X0 w' k=X0 w k
 on:∀ k,k ≠ n ->Ur w' k=Ur w k
theorem Upd.trans {w w1 w2:Za} {n:Int} (a:Upd w w1 n) (b:Upd w1 w2 n):Upd w w2 n:=
 ⟨b.len.trans a.len,b.nms.trans a.nms,b.fre.trans a.fre,fun m hm=>b.Xh m (by rw [a.len];exact hm),fun k hk=>(b.oc k hk).trans (a.oc k hk),fun k hk=>(b.on k hk).trans (a.on k hk)⟩
theorem Zco {w w':Za} (h1:w'.names=w.names) (h2:w'.freed=w.freed) (n:Int):Yu w' n=Yu w n:=by unfold Yu;rw [h1,h2]
theorem ZlT {n:Int} {fl:List Zd} (h:∀ x ∈ fl,x.name ≠ n):flN n fl= []:=by
 unfold flN;rw [List.filter_eq_nil_iff];intro x hx;simp;exact h x hx
theorem ZbL {n:Int} {fl:List Zd} (h:∀ x ∈ fl,x.name=n):flN n fl=fl:=by
 unfold flN;rw [List.filter_eq_self];intro x hx;simp;exact h x hx
section
variable {w w':Za} {n:Int} {ex ex':Int ->Int ->Prop} {fl fl':List Zd}
theorem Rx.upd (R:Rx w ex fl) (U:Upd w w' n) (hn:Yu w n=true) (hfl:∀ x ∈ fl,x.name=n) (Zhi:∀ x ∈ fl',x.name=n)
 (he:∀ m c,X0 w' n m=some c ->c.use=true∨c.out ≠ 0∨ex' m n) (he2:∀ m k,k ≠ n ->ex m k ->ex' m k)
 (hm:∃ h,Nm w.cells.length n (X0 w' n) (fl' ++ Ur w' n) h):Rx w' ex' fl':=by
 have hB:=Zco U.nms U.fre;refine⟨by rw [U.len];exact R.c1,by rw [U.len];exact R.c6,by rw [U.nms];exact R.n0,by rw [U.nms];exact R.n12,by rw [U.fre];exact R.fr,by rw [U.fre,U.nms];exact R.frr,by rw [U.len];exact U.Xh,fun k m c hc=>?_,fun x hx=>?_,fun k hk=>?_⟩
 ·rw [hB];by_cases e:k=n
  ·subst e;exact⟨hn,he m c hc⟩
  ·rw [U.oc k e] at hc;obtain⟨q1,q2⟩:=R.cn k m c hc;exact⟨q1,q2.elim .inl fun z=>.inr (z.elim .inl fun y=>.inr (he2 m k e y))⟩
 ·rw [hB];by_cases e:x.name=n
  ·rw [e];exact hn
  ·rcases List.mem_append.1 hx with z | z
   ·exact absurd (Zhi x z) e
   ·have:x ∈ Ur w' x.name:=List.mem_filter.2 ⟨z,by simp⟩;rw [U.on _ e] at this;exact R.nn x (List.mem_append_right _ (List.mem_filter.1 this).1)
 ·rw [hB] at hk;rw [U.len];by_cases e:k=n
  ·subst e;rw [ZbL Zhi];exact hm
  ·obtain⟨h,H⟩:=R.nm k hk;refine⟨h,?_⟩;rw [U.oc k e,U.on k e,ZlT fun x hx z=>e (z.symm.trans (Zhi x hx))];rw [ZlT fun x hx z=>e (z.symm.trans (hfl x hx))] at H;exact H
theorem Mw.upd (Mx:Mw w fl) (U:Upd w w' n) (hfl:∀ x ∈ fl,x.name=n) (Zhi:∀ x ∈ fl',x.name=n)
 (hm:Mst w.cells.length (X0 w' n) (fl' ++ Ur w' n)):Mw w' fl':=by
 intro k hk;rw [Zco U.nms U.fre] at hk;rw [U.len];by_cases e:k=n
 ·subst e;rw [ZbL Zhi];exact hm
 ·have:=Mx k hk;rw [U.oc k e,U.on k e,ZlT fun x hx z=>e (z.symm.trans (Zhi x hx))];rw [ZlT fun x hx z=>e (z.symm.trans (hfl x hx))] at this;exact this
theorem Zk4 {m a:Nat} {r:Row} (hm:m < w.cells.length) (k:Int):cellOf (cw w m r) a k=if a=m then Ju r k else cellOf w a k:=by
 rw [QH,QH];by_cases e:a=m
 ·subst e;rw [if_pos rfl,Qh hm]
 ·rw [if_neg e,UE e]
theorem Zbu {m:Nat} (hm:m < w.cells.length) (Xh:∀ m,m < w.cells.length ->Ub (rowOf w m)) {c:Zb} (hc:c.name=n):
 Upd w (cw w m (put c (rowOf w m))) n∧X0 (cw w m (put c (rowOf w m))) n=YE (X0 w n) m (some c)∧Ur (cw w m (put c (rowOf w m))) n=Ur w n:=by
 have key:∀ k a,X0 (cw w m (put c (rowOf w m))) k a=if a=m∧k=n then some c else X0 w k a:=by
  intro k a;unfold X0;rw [Yg];by_cases hr:0 <=a∧a < (w.cells.length:Int)
  ·rw [if_pos hr,if_pos hr,Zk4 hm];by_cases e:a=m
   ·have:a.toNat=m:=by omega
    rw [if_pos this,Wh _ (Xh m hm),hc,QH,this];by_cases ek:k=n
    ·rw [if_pos ek,if_pos ⟨e,ek⟩]
    ·rw [if_neg ek,if_neg (fun z=>ek z.2)]
   ·have:¬ a.toNat=m:=by omega
    rw [if_neg this,if_neg (fun z=>e z.1)]
  ·rw [if_neg hr,if_neg hr,if_neg (by rintro⟨z,_⟩;subst z;omega)]
 refine⟨⟨Yg,rfl,rfl,fun a ha=>?_,fun k hk=>?_,fun k hk=>rfl⟩,?_,rfl⟩
 ·by_cases e:a=m
  ·subst e;rw [Qh hm];exact(Xh a hm).put
  ·rw [UE e];exact Xh a ha
 ·funext a;rw [key,if_neg (fun z=>hk z.2)]
 ·funext a;rw [key];unfold YE;by_cases e:a=m
  ·rw [if_pos ⟨e,rfl⟩,if_pos e]
  ·rw [if_neg (fun z=>e z.1),if_neg e]
theorem Zx3 {m:Nat} (hm:m < w.cells.length) (Xh:∀ m,m < w.cells.length ->Ub (rowOf w m)):
 Upd w (cw w m (KQ n (rowOf w m))) n∧X0 (cw w m (KQ n (rowOf w m))) n=YE (X0 w n) m none∧Ur (cw w m (KQ n (rowOf w m))) n=Ur w n:=by
 have key:∀ k a,X0 (cw w m (KQ n (rowOf w m))) k a=if a=m∧k=n then none else X0 w k a:=by
  intro k a;unfold X0;rw [Yg];by_cases hr:0 <=a∧a < (w.cells.length:Int)
  ·rw [if_pos hr,if_pos hr,Zk4 hm];by_cases e:a=m
   ·have:a.toNat=m:=by omega
    rw [if_pos this,Zro,QH,this];by_cases ek:k=n
    ·rw [if_pos ek,if_pos ⟨e,ek⟩]
    ·rw [if_neg ek,if_neg (fun z=>ek z.2)]
   ·have:¬ a.toNat=m:=by omega
    rw [if_neg this,if_neg (fun z=>e z.1)]
  ·rw [if_neg hr,if_neg hr];split <;> rfl
 refine⟨⟨Yg,rfl,rfl,fun a ha=>?_,fun k hk=>?_,fun k hk=>rfl⟩,?_,rfl⟩
 ·by_cases e:a=m
  ·subst e;rw [Qh hm];exact(Xh a hm).KQ n
  ·rw [UE e];exact Xh a ha
 ·funext a;rw [key,if_neg (fun z=>hk z.2)]
 ·funext a;rw [key];unfold YE;by_cases e:a=m
  ·rw [if_pos ⟨e,rfl⟩,if_pos e]
  ·rw [if_neg (fun z=>e z.1),if_neg e]
theorem Zet (Xh:∀ m,m < w.cells.length ->Ub (rowOf w m)) {x:Zd} (hx:x.name=n):Upd w (sent w x) n∧X0 (sent w x) n=X0 w n∧Ur (sent w x) n=Ur w n ++ [x]:=by
 refine⟨⟨rfl,rfl,rfl,Xh,fun k hk=>rfl,fun k hk=>?_⟩,rfl,?_⟩
 ·unfold Ur sent;rw [List.filter_append]
  have: [x].filter (fun x=>x.name==k)= []:=by
   rw [List.filter_eq_nil_iff];intro y hy;rw [List.mem_singleton.1 hy];simp;exact fun z=>hk (z.symm.trans hx)
  rw [this,List.append_nil]
 ·unfold Ur sent;rw [List.filter_append]
  have: [x].filter (fun x=>x.name==n)= [x]:=by
   rw [List.filter_eq_self];intro y hy;rw [List.mem_singleton.1 hy];simp;exact hx
  rw [this]
theorem ZkC {m:Nat} (hm:m < w.cells.length) (n:Int):look (rowOf w m) n=ZaZ n (X0 w n) m:=by
 unfold ZaZ;rw [Kb hm];rfl
theorem Mst.put {M:Nat} {cv:CV} {ns ns':List Zd} (Mx:Mst M cv ns) {m:Int} {d:Zb} (h:∀ a:Int,0 <=a ->a < M ->(if a=m then d.out else Qx (cv a)) + Xb (Qj a) ns' <=Qx (cv a) + Xb (Qj a) ns):Mst M (YE cv m (some d)) ns':=by
 intro a a0 a1;have h1:=h a a0 a1;have h2:=Mx a a0 a1;unfold K4 at h2 ⊢;have:Qx (YE cv m (some d) a)=if a=m then d.out else Qx (cv a):=by unfold YE;split <;> rfl
 omega
theorem Zc0 {m:Int} (R:Rx w (fun a k=>a=m∧k=n) []) (Mx:Mw w []) {m':Nat} (hmm:(m':Int)=m) (hm:m' < w.cells.length) {c:Zb} (hc:X0 w n m=some c):
 Rx (XT w m' n c) KH []∧Mw (XT w m' n c) []:=by
 have hn:= (R.cn n m c hc).1;have hcn:=Q7 (Wl hc).2;obtain⟨h,H⟩:=R.nm n hn;have H:Nm w.cells.length n (X0 w n) (Ur w n) h:=H;have hMx:=Mx n hn;have hMx:Mst w.cells.length (X0 w n) (Ur w n):=hMx;unfold XT;cases hu:(c.use || (c.out !=0))
 ·rw [Cq0];have hu1:c.use=false:=by cases q:c.use;rfl;rw [q] at hu;cases hu
  have hu2:c.out=0:=by rw [hu1,Bool.false_or] at hu;simpa using hu
  obtain⟨U,V1,V2⟩:=Zx3 (n:=n) hm R.Xh
  have hout:∀ a,Qx (YE (X0 w n) m none a)=Qx (X0 w n a):=by
   intro a;unfold YE;split
   ·rename_i e;rw [e,hc];simp [Qx,hu2]
   ·rfl
  rw [hmm] at V1
  have ZGb:∀ a d,X0 (cw w m' (KQ n (rowOf w m'))) n a=some d ->d.use=true∨d.out ≠ 0∨KH a n:=by
   intro a d hd;rw [V1] at hd;unfold YE at hd;split at hd
   ·cases hd
   ·rename_i e;rcases(R.cn n a d hd).2 with z | z | z
    ·exact .inl z
    ·exact .inr (.inl z)
    ·exact absurd z.1 e
  cases hr:c.root
  ·simp only [Cq0];cases hf:decide (c.from_ >=0)
   ·rw [Cq0];show Rx (cw w m' (KQ n (rowOf w m'))) KH []∧Mw (cw w m' (KQ n (rowOf w m'))) [];have hf':¬ 0 <=c.from_:=by simpa using hf
    refine⟨R.upd U hn (by simp) (by simp) ZGb (fun a k hk z=>absurd z.2 hk) ⟨h,?_⟩,Mx.upd U (by simp) (by simp) ?_⟩
    ·have:=H.gone hc hu2 hr (ys:= []) (by rw [if_neg hf']);rw [List.append_nil] at this;rw [V1];exact this
    ·intro a a0 a1;have:=hMx a a0 a1;rw [V1];show Qx (YE (X0 w n) m none a) + Xb (Qj a) (Ur w n) <=1000000;rw [hout];exact this
   ·rw [Cq1];show Rx (sent (cw w m' (KQ n (rowOf w m'))) ⟨2,c.from_,n,0,c.has⟩) KH []∧Mw (sent (cw w m' (KQ n (rowOf w m'))) ⟨2,c.from_,n,0,c.has⟩) []
    have hf':0 <=c.from_:=by simpa using hf
    obtain⟨U2,W1,W2⟩:=Zet (w:=cw w m' (KQ n (rowOf w m'))) (n:=n) (x:= ⟨2,c.from_,n,0,c.has⟩) (fun a ha=>U.Xh a (by rw [← U.len];exact ha)) rfl;rw [V1] at W1;refine⟨R.upd (U.trans U2) hn (by simp) (by simp) (fun a d hd=>ZGb a d (by rw [V1,← W1];exact hd)) (fun a k hk z=>absurd z.2 hk) ⟨h,?_⟩,Mx.upd (U.trans U2) (by simp) (by simp) ?_⟩
    ·have:=H.gone hc hu2 hr (ys:= [⟨2,c.from_,n,0,c.has⟩]) (by rw [if_pos hf']);rw [W1,W2];exact this
    ·intro a a0 a1;have:=hMx a a0 a1;rw [W1,W2];show Qx (YE (X0 w n) m none a) + Xb (Qj a) (Ur w n ++ [⟨2,c.from_,n,0,c.has⟩]) <=1000000
     rw [hout,Qg,QT,Zc6 rfl];unfold K4 at this;omega
  ·simp only [Cq1];obtain⟨e1,e2⟩:=H.last hc hu2 hr;have hnr:0 <=n∧n < w.names:=by have:=hn;unfold Yu at this;simp at this;exact this.1
   have hnf:n ∉ w.freed:=by
    have:=hn;unfold Yu at this;simp at this;exact fun z=>this.2 n z rfl
   have hmem:∀ x,x ∈ Q5 n w.freed↔x=n∨x ∈ w.freed:=by
    intro x
    constructor
    ·exact ZeG
    ·intro hx
     have key:∀ l:List Int,x=n∨x ∈ l ->x ∈ Q5 n l:=by
      intro l
      induction l with
      | nil=>intro z;rcases z with z | z;subst z;simp [Q5];simp at z
      | cons y l ih=>
        intro z;unfold Q5;split
        ·simp only [List.mem_cons] at z ⊢;omega
        ·simp only [List.mem_cons] at z ⊢;rcases z with z | z | z
         ·exact .inr (ih (.inl z))
         ·exact .inl z
         ·exact .inr (ih (.inr z))
     exact key _ hx
   have hB:∀ k,Yu ⟨w.cells.set m' (KQ n (rowOf w m')),w.notes,w.names,Q5 n w.freed⟩ k= (Yu w k && !(k==n)):=by
    intro k;unfold Yu;dsimp only
    have:((Q5 n w.freed).any fun y=>y==k)= ((w.freed.any fun y=>y==k) || (k==n)):=by
     rw [Bool.eq_iff_iff,Bool.or_eq_true,List.any_eq_true,List.any_eq_true];simp only [beq_iff_eq,hmem]
     constructor
     ·rintro⟨x,z | z,rfl⟩
      ·exact .inr z
      ·exact .inl ⟨x,z,rfl⟩
     ·rintro(⟨x,z,rfl⟩ | z)
      ·exact⟨x,.inr z,rfl⟩
      ·exact⟨n,.inl rfl,z.symm⟩
    rw [this];cases decide (0 <=k) <;> cases decide (k < w.names) <;> cases (w.freed.any fun y=>y==k) <;> cases (k==n) <;> rfl
   have key:∀ k,X0 ⟨w.cells.set m' (KQ n (rowOf w m')),w.notes,w.names,Q5 n w.freed⟩ k=if k=n then(fun _=>none) else X0 w k:=by
    intro k;by_cases e:k=n
    ·subst e;rw [if_pos rfl];show X0 (cw w m' (KQ k (rowOf w m'))) k=_;rw [V1];funext a;unfold YE;split
     ·rfl
     ·rename_i z;exact e1 a z
    ·rw [if_neg e];exact U.oc k e
   refine⟨⟨by show 1 <= (w.cells.set _ _).length;rw [List.length_set];exact R.c1,by show(w.cells.set _ _).length <=6;rw [List.length_set];exact R.c6,R.n0,R.n12,?_,?_,?_,?_,?_,?_⟩,?_⟩
   ·have q1:∀ l:List Int,l.Pairwise (· < ·) ->n ∉ l ->(Q5 n l).Pairwise (· < ·):=by
     intro l
     induction l with
     | nil=>intro _ _;simp [Q5]
     | cons y l ih=>
       intro p q;rw [List.pairwise_cons] at p;unfold Q5;split
       ·rename_i hyx;rw [List.pairwise_cons,List.pairwise_cons];refine⟨fun z hz=>?_,p⟩;rcases List.mem_cons.1 hz with rfl | hz
        ·exact hyx
        ·have:=p.1 z hz;omega
       ·rename_i hyx;have hne:n ≠ y:=fun z=>q (by rw [z];simp)
        rw [List.pairwise_cons];refine⟨fun z hz=>?_,ih p.2 fun z=>q (by simp [z])⟩;rcases ZeG hz with rfl | hz
        ·omega
        ·exact p.1 z hz
    exact q1 _ R.fr hnf
   ·intro x hx;rcases(hmem x).1 hx with z | z
    ·subst z;exact hnr
    ·exact R.frr x z
   ·intro a ha;have ha:a < w.cells.length:=by simpa using ha
    exact U.Xh a ha
   ·intro k a d hd;rw [key] at hd;split at hd
    ·cases hd
    ·rename_i hk;obtain⟨q1,q2⟩:=R.cn k a d hd;refine⟨by rw [hB,q1];simp [hk],?_⟩;rcases q2 with z | z | z
     ·exact .inl z
     ·exact .inr (.inl z)
     ·exact absurd z.2 hk
   ·intro x hx;have hx:x ∈ w.notes:=hx
    have hne:x.name ≠ n:=by
     intro z;have:x ∈ Ur w n:=List.mem_filter.2 ⟨hx,by simp [z]⟩;rw [e2] at this;simp at this
    rw [hB,R.nn x (by simpa using hx)];simp [hne]
   ·intro k hk;rw [hB] at hk;simp at hk;obtain⟨h',H'⟩:=R.nm k hk.1;refine⟨h',?_⟩;rw [key,if_neg hk.2];show Nm (w.cells.set _ _).length k (X0 w k) (Ur w k) h';rw [List.length_set];exact H'
   ·intro k hk;rw [hB] at hk;simp at hk;have:=Mx k hk.1;rw [key,if_neg hk.2];show Mst (w.cells.set _ _).length (X0 w k) (Ur w k);rw [List.length_set];exact this
 ·rw [Cq1];refine⟨{R with cn:=fun k a d hd=>?_},Mx⟩;obtain⟨q1,q2⟩:=R.cn k a d hd;refine⟨q1,?_⟩;rcases q2 with z | z | ⟨z1,z2⟩
  ·exact .inl z
  ·exact .inr (.inl z)
  ·subst z1 z2;rw [hc] at hd;cases hd;rw [Bool.or_eq_true] at hu;rcases hu with z | z
   ·exact .inl z
   ·exact .inr (.inl (by simpa using z))
end
end Go.Proofs.Ytekpjgmhkkjhgaa
end
section
namespace Go.Proofs.Ytekpjgmhkkjhgaa
open Go.Lf
section
variable {w w':Za} {n:Int}
theorem Nm.most {M:Nat} {cv:CV} {ns:List Zd} {h:Int} (H:Nm M n cv ns h) (Mx:Mst M cv ns):
 (∀ m c,cv m=some c ->-16 <=c.out∧c.out <=1000000∧0 <=c.has∧c.has <=1000000)∧∀ x ∈ ns,1 <=x.w∧x.w <=1000000:=by
 refine⟨fun m c hc=>?_,fun x hx=>?_⟩
 ·have hr:=H.rng m c hc;have h1:=Mx m hr.1 hr.2;have h2:=H.Zpi hc;rw [H.giv,hc] at h1;simp only [Qx] at h1;refine⟨h2.1,by split at h1 <;> omega,?_⟩;rcases H.cel m c hc with z | z
  ·have:=H.Zda hc z.2.1;have:=H.acc c.from_ z.2.1 z.2.2.1;have:=Mx c.from_ z.2.1 z.2.2.1;omega
  ·omega
 ·have hx':=H.nts x hx;refine⟨hx'.2.2.1,?_⟩;rcases hx'.2.2.2 with z | z | z
  ·have h1:=H.UH z.2.1 hx;rw [WZ z.1,if_pos rfl] at h1;have:=H.acc _ z.2.1 z.2.2;have:=Mx _ z.2.1 z.2.2;omega
  ·have h1:=H.UH hx'.1.1 hx;rw [ZbC z.1,if_pos rfl] at h1;have:=H.acc _ hx'.1.1 hx'.1.2;have:=Mx _ hx'.1.1 hx'.1.2;omega
  ·omega
theorem Znd {M:Nat} {cv:CV} {ns:List Zd} {h:Int} (H:Nm M n cv ns h) (Mx:Mst M cv ns) (m:Int):-16 <= (ZaZ n cv m).out∧(ZaZ n cv m).out <=1000000∧0 <= (ZaZ n cv m).has∧(ZaZ n cv m).has <=1000000:=by
 unfold ZaZ;cases e:cv m with
 | none=>simp [ZwY]
 | some c=>exact(H.most Mx).1 m c e
theorem ZdT {fl fl':List Zd} {ex ex':Int ->Int ->Prop} (R:Rx w ex fl) (Mx:Mw w fl) (hn:Yu w n=true) (hfl:∀ x ∈ fl,x.name=n) (Zhi:∀ x ∈ fl',x.name=n) {m:Int} {m':Nat} (hmm:(m':Int)=m) (hm:m' < w.cells.length) {d:Zb} (hd:d.name=n)
 (he:d.use=true∨d.out ≠ 0∨ex' m n) (he2:∀ a k,(k ≠ n∨a ≠ m) ->ex a k ->ex' a k)
 (hN:∃ h,Nm w.cells.length n (YE (X0 w n) m (some d)) (fl' ++ Ur w n) h)
 (hM:∀ a:Int,0 <=a ->a < w.cells.length ->(if a=m then d.out else Qx (X0 w n a)) + Xb (Qj a) (fl' ++ Ur w n) <=Qx (X0 w n a) + Xb (Qj a) (fl ++ Ur w n)):
 Rx (cw w m' (put d (rowOf w m'))) ex' fl'∧Mw (cw w m' (put d (rowOf w m'))) fl'∧X0 (cw w m' (put d (rowOf w m'))) n m=some d:=by
 obtain⟨U,V1,V2⟩:=Zbu hm R.Xh hd;rw [hmm] at V1;refine⟨R.upd U hn hfl Zhi (fun a c hc=>?_) (fun a k hk=>he2 a k (.inl hk)) ?_,Mx.upd U hfl Zhi ?_,by rw [V1,Zc2]⟩
 ·rw [V1] at hc;unfold YE at hc;split at hc
  ·rename_i e;cases hc;rw [e];exact he
  ·rename_i e;rcases(R.cn n a c hc).2 with z | z | z
   ·exact .inl z
   ·exact .inr (.inl z)
   ·exact .inr (.inr (he2 a n (.inr e) z))
 ·rw [V1,V2];exact hN
 ·rw [V1,V2];have:=Mx n hn;rw [ZbL hfl] at this;exact this.put hM
theorem ZxW {fl fl':List Zd} {ex:Int ->Int ->Prop} (R:Rx w ex fl) (Mx:Mw w fl) (hn:Yu w n=true) (hfl:∀ x ∈ fl,x.name=n) (Zhi:∀ x ∈ fl',x.name=n) {y:Zd} (hy:y.name=n)
 (hN:∃ h,Nm w.cells.length n (X0 w n) (fl' ++ (Ur w n ++ [y])) h)
 (hM:∀ a:Int,0 <=a ->a < w.cells.length ->Xb (Qj a) (fl' ++ (Ur w n ++ [y])) <=Xb (Qj a) (fl ++ Ur w n)):
 Rx (sent w y) ex fl'∧Mw (sent w y) fl':=by
 obtain⟨U,V1,V2⟩:=Zet R.Xh hy;refine⟨R.upd U hn hfl Zhi (fun a c hc=>?_) (fun a k hk z=>z) ?_,Mx.upd U hfl Zhi ?_⟩
 ·rw [V1] at hc;exact(R.cn n a c hc).2
 ·rw [V1,V2];exact hN
 ·rw [V1,V2];have:=Mx n hn;rw [ZbL hfl] at this;intro a a0 a1;have h1:=this a a0 a1;have h2:=hM a a0 a1;unfold K4 at h1 ⊢;omega
theorem Zak (m:Nat) (n:Int) (c:Zb):(XT w m n c).notes.length <=w.notes.length + 1∧(XT w m n c).cells.length=w.cells.length∧(XT w m n c).names=w.names∧(c.root=true ->(XT w m n c).notes.length=w.notes.length):=by
 unfold XT;cases (c.use || (c.out !=0))
 ·simp only [Cq0,List.length_set,true_and];cases c.root
  ·cases decide (c.from_ >=0) <;> simp
  ·simp
 ·simp
theorem ZeE {m:Nat} (hm:m < w.cells.length) (Xh:Ub (rowOf w m)) {d:Zb} (hd:d.name=n):look (rowOf (cw w m (put d (rowOf w m))) m) n=d:=QN (ZcC hm Xh hd)
theorem ZwT {x:Zd} (R:Rx w KH [x]) (Mx:Mw w [x]):
 Rx (Qt w x) KH []∧Mw (Qt w x) []∧(Qt w x).notes.length <=w.notes.length + 1∧(Qt w x).cells.length=w.cells.length∧(Qt w x).names=w.names:=by
 have hn:=R.nn x (by simp);obtain⟨n,hxn⟩:∃ n,x.name=n:= ⟨_,rfl⟩
 rw [hxn] at hn;have hfl:∀ y ∈ [x],y.name=n:=by simp [hxn]
 have hno:∀ y ∈ ([]:List Zd),y.name=n:=by simp
 obtain⟨h,H⟩:=R.nm n hn;rw [ZbL hfl] at H;have hMx:=Mx n hn;rw [ZbL hfl] at hMx;have H:Nm w.cells.length n (X0 w n) (x::Ur w n) h:=H;have hx:=H.nts x (by simp);have hxw:= (H.most hMx).2 x (by simp);obtain⟨m',hm'⟩:∃ m',x.ZH.toNat=m':= ⟨_,rfl⟩
 have hmm:(m':Int)=x.ZH:=by omega
 have hm:m' < w.cells.length:=by omega
 have L:=H.look x.ZH;have S:=Znd H hMx x.ZH;have Za3:look (rowOf w m') n=ZaZ n (X0 w n) x.ZH:=by rw [ZkC hm,hmm]
 unfold Qt;rw [hm',hxn];dsimp only;obtain⟨c,hc⟩:∃ c,ZaZ n (X0 w n) x.ZH=c:= ⟨_,rfl⟩
 rw [hc] at L S Za3;rw [Za3];have hsrt:=R.Xh m' hm;cases k1:(x.kind==1)
 ·rw [Cq0];cases k2:(x.kind==2)
  ·-- the root
   rw [Cq0]
   have k3:x.kind=3:=by
    rcases hx.2.2.2 with z | z | z
    ·rw [z.1] at k1;cases k1
    ·rw [z.1] at k2;cases k2
    ·exact z.1
   have hh:x.ZH=h:=by rcases hx.2.2.2 with z | z | z <;> omega
   rw [Ja (n:=c.out + 16) (by omega) (by omega)]
   have hG:∀ a:Int,(if a=x.ZH then(c.out + 16) else Qx (X0 w n a)) + Xb (Qj a) (Ur w n) <=Qx (X0 w n a) + Xb (Qj a) (x::Ur w n):=by
    intro a;simp only [Xb,Zlp k3];by_cases z:a=x.ZH
    ·rw [if_pos z,if_pos z.symm,z,L.out];omega
    ·rw [if_neg z,if_neg (by omega)];omega
   cases hf:decide (c.from_ >=0)
   ·simp only [Cq0];have hf':¬ 0 <=c.from_:=by simpa using hf
    rw [ZeE hm hsrt (by exact L.nam)];have:=H.home k3 L c.use (ys:= []) (by rw [if_neg hf']);rw [List.append_nil] at this;obtain⟨P1,P2,P3⟩:=ZdT (ex':=fun a k=>a=x.ZH∧k=n) R Mx hn hfl hno hmm hm (d:= ⟨c.name,true,-1,0,c.out + 16,c.use⟩) L.nam (.inr (.inr ⟨rfl,rfl⟩)) (fun a k _ z=>z.elim) ⟨h,this⟩ (fun a _ _=>hG a);obtain⟨Q1,Q2⟩:=Zc0 P1 P2 hmm (by rw [Yg];exact hm) P3;have Q3:=Zak (w:=cw w m' (put ⟨c.name,true,-1,0,c.out + 16,c.use⟩ (rowOf w m'))) m' n ⟨c.name,true,-1,0,c.out + 16,c.use⟩;exact⟨Q1,Q2,Q3.1,Q3.2.1.trans Yg,Q3.2.2.1⟩
   ·simp only [Cq1];have hf':0 <=c.from_:=by simpa using hf
    have hce:c.root=false∧0 <=c.from_∧c.from_ < w.cells.length∧c.from_ ≠ x.ZH∧1 <=c.has:=by rcases L.cel with z | z;exact z;omega
    have hb:Qr (cw w m' (put ⟨c.name,true,-1,0,c.out + 16,c.use⟩ (rowOf w m'))) m' n c.from_ c.has=sent (cw w m' (put ⟨c.name,true,-1,0,c.out + 16,c.use⟩ (rowOf w m'))) ⟨2,c.from_,n,0,c.has⟩:=by
     unfold Qr;have:(c.from_ != (m':Int))=true:=by simp;omega
     rw [this,Cq1]
    rw [hb];have hrow:rowOf (sent (cw w m' (put ⟨c.name,true,-1,0,c.out + 16,c.use⟩ (rowOf w m'))) ⟨2,c.from_,n,0,c.has⟩) m'=rowOf (cw w m' (put ⟨c.name,true,-1,0,c.out + 16,c.use⟩ (rowOf w m'))) m':=rfl;rw [hrow,ZeE hm hsrt (by exact L.nam)];have hH:=H.home k3 L c.use (ys:= [⟨2,c.from_,n,0,c.has⟩]) (by rw [if_pos hf']);obtain⟨U,V1,V2⟩:=Zbu (n:=n) hm R.Xh (c:= ⟨c.name,true,-1,0,c.out + 16,c.use⟩) L.nam;obtain⟨U2,W1,W2⟩:=Zet (w:=cw w m' (put ⟨c.name,true,-1,0,c.out + 16,c.use⟩ (rowOf w m'))) (n:=n) (x:= ⟨2,c.from_,n,0,c.has⟩) (fun a ha=>U.Xh a (by rw [← U.len];exact ha)) rfl;rw [hmm] at V1
    have P1:Rx (sent (cw w m' (put ⟨c.name,true,-1,0,c.out + 16,c.use⟩ (rowOf w m'))) ⟨2,c.from_,n,0,c.has⟩) (fun a k=>a=x.ZH∧k=n) []:=by
     refine R.upd (U.trans U2) hn hfl hno (fun a d hd=>?_) (fun _ _ _ z=>z.elim) ⟨h,?_⟩
     ·rw [W1,V1] at hd;unfold YE at hd;split at hd
      ·rename_i e;exact .inr (.inr ⟨e,rfl⟩)
      ·rcases(R.cn n a d hd).2 with z | z | z
       ·exact .inl z
       ·exact .inr (.inl z)
       ·exact z.elim
     ·rw [W1,V1,W2,V2];exact hH
    have P2:Mw (sent (cw w m' (put ⟨c.name,true,-1,0,c.out + 16,c.use⟩ (rowOf w m'))) ⟨2,c.from_,n,0,c.has⟩) []:=by
     refine Mx.upd (U.trans U2) hfl hno ?_;rw [W1,V1,W2,V2];refine hMx.put fun a _ _=>?_
     have:=hG a;rw [List.nil_append,Qg,QT,Zc6 rfl];show(if a=x.ZH then(c.out + 16) else Qx (X0 w n a)) + _ <=_ + Xb (Qj a) (x::Ur w n);omega
    have P3:X0 (sent (cw w m' (put ⟨c.name,true,-1,0,c.out + 16,c.use⟩ (rowOf w m'))) ⟨2,c.from_,n,0,c.has⟩) n x.ZH=some ⟨c.name,true,-1,0,c.out + 16,c.use⟩:=by
     rw [W1,V1,Zc2]
    obtain⟨Q1,Q2⟩:=Zc0 P1 P2 hmm (by show m' < (cw _ _ _).cells.length;rw [Yg];exact hm) P3;have Q3:=Zak (w:=sent (cw w m' (put ⟨c.name,true,-1,0,c.out + 16,c.use⟩ (rowOf w m'))) ⟨2,c.from_,n,0,c.has⟩) m' n ⟨c.name,true,-1,0,c.out + 16,c.use⟩;refine⟨Q1,Q2,?_,Q3.2.1.trans Yg,Q3.2.2.1⟩;rw [Q3.2.2.2 rfl];show(w.notes ++ [_]).length <=_;simp
  ·-- weight
   rw [Cq1];have k2':x.kind=2:=by simpa using k2
   rw [Ja (n:=c.out - x.w) (by omega) (by omega)];have:=H.ZkI (.inr k2') L c.use
   obtain⟨P1,P2,P3⟩:=ZdT (ex':=fun a k=>a=x.ZH∧k=n) R Mx hn hfl hno hmm hm (d:= ⟨c.name,c.root,c.from_,c.has,c.out - x.w,c.use⟩) L.nam (.inr (.inr ⟨rfl,rfl⟩)) (fun a k _ z=>z.elim) ⟨h,this⟩ (fun a _ _=>by
    simp only [List.nil_append,List.cons_append,Xb,Zc6 k2'];by_cases z:a=x.ZH
    ·rw [if_pos z,z,L.out];omega
    ·rw [if_neg z];omega)
   obtain⟨Q1,Q2⟩:=Zc0 P1 P2 hmm (by rw [Yg];exact hm) P3;have Q3:=Zak (w:=cw w m' (put ⟨c.name,c.root,c.from_,c.has,c.out - x.w,c.use⟩ (rowOf w m'))) m' n ⟨c.name,c.root,c.from_,c.has,c.out - x.w,c.use⟩;exact⟨Q1,Q2,Q3.1,Q3.2.1.trans Yg,Q3.2.2.1⟩
 ·rw [Cq1];have k1':x.kind=1:=by simpa using k1
  have hvr:0 <=x.via∧x.via < w.cells.length:=by rcases hx.2.2.2 with z | z | z <;> omega
  cases g1:((!c.root && (c.from_==-1)) && (x.via !=x.ZH))
  ·rw [Cq0];cases g2:((!c.root && decide (c.from_ >=0)) && (c.from_==x.via))
   ·rw [Cq0];by_cases hv:x.via=x.ZH
    ·have hb:Qr (cw w m' (put ⟨c.name,c.root,c.from_,c.has,c.out,true⟩ (rowOf w m'))) m' n x.via x.w=cw w m' (put ⟨c.name,c.root,c.from_,c.has,c.out - x.w,true⟩ (rowOf w m')):=by
      unfold Qr;have:(x.via != (m':Int))=false:=by simp;omega
      rw [this,Cq0,ZeE hm hsrt (by exact L.nam),ZBr,Qh hm,ZqX hsrt (by rfl),Ja (n:=c.out - x.w) (by omega) (by omega)]
     rw [hb];have:=H.ZkI (.inl ⟨k1',hv⟩) L true
     obtain⟨P1,P2,P3⟩:=ZdT (ex':=KH) R Mx hn hfl hno hmm hm (d:= ⟨c.name,c.root,c.from_,c.has,c.out - x.w,true⟩) L.nam (.inl rfl) (fun a k _ z=>z.elim) ⟨h,this⟩ (fun a _ _=>by
      simp only [List.nil_append,List.cons_append,Xb,W9 k1'];by_cases z:a=x.ZH
      ·rw [if_pos z,z,L.out];omega
      ·rw [if_neg z];omega)
     exact⟨P1,P2,by show w.notes.length <=_;omega,Yg,rfl⟩
    ·have hce:X0 w n x.ZH=some c:=by
      rcases L.or with z | ⟨z1,z2,z3,z4⟩
      ·exact z
      ·rw [z2,z3] at g1;simp at g1;exact absurd g1 hv
     have hb:Qr (cw w m' (put ⟨c.name,c.root,c.from_,c.has,c.out,true⟩ (rowOf w m'))) m' n x.via x.w=sent (cw w m' (put ⟨c.name,c.root,c.from_,c.has,c.out,true⟩ (rowOf w m'))) ⟨2,x.via,n,0,x.w⟩:=by
      unfold Qr;have:(x.via != (m':Int))=true:=by simp;omega
      rw [this,Cq1]
     rw [hb];have hH:=H.use hce true
     obtain⟨P1,P2,P3⟩:=ZdT (ex':=KH) R Mx hn hfl hfl hmm hm (d:= ⟨c.name,c.root,c.from_,c.has,c.out,true⟩) L.nam (.inl rfl) (fun a k _ z=>z.elim) ⟨h,hH⟩ (fun a _ _=>by
      by_cases z:a=x.ZH
      ·rw [if_pos z,z,L.out];exact Int.le_refl _
      ·rw [if_neg z];exact Int.le_refl _)
     obtain⟨U,V1,V2⟩:=Zbu (n:=n) hm R.Xh (c:= ⟨c.name,c.root,c.from_,c.has,c.out,true⟩) L.nam;rw [hmm] at V1
     obtain⟨Q1,Q2⟩:=ZxW (n:=n) (y:= ⟨2,x.via,n,0,x.w⟩) P1 P2 (by rw [Zco U.nms U.fre];exact hn) hfl hno rfl (by
      rw [Yg,V1,V2];exact⟨h,hH.Zsw k1' rfl⟩) (fun a _ _=>by
      rw [V2,List.nil_append,Qg,QT,Zc6 rfl];simp only [List.cons_append,List.nil_append,Xb,W9 k1'];omega)
     refine⟨Q1,Q2,?_,Yg,rfl⟩;show(w.notes ++ [_]).length <=_;simp
   ·rw [Cq1];simp at g2;rw [Ja (n:=c.has + x.w) (by omega) (by omega)];have:=H.Zsv k1' L g2.1.2 g2.2 true
    obtain⟨P1,P2,P3⟩:=ZdT (ex':=KH) R Mx hn hfl hno hmm hm (d:= ⟨c.name,c.root,c.from_,c.has + x.w,c.out,true⟩) L.nam (.inl rfl) (fun a k _ z=>z.elim) ⟨h,this⟩ (fun a _ _=>by
     simp only [List.nil_append,List.cons_append,Xb,W9 k1'];by_cases z:a=x.ZH
     ·rw [if_pos z,z,L.out];omega
     ·rw [if_neg z];omega)
    exact⟨P1,P2,by show w.notes.length <=_;omega,Yg,rfl⟩
  ·rw [Cq1];simp at g1;have:=H.ZvX k1' L g1.1.1 g1.1.2 g1.2 true
   obtain⟨P1,P2,P3⟩:=ZdT (ex':=KH) R Mx hn hfl hno hmm hm (d:= ⟨c.name,c.root,x.via,x.w,c.out,true⟩) L.nam (.inl rfl) (fun a k _ z=>z.elim) ⟨h,this⟩ (fun a _ _=>by
    simp only [List.nil_append,List.cons_append,Xb,W9 k1'];by_cases z:a=x.ZH
    ·rw [if_pos z,z,L.out];omega
    ·rw [if_neg z];omega)
   exact⟨P1,P2,by show w.notes.length <=_;omega,Yg,rfl⟩
def U6 (w:Za) (k:Nat):Za:= ⟨w.cells,w.notes.take k ++ w.notes.drop (k + 1),w.names,w.freed⟩
theorem ZtX (R:Rt w) {k:Nat} {x:Zd} (hk:w.notes[k]? =some x):Rx (U6 w k) KH [x]∧Mw (U6 w k) [x]:=by
 obtain⟨hkl,hkx⟩:=List.getElem?_eq_some_iff.1 hk
 have Zhe:w.notes=w.notes.take k ++ x::w.notes.drop (k + 1):=by
  rw [← hkx,← List.drop_eq_getElem_cons hkl,List.take_append_drop]
 obtain⟨R0,M0⟩:=R.rx
 have hp:∀ n,(Ur w n).Perm (flN n [x] ++ Ur (U6 w k) n):=by
  intro n;unfold Ur U6 flN
  conv=>lhs;rw [Zhe]
  rw [List.filter_append,List.filter_append,List.filter_cons,List.filter_cons];split
  ·exact List.perm_middle
  ·exact List.Perm.refl _
 have hmem:∀ y ∈ [x] ++ (U6 w k).notes,y ∈ w.notes:=by
  intro y hy;rw [Zhe];simp only [U6,List.mem_append,List.mem_cons,List.mem_singleton,List.not_mem_nil,or_false] at hy ⊢;rcases hy with z | z | z
  ·exact .inr (.inl z)
  ·exact .inl z
  ·exact .inr (.inr z)
 refine⟨{R0 with nn:=fun y hy=>R0.nn y (by simpa using hmem y hy),nm:=fun n hn=>?_},fun n hn=>?_⟩
 ·obtain⟨h,H⟩:=R0.nm n hn;exact⟨h,H.perm (hp n)⟩
 ·have:=M0 n hn;intro a a0 a1;have:=this a a0 a1;unfold K4 at this ⊢;rw [← ZfD (hp n)];exact this
theorem Zfn (R:Rt w) {k:Nat} {x:Zd} (hk:w.notes[k]? =some x):Rt (Qt (U6 w k) x)∧(Qt (U6 w k) x).cells.length=w.cells.length∧(Qt (U6 w k) x).names=w.names:=by
 obtain⟨R0,M0⟩:=ZtX R hk;obtain⟨q1,q2,q3,q4,q5⟩:=ZwT R0 M0;obtain⟨hkl,_⟩:=List.getElem?_eq_some_iff.1 hk;refine⟨q1.rt q2 ?_,q4,q5⟩
 have:(U6 w k).notes.length=w.notes.length - 1:=by
  unfold U6;simp;omega
 have:=R.nts;omega
end
end Go.Proofs.Ytekpjgmhkkjhgaa
end
section
namespace Go.Proofs.Ytekpjgmhkkjhgaa
open Go.Lf
theorem ZkU (K:Nat):∀ {r:Row},Ub r ->r.filter (fun c=>decide (c.name < ((K + 1:Nat):Int)))=r.filter (fun c=>decide (c.name < (K:Int))) ++ (Ju r K).toList
 | [],_=>rfl
 | d::r,s=>by
   have hh:=s.head;rw [YT];by_cases h1:d.name < (K:Int)
   ·rw [List.filter_cons_of_pos (by simp;omega),List.filter_cons_of_pos (by simpa using h1),if_neg (by omega),ZkU K s.tail];rfl
   ·have h3:r.filter (fun c=>decide (c.name < (K:Int)))= []:=by
     rw [List.filter_eq_nil_iff];intro c hc;have:=hh c hc;simp;omega
    have h4:r.filter (fun c=>decide (c.name < ((K + 1:Nat):Int)))= []:=by
     rw [List.filter_eq_nil_iff];intro c hc;have:=hh c hc;simp;omega
    rw [List.filter_cons_of_neg (p:=fun c:Zb=>decide (c.name < (K:Int))) (by simpa using h1),h3];by_cases h2:d.name= (K:Int)
    ·rw [List.filter_cons_of_pos (by simp;omega),h4,if_pos h2];rfl
    ·rw [List.filter_cons_of_neg (by simp;omega),h4,if_neg h2,ZcB (by intro c hc;have:=hh c hc;omega)];rfl
def Zkd (a:Int) (c:Zb) (s:List (List Zb)):List (List Zb):=s.set a.toNat ((s[a.toNat]?.getD []) ++ [c])
section
variable {w:Za} {st:Store}
theorem ZqC {m:Nat} (Xh:Ub (rowOf w m)) (hn:∀ c ∈ rowOf w m,0 <=c.name) {s:List (List Zb)} (hs:s[m]? =some []) (K:Nat):
 (List.range K).foldl (fun s n=>JC w Zkd m n s) s=s.set m ((rowOf w m).filter fun c=>decide (c.name < (K:Int))):=by
 have hm:m < s.length:= (List.getElem?_eq_some_iff.1 hs).1
 induction K with
 | zero=>
   have:(rowOf w m).filter (fun c=>decide (c.name < ((0:Nat):Int)))= []:=by
    rw [List.filter_eq_nil_iff];intro c hc;have:=hn c hc;simp;omega
   rw [this,set_self hs];rfl
 | succ K ih=>
   rw [List.range_succ,List.foldl_append,ih];simp only [List.foldl_cons,List.foldl_nil];rw [ZkU K Xh];unfold JC;rw [QH];cases hf:Ju (rowOf w m) (K:Int) with
   | none=>simp
   | some c=>
     dsimp only;unfold Zkd;rw [Int.toNat_natCast,List.getElem?_set_self hm,List.set_set]
     rfl
theorem ZqB {N:Nat} (Xh:∀ m,m < w.cells.length ->Ub (rowOf w m)) (hn:∀ m,m < w.cells.length ->∀ c ∈ rowOf w m,0 <=c.name∧c.name < (N:Int)):
 (List.range w.cells.length).foldl (fun s m=>(List.range N).foldl (fun s n=>JC w Zkd m n s) s) (List.replicate w.cells.length [])=w.cells:=by
 have key:∀ M,M <=w.cells.length ->((List.range M).foldl (fun s m=>(List.range N).foldl (fun s n=>JC w Zkd m n s) s) (List.replicate w.cells.length [])).length=w.cells.length∧
  ∀ i,i < w.cells.length ->((List.range M).foldl (fun s m=>(List.range N).foldl (fun s n=>JC w Zkd m n s) s) (List.replicate w.cells.length []))[i]? =some (if i < M then rowOf w i else []):=by
  intro M
  induction M with
  | zero=>intro _;simp;intro i hi;simp [hi]
  | succ M ih=>
    intro hM;obtain⟨i1,i2⟩:=ih (by omega);rw [List.range_succ,List.foldl_append];simp only [List.foldl_cons,List.foldl_nil];rw [ZqC (Xh M (by omega)) (fun c hc=>(hn M (by omega) c hc).1) (by rw [i2 M (by omega),if_neg (by omega)])]
    have hfull:(rowOf w M).filter (fun c=>decide (c.name < (N:Int)))=rowOf w M:=by
     rw [List.filter_eq_self];intro c hc;simpa using (hn M (by omega) c hc).2
    rw [hfull];refine⟨by rw [List.length_set,i1],fun i hi=>?_⟩;by_cases e:i=M
    ·subst e;rw [List.getElem?_set_self (by rw [i1];exact hi),if_pos (by omega)]
    ·rw [List.getElem?_set_ne (fun z=>e z.symm),i2 i hi];congr 1;by_cases z:i < M
     ·rw [if_pos z,if_pos (by omega)]
     ·rw [if_neg z,if_neg (by omega)]
 obtain⟨k1,k2⟩:=key w.cells.length (Nat.le_refl _);apply List.ext_getElem?;intro i;by_cases hi:i < w.cells.length
 ·rw [k2 i hi,if_pos hi,Yn hi]
 ·rw [List.getElem?_eq_none (by omega),List.getElem?_eq_none (by omega)]
theorem Szd.Zc4 (n12:w.names <=12) {m:Nat} (Xh:Ub (rowOf w m)) (hn:∀ c ∈ rowOf w m,0 <=c.name∧c.name < w.names):(rowOf w m).length <=12:=by
 have h0:((rowOf w m).map fun c=>c.name).Pairwise (· < ·):=by rw [List.pairwise_map];exact Xh
 by_cases e:0 <=w.names
 ·have:=Zbg (b:=w.names) (a:=0) h0 (by
   intro x hx;obtain⟨c,hc,rfl⟩:=List.mem_map.1 hx;exact hn c hc) e
  rw [List.length_map] at this;omega
 ·cases h:rowOf w m with
  | nil=>simp
  | cons c r=>have:=hn c (by rw [h];simp);omega
theorem ZxV {F:Nat} (hF:1000 <=F) (sm:Small w) (sz:Szd w) (so:Qo w st) (Xh:∀ m,m < w.cells.length ->Ub (rowOf w m)) (hn:∀ m,m < w.cells.length ->∀ c ∈ rowOf w m,0 <=c.name∧c.name < w.names):Zj0 F st=some w:=by
 have hc:=sz.c6;have hno:=sm.notes;have hfr:=sm.freed;have h0:=sz.n0;have h12:=sz.n12;unfold Zj0 Zp6 Zp5 mkL;rw [so.m,so.notes,so.freed]
 have hb:(decide (0 <= (w.cells.length:Int)) && (decide ((w.cells.length:Int) <= (w.cells.length:Int)) && Nat.ble (24 * ((w.cells.length:Int)).toNat) 100000))=true:=by
  rw [Bool.and_eq_true,Bool.and_eq_true];refine⟨by simp,by simp,Nat.ble_eq_true_of_le (by omega)⟩
 rw [hb,Cq1,Bq0,YQ (by simp only [List.length_nil];omega) (by decide),YQ (by simp only [List.length_nil];omega) (by decide)];simp only [Bq0,List.nil_append,Int.toNat_natCast]
 obtain⟨h1,_⟩:=Zmy hF sm sz so (z:=Zb.mk 0 false 0 0 0 false) (fun i (s:List (List Zb))=>s.length=w.cells.length∧∀ r ∈ s,r.length <=i) (fun i s h=>⟨h.1,fun r hr=>Nat.le_succ_of_le (h.2 r hr)⟩) (E:=Zgo st w.notes w.freed) (B1:=Zl2 F st w.notes w.freed) (B2:=Zl1 st w.notes w.freed)
  (Y:=fun a c s k=>(ZM s a).bind fun x66=>(app 48 x66 [c]).bind fun z74=>(ZM s a).bind fun x78=>k (YK s a z74)) Zkd (fun v s next=>by simp only [Zl2]) (fun v0 next v s nx=>by
    simp only [Zl1];cases decide (v < st.names)
    ·rfl
    ·simp only [Cq1];rfl) (fun i a c s k ha hi hs=>by
    have hg:s[a]? =some (s[a]'(by omega)):=by simp
    have hl:(s[a]'(by omega)).length <=i:=hs.2 _ (List.getElem_mem _)
    have hset:YK s (a:Int) (s[a]'(by omega) ++ [c])=Zkd a c s:=by
     unfold YK Zkd;rw [Int.toNat_natCast,hg];rfl
    rw [ZB,hg,Bq0,YQ (by simp;omega) (by decide),Bq0,Bq0,hset];refine⟨rfl,?_,fun r hr=>?_⟩
    ·unfold Zkd;rw [List.length_set];exact hs.1
    ·unfold Zkd at hr;rcases List.mem_or_eq_of_mem_set hr with z | z
     ·exact Nat.le_succ_of_le (hs.2 r z)
     ·rw [z,Int.toNat_natCast,hg];simp;omega) (List.replicate w.cells.length []) ⟨by simp,by
    intro r hr;rw [List.mem_replicate] at hr;rw [hr.2];simp⟩
 have:=ZqB (w:=w) Xh (N:=w.names.toNat) (fun m hm c hc=>by have:=hn m hm c hc;omega);rw [h1,this];unfold Zgo;rw [so.n]
theorem Rt.small (R:Rt w):Small w:=by
 have:=R.c6;have:=R.nts;have:=R.ZkQ;have:=R.n12;refine⟨by omega,fun r hr=>?_,by omega,by omega⟩;obtain⟨m,hm⟩:=List.getElem?_of_mem hr;have hml:= (List.getElem?_eq_some_iff.1 hm).1;have e:r=rowOf w m:=by have:=Yn hml;rw [hm] at this;exact Oi0 this
 have:=Szd.Zc4 R.n12 (R.Xh m hml) (fun c hc=>by have:= (R.cn m hml c hc).1;unfold Yu at this;simp at this;exact this.1);rw [e];omega
theorem Rt.names (R:Rt w):∀ m,m < w.cells.length ->∀ c ∈ rowOf w m,0 <=c.name∧c.name < w.names:=fun m hm c hc=>by
 have:= (R.cn m hm c hc).1;unfold Yu at this;simp at this;exact this.1
theorem Rt.shut {F:Nat} (hF:1000 <=F) (R:Rt w) (so:Qo w st):Zj0 F st=some w:=ZxV hF R.small R.shp.szd so R.Xh R.names
theorem Rt.open_ {F:Nat} (hF:1000 <=F) (R:Rt w):∃ st,ZiX F w=some st∧Qo w st∧UK st.cells:=by
 obtain⟨cs,q1,q2⟩:=Zq2 hF R.small R.shp;obtain⟨cs',q3,q4⟩:=Zya hF R.small;rw [q1] at q3;have:cs=cs':=congrArg Store.cells (Oi0 q3);subst this;exact⟨_,q1,⟨rfl,rfl,rfl,rfl,q2⟩,q4⟩
theorem Rt.copy {F:Nat} (hF:1000 <=F) (R:Rt w) (so:Qo w st):∃ st',Zwi F st=some st'∧Qo w st'∧UK st'.cells:=by
 obtain⟨st',q1,q2,q3⟩:=R.open_ hF;refine⟨st',?_,q2,q3⟩;unfold Zwi;rw [R.shut hF so,Bq0,q1];rfl
end
end Go.Proofs.Ytekpjgmhkkjhgaa
end
section
namespace Go.Proofs.Ytekpjgmhkkjhgaa
open Go.Lf
def Ql (d:Zv) (M:Int):Bool:=
 bif d.Xf==1 then(((decide (d.at_ >=0)) && (decide (d.at_ < M))) && (d.name==0)) && (d.ZH==0)
 else bif(d.Xf==2 || d.Xf==4) then(((decide (d.at_ >=0)) && (decide (d.at_ < M))) && ((decide (d.ZH >=0)) && (decide (d.ZH < M)))) && ((d.at_ !=d.ZH) && decide (d.name >=0))
 else bif d.Xf==3 then(((decide (d.at_ >=0)) && (decide (d.at_ < M))) && (decide (d.name >=0))) && (d.ZH==0)
 else(((d.Xf==5) && (decide (d.at_ >=0))) && (d.name==0)) && (d.ZH==0)
theorem Zsz (d:Zv) (M:Int):ZsI d M=some (Ql d M):=by
 unfold ZsI Ql ZiY;generalize (d.Xf==1)=b1;generalize (d.Xf==2)=b2;generalize (d.Xf==3)=b3;generalize (d.Xf==4)=b4;generalize (d.Xf==5)=b5;cases b1 <;> cases b2 <;> cases b3 <;> cases b4 <;> cases decide (d.at_ >=0) <;> cases decide (d.at_ < M) <;> simp [Bool.and_assoc]
theorem Zv9 (d:Zv) {M:Int} (h0:0 <=M) (h1:M <=1000):ZsG d M=some (Ql d M):=by
 unfold ZsG Ql ZiW;rw [in_lt _ _ h0 h1,in_lt _ _ h0 h1];simp only [ZbV,Bq0];have e:(d.ZH !=d.at_)= (d.at_ !=d.ZH):=by simp only [bne];rw [Bool.beq_comm]
 rw [e];by_cases k1:d.Xf=1
 ·simp [k1]
 ·by_cases k2:d.Xf=2
  ·simp [k2];generalize (d.at_ !=d.ZH)=b;by_cases a1:0 <=d.at_ <;> by_cases a2:d.at_ < M <;> by_cases a3:0 <=d.name <;> cases b <;> simp [a1,a2,a3]
  ·by_cases k4:d.Xf=4
   ·simp [k4];generalize (d.at_ !=d.ZH)=b;by_cases a1:0 <=d.at_ <;> by_cases a2:d.at_ < M <;> by_cases a3:0 <=d.name <;> cases b <;> simp [a1,a2,a3]
   ·by_cases k3:d.Xf=3
    ·simp [k3]
    ·by_cases k5:d.Xf=5
     ·simp [k5]
     ·have b1:(d.Xf==1)=false:=by simp [k1]
      have b2:(d.Xf==2)=false:=by simp [k2]
      have b3:(d.Xf==3)=false:=by simp [k3]
      have b4:(d.Xf==4)=false:=by simp [k4]
      have b5:(d.Xf==5)=false:=by simp [k5]
      rw [b1,b2,b3,b4,b5];rfl
theorem Zas {d:Zv} {M:Int} (h:Ql d M=true):
 (d.Xf=1∧0 <=d.at_∧d.at_ < M)∨((d.Xf=2∨d.Xf=4)∧(0 <=d.at_∧d.at_ < M)∧(0 <=d.ZH∧d.ZH < M)∧d.at_ ≠ d.ZH∧0 <=d.name)∨(d.Xf=3∧(0 <=d.at_∧d.at_ < M)∧0 <=d.name)∨(d.Xf=5∧0 <=d.at_):=by
 unfold Ql at h;by_cases k1:d.Xf=1
 ·simp [k1] at h;exact .inl ⟨k1,h.1.1⟩
 ·by_cases k2:d.Xf=2
  ·simp [k2] at h;exact .inr (.inl ⟨.inl k2,h.1.1,h.1.2,h.2.1,h.2.2⟩)
  ·by_cases k4:d.Xf=4
   ·simp [k4] at h;exact .inr (.inl ⟨.inr k4,h.1.1,h.1.2,h.2.1,h.2.2⟩)
   ·by_cases k3:d.Xf=3
    ·simp [k3] at h;exact .inr (.inr (.inl ⟨k3,h.1.1,h.1.2⟩))
    ·simp [k1,k2,k3,k4] at h;exact .inr (.inr (.inr ⟨h.1.1.1,h.1.1.2⟩))
def XJ (w:Za) (d:Zv):Za:=
 bif d.Xf==1 then ZeC w d.at_.toNat
 else bif d.Xf==2 then Zeu w d d.at_.toNat (look (rowOf w d.at_.toNat) d.name)
 else bif d.Xf==5 then Qt (U6 w d.at_.toNat) (w.notes[d.at_.toNat]?.getD ⟨0,0,0,0,0⟩)
 else bif d.Xf==3 then Zg5 w d.at_.toNat d.name (look (rowOf w d.at_.toNat) d.name)
 else goW w d d.at_.toNat (look (rowOf w d.at_.toNat) d.name)
section
variable {w:Za} {n:Int}
theorem Rx.range {ex:Int ->Int ->Prop} {fl:List Zd} (R:Rx w ex fl):∀ m,m < w.cells.length ->∀ c ∈ rowOf w m,0 <=c.name∧c.name < w.names:=fun m hm c hc=>by
 have:= (R.cn c.name m c (by rw [Kb hm];exact Zp0 (R.Xh m hm) hc)).1;unfold Yu at this;simp at this;exact this.1
theorem Rx.small {ex:Int ->Int ->Prop} {fl:List Zd} (R:Rx w ex fl) (hl:w.notes.length < 900):Small w:=by
 have:=R.c6;have:=R.n12;have hf:=Zbg R.fr R.frr R.n0;refine⟨by omega,fun r hr=>?_,by omega,by omega⟩;obtain⟨m,hm⟩:=List.getElem?_of_mem hr;have hml:= (List.getElem?_eq_some_iff.1 hm).1;have e:r=rowOf w m:=by have:=Yn hml;rw [hm] at this;exact Oi0 this
 have:=Szd.Zc4 R.n12 (R.Xh m hml) (R.range m hml);rw [e];omega
theorem Rx.szd {ex:Int ->Int ->Prop} (R:Rx w ex []):Szd w:= ⟨R.c6,R.n0,R.n12,fun x hx=>by
 have hn:=R.nn x (by simpa using hx);obtain⟨h,H⟩:=R.nm _ hn;have:= (H.nts x (List.mem_append_right _ (List.mem_filter.2 ⟨hx,by simp⟩))).2.2.2;rcases this with z | z | z
 ·exact .inl z.1
 ·exact .inr (.inl z.1)
 ·exact .inr (.inr z.1)⟩
theorem Rt.XU (R:Rt w) {m:Nat} (hm:m < w.cells.length) {c:Zb} (hc:Ju (rowOf w m) n=some c):look (rowOf w m) n=c∧X0 w n m=some c∧Yu w n=true:=by
 have e:X0 w n m=some c:=by rw [Kb hm];exact hc
 exact⟨QN hc,e,(R.rx.1.cn n m c e).1⟩
theorem Rx.ZdU (R:Rx w KH []) (Mx:Mw w []):∀ k a c,X0 w k a=some c ->c.out <=1000016:=fun k a c hc=>by
 have hn:= (R.cn k a c hc).1;obtain⟨h,H⟩:=R.nm k hn;have:= (H.most (Mx k hn)).1 a c hc;omega
theorem ZdS (R:Rt w) (hn:Yu w n=true) {m:Nat} (hm:m < w.cells.length) {d:Zb} (hd:d.name=n) {y:Zd} (hy:y.name=n) (hu:d.use=true∨d.out ≠ 0)
 (hN:∃ h,Nm w.cells.length n (YE (X0 w n) m (some d)) (Ur w n ++ [y]) h):Rx (sent (cw w m (put d (rowOf w m))) y) KH []:=by
 obtain⟨R0,M0⟩:=R.rx;obtain⟨U,V1,V2⟩:=Zbu hm R.Xh hd;obtain⟨U2,W1,W2⟩:=Zet (w:=cw w m (put d (rowOf w m))) (n:=n) (x:=y) (fun a ha=>U.Xh a (by rw [← U.len];exact ha)) hy;refine R0.upd (U.trans U2) hn (by simp) (by simp) (fun a c hc=>?_) (fun _ _ _ z=>z) ?_
 ·rw [W1,V1] at hc;unfold YE at hc;split at hc
  ·cases hc;exact hu.elim .inl fun z=>.inr (.inl z)
  ·exact(R0.cn n a c hc).2
 ·rw [W1,W2,V1,V2];exact hN
theorem ZB2 (R:Rt w) {d:Zv} {m:Nat} (hm:m < w.cells.length) (hat:d.at_= (m:Int)) (hto:0 <=d.ZH∧d.ZH < (w.cells.length:Int)) {c:Zb} (hc:Ju (rowOf w m) d.name=some c) (hu:c.use=true):Rx (Zeu w d m c) KH []:=by
 obtain⟨_,e,hn⟩:=R.XU hm hc;obtain⟨h,H,Mx⟩:=R.nm _ hn;have S:= (H.most Mx).1 _ c e;have hcn:=QA hc;unfold Zeu;cases hb:(decide (c.from_ >=0) && decide (c.has >=2))
 ·rw [Cq0,Ja (n:=c.out + 16) (by omega) (by omega)];exact ZdS R hn hm (d:= ⟨c.name,c.root,c.from_,c.has,c.out + 16,c.use⟩) (y:= ⟨1,d.ZH,d.name,d.at_,16⟩) hcn rfl (.inl hu) ⟨h,H.Zx0 (w:=16) e hto (by decide) (by rw [hat])⟩
 ·rw [Cq1];simp at hb;have e1:c.has.tdiv 2=c.has / 2:=Int.tdiv_eq_ediv_of_nonneg (by omega);rw [e1,Ja (n:=c.has / 2) (by omega) (by omega),Ja (n:=c.has - c.has / 2) (by omega) (by omega)];exact ZdS R hn hm (d:= ⟨c.name,c.root,c.from_,c.has - c.has / 2,c.out,c.use⟩) (y:= ⟨1,d.ZH,d.name,c.from_,c.has / 2⟩) hcn rfl (.inl hu) ⟨h,H.ZxY (w:=c.has / 2) e hb.1 hto (by omega) (by omega) rfl⟩
theorem ZHI (R:Rt w) {d:Zv} {m:Nat} (hm:m < w.cells.length) (hat:d.at_= (m:Int)) (hto:0 <=d.ZH∧d.ZH < (w.cells.length:Int)) (hne:d.at_ ≠ d.ZH) {c:Zb} (hc:Ju (rowOf w m) d.name=some c) (hr:c.root=true):Rx (goW w d m c) KH []:=by
 obtain⟨_,e,hn⟩:=R.XU hm hc;obtain⟨h,H,Mx⟩:=R.nm _ hn;have hcn:=QA hc;unfold goW;have hu:c.use=true∨c.out ≠ 0:= (R.cn m hm c (Zdb hc)).2;exact ZdS R hn hm (d:=goC c d.ZH) hcn rfl hu ⟨d.ZH,H.go e hr hto (by omega) rfl⟩
theorem Zmi (R:Rt w) {m:Nat} (hm:m < w.cells.length) {c:Zb} (hc:Ju (rowOf w m) n=some c):Rx (Zg5 w m n c) KH []∧Mw (Zg5 w m n c) []:=by
 obtain⟨_,e,hn⟩:=R.XU hm hc;obtain⟨h,H,Mx⟩:=R.nm _ hn;obtain⟨R0,M0⟩:=R.rx;have hcn:=QA hc
 obtain⟨P1,P2,P3⟩:=ZdT (n:=n) (fl:= []) (fl':= []) (m:=m) (m':=m) (ex':=fun a k=>a= (m:Int)∧k=n) R0 M0 hn (by simp) (by simp) rfl hm (d:=Zbb c) hcn (.inr (.inr ⟨rfl,rfl⟩)) (fun a k _ z=>z.elim) ⟨h,H.use e false⟩ (fun a _ _=>by
  by_cases z:a= (m:Int)
  ·rw [if_pos z,z,e];exact Int.le_refl _
  ·rw [if_neg z];exact Int.le_refl _)
 unfold Zg5;exact Zc0 P1 P2 rfl (by rw [Yg];exact hm) P3
theorem ZCg (R:Rt w) {m:Nat} (hm:m < w.cells.length) (hlt:w.names < 12):Rx (ZeC w m) KH []:=by
 have hn0:=R.n0;obtain⟨R0,M0⟩:=R.rx;obtain⟨U,V1,V2⟩:=Zbu (w:=w) (n:=w.names) hm R.Xh (c:=Zlt w) rfl;have hnm:(ZeC w m).names=w.names + 1:=Ja (by omega) (by omega)
 have hB:∀ k,Yu (ZeC w m) k= (Yu w k || (k==w.names)):=by
  intro k;unfold Yu;rw [hnm];show(decide (0 <=k) && decide (k < w.names + 1) && !(w.freed.any fun y=>y==k))=_;by_cases e:k=w.names
  ·have:(w.freed.any fun y=>y==k)=false:=by
    rw [List.any_eq_false];intro y hy;have:=R.frr y hy;simp;omega
   rw [this];simp [e];omega
  ·have:decide (k < w.names + 1)=decide (k < w.names):=decide_eq_decide.2 (by omega);rw [this];simp [e]
 have hno:¬ Yu w w.names=true:=by unfold Yu;simp
 have ZKn:X0 w w.names=fun _=>none:=by
  funext a;cases e:X0 w w.names a with
  | none=>rfl
  | some c=>exact absurd (R0.cn _ _ _ e).1 hno
 have hns0:Ur w w.names= []:=by
  unfold Ur;rw [List.filter_eq_nil_iff];intro x hx;have:=R.nn x hx;intro z;have z:x.name=w.names:=by simpa using z
  rw [z] at this;exact hno this
 have ZGc:X0 (ZeC w m) w.names=YE (fun _=>none) m (some (Zlt w)):=by
  show X0 (cw w m (put (Zlt w) (rowOf w m))) w.names=_;rw [V1,ZKn]
 have hlen:(ZeC w m).cells.length=w.cells.length:=Yg;refine⟨by rw [hlen];exact R.c1,by rw [hlen];exact R.c6,by rw [hnm];omega,by rw [hnm];omega,R.fr,fun x hx=>?_,fun a ha=>?_,fun k a c hc=>?_,fun x hx=>?_,fun k hk=>?_⟩
 ·have:=R.frr x hx;rw [hnm];omega
 ·exact U.Xh a (by rw [hlen] at ha;exact ha)
 ·rw [hB];by_cases e:k=w.names
  ·subst e;rw [ZGc] at hc;unfold YE at hc;split at hc
   ·cases hc;exact⟨by simp,.inl rfl⟩
   ·cases hc
  ·have:X0 (ZeC w m) k=X0 w k:=U.oc k e;rw [this] at hc;have:=R0.cn k a c hc;exact⟨by rw [this.1];rfl,this.2⟩
 ·have hx:x ∈ w.notes:=hx;rw [hB,R.nn x hx];rfl
 ·rw [hlen];by_cases e:k=w.names
  ·subst e;refine⟨m,?_⟩;rw [ZGc];show Nm _ _ _ ([] ++ Ur w w.names) _;rw [hns0];exact Nm.fresh ⟨by omega,by omega⟩
  ·rw [hB] at hk;have hk:Yu w k=true:=by simpa [e] using hk
   obtain⟨h,H⟩:=R0.nm k hk;refine⟨h,?_⟩;have:X0 (ZeC w m) k=X0 w k:=U.oc k e;rw [this];exact H
theorem Zye (R:Rt w) {m:Nat} (hm:m < w.cells.length):∀ k a c,X0 (ZeC w m) k a=some c ->c.out <=1000016:=fun k a c hc=>by
 obtain⟨R0,M0⟩:=R.rx;obtain⟨U,V1,V2⟩:=Zbu (w:=w) (n:=w.names) hm R.Xh (c:=Zlt w) rfl;have hc:X0 (cw w m (put (Zlt w) (rowOf w m))) k a=some c:=hc;by_cases e:k=w.names
 ·subst e;rw [V1] at hc;unfold YE at hc;split at hc
  ·cases hc;show(0:Int) <=_;omega
  ·exact R0.ZdU M0 _ _ _ hc
 ·rw [U.oc k e] at hc;exact R0.ZdU M0 _ _ _ hc
theorem ZhS (x:Zd):(sent w x).notes.length=w.notes.length + 1:=by unfold sent;simp
theorem ZtH (d:Zv) (m:Nat) (c:Zb):(Zeu w d m c).notes.length=w.notes.length + 1∧(Zeu w d m c).cells.length=w.cells.length∧(Zeu w d m c).names=w.names:=by
 unfold Zeu;cases (decide (c.from_ >=0) && decide (c.has >=2))
 ·rw [Cq0];exact⟨ZhS _,Yg,rfl⟩
 ·rw [Cq1];exact⟨ZhS _,Yg,rfl⟩
theorem Jg {d:Zv} {m:Nat} (h1:d.Xf ≠ 1) (h5:d.Xf ≠ 5) (he:Xx w d m=0):∃ c,Ju (rowOf w m) d.name=some c∧(d.Xf=4 ->c.root=true)∧(d.Xf ≠ 4 ->c.use=true):=by
 unfold Xx at he;have b1:(d.Xf==1)=false:=by simp [h1]
 have b5:(d.Xf==5)=false:=by simp [h5]
 rw [b1,b5] at he;simp only [Cq0] at he;cases hf:Ju (rowOf w m) d.name with
 | none=>rw [hf] at he;cases he
 | some c=>
   rw [hf] at he;refine⟨c,rfl,fun h4=>?_,fun h4=>?_⟩
   ·rw [h4] at he;dsimp only at he;cases hr:c.root with
    | true=>rfl
    | false=>rw [hr] at he;simp at he
   ·have b4:(d.Xf==4)=false:=by simp [h4]
    rw [b4] at he;dsimp only at he;cases hr:c.use with
    | true=>rfl
    | false=>rw [hr] at he;simp at he
theorem Zcg (R:Rt w) {m:Nat} (hm:m < w.cells.length) {d:Zb} (hd:d.name=n) {y:Zd} (ho:d.out <=1000016):∀ k a c,X0 (sent (cw w m (put d (rowOf w m))) y) k a=some c ->c.out <=1000016:=fun k a c hc=>by
 obtain⟨R0,M0⟩:=R.rx;obtain⟨U,V1,V2⟩:=Zbu hm R.Xh hd;have hc:X0 (cw w m (put d (rowOf w m))) k a=some c:=hc;by_cases e:k=n
 ·subst e;rw [V1] at hc;unfold YE at hc;split at hc
  ·cases hc;exact ho
  ·exact R0.ZdU M0 _ _ _ hc
 ·rw [U.oc k e] at hc;exact R0.ZdU M0 _ _ _ hc
theorem ZxZ (R:Rt w) {d:Zv} {m:Nat} (hm:m < w.cells.length) {c:Zb} (hc:Ju (rowOf w m) d.name=some c):∀ k a x,X0 (Zeu w d m c) k a=some x ->x.out <=1000016:=by
 obtain⟨_,e,hn⟩:=R.XU hm hc;obtain⟨h,H,Mx⟩:=R.nm _ hn;have S:= (H.most Mx).1 _ c e;have hcn:=QA hc;unfold Zeu;cases hb:(decide (c.from_ >=0) && decide (c.has >=2))
 ·rw [Cq0,Ja (n:=c.out + 16) (by omega) (by omega)];exact Zcg R hm (d:= ⟨c.name,c.root,c.from_,c.has,c.out + 16,c.use⟩) hcn (by show c.out + 16 <=_;omega)
 ·rw [Cq1];exact Zcg R hm (d:= ⟨c.name,c.root,c.from_,ZP (c.has - ZP (c.has.tdiv 2)),c.out,c.use⟩) hcn (by show c.out <=_;omega)
theorem Zmj (R:Rt w) {d:Zv} (hf:Ql d w.cells.length=true) (he:Xx w d d.at_.toNat=0):
 Rx (XJ w d) KH []∧(XJ w d).notes.length <=82∧(XJ w d).cells.length=w.cells.length∧(d.Xf ≠ 1 ->(XJ w d).names=w.names)∧∀ k a c,X0 (XJ w d) k a=some c ->c.out <=1000016:=by
 have hnl:=R.nts;obtain⟨R0,M0⟩:=R.rx;unfold XJ;rcases Zas hf with⟨k,a⟩ | ⟨k,a,t,ne,nm⟩ | ⟨k,a,nm⟩ | ⟨k,a⟩
 ·rw [k];simp only [beq_self_eq_true,Cq1]
  have:w.names < 12:=by
   unfold Xx at he;rw [k] at he;simp only [beq_self_eq_true,Cq1] at he;cases hb:decide (w.names >=12) with
   | true=>rw [hb] at he;cases he
   | false=>simpa using hb
  exact⟨ZCg R (by omega) this,by show w.notes.length <=82;omega,Yg,fun z=>absurd rfl z,fun k a c hc=>Zye R (by omega) k a c hc⟩
 ·have hm:d.at_.toNat < w.cells.length:=by omega
  have hat:d.at_= (d.at_.toNat:Int):=by omega
  rcases k with k | k
  ·obtain⟨c,hc,_,hu⟩:=Jg (by omega) (by omega) he;have hl:= (R.XU hm hc).1;rw [k,hl];simp only [beq_self_eq_true,Cq1,show((2:Int)==1)=false from rfl,Cq0];obtain⟨q1,q2,q3⟩:=ZtH (w:=w) d d.at_.toNat c;exact⟨ZB2 R hm hat t hc (hu (by omega)),by omega,q2,fun _=>q3,ZxZ R hm hc⟩
  ·obtain⟨c,hc,hr,_⟩:=Jg (by omega) (by omega) he;have hl:= (R.XU hm hc).1;rw [k,hl];simp only [show((4:Int)==1)=false from rfl,show((4:Int)==2)=false from rfl,show((4:Int)==3)=false from rfl,show((4:Int)==5)=false from rfl,Cq0];refine⟨ZHI R hm hat t ne hc (hr k),?_,Yg,fun _=>rfl,Zcg R hm (d:=goC c d.ZH) (n:=d.name) (show c.name=d.name from QA hc) (by show c.out <=_;exact R0.ZdU M0 _ _ _ (R.XU hm hc).2.1)⟩;unfold goW;rw [ZhS];show w.notes.length + 1 <=82;omega
 ·have hm:d.at_.toNat < w.cells.length:=by omega
  obtain⟨c,hc,_,hu⟩:=Jg (by omega) (by omega) he;have hl:= (R.XU hm hc).1;rw [k,hl];simp only [beq_self_eq_true,Cq1,show((3:Int)==1)=false from rfl,show((3:Int)==2)=false from rfl,show((3:Int)==5)=false from rfl,Cq0];have q:=Zak (w:=cw w d.at_.toNat (put (Zbb c) (rowOf w d.at_.toNat))) d.at_.toNat d.name (Zbb c);refine⟨(Zmi R hm hc).1,?_,q.2.1.trans Yg,fun _=>q.2.2.1,(Zmi R hm hc).1.ZdU (Zmi R hm hc).2⟩;have:=q.1;show(XT _ _ _ _).notes.length <=82;have e:(cw w d.at_.toNat (put (Zbb c) (rowOf w d.at_.toNat))).notes.length=w.notes.length:=rfl;omega
 ·rw [k];simp only [beq_self_eq_true,Cq1,show((5:Int)==1)=false from rfl,show((5:Int)==2)=false from rfl,Cq0]
  have hlt:d.at_.toNat < w.notes.length:=by
   unfold Xx at he;rw [k] at he;simp only [beq_self_eq_true,Cq1,show((5:Int)==1)=false from rfl,Cq0] at he;cases hb:decide (d.at_ >= (w.notes.length:Int)) with
   | true=>rw [hb] at he;cases he
   | false=>simp at hb;omega
  have hx:w.notes[d.at_.toNat]? =some (w.notes[d.at_.toNat]'hlt):=by simp
  rw [hx];simp only [Option.getD_some];obtain⟨q1,q2,q3⟩:=Zfn R hx;have:=q1.nts;exact⟨q1.rx.1,by show(Qt _ _).notes.length <=82;omega,q2,fun _=>q3,q1.rx.1.ZdU q1.rx.2⟩
end
end Go.Proofs.Ytekpjgmhkkjhgaa
end
section
namespace Go.Proofs.Ytekpjgmhkkjhgaa
open Go.Lf
def Zao (w:Za):Bool:=decide ((w.notes.length:Int) > 80) || (List.range w.cells.length).any fun m=>(List.range w.names.toNat).any fun n=>decide (XC w m n > 1000000)
section
variable {w:Za} {n:Int} {st:Store} {F:Nat}
theorem Zct {β:Type} {g:Nat ->Nat ->Unit ->(Unit ->Option β) ->Option β} {d:Unit ->Option β} {r:Option β} (c:Nat ->Bool) {N:Nat}
 (hg:∀ k x next,x < N ->g k x () next=bif c x then r else next ()):iter g d 0 (List.range N) ()=bif(List.range N).any c then r else d ():=by
 rw [XO (r:=r) (fun _ x=>c x) (fun k x next hx=>by
  have:x < N:=by have:=List.mem_of_getElem? hx;simpa using this
  exact hg _ x next this),Jr]
theorem ZtV (hF:1000 <=F) (sm:Small w) (sz:Szd w):Zwe F w=some (Zao w):=by
 have:=sz.c6;have h0:=sz.n0;have:=sz.n12;have en:((w.names.toNat:Nat):Int)=w.names:=by omega
 unfold Zwe Zao;cases hb:decide ((w.notes.length:Int) > 80)
 ·simp only [Cq0,Bool.false_or];refine(QF w.cells.length (fun v (_:Unit)=>v) (ZiH F w) (fun m s next=>bif(List.range w.names.toNat).any (fun n=>decide (XC w m n > 1000000)) then some true else next ()) (fun _=>some false) (by omega) (fun m s next hm=>?_) (fun s next=>?_) (by omega) ()).trans ?_
  ·simp only [ZiH];rw [decide_eq_true (by omega),Cq1];refine(QF w.names.toNat (fun v (_:Unit)=>v) (ZiG F w m next) (fun n s nx=>bif decide (XC w m n > 1000000) then some true else nx ()) (fun _=>next (ZP ((m:Int) + 1))) (by omega) (fun k s nx hk=>?_) (fun s nx=>?_) (by omega) ()).trans ?_
   ·simp only [ZiG];rw [decide_eq_true (by omega),Cq1,ZnU hF sm hm,Bq0]
   ·simp only [ZiG];rw [decide_eq_false (by omega),Cq0]
   ·rw [Zct (r:=some true) (fun n=>decide (XC w m n > 1000000)) (fun k x next hx=>rfl)]
  ·simp only [ZiH];rw [decide_eq_false (by omega),Cq0]
  ·rw [Zct (r:=some true) (fun m=>(List.range w.names.toNat).any (fun n=>decide (XC w m n > 1000000))) (fun k x next hx=>rfl)];cases (List.range w.cells.length).any fun m=>(List.range w.names.toNat).any (fun n=>decide (XC w m n > 1000000)) <;> rfl
 ·rfl
theorem UK.Kl {κ ν:Type} [DecidableEq κ] {l:List (κ×ν)} (u:UK l) (k:κ) (z:ν):UK (Kl l k z):=by
 unfold Go.Lf.Kl;cases e:Yd l k with
 | some q=>exact u
 | none=>
   have:Go.Lf.Xi l k z=l ++ [(k,z)]:=by unfold Go.Lf.Xi;rw [e]
   dsimp only;rw [← this];exact u.Xi k z
theorem UK.upd {v:Acc} (u:UK v) (k:Zg) (x:Int):UK (upd v k x):= (u.Kl k 0).Xi k _
theorem Zuo {κ ν:Type} [DecidableEq κ] {l:List (κ×ν)} {k:κ} {x:ν} (h:XF l k=some x):(k,x) ∈ l:=by
 unfold XF at h;cases e:Yd l k with
 | none=>rw [e] at h;cases h
 | some q=>
   rw [e] at h;cases h;exact List.mem_of_getElem? (KZ e)
theorem UK.get {κ ν:Type} [DecidableEq κ]:∀ {l:List (κ×ν)},UK l ->∀ {k:κ} {x:ν},(k,x) ∈ l ->XF l k=some x
 | [],_,_,_,h=>by simp at h
 | p::l,u,k,x,h=>by
   have u':UK l:=by unfold UK at u ⊢;rw [List.map_cons,List.nodup_cons] at u;exact u.2
   have hp:p.1 ∉ l.map (·.1):=by unfold UK at u;rw [List.map_cons,List.nodup_cons] at u;exact u.1
   unfold XF;rw [K3];rcases List.mem_cons.1 h with z | z
   ·subst z;simp
   ·have hne:¬ p.1=k:=fun e=>hp (by rw [e];exact List.mem_map_of_mem (f:= (·.1)) z)
    rw [if_neg hne];have:=u'.get z;unfold XF at this;cases e:Yd l k with
    | none=>rw [e] at this;cases this
    | some q=>rw [e] at this;simpa using this
theorem Zkw {κ ν:Type} {b:κ ->ν ->Option Bool} (h:∀ k x,∃ p,b k x=some p):∀ l:List (κ×ν),∃ q,Zkx b l=some q
 | []=>⟨false,rfl⟩
 | x::r=>by
   obtain⟨p,hp⟩:=h x.1 x.2;obtain⟨q,hq⟩:=Zkw h r;exact⟨p || q,by unfold Zkx;rw [hp,Bq0,hq,Bq0]⟩
theorem Zz8 (R:Rx w KH []) {k:Zg} (hk:¬ ((0 <=k.e0∧k.e0 < (w.cells.length:Int))∧0 <=k.e1∧k.e1 < w.names)):val (ZcT w).1 k=0:=by
 have h0:=R.n0
 have hC:val (Ws w).1 k=0:=by
  unfold Ws;refine UI (fun q:Acc×Acc=>val q.1 k=0) _ _ (fun q m hm hq=>?_) _ rfl;refine UI (fun q:Acc×Acc=>val q.1 k=0) _ _ (fun q n hn hq=>?_) _ hq;rw [List.mem_range] at hm hn;unfold JC;cases hc:cellOf w m n with
  | none=>exact hq
  | some c=>
    have hcn:=Q7 hc;show val (upd q.1 ⟨m,c.name⟩ c.out) k=0;rw [WY,if_neg (fun z=>hk (by rw [z];dsimp only;omega))];exact hq
 unfold ZcT;refine UI (fun q:Acc×Acc=>val q.1 k=0) _ _ (fun q x hx hq=>?_) _ hC;have hn:=R.nn x (by simpa using hx);obtain⟨h,H⟩:=R.nm _ hn;have ht:= (H.nts x (List.mem_append_right _ (List.mem_filter.2 ⟨hx,by simp⟩))).1;have hr:0 <=x.name∧x.name < w.names:=by unfold Yu at hn;simp at hn;exact hn.1
 unfold ZqD;cases (x.kind==1)
 ·cases (x.kind==2)
  ·simp only [Cq0];rw [WY,if_neg (fun z=>hk (by rw [z];exact⟨ht,hr⟩))];exact hq
  ·exact hq
 ·exact hq
theorem ZEk:UK (ZcT w).1:=by
 have hC:UK (Ws w).1:=by
  unfold Ws;refine UI (fun q:Acc×Acc=>UK q.1) _ _ (fun q m hm hq=>?_) _ UK.nil;refine UI (fun q:Acc×Acc=>UK q.1) _ _ (fun q n hn hq=>?_) _ hq;unfold JC;cases hc:cellOf w m n with
  | none=>exact hq
  | some c=>exact hq.upd _ _
 unfold ZcT;refine UI (fun q:Acc×Acc=>UK q.1) _ _ (fun q x hx hq=>?_) _ hC;unfold ZqD;cases (x.kind==1)
 ·cases (x.kind==2)
  ·exact hq.upd _ _
  ·exact hq
 ·exact hq
theorem Zsg (hF:1000 <=F) (R:Rx w KH []) (sm:Small w) (so:Qo w st):ZaH F (st.machines,st.names,st.cells,st.notes,st.freed)=some (bif Zao w then .Jz 3 else .ok st):=by
 have sz:=R.szd;have h0:=R.n0;unfold ZaH;dsimp only;rw [so.notes];unfold Zao;cases hb:decide ((w.notes.length:Int) > 80)
 ·simp only [Cq0,Bool.false_or];have hst:(⟨st.machines,st.names,st.cells,w.notes,st.freed⟩:Store)=st:=by rw [← so.notes]
  rw [hst,ZrU hF sm sz so,Bq0];obtain⟨q,hq⟩:=Zkw (b:=Zf5) (fun k x=>by unfold Zf5;cases decide (x > 1000000);exact⟨_,rfl⟩;exact⟨_,rfl⟩) (ZcT w).1;rw [hq,Bq0];obtain⟨_,q2⟩:=Zd1 hq
  have:q= ((List.range w.cells.length).any fun m=>(List.range w.names.toNat).any fun n=>decide (XC w m n > 1000000)):=by
   rw [Bool.eq_iff_iff,q2,List.any_eq_true]
   constructor
   ·rintro⟨⟨k,v⟩,hm,hv⟩
    have hv:v > 1000000:=by
     unfold Zf5 at hv;cases hd:decide (v > 1000000) with
     | true=>simpa using hd
     | false=>dsimp only at hv;rw [hd] at hv;cases hv
    have hval:val (ZcT w).1 k=v:=by unfold val;rw [ZEk.get hm];rfl
    by_cases hk:(0 <=k.e0∧k.e0 < (w.cells.length:Int))∧0 <=k.e1∧k.e1 < w.names
    ·refine⟨k.e0.toNat,List.mem_range.2 (by omega),?_⟩;rw [List.any_eq_true];refine⟨k.e1.toNat,List.mem_range.2 (by omega),?_⟩;have:= (ZmC sz (a:=k.e0.toNat) (n:=k.e1.toNat) (by omega) (by omega)).1
     have e:(⟨((k.e0.toNat:Nat):Int),((k.e1.toNat:Nat):Int)⟩:Zg)=k:=by
      cases k;dsimp only at *;congr 1 <;> omega
     rw [e,hval] at this;rw [← this];simpa using hv
    ·rw [Zz8 R hk] at hval;omega
   ·rintro⟨m,hm,hn⟩;rw [List.any_eq_true] at hn;obtain⟨n,hn,hg⟩:=hn;rw [List.mem_range] at hm hn;have hg:XC w m n > 1000000:=by simpa using hg
    have:= (ZmC sz (a:=m) (n:=n) hm (by omega)).1;rw [← this] at hg;unfold val at hg;cases e:XF (ZcT w).1 (⟨(m:Int),(n:Int)⟩:Zg) with
    | none=>rw [e] at hg;simp at hg
    | some v=>
      rw [e] at hg;refine⟨_,Zuo e,?_⟩;unfold Zf5;dsimp only;rw [decide_eq_true (by simpa using hg)];rfl
  rw [← this];cases q <;> rfl
 ·rfl
theorem Zqu {l:List Int} (h:l.Pairwise (· < ·)):Asc l:=h.imp fun z=>Int.le_of_lt z
theorem Rt.ci (R:Rt w) {m:Nat} (hm:m < w.cells.length) {c:Zb} (hc:c ∈ rowOf w m):CI c:=by
 have:= (Zbe (R.Ua hm hc)).2.2.2;rcases this with z | z
 ·exact .inl ⟨z.2.1,z.1⟩
 ·exact .inr z
theorem Rt.ZiE (R:Rt w) (h:∃ n,Yu w n=true):w.freed.length <=11:=by
 obtain⟨n,hn⟩:=h;unfold Yu at hn;simp at hn;have h12:=R.n12
 have key:∀ (l:List Int) (a:Int),l.Pairwise (· < ·) ->(∀ x ∈ l,a <=x∧x < w.names) ->n ∉ l ->a <=n ->a + (l.length:Int) + 1 <=w.names:=by
  intro l
  induction l with
  | nil=>intro a _ _ _ h;simp;omega
  | cons x l ih=>
    intro a p hr hx ha;rw [List.pairwise_cons] at p;have h0:=hr x (by simp);have hne:n ≠ x:=fun z=>hx (by rw [z];simp)
    by_cases hlt:n < x
    ·have:=Zbg (l:=l) (a:=x + 1) (b:=w.names) p.2 (fun y hy=>by have h1:=p.1 y hy;have h2:=hr y (by simp [hy]);omega) (by omega);simp only [List.length_cons];omega
    ·have:=ih (x + 1) p.2 (fun y hy=>by have h1:=p.1 y hy;have h2:=hr y (by simp [hy]);omega) (fun z=>hx (by simp [z])) (by omega);simp only [List.length_cons];omega
 have:=key w.freed 0 R.fr R.frr (fun z=>hn.2 n z rfl) hn.1.1;omega
theorem ZfL (sm:Small w) (k:Nat):Small (U6 w k):= ⟨sm.cells,sm.rows,by have:=sm.notes;unfold U6;simp;omega,sm.freed⟩
theorem Zor (hF:1000 <=F) (R:Rt w) {d:Zv} (hf:Ql d w.cells.length=true) (he:Xx w d d.at_.toNat=0):Zgg F w d=some (XJ w d):=by
 have sm:=R.small;have hnl:=R.nts;have hrow:∀ m,m < w.cells.length ->(rowOf w m).length <=12:=fun m hm=>Szd.Zc4 R.n12 (R.Xh m hm) (R.names m hm)
 unfold XJ;rcases Zas hf with⟨k,a⟩ | ⟨k,a,t,ne,nm⟩ | ⟨k,a,nm⟩ | ⟨k,a⟩
 ·have hat:d.at_= (d.at_.toNat:Int):=by omega
  have hm:d.at_.toNat < w.cells.length:=by omega
  rw [Zyd sm hm d k hat (fun x hx=>(R.names _ hm x hx).2),k];rfl
 ·have hm:d.at_.toNat < w.cells.length:=by omega
  have hat:d.at_= (d.at_.toNat:Int):=by omega
  rcases k with k | k
  ·obtain⟨c,hc,_,hu⟩:=Jg (by omega) (by omega) he;have hl:= (R.XU hm hc).1;have:=ZxX hF sm hm (R.Xh _ hm) d hat hc (R.ci hm (Zdb hc));unfold Zgg;rw [k,hl];simp only [beq_self_eq_true,Cq1,show((2:Int)==1)=false from rfl,Cq0];rw [this];rfl
  ·obtain⟨c,hc,hr,_⟩:=Jg (by omega) (by omega) he;have hl:= (R.XU hm hc).1;rw [ZDn hF sm hm (R.Xh _ hm) d k hat hc,k,hl];rfl
 ·have hm:d.at_.toNat < w.cells.length:=by omega
  have hat:d.at_= (d.at_.toNat:Int):=by omega
  obtain⟨c,hc,_,hu⟩:=Jg (by omega) (by omega) he;have hl:= (R.XU hm hc).1;have:=hrow _ hm;rw [ZwK hF sm hm (R.Xh _ hm) (by omega) (by omega) d k hat hc,k,hl];rfl
 ·have hlt:d.at_.toNat < w.notes.length:=by
   unfold Xx at he;rw [k] at he;simp only [beq_self_eq_true,Cq1,show((5:Int)==1)=false from rfl,Cq0] at he;cases hb:decide (d.at_ >= (w.notes.length:Int)) with
   | true=>rw [hb] at he;cases he
   | false=>simp at hb;omega
  obtain⟨j,hj⟩:∃ j:Nat,d.at_= (j:Int):= ⟨d.at_.toNat,by omega⟩
  have hjt:d.at_.toNat=j:=by omega
  rw [hjt] at hlt ⊢;obtain⟨x,hx⟩:∃ x,w.notes[j]? =some x:= ⟨_,List.getElem?_eq_getElem hlt⟩
  have hxB:=WK (R.JE (List.mem_of_getElem? hx));have hm:x.ZH.toNat < w.cells.length:=by omega
  have:=hrow _ hm;have hcr:=ZwV hF (ZfL sm j) (m:=x.ZH.toNat) hm (by show(rowOf w _).length < 900;omega) (by unfold U6;simp;omega) x (by omega) (R.Xh _ hm);unfold Zgg;rw [k,hx];simp only [beq_self_eq_true,Cq1,show((5:Int)==1)=false from rfl,show((5:Int)==2)=false from rfl,Cq0];rw [hj,ZB,hx,Bq0,Zx9 hF sm d hj x];have e:(⟨w.cells,w.notes.take j ++ w.notes.drop (j + 1),w.names,w.freed⟩:Za)=U6 w j:=rfl;rw [e,hcr];simp
end
end Go.Proofs.Ytekpjgmhkkjhgaa
end
section
namespace Go.Proofs.Ytekpjgmhkkjhgaa
open Go.Lf
def ZdA:Za:= ⟨[],[],0,[]⟩
def stepW (w:Za) (d:Zv):Za×Int:=
 bif Xx w d d.at_.toNat==0 then(bif Zao (XJ w d) then(ZdA,3) else(XJ w d,0)) else(ZdA,Xx w d d.at_.toNat)
section
variable {w:Za} {n:Int} {st:Store} {F:Nat}
theorem ZsM {d:Zv} (h:d.Xf=1∨d.Xf=5) (m m':Nat):Xx w d m=Xx w d m':=by
 unfold Xx;rcases h with h | h <;> rw [h] <;> rfl
theorem Zji (R:Rt w) {d:Zv} (hf:Ql d w.cells.length=true):∃ m,m < w.cells.length∧(d.Xf=1∨d.Xf=5∨d.at_= (m:Int))∧Xx w d m=Xx w d d.at_.toNat:=by
 have:=R.c1;rcases Zas hf with⟨k,a⟩ | ⟨k,a,t,ne,nm⟩ | ⟨k,a,nm⟩ | ⟨k,a⟩
 ·exact⟨d.at_.toNat,by omega,.inl k,rfl⟩
 ·exact⟨d.at_.toNat,by omega,.inr (.inr (by omega)),rfl⟩
 ·exact⟨d.at_.toNat,by omega,.inr (.inr (by omega)),rfl⟩
 ·exact⟨0,by omega,.inr (.inl k),ZsM (.inr k) _ _⟩
theorem Rt.ZrN (R:Rt w) {m:Nat} (hm:m < w.cells.length) (n:Int):CI (look (rowOf w m) n):=by
 unfold look;cases h:Ju (rowOf w m) n with
 | none=>exact CI.blank n
 | some c=>exact R.ci hm (Zdb h)
theorem Zs9 (hF:1000 <=F) (R:Rt w) (so:Qo w st) (u:UK st.cells) {d:Zv} (hf:Ql d w.cells.length=true):
 ∃ st',Zwh F st d=some (bif Xx w d d.at_.toNat==0 then(bif Zao (XJ w d) then .Jz 3 else .ok st') else .Jz (Xx w d d.at_.toNat))∧(Xx w d d.at_.toNat=0 ->Qo (XJ w d) st'∧UK st'.cells):=by
 have sm:=R.small;have hnl:=R.nts;have hrow:∀ m,m < w.cells.length ->(rowOf w m).length <=12:=fun m hm=>Szd.Zc4 R.n12 (R.Xh m hm) (R.names m hm)
 obtain⟨m0,hm0,ho,e0⟩:=Zji R hf;have hck:=Zqn so hm0 d ho;rw [e0] at hck;unfold Zwh;rw [hck,Bq0];cases hz:(Xx w d d.at_.toNat==0)
 ·refine⟨st,rfl,fun z=>?_⟩;rw [z] at hz;cases hz
 ·have he:Xx w d d.at_.toNat=0:=by simpa using hz
  obtain⟨X1,X2,X3,X4,X5⟩:=Zmj R hf he;have over:∀ st',Qo (XJ w d) st' ->ZaH F (st'.machines,st'.names,st'.cells,st'.notes,st'.freed)=some (bif Zao (XJ w d) then .Jz 3 else .ok st'):=fun st' s'=>Zsg hF X1 (X1.small (by omega)) s'
  simp only [Cq1];unfold prC;dsimp only;rcases Zas hf with⟨k,a⟩ | ⟨k,a,t,ne,nm⟩ | ⟨k,a,nm⟩ | ⟨k,a⟩
  ·have hm:d.at_.toNat < w.cells.length:=by omega
   have hat:d.at_= (d.at_.toNat:Int):=by omega
   have hdw:XJ w d=ZeC w d.at_.toNat:=by unfold XJ;rw [k];rfl
   obtain⟨q1,q2⟩:=Zuj so u hm (R.Xh _ hm);have ov:=over _ (by rw [hdw];exact q1);refine⟨_,?_,fun _=>⟨by rw [hdw];exact q1,q2⟩⟩;rw [← ov,k];simp only [beq_self_eq_true,Cq1];rw [hat,so.n]
   rfl
  ·have hm:d.at_.toNat < w.cells.length:=by omega
   have hat:d.at_= (d.at_.toNat:Int):=by omega
   rcases k with k | k
   ·obtain⟨c,hc,_,hu⟩:=Jg (by omega) (by omega) he;have hl:= (R.XU hm hc).1;have hdw:XJ w d=Zeu w d d.at_.toNat c:=by unfold XJ;rw [k,hl];rfl
    obtain⟨st',q1,q2,q3⟩:=ZtG so u hm (R.Xh _ hm) (by omega) d hat hc;have ov:=over st' (by rw [hdw];exact q2);refine⟨st',?_,fun _=>⟨by rw [hdw];exact q2,q3⟩⟩;rw [← ov,k];simp only [beq_self_eq_true,Cq1,show((2:Int)==1)=false from rfl,Cq0];rw [q1,Bq0]
   ·obtain⟨c,hc,hr,_⟩:=Jg (by omega) (by omega) he;have hl:= (R.XU hm hc).1;have hdw:XJ w d=goW w d d.at_.toNat c:=by unfold XJ;rw [k,hl];rfl
    obtain⟨st',q1,q2,q3⟩:=ZyT so u hm (R.Xh _ hm) (by omega) d hc;have ov:=over st' (by rw [hdw];exact q2);refine⟨st',?_,fun _=>⟨by rw [hdw];exact q2,q3⟩⟩;rw [← ov,k];simp only [beq_self_eq_true,Cq1,show((4:Int)==1)=false from rfl,show((4:Int)==2)=false from rfl,show((4:Int)==3)=false from rfl,Cq0];unfold ZaE;rw [Bq0,hat,so.get hm,hc];unfold goC at q1;simp only [Option.getD_some];rw [q1,Bq0]
  ·have hm:d.at_.toNat < w.cells.length:=by omega
   have hat:d.at_= (d.at_.toNat:Int):=by omega
   obtain⟨c,hc,_,hu⟩:=Jg (by omega) (by omega) he;obtain⟨hl,_,hnb⟩:=R.XU hm hc;have hdw:XJ w d=Zg5 w d.at_.toNat d.name c:=by unfold XJ;rw [k,hl];rfl
   obtain⟨st',q1,q2,q3⟩:=ZsO (F:=F) (by omega) so u hm (R.Xh _ hm) (by omega) hc (R.ci hm (Zdb hc)) (Zqu R.fr) (R.ZiE ⟨_,hnb⟩);have ov:=over st' (by rw [hdw];exact q2);refine⟨st',?_,fun _=>⟨by rw [hdw];exact q2,q3⟩⟩;rw [← ov,k];simp only [beq_self_eq_true,Cq1,show((3:Int)==1)=false from rfl,show((3:Int)==2)=false from rfl,Cq0];unfold ZaE;rw [Bq0,hat,so.get hm,hc];unfold Zbb at q1;simp only [Option.getD_some];rw [q1,Bq0]
  ·have hlt:d.at_.toNat < w.notes.length:=by
    have he:=he;unfold Xx at he;rw [k] at he;simp only [beq_self_eq_true,Cq1,show((5:Int)==1)=false from rfl,Cq0] at he;cases hb:decide (d.at_ >= (w.notes.length:Int)) with
    | true=>rw [hb] at he;cases he
    | false=>simp at hb;omega
   obtain⟨j,hj⟩:∃ j:Nat,d.at_= (j:Int):= ⟨d.at_.toNat,by omega⟩
   have hjt:d.at_.toNat=j:=by omega
   rw [hjt] at hlt;obtain⟨x,hx⟩:∃ x,w.notes[j]? =some x:= ⟨_,List.getElem?_eq_getElem hlt⟩
   have hdw:XJ w d=Qt (U6 w j) x:=by unfold XJ;rw [k,hjt,hx];rfl
   have hxm:=List.mem_of_getElem? hx;have hxB:=WK (R.JE hxm);have hm:x.ZH.toNat < w.cells.length:=by omega
   have:=hrow _ hm;have so':Qo (U6 w j) ⟨st.machines,st.names,st.cells,w.notes.take j ++ w.notes.drop (j + 1),st.freed⟩:= ⟨so.m,so.n,rfl,so.freed,so.cells⟩
   obtain⟨st',q1,q2,q3⟩:=Zjn (F:=F) (by omega) so' u (ZfL sm j) (m:=x.ZH.toNat) hm (by show(rowOf w _).length < 900;omega) (by unfold U6;simp;omega) x (by omega) (R.Xh _ hm) (R.ZrN hm _) (Zqu R.fr) (R.ZiE ⟨_,hxB.2.1⟩);have ov:=over st' (by rw [hdw];exact q2);refine⟨st',?_,fun _=>⟨by rw [hdw];exact q2,q3⟩⟩;rw [← ov,k];simp only [beq_self_eq_true,Cq1,show((5:Int)==1)=false from rfl,show((5:Int)==2)=false from rfl,show((5:Int)==3)=false from rfl,show((5:Int)==4)=false from rfl,Cq0];rw [hj,so.notes,ZB,hx,Bq0,ZtY hlt (by omega),Bq0,q1,Bq0]
theorem Zld (hF:1000 <=F) (sm:Small w):ZlZ F w=some w:=by
 have hc:=sm.cells;have hn:=sm.notes;have hf:=sm.freed;unfold ZlZ;refine(Z9 w.cells (fun v (s:List (List Zb))=>(s,v)) (ZiS w) (fun k r s next=>(app 24 s [r]).bind next) (fun s=>some ⟨s,w.notes,w.names,w.freed⟩) (by omega) (fun k y s next hy hk=>?_) (fun s next=>?_) (by omega) []).trans ?_
 ·have hr:=sm.rows y (List.mem_of_getElem? hy);simp only [ZiS,ZB,hy,hk,decide_true,Cq1,Bq0];rw [YQ (by simp only [List.length_nil];omega) (by decide),Bq0]
  rfl
 ·simp only [ZiS];rw [decide_eq_false (by omega),Cq0,YQ (by simp only [List.length_nil];omega) (by decide),Bq0,YQ (by simp only [List.length_nil];omega) (by decide)]
  rfl
 ·obtain⟨e1,e2⟩:=Y9 (d:=fun s=>some (Za.mk s w.notes w.names w.freed)) (g:=fun(_:Nat) (r:List Zb) s next=>(app 24 s [r]).bind next) (fun _ r s=>s ++ [r]) (fun i s=>s.length <=i) (l:=w.cells) (i:=0) (s:= []) (Nat.le_refl _) (fun k x s next hx hI=>by
   have hk:= (List.getElem?_eq_some_iff.1 hx).1;rw [YQ (by simp;omega) (by decide)];exact⟨rfl,by simp;omega⟩)
  rw [e1]
  have:∀ (l:List (List Zb)) (i:Nat) s,foldI (fun _ r s=>s ++ [r]) i l s=s ++ l:=by
   intro l
   induction l with
   | nil=>intro i s;simp [foldI]
   | cons r l ih=>intro i s;unfold foldI;rw [ih];simp
  rw [this];rfl
theorem Ztz (hF:1000 <=F) (R:Rt w) {d:Zv} (hf:Ql d w.cells.length=true):Zws F w d=some (stepW w d):=by
 obtain⟨m0,hm0,ho,e0⟩:=Zji R hf;unfold Zws stepW;rw [ZsS hF R.small hm0 d ho,Bq0,e0];cases hz:(Xx w d d.at_.toNat==0)
 ·have:(Xx w d d.at_.toNat !=0)=true:=by simp only [bne,hz];rfl
  rw [this];rfl
 ·have:(Xx w d d.at_.toNat !=0)=false:=by simp only [bne,hz];rfl
  have he:Xx w d d.at_.toNat=0:=by simpa using hz
  obtain⟨X1,X2,X3,X4,X5⟩:=Zmj R hf he;rw [this,Cq0,Zld hF R.small,Bq0,Zor hF R hf he,Bq0,ZtV hF (X1.small (by omega)) X1.szd,Bq0,Cq1];cases Zao (XJ w d) <;> rfl
theorem ZtW (R:Rx w KH []) (ho:∀ k a c,X0 w k a=some c ->c.out <=1000016) (h:Zao w=false):Rt w:=by
 unfold Zao at h;rw [Bool.or_eq_false_iff,List.any_eq_false] at h;have sz:=R.szd;have hl:w.notes.length <=80:=by have:=h.1;simp at this;omega
 have h0:=R.n0;refine R.rt (fun n hn=>?_) hl;have hnr:0 <=n∧n < w.names:=by unfold Yu at hn;simp at hn;exact hn.1
 intro a a0 a1;have:=h.2 a.toNat (List.mem_range.2 (by omega));rw [Bool.not_eq_true,List.any_eq_false] at this;have:=this n.toNat (List.mem_range.2 (by omega));have:= (by simpa using this:XC w a.toNat ((n.toNat:Nat):Int) <=1000000)
 rw [show((n.toNat:Nat):Int)=n by omega,ZiD w (by omega)] at this;rw [show((a.toNat:Nat):Int)=a by omega] at this;show K4 (X0 w n) (Ur w n) a <=1000000;obtain⟨h',H⟩:=R.nm n hn;have H:Nm w.cells.length n (X0 w n) (Ur w n) h':=H;have hg:=H.giv a;have hc:=H.ZD3
 have hb:-16 <=Qx (X0 w n a)∧Qx (X0 w n a) <=1000016:=by
  cases e:X0 w n a with
  | none=>simp [Qx]
  | some c=>exact⟨(H.Zpi e).1,ho n a c e⟩
 have:-16 <=K4 (X0 w n) (Ur w n) a∧K4 (X0 w n) (Ur w n) a <=1000032:=by
  rw [hg];split <;> omega
 rw [Ja (by omega) (by omega)] at *
 assumption
theorem Zmk (R:Rt w) {d:Zv} (hf:Ql d w.cells.length=true) (he:Xx w d d.at_.toNat=0) (hv:Zao (XJ w d)=false):Rt (XJ w d)∧(XJ w d).cells.length=w.cells.length:=by
 obtain⟨X1,X2,X3,X4,X5⟩:=Zmj R hf he;exact⟨ZtW X1 X5 hv,X3⟩
theorem ZhO {d:Zv} (h:(stepW w d).2=0):Xx w d d.at_.toNat=0∧Zao (XJ w d)=false∧(stepW w d).1=XJ w d:=by
 unfold stepW at h ⊢;cases hz:(Xx w d d.at_.toNat==0)
 ·rw [hz] at h;have he:Xx w d d.at_.toNat ≠ 0:=by simpa using hz
  exact absurd h he
 ·rw [hz] at h;cases ho:Zao (XJ w d)
  ·exact⟨by simpa using hz,rfl,rfl⟩
  ·rw [ho] at h;cases h
theorem Zr4 (hF:1000 <=F) (R:Rt w) (so:Qo w st) {d:Zv} (hf:Ql d w.cells.length=true):
 ((stepW w d).2 ≠ 0∧ZsH F st d=some (none,(stepW w d).2))∨((stepW w d).2=0∧(stepW w d).1=XJ w d∧∃ st',ZsH F st d=some (some st',0)∧Qo (XJ w d) st'∧UK st'.cells):=by
 obtain⟨sc,c1,c2,c3⟩:=R.copy hF so;obtain⟨st',q1,q2⟩:=Zs9 hF R c2 c3 hf;unfold ZsH stepW;rw [c1,Bq0,q1,Bq0];cases hz:(Xx w d d.at_.toNat==0)
 ·left;have he:Xx w d d.at_.toNat ≠ 0:=by simpa using hz
  exact⟨he,rfl⟩
 ·have he:Xx w d d.at_.toNat=0:=by simpa using hz
  obtain⟨q3,q4⟩:=q2 he;cases Zao (XJ w d)
  ·right;exact⟨rfl,rfl,st',rfl,q3,q4⟩
  ·left;exact⟨(fun z=>by cases z),rfl⟩
end
end Go.Proofs.Ytekpjgmhkkjhgaa
end
section
namespace Go.Proofs.Ytekpjgmhkkjhgaa
open Go.Lf
section
end
theorem Zr7 {F:Nat} {l:List Int} (hl:l.length < F) (hl2:l.length < 1000):ZsK F l l=some true:=by
 unfold ZsK;have:((l.length:Int) != (l.length:Int))=false:=by simp
 rw [this,Cq0];refine(Z9 l (fun v (_:Unit)=>v) (Zi4 l l) (fun _ _ _ next=>next ()) (fun _=>some true) (by omega) (fun k y q next hy hk=>?_) (fun q next=>?_) hl ()).trans ?_
 ·simp only [Zi4,ZB,hy,hk,decide_true,Cq1,Bq0];have:(y !=y)=false:=by simp
  rw [this];rfl
 ·simp only [Zi4];rw [decide_eq_false (by omega),Cq0]
 ·rw [(Y9 (fun _ _ s=>s) (fun _ _=>True) trivial (fun _ _ _ _ _ _=>⟨rfl,trivial⟩)).1]
theorem Zuu {F:Nat} (hF:1000 <=F) (w:Za):∃ b,ZwC F w=some b∧(b=false ->Small w):=by
 unfold ZwC;cases h:((decide ((w.cells.length:Int) > 10)) || (decide ((w.notes.length:Int) > 100))) || (decide ((w.freed.length:Int) > 30))
 ·have h':=h;simp only [Bool.or_eq_false_iff,decide_eq_false_iff_not] at h';refine⟨w.cells.any fun r=>decide ((r.length:Int) > 30),?_,fun hb=>⟨by omega,fun r hr=>?_,by omega,by omega⟩⟩
  ·rw [Cq0];refine(Z9 w.cells (fun v (_:Unit)=>v) (Zja w) (fun _ r _ next=>bif decide ((r.length:Int) > 30) then some true else next ()) (fun _=>some false) (by omega) (fun k y q next hy hk=>?_) (fun q next=>?_) (by omega) ()).trans ?_
   ·simp only [Zja,ZB,hy,hk,decide_true,Cq1,Bq0]
   ·simp only [Zja];rw [decide_eq_false (by omega),Cq0]
   ·rw [XO (r:=some true) (fun _ (r:List Zb)=>decide ((r.length:Int) > 30)) (fun _ _ _ _=>rfl),Jr];cases w.cells.any fun r=>decide ((r.length:Int) > 30) <;> rfl
  ·rw [List.any_eq_false] at hb;have:=hb r hr;simp at this;omega
 ·exact⟨true,rfl,fun h=>by cases h⟩
end Go.Proofs.Ytekpjgmhkkjhgaa
end
section
namespace Go.Proofs.Ytekpjgmhkkjhgaa
open Go.Lf
section
variable {w:Za} {n:Int} {st:Store} {F:Nat}
theorem Zoj (y:Zb):JX y y=true:=by simp [JX]
theorem Zoh (y:Zd):Zaw y y=true:=by simp [Zaw]
theorem ZhU (hF:1000 <=F) (sm:Small w):Zqd F w w=some true:=by
 have hc:=sm.cells;have hn:=sm.notes;have hf:=sm.freed;have b1:(((((w.cells.length:Int) != (w.cells.length:Int)) || ((w.notes.length:Int) != (w.notes.length:Int))) || (w.names !=w.names)))=false:=by simp
 unfold Zqd;rw [b1,Zr7 (by omega) hf];simp only [Bool.not_false,Zar,Bq0,Bool.not_true,Bool.or_false,Cq0]
 have l2:loop F (Zgr w w) 0=some true:=by
  refine(Z9 w.notes (fun v (_:Unit)=>v) (Zgr w w) (fun _ _ _ next=>next ()) (fun _=>some true) (by omega) (fun k y q next hy hk=>?_) (fun q next=>?_) (by omega) ()).trans ?_
  ·simp only [Zgr,ZB,hy,hk,decide_true,Cq1,Bq0];rw [Zoh];rfl
  ·simp only [Zgr];rw [decide_eq_false (by omega),Cq0]
  ·rw [(Y9 (fun _ _ s=>s) (fun _ _=>True) trivial (fun _ _ _ _ _ _=>⟨rfl,trivial⟩)).1]
 have l1:∀ (m:Nat) (row:Row) (next:Int ->Option Bool),w.cells[m]? =some row ->loop F (Zgs w w m next) 0=next (ZP ((m:Int) + 1)):=by
  intro m row next hm;have hr:=sm.rows row (List.mem_of_getElem? hm);refine(Z9 row (fun v (_:Unit)=>v) (Zgs w w m next) (fun _ _ _ nx=>nx ()) (fun _=>next (ZP ((m:Int) + 1))) (by omega) (fun k y q nx hy hk=>?_) (fun q nx=>?_) (by omega) ()).trans ?_
  ·simp only [Zgs,ZB,hm,hy,hk,decide_true,Cq1,Bq0];rw [Zoj];rfl
  ·simp only [Zgs,ZB,hm,Bq0];rw [decide_eq_false (by omega),Cq0]
  ·rw [(Y9 (fun _ _ s=>s) (fun _ _=>True) trivial (fun _ _ _ _ _ _=>⟨rfl,trivial⟩)).1]
 refine(Z9 w.cells (fun v (_:Unit)=>v) (Zi9 F w w) (fun _ _ _ next=>next ()) (fun _=>some true) (by omega) (fun k y q next hy hk=>?_) (fun q next=>?_) (by omega) ()).trans ?_
 ·simp only [Zi9,ZB,hy,hk,decide_true,Cq1,Bq0];have:((y.length:Int) != (y.length:Int))=false:=by simp
  rw [this,Cq0];exact l1 k y next hy
 ·simp only [Zi9];rw [decide_eq_false (by omega),Cq0,l2]
 ·rw [(Y9 (fun _ _ s=>s) (fun _ _=>True) trivial (fun _ _ _ _ _ _=>⟨rfl,trivial⟩)).1]
theorem ZdN:Small ZdA:= ⟨by decide,by simp [ZdA],by decide,by decide⟩
end
end Go.Proofs.Ytekpjgmhkkjhgaa
end
section
namespace Go.Proofs.Ytekpjgmhkkjhgaa
open Go.Lf
def ZAC (c:Zb):Bool:=decide (c.from_ >=0)
def KJ (r:Row):Nat:=r.countP ZAC
def Jo:Option Zb ->Nat | some c=>if c.from_ >=0 then 1 else 0 | none=>0
def wt (x:Zd):Nat:=if x.kind=1 then 2 else 1
def wts:List Zd ->Nat | []=>0 | x::l=>wt x + wts l
def Zbn (f:Nat ->Nat):Nat ->Nat | 0=>0 | k + 1=>Zbn f k + f k
def mu (w:Za):Nat:=Zbn (fun m=>KJ (rowOf w m)) w.cells.length + wts w.notes
theorem Zhp (l r:List Zd):wts (l ++ r)=wts l + wts r:=by
 induction l with
 | nil=>simp [wts]
 | cons x l ih=>simp only [List.cons_append,wts,ih];omega
theorem Zo5 {f g:Nat ->Nat} {M:Nat} (h:∀ m,m < M ->f m=g m):Zbn f M=Zbn g M:=by
 induction M with
 | zero=>rfl
 | succ M ih=>simp only [Zbn];rw [ih fun m hm=>h m (by omega),h M (by omega)]
theorem Zty {f g:Nat ->Nat} {M k:Nat} (hk:k < M) (h:∀ m,m < M ->m ≠ k ->f m=g m):Zbn f M + g k=Zbn g M + f k:=by
 induction M with
 | zero=>omega
 | succ M ih=>
   simp only [Zbn];by_cases e:k=M
   ·subst e;rw [Zo5 fun m hm=>h m (by omega) (by omega)];omega
   ·have:=ih (by omega) (fun m hm hn=>h m (by omega) hn);rw [h M (by omega) (fun z=>e z.symm)];omega
theorem Jt (d:Zb) (r:Row):KJ (d::r)=Jo (some d) + KJ r:=by
 unfold KJ Jo;rw [List.countP_cons];unfold ZAC;by_cases h:d.from_ >=0
 ·simp [h];omega
 ·simp [h]
theorem Znf (c:Zb):∀ {r:Row},Ub r ->KJ (put c r) + Jo (Ju r c.name)=KJ r + Jo (some c)
 | [],_=>by rw [put,Jt,ZlP];simp [Jo,KJ]
 | d::r,s=>by
   unfold put;by_cases h1:d.name < c.name
   ·have:=Znf c s.tail;rw [if_pos h1,Jt,Jt,YT,if_neg (by omega)];omega
   ·rw [if_neg h1];by_cases h2:d.name=c.name
    ·rw [if_pos h2,Jt,Jt,YT,if_pos h2];omega
    ·rw [if_neg h2,Jt,Jt,YT,if_neg h2,ZcB (by intro x hx;have:=s.head x hx;omega)];simp [Jo];omega
theorem Zne (n:Int):∀ {r:Row},Ub r ->KJ (KQ n r) + Jo (Ju r n)=KJ r
 | [],_=>by simp [KQ,KJ,Jo,ZlP]
 | d::r,s=>by
   have:=Zne n s.tail;rw [YT];by_cases h:d.name=n
   ·have e:KQ n (d::r)=KQ n r:=by unfold KQ;rw [List.filter_cons_of_neg (by simp [h])]
    rw [e,if_pos h,Jt];have hn:Ju r n=none:=ZcB (by intro x hx;have:=s.head x hx;omega);rw [hn] at this;simp only [Jo] at this ⊢;omega
   ·have e:KQ n (d::r)=d::KQ n r:=by unfold KQ;rw [List.filter_cons_of_pos (by simp [h])]
    rw [e,if_neg h,Jt,Jt];omega
section
variable {w:Za} {n:Int} {m:Nat}
theorem ZAA (hm:m < w.cells.length) (r:Row):mu (cw w m r) + KJ (rowOf w m)=mu w + KJ r:=by
 unfold mu;rw [Yg];have:=Zty (f:=fun k=>KJ (rowOf (cw w m r) k)) (g:=fun k=>KJ (rowOf w k)) hm (fun k hk hne=>by rw [UE hne]);simp only [Qh hm] at this;have e:(cw w m r).notes=w.notes:=rfl;rw [e];omega
theorem ZCh (hm:m < w.cells.length) (s:Ub (rowOf w m)) {d:Zb} (hd:d.name=n):mu (cw w m (put d (rowOf w m))) + Jo (Ju (rowOf w m) n)=mu w + Jo (some d):=by
 have h1:=ZAA hm (put d (rowOf w m));have h2:=Znf d s;rw [hd] at h2;omega
theorem Zq7 (x:Zd):mu (sent w x)=mu w + wt x:=by
 unfold mu sent;dsimp only;rw [Zhp];simp only [wts];have:Zbn (fun m=>KJ (rowOf {cells:=w.cells,notes:=w.notes ++ [x],names:=w.names,freed:=w.freed} m)) w.cells.length=Zbn (fun m=>KJ (rowOf w m)) w.cells.length:=rfl;omega
theorem ZfT (hm:m < w.cells.length) (s:Ub (rowOf w m)) {c:Zb} (hc:Ju (rowOf w m) n=some c):mu (XT w m n c) <=mu w:=by
 unfold XT;cases (c.use || (c.out !=0))
 ·rw [Cq0];have h1:=ZAA hm (KQ n (rowOf w m));have h2:=Zne n s;rw [hc] at h2
  have key:∀ (ns:List Zd) (fr:List Int),mu ⟨w.cells.set m (KQ n (rowOf w m)),ns,w.names,fr⟩ + wts w.notes=mu (cw w m (KQ n (rowOf w m))) + wts ns:=by
   intro ns fr;unfold mu;show Zbn (fun k=>KJ (rowOf (cw w m (KQ n (rowOf w m))) k)) (w.cells.set m (KQ n (rowOf w m))).length + wts ns + wts w.notes=Zbn (fun k=>KJ (rowOf (cw w m (KQ n (rowOf w m))) k)) (w.cells.set m (KQ n (rowOf w m))).length + wts w.notes + wts ns;omega
  cases c.root
  ·simp only [Cq0];cases hf:decide (c.from_ >=0)
   ·rw [Cq0];have:=key w.notes w.freed;simp only [Jo] at h2;omega
   ·rw [Cq1];have hf':c.from_ >=0:=by simpa using hf
    have:=key (w.notes ++ [⟨2,c.from_,n,0,c.has⟩]) w.freed;rw [Zhp] at this;have e2:wts [(⟨2,c.from_,n,0,c.has⟩:Zd)]=1:=rfl;rw [e2] at this;simp only [Jo,if_pos hf'] at h2;omega
  ·simp only [Cq1];have:=key w.notes (Q5 n w.freed);simp only [Jo] at h2;omega
 ·exact Nat.le_refl _
theorem Zpp (n:Int) (r:Row):Jo (Ju r n)=Jo (some (look r n)):=by
 unfold look;cases Ju r n <;> rfl
theorem ZwU {x:Zd} (R:Rx w KH [x]):mu (Qt w x) + 1 <=mu w + wt x:=by
 have hn:=R.nn x (by simp);obtain⟨n,hxn⟩:∃ n,x.name=n:= ⟨_,rfl⟩
 rw [hxn] at hn;have hfl:∀ y ∈ [x],y.name=n:=by simp [hxn]
 obtain⟨h,H⟩:=R.nm n hn;rw [ZbL hfl] at H;have H:Nm w.cells.length n (X0 w n) (x::Ur w n) h:=H;have hx:=H.nts x (by simp);obtain⟨m',hm'⟩:∃ m',x.ZH.toNat=m':= ⟨_,rfl⟩
 have hmm:(m':Int)=x.ZH:=by omega
 have hm:m' < w.cells.length:=by omega
 have L:=H.look x.ZH;have Za3:look (rowOf w m') n=ZaZ n (X0 w n) x.ZH:=by rw [ZkC hm,hmm]
 unfold Qt;rw [hm',hxn];dsimp only;obtain⟨c,hc⟩:∃ c,ZaZ n (X0 w n) x.ZH=c:= ⟨_,rfl⟩
 rw [hc] at L Za3;have hlo:=Zpp n (rowOf w m');rw [Za3] at hlo ⊢;have hsrt:=R.Xh m' hm
 have hmp:∀ {d:Zb},d.name=n ->mu (cw w m' (put d (rowOf w m'))) + Jo (some c)=mu w + Jo (some d):=fun hd=>by
  have:=ZCh hm hsrt hd;rw [hlo] at this;exact this
 have hcw:∀ {d:Zb},d.name=n ->Ju (rowOf (cw w m' (put d (rowOf w m'))) m') n=some d∧Ub (rowOf (cw w m' (put d (rowOf w m'))) m'):=fun hd=>⟨ZcC hm hsrt hd,by rw [Qh hm];exact hsrt.put⟩
 have hwt:1 <=wt x:=by unfold wt;split <;> omega
 cases k1:(x.kind==1)
 ·rw [Cq0];cases k2:(x.kind==2)
  ·rw [Cq0];have h1:=hmp (d:= ⟨c.name,true,-1,0,ZP (c.out + 16),c.use⟩) L.nam;obtain⟨h2,h3⟩:=hcw (d:= ⟨c.name,true,-1,0,ZP (c.out + 16),c.use⟩) L.nam
   have k3:x.kind=3:=by
    rcases hx.2.2.2 with z | z | z
    ·rw [z.1] at k1;cases k1
    ·rw [z.1] at k2;cases k2
    ·exact z.1
   have hw1:wt x=1:=by unfold wt;rw [if_neg (by omega)]
   cases hf:decide (c.from_ >=0)
   ·simp only [Cq0];rw [QN h2];have h4:=ZfT (by rw [Yg];exact hm) h3 h2;have hf':¬ c.from_ >=0:=by simpa using hf
    simp only [Jo,if_neg hf',if_neg (by omega:¬ (-1:Int) >=0)] at h1;omega
   ·simp only [Cq1];have hf':c.from_ >=0:=by simpa using hf
    have hne:c.from_ ≠ x.ZH:=by rcases L.cel with z | z;exact z.2.2.2.1;omega
    have hb:Qr (cw w m' (put ⟨c.name,true,-1,0,ZP (c.out + 16),c.use⟩ (rowOf w m'))) m' n c.from_ c.has=sent (cw w m' (put ⟨c.name,true,-1,0,ZP (c.out + 16),c.use⟩ (rowOf w m'))) ⟨2,c.from_,n,0,c.has⟩:=by
     unfold Qr;have:(c.from_ != (m':Int))=true:=by simp;omega
     rw [this,Cq1]
    rw [hb];have hrow:rowOf (sent (cw w m' (put ⟨c.name,true,-1,0,ZP (c.out + 16),c.use⟩ (rowOf w m'))) ⟨2,c.from_,n,0,c.has⟩) m'=rowOf (cw w m' (put ⟨c.name,true,-1,0,ZP (c.out + 16),c.use⟩ (rowOf w m'))) m':=rfl;rw [hrow,QN h2];have h4:=ZfT (w:=sent (cw w m' (put ⟨c.name,true,-1,0,ZP (c.out + 16),c.use⟩ (rowOf w m'))) ⟨2,c.from_,n,0,c.has⟩) (m:=m') (n:=n) (by show m' < (cw _ _ _).cells.length;rw [Yg];exact hm) h3 h2;have h5:=Zq7 (w:=cw w m' (put ⟨c.name,true,-1,0,ZP (c.out + 16),c.use⟩ (rowOf w m'))) ⟨2,c.from_,n,0,c.has⟩;simp only [Jo,if_pos hf',if_neg (by omega:¬ (-1:Int) >=0)] at h1;have:wt ⟨2,c.from_,n,0,c.has⟩=1:=rfl;omega
  ·rw [Cq1];have h1:=hmp (d:= ⟨c.name,c.root,c.from_,c.has,ZP (c.out - x.w),c.use⟩) L.nam;obtain⟨h2,h3⟩:=hcw (d:= ⟨c.name,c.root,c.from_,c.has,ZP (c.out - x.w),c.use⟩) L.nam;have h4:=ZfT (by rw [Yg];exact hm) h3 h2;simp only [Jo] at h1;omega
 ·rw [Cq1];have hw2:wt x=2:=by unfold wt;rw [if_pos (by simpa using k1)]
  cases g1:((!c.root && (c.from_==-1)) && (x.via !=x.ZH))
  ·rw [Cq0];cases g2:((!c.root && decide (c.from_ >=0)) && (c.from_==x.via))
   ·rw [Cq0];unfold Qr;have h1:=hmp (d:= ⟨c.name,c.root,c.from_,c.has,c.out,true⟩) L.nam;simp only [Jo] at h1;cases (x.via != (m':Int))
    ·rw [Cq0,ZeE hm hsrt (by exact L.nam),ZBr,Qh hm,ZqX hsrt (by rfl)];have h6:=hmp (d:= ⟨c.name,c.root,c.from_,c.has,ZP (c.out - x.w),true⟩) L.nam;simp only [Jo] at h6;dsimp only at h6 ⊢;omega
    ·rw [Cq1,Zq7];have:wt ⟨2,x.via,n,0,x.w⟩=1:=rfl;omega
   ·rw [Cq1];have h1:=hmp (d:= ⟨c.name,c.root,c.from_,ZP (c.has + x.w),c.out,true⟩) L.nam;simp only [Jo] at h1;omega
  ·rw [Cq1];have h1:=hmp (d:= ⟨c.name,c.root,x.via,x.w,c.out,true⟩) L.nam;simp at g1;simp only [Jo,g1.1.2,if_neg (by omega:¬ (-1:Int) >=0)] at h1;have:(if x.via >=0 then 1 else 0) <=1:=by split <;> omega
   omega
theorem ZCi {k:Nat} {x:Zd} (hk:w.notes[k]? =some x):mu (U6 w k) + wt x=mu w:=by
 obtain⟨hkl,hkx⟩:=List.getElem?_eq_some_iff.1 hk
 have Zhe:w.notes=w.notes.take k ++ x::w.notes.drop (k + 1):=by
  rw [← hkx,← List.drop_eq_getElem_cons hkl,List.take_append_drop]
 unfold mu U6;show _ + wts (w.notes.take k ++ w.notes.drop (k + 1)) + wt x=_ + wts w.notes
 conv=>rhs;rw [Zhe]
 rw [Zhp,Zhp];simp only [wts];have:Zbn (fun m=>KJ (rowOf {cells:=w.cells,notes:=w.notes.take k ++ w.notes.drop (k + 1),names:=w.names,freed:=w.freed} m)) w.cells.length=Zbn (fun m=>KJ (rowOf w m)) w.cells.length:=rfl;show Zbn (fun m=>KJ (rowOf w m)) w.cells.length + _ + _=Zbn (fun m=>KJ (rowOf w m)) w.cells.length + _;omega
theorem ZbQ (R:Rt w) {k:Nat} {x:Zd} (hk:w.notes[k]? =some x):mu (Qt (U6 w k) x) + 1 <=mu w:=by
 have h1:=ZwU (ZtX R hk).1;have h2:=ZCi hk;omega
theorem Zm9 (R:Rt w):mu w <=232:=by
 have h1:wts w.notes <=2 * w.notes.length:=by
  induction w.notes with
  | nil=>simp [wts]
  | cons x l ih=>simp only [wts,List.length_cons];unfold wt;split <;> omega
 have h2:∀ k,k <=w.cells.length ->Zbn (fun m=>KJ (rowOf w m)) k <=12 * k:=by
  intro k
  induction k with
  | zero=>intro _;simp [Zbn]
  | succ k ih=>
    intro hk;have:=ih (by omega);have h3:=Szd.Zc4 R.n12 (R.Xh k (by omega)) (R.names k (by omega));have h4:KJ (rowOf w k) <= (rowOf w k).length:=List.countP_le_length;simp only [Zbn];omega
 have:=h2 _ (Nat.le_refl _);have:=R.c6;have:=R.nts;unfold mu;omega
end
end Go.Proofs.Ytekpjgmhkkjhgaa
end
section
namespace Go.Proofs.Ytekpjgmhkkjhgaa
open Go.Lf
def Zbx:Za ->Nat ->List Zv ->Za×Int×Int
 | w,i,[]=>(w,i,0)
 | w,i,d::l=>bif(stepW w d).2==0 then Zbx (stepW w d).1 (i + 1) l else(w,i,(stepW w d).2)
def Zks (w:Za) (l:List Zv):Za×Int×Int:=
 bif decide ((l.length:Int) > 200) then(ZdA,0,3) else bif Uf w && l.all (fun d=>Ql d w.cells.length) then Zbx w 0 l else(ZdA,0,2)
section
variable {w:Za} {n:Int} {st:Store} {F:Nat}
theorem ZjQ (hF:1000 <=F) (l:List Zv) (hl:l.length <=200) (M:Nat) (hf:∀ d ∈ l,Ql d (M:Int)=true):∀ (k i F':Nat) (w:Za),Rt w ->w.cells.length=M ->i + k=l.length ->k < F' ->
 loop F' (Zeb F l) ((i:Int),w.cells,w.notes,w.names,w.freed)=some (Zbx w i (l.drop i)):=by
 intro k
 induction k with
 | zero=>
   intro i F' w R hM hi hF';obtain⟨F',rfl⟩:=Ne0 (n:=F') (by omega);have:i=l.length:=by omega
   subst this;rw [Yk];simp only [Zeb];rw [decide_eq_false (by omega),Cq0,List.drop_length]
   rfl
 | succ k ih=>
   intro i F' w R hM hi hF';obtain⟨F',rfl⟩:=Ne0 (n:=F') (by omega);have hlt:i < l.length:=by omega
   have hd:=hf l[i] (List.getElem_mem hlt);rw [← hM] at hd;rw [Yk,List.drop_eq_getElem_cons hlt];simp only [Zeb,Zbx];rw [decide_eq_true (by omega),Cq1,ZB,List.getElem?_eq_getElem hlt,Bq0];have e:(⟨w.cells,w.notes,w.names,w.freed⟩:Za)=w:=rfl;rw [e,Ztz hF R hd,Bq0];cases hz:((stepW w l[i]).2==0)
   ·have:((stepW w l[i]).2 !=0)=true:=by simp only [bne,hz];rfl
    rw [this];rfl
   ·have:((stepW w l[i]).2 !=0)=false:=by simp only [bne,hz];rfl
    rw [this,Cq0,Cq1,Qf (by omega)];have hok:(stepW w l[i]).2=0:=by simpa using hz
    obtain⟨e1,e2,e3⟩:=ZhO hok;obtain⟨r1,r2⟩:=Zmk R hd e1 e2;rw [e3];exact ih (i + 1) F' _ r1 (r2.trans hM) (by omega) (by omega)
theorem ZjX (hF:1000 <=F) (sm:Small w) (l:List Zv) (hl:l.length <=200):loop F (Zgp F w l) 0=bif l.all (fun d=>Ql d w.cells.length) then(ZlZ F w).bind fun x21=>loop F (Zeb F l) (0,x21.cells,x21.notes,x21.names,x21.freed) else some (ZdA,0,2):=by
 have hc:=sm.cells;refine(Z9 l (fun v (_:Unit)=>v) (Zgp F w l) (fun _ d s next=>bif !(Ql d w.cells.length) then some (ZdA,0,2) else next ()) (fun _=>(ZlZ F w).bind fun x21=>loop F (Zeb F l) (0,x21.cells,x21.notes,x21.names,x21.freed)) (by omega) (fun k y s next hy hk=>?_) (fun s next=>?_) (by omega) ()).trans ?_
 ·simp only [Zgp,ZB,hy,hk,decide_true,Cq1,Bq0];rw [Zv9 y (by omega) (by omega),Bq0];rfl
 ·simp only [Zgp];rw [decide_eq_false (by omega),Cq0]
 ·rw [XO (r:=some (ZdA,0,2)) (fun _ (d:Zv)=>!(Ql d w.cells.length)) (fun _ _ _ _=>rfl),Jr];have:(l.any fun d=>!(Ql d w.cells.length))= !(l.all fun d=>Ql d w.cells.length):=by rw [List.not_all_eq_any_not]
  rw [this];cases l.all fun d=>Ql d w.cells.length <;> rfl
theorem ZtS (hF:1000 <=F) (sm:Small w) (l:List Zv):Zwx F w l=some (Zks w l):=by
 unfold Zwx Zks;cases hb:decide ((l.length:Int) > 200)
 ·have hl:l.length <=200:=by simp at hb;omega
  rw [Cq0,Cq0,right_eq hF sm,Bq0];cases hr:Uf w
  ·rfl
  ·have R:=Rt.of hr;simp only [Bool.not_true,Cq0,Bool.true_and];rw [ZjX hF sm l hl];cases hf:l.all fun d=>Ql d w.cells.length
   ·rfl
   ·rw [Cq1,Cq1,Zld hF sm,Bq0];rw [List.all_eq_true] at hf;exact ZjQ hF l hl w.cells.length hf l.length 0 F w R rfl (by omega) (by omega)
 ·rfl
theorem Zh2 (hF:1000 <=F) (l:List Zv) (hl:l.length <=200) (M:Nat) (hf:∀ d ∈ l,Ql d (M:Int)=true):∀ (k i F':Nat) (w:Za) (st:Store),Rt w ->Qo w st ->w.cells.length=M ->i + k=l.length ->k < F' ->
 loop F' (Zi7 F l) (st,(i:Int))=some (Zbx w i (l.drop i)):=by
 intro k
 induction k with
 | zero=>
   intro i F' w st R so hM hi hF';obtain⟨F',rfl⟩:=Ne0 (n:=F') (by omega);have:i=l.length:=by omega
   subst this;rw [Yk];simp only [Zi7];rw [decide_eq_false (by omega),Cq0,R.shut hF so,List.drop_length]
   rfl
 | succ k ih=>
   intro i F' w st R so hM hi hF';obtain⟨F',rfl⟩:=Ne0 (n:=F') (by omega);have hlt:i < l.length:=by omega
   have hd:=hf l[i] (List.getElem_mem hlt);rw [← hM] at hd;rw [Yk,List.drop_eq_getElem_cons hlt];simp only [Zi7,Zbx];rw [decide_eq_true (by omega),Cq1,ZB,List.getElem?_eq_getElem hlt,Bq0];rcases Zr4 hF R so hd with⟨s1,s2⟩ | ⟨s1,s2,st',s3,s4,s5⟩
   ·have h1:((stepW w l[i]).2 !=0)=true:=by simpa using s1
    have h2:((stepW w l[i]).2==0)=false:=by simpa using s1
    rw [s2,Bq0,h2];unfold opt;dsimp only;rw [h1,Cq1,R.shut hF so];rfl
   ·obtain⟨e1,e2,e3⟩:=ZhO s1;obtain⟨r1,r2⟩:=Zmk R hd e1 e2;rw [s3,Bq0,s1,e3];unfold opt;dsimp only;rw [show((0:Int) !=0)=false from rfl,show((0:Int)==0)=true from rfl,Cq0,Cq1,Qf (by omega)];exact ih (i + 1) F' _ st' r1 s4 (r2.trans hM) (by omega) (by omega)
theorem Zsf (hF:1000 <=F) (sm:Small w) (l:List Zv):Zwy F w l=some (Zks w l):=by
 have hc:=sm.cells;unfold Zwy Zks;cases hb:decide ((l.length:Int) > 200)
 ·have hl:l.length <=200:=by simp at hb;omega
  rw [Cq0,Cq0,Zrr hF sm,Bq0];cases hr:Uf w
  ·rfl
  ·have R:=Rt.of hr;simp only [Bool.not_true,Bool.not_false,Cq1,Bool.true_and]
   have e:=Z9 l (fun v (_:Unit)=>v) (Zgq F w l) (fun(k:Nat) d s next=>bif !(Ql d w.cells.length) then(K5 F w l) (k:Int) else next ()) (fun _=>K5 F w l (-1)) (by omega) (fun k y s next hy hk=>by
    simp only [Zgq,ZB,hy,hk,decide_true,Cq1,Bq0];rw [Zsz];rfl) (fun s next=>by
    simp only [Zgq];rw [decide_eq_false (by omega),Cq0]) (by omega:l.length < F) ()
   rw [show loop F (Zgq F w l) 0=_ from e];rcases ZfY (l:=l) (i:=0) (s:= ()) (d:=fun _=>K5 F w l (-1)) (g:=fun(k:Nat) d (s:Unit) next=>bif !(Ql d w.cells.length) then(K5 F w l) (k:Int) else next ()) (fun k=>K5 F w l (k:Int)) (fun d=>!(Ql d w.cells.length)) (fun _ _ _ _=>rfl) with⟨j,y,h1,h2,h3⟩ | ⟨h1,h2⟩
   ·rw [h3]
    have ha:(l.all fun d=>Ql d w.cells.length)=false:=by
     have:=List.find?_some h1;rw [List.all_eq_false];exact⟨y,List.mem_of_find?_eq_some h1,by simpa using this⟩
    rw [ha];unfold K5;rw [decide_eq_true (by omega)];rfl
   ·rw [h2]
    have ha:(l.all fun d=>Ql d w.cells.length)=true:=by
     rw [List.find?_eq_none] at h1;rw [List.all_eq_true];intro d hd;have:=h1 d hd
     simpa using this
    rw [ha,Cq1];unfold K5;obtain⟨st,o1,o2,o3⟩:=R.open_ hF;rw [decide_eq_false (by omega),Cq0,o1,Bq0];rw [List.all_eq_true] at ha;exact Zh2 hF l hl w.cells.length ha l.length 0 F w st R o2 rfl (by omega) (by omega)
 ·rfl
def ZaD:Nat ->Za ->Nat ->Za×Int×Int
 | 0,w,n=>(w,n,0)
 | k + 1,w,n=>match w.notes with
   | []=>(w,n,0)
   | x::_=>ZaD k (Qt (U6 w 0) x) (n + 1)
def Zkq (w:Za):Za×Int×Int:=bif Uf w then ZaD 300 w 0 else(ZdA,0,2)
theorem ZjN (hF:1000 <=F):∀ (k n F':Nat) (w:Za),Rt w ->mu w <=k ->k < F' ->n + k < 100000 ->loop F' (Zi5 F) ((n:Int),w.cells,w.notes,w.names,w.freed)=some (ZaD k w n):=by
 intro k
 induction k with
 | zero=>
   intro n F' w R hm hF' hn;obtain⟨F',rfl⟩:=Ne0 (n:=F') (by omega)
   have h0:w.notes= []:=by
    cases hx:w.notes with
    | nil=>rfl
    | cons x l=>
      exfalso;have:=ZbQ R (k:=0) (x:=x) (by rw [hx];rfl);omega
   rw [Yk];simp only [Zi5,ZaD];rw [h0];rw [show decide ((([]:List Zd).length:Int) > 0)=false from rfl,Cq0];rw [← h0]
 | succ k ih=>
   intro n F' w R hm hF' hn;obtain⟨F',rfl⟩:=Ne0 (n:=F') (by omega);rw [Yk];simp only [Zi5,ZaD];cases hx:w.notes with
   | nil=>
     rw [show decide ((([]:List Zd).length:Int) > 0)=false from rfl,Cq0];dsimp only;rw [← hx]
   | cons x l=>
     have h0:w.notes[0]? =some x:=by rw [hx];rfl
     have hl:=ZbQ R h0;obtain⟨r1,r2,r3⟩:=Zfn R h0;rw [decide_eq_true (by simp),Cq1];have hf:Ql ⟨5,0,0,0⟩ w.cells.length=true:=rfl
     have he:Xx w ⟨5,0,0,0⟩ (0:Int).toNat=0:=by
      unfold Xx;rw [show decide ((0:Int) >= (w.notes.length:Int))=false by rw [hx];simp];rfl
     have hd:=Zor hF R hf he;have ew:(⟨w.cells,x::l,w.names,w.freed⟩:Za)=w:=by rw [← hx]
     have edw:XJ w ⟨5,0,0,0⟩=Qt (U6 w 0) x:=by
      unfold XJ;show Qt (U6 w 0) (w.notes[0]?.getD _)=_;rw [h0];rfl
     rw [ew,hd,Bq0,edw,Qf (by omega)];dsimp only;exact ih (n + 1) F' _ r1 (by omega) (by omega) (by omega)
theorem ZhY (hF:1000 <=F):∀ (k n F':Nat) (w:Za) (st:Store),Rt w ->Qo w st ->UK st.cells ->mu w <=k ->k < F' ->n + k < 100000 ->loop F' (Zi6 F) ((n:Int),st.machines,st.names,st.cells,st.notes,st.freed)=some (ZaD k w n):=by
 intro k
 induction k with
 | zero=>
   intro n F' w st R so u hm hF' hn;obtain⟨F',rfl⟩:=Ne0 (n:=F') (by omega)
   have h0:w.notes= []:=by
    cases hx:w.notes with
    | nil=>rfl
    | cons x l=>
      exfalso;have:=ZbQ R (k:=0) (x:=x) (by rw [hx];rfl);omega
   rw [Yk];simp only [Zi6,ZaD];rw [so.notes,h0];rw [show decide ((([]:List Zd).length:Int) > 0)=false from rfl,Cq0];rw [← h0,← so.notes,R.shut hF so];rfl
 | succ k ih=>
   intro n F' w st R so u hm hF' hn;obtain⟨F',rfl⟩:=Ne0 (n:=F') (by omega);rw [Yk];simp only [Zi6,ZaD];rw [so.notes];cases hx:w.notes with
   | nil=>
     rw [show decide ((([]:List Zd).length:Int) > 0)=false from rfl,Cq0];dsimp only;rw [← hx,← so.notes,R.shut hF so];rfl
   | cons x l=>
     have h0:w.notes[0]? =some x:=by rw [hx];rfl
     have hl:=ZbQ R h0;obtain⟨r1,r2,r3⟩:=Zfn R h0;have hxm:x ∈ w.notes:=by rw [hx];simp
     have hxB:=WK (R.JE hxm);have hm':x.ZH.toNat < w.cells.length:=by omega
     have hrow:=Szd.Zc4 R.n12 (R.Xh _ hm') (R.names _ hm');have hnl:=R.nts;have hout:U6 w 0= ⟨w.cells,l,w.names,w.freed⟩:=by unfold U6;rw [hx];rfl
     have so':Qo (U6 w 0) ⟨st.machines,st.names,st.cells,l,st.freed⟩:= ⟨so.m,so.n,by rw [hout],so.freed,so.cells⟩
     obtain⟨st',q1,q2,q3⟩:=Zjn (F:=F) (by omega) so' u (ZfL R.small 0) (m:=x.ZH.toNat) hm' (by show(rowOf w _).length < 900;omega) (by unfold U6;simp;omega) x (by omega) (R.Xh _ hm') (R.ZrN hm' _) (Zqu R.fr) (R.ZiE ⟨_,hxB.2.1⟩);have hlen:(x::l).length <=80:=by rw [← hx];exact hnl
     have hg:ZM (x::l) 0=some x:=rfl
     have hs:slL (x::l) 1 ((x::l).length:Int)=some l:=by
      have:=Zlg (xs:=x::l) (a:=1) (b:= (x::l).length) (by simp) (Nat.le_refl _);rw [List.take_length] at this;exact this
     rw [decide_eq_true (by simp),Cq1,hg,Bq0,hs,Bq0,q1,Bq0,Qf (by omega)];exact ih (n + 1) F' _ st' r1 q2 q3 (by omega) (by omega) (by omega)
theorem ZtL (hF:1000 <=F) (sm:Small w):Zwv F w=some (Zkq w):=by
 unfold Zwv Zkq;rw [right_eq hF sm,Bq0];cases hr:Uf w
 ·rfl
 ·have R:=Rt.of hr;have:=Zm9 R;rw [Bool.not_true,Cq0,Cq1,Zld hF sm,Bq0];exact ZjN hF 300 0 F w R (by omega) (by omega) (by omega)
theorem Zsa (hF:1000 <=F) (sm:Small w):Zww F w=some (Zkq w):=by
 unfold Zww Zkq;rw [Zrr hF sm,Bq0];cases hr:Uf w
 ·rfl
 ·have R:=Rt.of hr;have:=Zm9 R;obtain⟨st,o1,o2,o3⟩:=R.open_ hF;rw [Bool.not_true,Cq0,Cq1,o1,Bq0];exact ZhY hF 300 0 F w st R o2 o3 (by omega) (by omega) (by omega)
theorem Zkt (M:Nat):∀ (l:List Zv) (w:Za) (i:Nat),Rt w ->w.cells.length=M ->(∀ d ∈ l,Ql d (M:Int)=true) ->Rt (Zbx w i l).1∧(Zbx w i l).1.cells.length=M
 | [],w,i,R,hM,_=>⟨R,hM⟩
 | d::l,w,i,R,hM,hf=>by
   unfold Zbx;cases hz:((stepW w d).2==0)
   ·exact⟨R,hM⟩
   ·have hok:(stepW w d).2=0:=by simpa using hz
    have hd:=hf d (by simp);rw [← hM] at hd;obtain⟨e1,e2,e3⟩:=ZhO hok;obtain⟨r1,r2⟩:=Zmk R hd e1 e2;rw [Cq1,e3];exact Zkt M l _ _ r1 (r2.trans hM) (fun x hx=>hf x (by simp [hx]))
theorem Zph (sm:Small w) (l:List Zv):Small (Zks w l).1:=by
 unfold Zks;cases decide ((l.length:Int) > 200)
 ·cases hb:(Uf w && l.all fun d=>Ql d w.cells.length)
  ·exact ZdN
  ·rw [Bool.and_eq_true,List.all_eq_true] at hb;exact(Zkt w.cells.length l w 0 (Rt.of hb.1) rfl hb.2).1.small
 ·exact ZdN
theorem Zkr:∀ (k:Nat) (w:Za) (n:Nat),Rt w ->Rt (ZaD k w n).1
 | 0,w,n,R=>R
 | k + 1,w,n,R=>by
   unfold ZaD;cases hx:w.notes with
   | nil=>exact R
   | cons x l=>exact Zkr k _ _ (Zfn R (k:=0) (x:=x) (by rw [hx];rfl)).1
theorem Zpe (sm:Small w):Small (Zkq w).1:=by
 unfold Zkq;cases hr:Uf w
 ·exact ZdN
 ·exact(Zkr 300 w 0 (Rt.of hr)).small
theorem ZjC (w:Za) (l:List Zv):f4L 1000 w l=some true:=by
 have hF:1000 <=1000:=Nat.le_refl _;unfold f4L;obtain⟨b,h1,h2⟩:=Zuu hF w;rw [h1,Bq0];cases b
 ·have sm:=h2 rfl;rw [Bool.false_or];cases decide ((l.length:Int) > 220)
  ·rw [Cq0,Zsf hF sm,ZtS hF sm,Zsa hF sm,ZtL hF sm];simp only [Bq0];rw [ZhU hF (Zph sm l),ZhU hF (Zpe sm)];simp [gd,Zzp]
  ·rfl
 ·rfl
end
end Go.Proofs.Ytekpjgmhkkjhgaa
end
