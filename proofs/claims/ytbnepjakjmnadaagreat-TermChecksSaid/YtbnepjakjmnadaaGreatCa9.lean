/- Part 9. -/
import GoSem.Core.View
import Derived.Test.YtbnepjakjmnadaaGreatCa8
set_option linter.all false
set_option maxHeartbeats 2000000
section
namespace Go.Lf
def loop {α β:Type}:Nat ->(α ->(α ->Option β) ->Option β) ->α ->Option β
 | 0,_,_=>none
 | F + 1,body,a=>body a (loop F body)
theorem YE {α β:Type} (F:Nat) (body:α ->(α ->Option β) ->Option β) (a:α):loop (F + 1) body a=body a (loop F body):=rfl
def YB {α:Type} (l:List α) (k:Int):Option α:=bif decide (0 <=k) then l[k.toNat]? else none
theorem ZlQ {α:Type} (l:List α) (k:Nat):YB l (k:Int)=l[k]?:=by simp [YB]
theorem Zey {α:Type} {l:List α} {k:Int} {x:α} (h:YB l k=some x):(k.toNat:Int)=k∧k.toNat < l.length∧l[k.toNat]? =some x:=by
 unfold YB at h;by_cases hk:0 <=k
 ·rw [decide_eq_true hk,Cq1] at h;exact⟨by omega,(Li0 h).1,h⟩
 ·rw [decide_eq_false hk,Cq0] at h;cases h
def Xm (n:Int):Int:=Go.IntKind.i64.wrap n
theorem ZfZ {n:Int} (h1:-9223372036854775808 <=n) (h2:n <=9223372036854775807):Xm n=n:=by
 unfold Xm Go.IntKind.wrap;have e1:(2 ^ IntKind.i64.bits:Int)=18446744073709551616:=by decide
 have e2:(2 ^ (IntKind.i64.bits - 1):Int)=9223372036854775808:=by decide
 have e3:IntKind.i64.signed=true:=rfl;rw [e1,e2,e3];dsimp only;split
 ·rename_i h;simp at h;omega
 ·rename_i h;simp at h;omega
def gd {α:Type} (g:Bool) (m:Option α) (d:α):Option α:=bif g then m else some d
theorem Zdx {α:Type} (m:Option α) (d:α):gd true m d=m:=rfl
def app {α:Type} (WW:Nat) (xs ys:List α):Option (List α):=bif Nat.ble ((2 * (xs.length + ys.length) + 1000) * WW) (2 ^ 47) then some (xs ++ ys) else none
theorem Zt8 {α:Type} {WW:Nat} {xs ys:List α} (h:(2 * (xs.length + ys.length) + 1000) * WW <=2 ^ 47):app WW xs ys=some (xs ++ ys):=by
 unfold app;rw [Nm0 h];rfl
theorem Zt7 {α:Type} {WW:Nat} {xs ys zs:List α} (h:app WW xs ys=some zs):zs=xs ++ ys∧(2 * (xs.length + ys.length) + 1000) * WW <=2 ^ 47:=by
 unfold app at h;cases hb:Nat.ble ((2 * (xs.length + ys.length) + 1000) * WW) (2 ^ 47) <;> rw [hb] at h
 ·cases h
 ·cases h;exact⟨rfl,Nl0 hb⟩
theorem bind_some {α β:Type} {m:Option α} {f:α ->Option β} {r:β} (h:m.bind f=some r):∃ x,m=some x∧f x=some r:=Option.bind_eq_some_iff.1 h
theorem Y2 {α β:Type} {g:Bool} {m:Option α} {d:α} {f:α ->Option β} {r:β} (h:(gd g m d).bind f=some r):∃ x,(g=true ->m=some x)∧f x=some r:=by
 obtain⟨x,h1,h2⟩:=bind_some h;refine⟨x,fun hg=>?_,h2⟩;subst hg;exact h1
theorem ZB {α:Type} {c:Bool} {a b r:α} (hc:c=true) (h:(bif c then a else b)=r):a=r:=by subst hc;exact h
theorem ZC {α:Type} {c:Bool} {a b r:α} (hc:c=false) (h:(bif c then a else b)=r):b=r:=by subst hc;exact h
def YA {κ ν:Type} [DecidableEq κ]:List (κ×ν) ->κ ->Option (Nat×ν)
 | [],_=>none
 | p::l,k=>if p.1=k then some (0,p.2) else(YA l k).map fun q=>(q.1 + 1,q.2)
def Y0 {κ ν:Type} [DecidableEq κ] (l:List (κ×ν)) (k:κ):Option ν:= (YA l k).map (·.2)
def QR {κ ν:Type} [DecidableEq κ] (l:List (κ×ν)) (k:κ) (x:ν):List (κ×ν):=match YA l k with
 | some q=>l.modify q.1 fun p=>(p.1,x)
 | none=>l ++ [(k,x)]
def Zjj {κ ν:Type} [DecidableEq κ] (l:List (κ×ν)) (k:κ) (z:ν):Option ν:=some ((Y0 l k).getD z)
def ZrD {κ ν:Type} [DecidableEq κ] (l:List (κ×ν)) (k:κ) (z:ν):Option (ν×Bool):=some ((Y0 l k).getD z,(Y0 l k).isSome)
section
variable {κ ν:Type} [DecidableEq κ]
theorem Zgr {l:List (κ×ν)} {k:κ} {q:Nat×ν} (h:YA l k=some q):l[q.1]? =some (k,q.2):=by
 induction l generalizing q with
 | nil=>cases h
 | cons p l ih=>
   unfold YA at h;split at h
   ·rename_i e;cases h;simp [← e]
   ·cases e:YA l k with
    | none=>rw [e] at h;cases h
    | some q'=>rw [e] at h;cases h;simpa using ih e
theorem Zcx {l:List (κ×ν)} {k:κ}:YA l k=none↔∀ p ∈ l,p.1 ≠ k:=by
 induction l with
 | nil=>simp [YA]
 | cons p l ih=>
   unfold YA;split
   ·rename_i e;simp [e]
   ·rename_i e;simp [e,ih]
theorem Zad {l l2:List (κ×ν)} {k:κ} (h:YA l k=none):YA (l ++ l2) k= (YA l2 k).map fun q=>(q.1 + l.length,q.2):=by
 induction l with
 | nil=>cases e:YA l2 k <;> simp [e]
 | cons p l ih=>
   rw [Zcx] at h;have h1:p.1 ≠ k:=h p (by simp);have h2:YA l k=none:=Zcx.2 fun q hq=>h q (by simp [hq])
   rw [List.cons_append,YA,if_neg h1,ih h2];cases e:YA l2 k with
   | none=>rfl
   | some q=>simp [Nat.add_assoc]
theorem W9 {l l2:List (κ×ν)} {k:κ} {q:Nat×ν} (h:YA l k=some q):YA (l ++ l2) k=some q:=by
 induction l generalizing q with
 | nil=>cases h
 | cons p l ih=>
   rw [List.cons_append];unfold YA at h ⊢;split
   ·rename_i e;rw [if_pos e] at h;exact h
   ·rename_i e;rw [if_neg e] at h;cases e2:YA l k with
    | none=>rw [e2] at h;cases h
    | some q'=>rw [e2] at h;rw [ih e2];exact h
theorem KH {l l2:List (κ×ν)} {k:κ} (h:Y0 l k=none):Y0 (l ++ l2) k=Y0 l2 k:=by
 unfold Y0 at h ⊢
 have h1:YA l k=none:=by
  cases e:YA l k with
  | none=>rfl
  | some q=>rw [e] at h;cases h
 rw [Zad h1];cases YA l2 k <;> rfl
theorem Zes {l l2:List (κ×ν)} {k:κ} {v:ν} (h:Y0 l k=some v):Y0 (l ++ l2) k=some v:=by
 unfold Y0 at h ⊢;cases e:YA l k with
 | none=>rw [e] at h;cases h
 | some q=>rw [e] at h;rw [W9 e];exact h
theorem Zju {l:List (κ×ν)} {k k':κ} {q:Nat×ν} {x:ν} (h:YA l k=some q):(YA (l.modify q.1 fun p=>(p.1,x)) k').map (·.2)=if k'=k then some x else(YA l k').map (·.2):=by
 induction l generalizing q with
 | nil=>cases h
 | cons p l ih=>
   unfold YA at h;split at h
   ·rename_i e;cases h;simp only [List.modify_zero_cons];unfold YA;dsimp only;rw [e];by_cases hk:k=k'
    ·subst hk;simp
    ·rw [if_neg hk,if_neg hk,if_neg (fun z=>hk z.symm)]
   ·rename_i e;cases e2:YA l k with
    | none=>rw [e2] at h;cases h
    | some q'=>
      rw [e2] at h;cases h;have:=ih e2;simp only [List.modify_succ_cons];unfold YA;by_cases hp:p.1=k'
      ·rw [if_pos hp,if_pos hp];have:¬ k'=k:=fun z=>e (hp.trans z)
       rw [if_neg this]
      ·rw [if_neg hp,if_neg hp,Option.map_map,Option.map_map];exact this
theorem Zer (l:List (κ×ν)) (k k':κ) (x:ν):Y0 (QR l k x) k'=if k'=k then some x else Y0 l k':=by
 unfold QR Y0;cases e:YA l k with
 | some q=>exact Zju e
 | none=>
   dsimp only;by_cases hk:k'=k
   ·subst hk;rw [if_pos rfl,Zad e];simp [YA]
   ·rw [if_neg hk];cases e2:YA l k' with
    | some q=>rw [W9 e2]
    | none=>
      rw [Zad e2];have:YA [(k,x)] k'=none:=by simp [YA];exact fun z=>hk z.symm
      rw [this];rfl
end
inductive PR (β:Type) where
 | ok (b:β)
 | Yn (k:Int)
def Ut {α β:Type} (x:PR α) (p:Int ->Option β) (k:α ->Option β):Option β:=match x with
 | .ok y=>k y
 | .Yn e=>p e
def opt {α β:Type} (x:Option α) (p:Option β) (k:α ->Option β):Option β:=match x with
 | some y=>k y
 | none=>p
def Qw (x:Int):Option Int:=bif decide (0 <=x) && decide (x <=12) then some ([0,1,2,2,3,3,3,3,4,4,4,4,4].getD x.toNat 0) else none
def Zij {κ ν:Type} (b:κ ->ν ->Option Bool):List (κ×ν) ->Option Bool
 | []=>some false
 | x::r=>(b x.1 x.2).bind fun p=>(Zij b r).bind fun q=>some (p || q)
theorem Zgp {κ ν:Type} {b:κ ->ν ->Option Bool}:∀ {l:List (κ×ν)} {q:Bool},Zij b l=some q ->(∀ x ∈ l,∃ p,b x.1 x.2=some p)∧(q=true↔∃ x ∈ l,b x.1 x.2=some true)
 | [],q,h=>by cases h;simp
 | x::r,q,h=>by
   obtain⟨p,h1,h⟩:=bind_some h;obtain⟨q',h2,h⟩:=bind_some h;cases h;obtain⟨i1,i2⟩:=Zgp h2;refine⟨fun y hy=>?_,?_⟩
   ·rcases List.mem_cons.1 hy with z | z
    ·subst z;exact⟨p,h1⟩
    ·exact i1 y z
   ·rw [Bool.or_eq_true,i2]
    constructor
    ·rintro(z | ⟨y,hy,hz⟩)
     ·exact⟨x,by simp,by rw [h1,z]⟩
     ·exact⟨y,by simp [hy],hz⟩
    ·rintro⟨y,hy,hz⟩;rcases List.mem_cons.1 hy with z | z
     ·subst z;rw [h1] at hz;left;exact Oi0 hz
     ·exact .inr ⟨y,z,hz⟩
end Go.Lf
end
section
noncomputable section
namespace Go.Yj
open Go.Lf
structure Fz (wm:Nat) (h h':H):Prop where
 size:h.size <=h'.size
 keep:∀ i cs own z,h.at i= .row cs own z ->(i < wm∨own=false) ->h'.at i= .row cs own z
 low:∀ i,i < wm ->i < h.size ->h'.at i=h.at i
theorem Fz.refl (wm:Nat) (h:H):Fz wm h h:= ⟨Nat.le_refl _,fun _ _ _ _ e _=>e,fun _ _ _=>rfl⟩
theorem Fz.trans {wm:Nat} {a b c:H} (x:Fz wm a b) (y:Fz wm b c):Fz wm a c:=
 ⟨Nat.le_trans x.size y.size,fun i cs own z e s=>y.keep i cs own z (x.keep i cs own z e s) s,fun i h1 h2=>(y.low i h1 (Nat.lt_of_lt_of_le h2 x.size)).trans (x.low i h1 h2)⟩
structure Up (lo:Nat) (t:Nat ->Prop) (h h':H):Prop where
 size:h.size <=h'.size
 keep:∀ i,i < h.size ->¬ t i ->h'.at i=h.at i
 own:∀ i,t i ->lo <=i∧(h.at i).own=true
theorem Up.fz {lo wm:Nat} {t:Nat ->Prop} {h h':H} (u:Up lo t h h') (hw:wm <=lo):Fz wm h h':=by
 refine⟨u.size,fun i cs own z e s=>?_,fun i h1 h2=>u.keep i h2 fun ht=>by have:= (u.own i ht).1;omega⟩;rw [u.keep i (JN e rfl) ?_,e];intro ht;obtain⟨h1,h2⟩:=u.own i ht;rw [e] at h2;rcases s with s | s
 ·omega
 ·subst s;cases h2
theorem Up.Zva {h h':H} (lo:Nat) (g:Grow h h'):Up lo (fun _=>False) h h':= ⟨g.size,fun i hi _=>g.keep i hi,fun _ e=>e.elim⟩
theorem Up.push (lo:Nat) (h:H) (A:YN):Up lo (fun _=>False) h (h.push A):=Up.Zva lo ((Grow.refl h).push A)
theorem Up.put {lo:Nat} {h:H} {b:Nat} {A:YN} (hl:lo <=b) (ho:(h.at b).own=true):Up lo (fun i=>i=b) h (h.put b A):=
 ⟨Nat.le_refl _,fun i _ hn=>Jt hn A,fun i e=>by subst e;exact⟨hl,ho⟩⟩
def At (h:H) (b o:Nat) (vs:List Value):Prop:=∃ cs own z,h.at b= .row cs own z∧(cs.drop o).take vs.length=vs∧o + vs.length <=cs.length
def Stb (wm:Nat) (h:H) (b:Nat):Prop:=b < wm∨(h.at b).own=false
theorem At.box {h:H} {b:Nat} {vs:List Value} {own:Bool} {z:Nat} (hb:h.at b= .row vs own z):At h b 0 vs:= ⟨vs,own,z,hb,by simp,by omega⟩
theorem At.fz {wm:Nat} {h h':H} {b o:Nat} {vs:List Value} (f:Fz wm h h') (s:Stb wm h b) (a:At h b o vs):At h' b o vs:=by
 obtain⟨cs,own,z,h1,h2,h3⟩:=a;exact⟨cs,own,z,f.keep _ _ _ _ h1 (s.imp id fun e=>by rw [h1] at e;exact e),h2,h3⟩
theorem At.cell {h:H} {b o j:Nat} {vs:List Value} {v:Value} (a:At h b o vs) (hv:vs[j]? =some v):∃ cs own z,h.at b= .row cs own z∧cs[o + j]? =some v:=by
 obtain⟨cs,own,z,h1,h2,h3⟩:=a;refine⟨cs,own,z,h1,?_⟩;have hj:= (Li0 hv).1;rw [← h2,List.getElem?_take_of_lt hj,List.getElem?_drop] at hv;exact hv
theorem At.part {h:H} {b o j n:Nat} {vs ws:List Value} (a:At h b o vs) (hj:j + n <=vs.length) (hw:(vs.drop j).take n=ws):∃ cs own z,h.at b= .row cs own z∧o + j + n <=cs.length∧(cs.drop (o + j)).take n=ws:=by
 obtain⟨cs,own,z,h1,h2,h3⟩:=a;refine⟨cs,own,z,h1,by omega,?_⟩;rw [← hw,← h2,List.drop_take,List.take_take,List.drop_drop];have e:min n (vs.length - j)=n:=by omega
 rw [e]
structure Wv (α:Type) where
 sz:Nat
 pos:0 < sz
 Par:Type
 dflt:Par
 sh:Par ->α ->List Value
 len:∀ p x,(sh p x).length=sz
 one:∀ p x,(sh p x).all Value.oneCell'=true
 F:Nat ->H ->Par ->α ->Prop
 mono:∀ {wm h h' p x},Fz wm h h' ->F wm h p x ->F wm h' p x
 up:∀ {wm wm' h p x},wm <=wm' ->F wm h p x ->F wm' h p x
def Zkv (a:Option Addr) (c:Nat):Prop:= (a=none∧c=0)∨(a=some ⟨0,0,some 0⟩∧c=0)∨∃ i o,a=some ⟨i,o,none⟩
structure Jp {α:Type} (e:Wv α) (wm:Nat) (h:H) (cs:List Value) (o:Nat) (xs:List α):Prop where
 len:o + xs.length * e.sz <=cs.length
 get:∀ k x,xs[k]? =some x ->∃ q,(cs.drop (o + k * e.sz)).take e.sz=e.sh q x∧e.F wm h q x
theorem Jp.mono {α:Type} {e:Wv α} {wm:Nat} {h h':H} {cs:List Value} {o:Nat} {xs:List α} (f:Fz wm h h') (a:Jp e wm h cs o xs):Jp e wm h' cs o xs:=
 ⟨a.len,fun k x hk=>let⟨q,h1,h2⟩:=a.get k x hk;⟨q,h1,e.mono f h2⟩⟩
theorem Jp.up {α:Type} {e:Wv α} {wm wm':Nat} {h:H} {cs:List Value} {o:Nat} {xs:List α} (f:wm <=wm') (a:Jp e wm h cs o xs):Jp e wm' h cs o xs:=
 ⟨a.len,fun k x hk=>let⟨q,h1,h2⟩:=a.get k x hk;⟨q,h1,e.up f h2⟩⟩
structure Src {α:Type} (e:Wv α) (wm:Nat) (h:H) (a:Option Addr) (c:Nat) (xs:List α):Prop where
 max:xs.length <=9223372036854775807
 cap:xs.length <=c / 2
 nl:Zkv a c
 mem:xs= []∨∃ i o cs own z,a=some ⟨i,o,none⟩∧h.at i= .row cs own z∧Jp e wm h cs o xs
structure Sl {α:Type} (e:Wv α) (wm:Nat) (h:H) (a:Option Addr) (c:Nat) (xs:List α):Prop where
 max:xs.length <=9223372036854775807
 cap:xs.length <=c / 2
 nl:Zkv a c
 mem:xs= []∨∃ i o cs own z,a=some ⟨i,o,none⟩∧h.at i= .row cs own z∧(i < wm∨own=false)∧Jp e wm h cs o xs
structure Zav {α:Type} (e:Wv α) (wm lo:Nat) (h:H) (a:Option Addr) (c:Nat) (xs:List α):Prop where
 max:xs.length <=9223372036854775807
 mem:(a=none∧c=0∧xs= [])∨∃ i o cs,a=some ⟨i,o,none⟩∧lo <=i∧h.at i= .row cs true e.sz∧xs.length <=c / 2∧o + (c / 2) * e.sz <=cs.length∧Jp e wm h cs o xs
variable {α:Type} {e:Wv α} {wm wm' lo:Nat} {h h':H} {a:Option Addr} {c:Nat} {xs:List α}
theorem Zav.nl (s:Zav e wm lo h a c xs):Zkv a c:=by
 rcases s.mem with⟨h1,h2,_⟩ | ⟨i,o,cs,h1,_⟩
 ·exact .inl ⟨h1,h2⟩
 ·exact .inr (.inr ⟨i,o,h1⟩)
theorem Zav.cap (s:Zav e wm lo h a c xs):xs.length <=c / 2:=by
 rcases s.mem with⟨_,_,h3⟩ | ⟨i,o,cs,h1,_,h3,h4,_⟩
 ·subst h3;exact Nat.zero_le _
 ·exact h4
theorem Zav.src (s:Zav e wm lo h a c xs):Src e wm h a c xs:= ⟨s.max,s.cap,s.nl,by
 rcases s.mem with⟨_,_,h3⟩ | ⟨i,o,cs,h1,_,h3,_,_,h6⟩
 ·exact .inl h3
 ·exact .inr ⟨i,o,cs,true,_,h1,h3,h6⟩⟩
theorem Sl.mono (f:Fz wm h h') (s:Sl e wm h a c xs):Sl e wm h' a c xs:= ⟨s.max,s.cap,s.nl,s.mem.imp id fun⟨i,o,cs,own,z,h1,h2,h3,h4⟩=>⟨i,o,cs,own,z,h1,f.keep _ _ _ _ h2 h3,h3,h4.mono f⟩⟩
theorem Sl.up (f:wm <=wm') (s:Sl e wm h a c xs):Sl e wm' h a c xs:= ⟨s.max,s.cap,s.nl,s.mem.imp id fun⟨i,o,cs,own,z,h1,h2,h3,h4⟩=>⟨i,o,cs,own,z,h1,h2,h3.imp (fun x=>by omega) id,h4.up f⟩⟩
theorem Src.sl (s:Src e wm h a c xs) (hw:wm <=h.size):Sl e h.size h a c xs:= ⟨s.max,s.cap,s.nl,s.mem.imp id fun⟨i,o,cs,own,z,h1,h2,h4⟩=>⟨i,o,cs,own,z,h1,h2,.inl (JN h2 rfl),h4.up hw⟩⟩
theorem Sl.nil:Sl e wm h none 0 ([]:List α):= ⟨by simp,by simp,.inl ⟨rfl,rfl⟩,.inl rfl⟩
theorem Zav.nil:Zav e wm lo h none 0 ([]:List α):= ⟨by simp,.inl ⟨rfl,rfl,rfl⟩⟩
def Kn (a:Option Addr) (i:Nat):Prop:=∃ o,a=some ⟨i,o,none⟩
theorem Src.at_ {k:Int} {x:α} (s:Src e wm h a c xs) (hk:YB xs k=some x):∃ i o q,a=some ⟨i,o,none⟩∧At h i (o + k.toNat * e.sz) (e.sh q x)∧e.F wm h q x:=by
 obtain⟨h1,h2,h3⟩:=Zey hk;rcases s.mem with z | ⟨i,o,cs,own,z,q1,q2,q3⟩
 ·subst z;simp at h2
 ·obtain⟨q,g1,g2⟩:=q3.get _ _ h3;refine⟨i,o,q,q1,⟨cs,own,z,q2,by rw [e.len];exact g1,?_⟩,g2⟩;rw [e.len];have:=q3.len;have:(k.toNat + 1) * e.sz <=xs.length * e.sz:=Nat.mul_le_mul_right _ h2;rw [Nat.succ_mul] at this;omega
theorem Sl.at_ {k:Int} {x:α} (s:Sl e wm h a c xs) (hk:YB xs k=some x):∃ i o q,a=some ⟨i,o,none⟩∧At h i (o + k.toNat * e.sz) (e.sh q x)∧Stb wm h i∧e.F wm h q x:=by
 obtain⟨h1,h2,h3⟩:=Zey hk;rcases s.mem with z | ⟨i,o,cs,own,z,q1,q2,q4,q3⟩
 ·subst z;simp at h2
 ·obtain⟨q,g1,g2⟩:=q3.get _ _ h3;refine⟨i,o,q,q1,⟨cs,own,z,q2,by rw [e.len];exact g1,?_⟩,q4.imp id (fun z=>by rw [q2];exact z),g2⟩;rw [e.len];have:=q3.len;have:(k.toNat + 1) * e.sz <=xs.length * e.sz:=Nat.mul_le_mul_right _ h2;rw [Nat.succ_mul] at this;omega
def Xy (k:IntKind):Wv Int where
 sz:=1
 pos:=Nat.one_pos
 Par:=Unit
 dflt:= ()
 sh:=fun _ x=>[.int k x]
 len:=fun _ _=>rfl
 one:=fun _ _=>rfl
 F:=fun _ _ _ _=>True
 mono:=fun _ x=>x
 up:=fun _ x=>x
def YJ:Wv ByteArray where
 sz:=1
 pos:=Nat.one_pos
 Par:=Unit
 dflt:= ()
 sh:=fun _ x=>[.string x]
 len:=fun _ _=>rfl
 one:=fun _ _=>rfl
 F:=fun _ _ _ _=>True
 mono:=fun _ x=>x
 up:=fun _ x=>x
def XJ {α:Type} (e:Wv α):Wv (List α) where
 sz:=1
 pos:=Nat.one_pos
 Par:=Option Addr×Nat
 dflt:= (none,0)
 sh:=fun p x=>[.slice p.1 x.length p.2]
 len:=fun _ _=>rfl
 one:=fun _ _=>rfl
 F:=fun wm h p x=>Sl e wm h p.1 p.2 x
 mono:=fun f x=>x.mono f
 up:=fun f x=>x.up f
end Go.Yj
end
end
section
noncomputable section
namespace Go.Yj
open Go.Lf
variable {X:Ctx} {n wm:Nat} {rd:Option Nat} {s:Fs} {Q:XX ->Fs ->Prop}
theorem ZHa (fr:Fr) (d:Nat) (v:Value):Fr.at (Tr.set fr d v) d=v:=by rw [at_set,if_pos rfl]
theorem Za {fr:Fr} {d t:Nat} {v w:Value} (hn:Nat.beq t d=false) (k:Fr.at fr t=v):Fr.at (Tr.set fr d w) t=v:=by
 rw [at_set,if_neg (fun e=>by rw [e,Nat.beq_refl] at hn;cases hn)];exact k
theorem Zu {fr:Fr} {a b t:Nat} {v x y:Value} (hn:(Nat.beq t a || Nat.beq t b)=false) (k:Fr.at fr t=v):Fr.at (Tr.set (Tr.set fr b y) a x) t=v:=by
 rw [Bool.or_eq_false_iff] at hn;exact Za hn.1 (Za hn.2 k)
theorem ZA {fr:Fr} {a b c d t:Nat} {v x y z w:Value} (hn:((Nat.beq t a || Nat.beq t b) || (Nat.beq t c || Nat.beq t d))=false) (k:Fr.at fr t=v):Fr.at (Tr.set (Tr.set (Tr.set (Tr.set fr d w) c z) b y) a x) t=v:=by
 rw [Bool.or_eq_false_iff] at hn;exact Zu hn.1 (Zu hn.2 k)
theorem Zl {fr:Fr} {a b c d a' b' c' d' t:Nat} {v x y z w x' y' z' w':Value} (hn:(((Nat.beq t a || Nat.beq t b) || (Nat.beq t c || Nat.beq t d)) || ((Nat.beq t a' || Nat.beq t b') || (Nat.beq t c' || Nat.beq t d')))=false) (k:Fr.at fr t=v):
 Fr.at (Tr.set (Tr.set (Tr.set (Tr.set (Tr.set (Tr.set (Tr.set (Tr.set fr d' w') c' z') b' y') a' x') d w) c z) b y) a x) t=v:=by
 rw [Bool.or_eq_false_iff] at hn;exact ZA hn.1 (ZA hn.2 k)
theorem fh {fr:Fr} {d:Nat} {v:Value}:Fr.at (Tr.set fr d v) d=v:=ZHa _ _ _
theorem Zd {fr:Fr} {t:Nat} {v:Value} (h:fr.at t=v) (ha:QC v=false):Y5 fr (.tmp t)=some v:=by rw [ZfW,h,ha];rfl
theorem Z4 {fr:Fr} {t:Nat} {c:Bool} {v:Value} (h:fr.at t=cond c v undef) (ha:QC v=false):c=true ->Y5 fr (.tmp t)=some v:=fun hc=>by
 rw [ZfW,h,hc,Cq1,ha];rfl
theorem ZH {fr:Fr} {v:Value} (h:plain v=true):Y5 fr (.const v)=some v:=by rw [ZqQ,h];rfl
theorem YQ {fr:Fr} {t:Nat} {c b:Bool} (h:fr.at t=cond c (.bool b) undef):Y5 fr (.tmp t)=some (cond c (.bool b) undef):=by
 rw [ZfW,h];cases c <;> rfl
theorem ZaC {fr:Fr} {t:Nat} {a c b:Bool} (h:fr.at t=cond (a && c) (.bool b) undef) (ha:a=true):Y5 fr (.tmp t)=some (cond c (.bool b) undef):=by
 subst ha;rw [ZfW,h];cases c <;> rfl
def ZEW {α β:Type} (I:α ->Fs ->Prop) (j:α ->Option β) (r:β) (Q:XX ->Fs ->Prop):XX ->Fs ->Prop:=fun e s=>
 match e with
 | .normal=>∃ a,j a=some r∧I a s
 | e=>Q e s
structure Y8 {α β:Type} (I:α ->Fs ->Prop) (j:α ->Option β) (r:β) (Q:XX ->Fs ->Prop) (e:XX) (s:Fs):Prop where
 out:ZEW I j r Q e s
theorem Y8.Zv {α β:Type} {I:α ->Fs ->Prop} {j:α ->Option β} {r:β} (a:α) (h:j a=some r) (i:I a s):Y8 I j r Q .normal s:= ⟨a,h,i⟩
theorem Y8.ret {α β:Type} {I:α ->Fs ->Prop} {j:α ->Option β} {r:β} (h:Q .ret s):Y8 I j r Q .ret s:= ⟨h⟩
theorem Y8.panic {α β:Type} {I:α ->Fs ->Prop} {j:α ->Option β} {r:β} {v:Value} (h:Q (.panic v) s):Y8 I j r Q (.panic v) s:= ⟨h⟩
theorem WC.Zda {α β:Type} {a b:Code} {r:β} (I:α ->Fs ->Prop) (j:α ->Option β) (k:∀ x s',j x=some r ->I x s' ->WC X n wm rd b s' Q) (h:WC X n wm rd a s (Y8 I j r Q)):WC X n wm rd (.seq a b) s Q:=by
 refine WC.seq (h.mono fun e s' q=>⟨?_⟩);have q:=q.out;cases e with
 | normal=>obtain⟨x,h1,h2⟩:=q;exact k x s' h1 h2
 | _=>exact q
theorem WC.ZV {c:Operand} {a b:Code} {t:Bool} {fr:Fr} {ds:List Deferred} {h:H} (hc:Y5 fr c=some (.bool t)) (h1:t=true ->WC X n wm rd a ⟨fr,ds,h,none⟩ Q) (h2:t=false ->WC X n wm rd b ⟨fr,ds,h,none⟩ Q):WC X n wm rd (.cond c a b) ⟨fr,ds,h,none⟩ Q:=WC.cond (s:= ⟨fr,ds,h,none⟩) hc h1 h2
theorem WC.ZeT {c:Operand} {a b:Code} {t:Bool} {fr:Fr} {ds:List Deferred} {h:H} (hc:Y5 fr c=some (.bool t)) (ht:t=true) (k:WC X n wm rd a ⟨fr,ds,h,none⟩ Q):WC X n wm rd (.cond c a b) ⟨fr,ds,h,none⟩ Q:=WC.Zpx (s:= ⟨fr,ds,h,none⟩) hc ht k
theorem WC.Zhk {c:Operand} {a b:Code} {t:Bool} {fr:Fr} {ds:List Deferred} {h:H} (hc:Y5 fr c=some (.bool t)) (ht:t=false) (k:WC X n wm rd b ⟨fr,ds,h,none⟩ Q):WC X n wm rd (.cond c a b) ⟨fr,ds,h,none⟩ Q:=WC.ZiI (s:= ⟨fr,ds,h,none⟩) hc ht k
theorem WL.lift {α β:Type} {c:Code} {body:α ->(α ->Option β) ->Option β} {r:β} {F:Nat} {a:α} (hL:loop F body a=some r) (I:α ->Fs ->Prop) (init:I a s)
 (round:∀ (next:α ->Option β) a s,(∀ a' s',next a'=some r ->I a' s' ->WL X n wm rd c s' Q) ->body a next=some r ->I a s ->WC X n wm rd c s (ZT X n wm rd c Q)):WL X n wm rd c s Q:=by
 induction F generalizing a s with
 | zero=>cases hL
 | succ F ih=>exact WL.step (round _ _ _ (fun a' s' h1 h2=>ih h1 h2) hL init)
section
variable {h:H} {ev:Operand ->Option Value} {d:Option Tmp} {ty:TypeId} {p:String} {af:Array Edge} {g:Option (Nat×Bool)}
theorem Zw {x:Operand} {t:TypeId} {b o oo j:Nat} {vs:List Value} {v:Value} (ht:YL X.P t=some false) (hx:ev x=some (.pointer (some ⟨b,oo,none⟩))) (ha:At h b o vs) (ho:oo=o + j) (hv:vs[j]? =some v):
 XG X h ev ⟨d,.load t x,ty,p,af,g⟩=some (.val v,.none):=by
 obtain⟨cs,own,z,h1,h2⟩:=ha.cell hv;subst ho;exact Zt1 ht hx h1 h2
theorem Ya {x:Operand} {t:TypeId} {b o oo j sz:Nat} {vs ws:List Value} (ht:YL X.P t=some true) (hs:YG X.P t=some sz) (hx:ev x=some (.pointer (some ⟨b,oo,none⟩))) (ha:At h b o vs) (ho:oo=o + j) (hj:Nat.ble (j + sz) vs.length=true) (hv:(vs.drop j).take sz=ws):
 XG X h ev ⟨d,.load t x,ty,p,af,g⟩=some (.val (.agg ws.toArray),.none):=by
 obtain⟨cs,own,z,h1,h2,h3⟩:=ha.part (Nl0 hj) hv;subst ho;exact Zt0 ht hs hx h1 h2 h3
theorem ZEN {α:Type} {xs:List α} {v:α} {x y:Operand} {t e:TypeId} {sz b o c:Nat} {a:Option Addr} {k:Int} (hu:X.P.underlying t=some (.slice e)) (hs:YG X.P e=some sz) (hx:ev x=some (.slice a xs.length c)) (hy:ev y=some (.int .i64 k)) (ha:a=some ⟨b,o,none⟩) (hk:YB xs k=some v):
 XG X h ev ⟨d,.indexAddr t x y,ty,p,af,g⟩=some (.val (.pointer (some ⟨b,o + k.toNat * sz,none⟩)),.none):=by
 obtain⟨h1,h2,_⟩:=Zey hk;subst ha;exact ZAO hu hs hx hy h1.symm h2
theorem Zum {op:BinOp} {t:TypeId} {P:Program} {x y:Operand} {a b c:Int} (h1:op= .add∧c=a + b∨op= .sub∧c=a - b∨op= .mul∧c=a * b):Ui P op t x y (.int .i64 a) (.int .i64 b)=some (.val (.int .i64 (Xm c)),.none):=Zoo h1
theorem ZN {t:TypeId} {P:Program} {x y:Operand} {a b:Int}:Ui P .add t x y (.int .i64 a) (.int .i64 b)=some (.val (.int .i64 (Xm (a + b))),.none):=Zum (.inl ⟨rfl,rfl⟩)
theorem Ze3 {t:TypeId} {P:Program} {x y:Operand} {a b:Int}:Ui P .sub t x y (.int .i64 a) (.int .i64 b)=some (.val (.int .i64 (Xm (a - b))),.none):=Zum (.inr (.inl ⟨rfl,rfl⟩))
end
theorem Sl.atG {α:Type} {e:Wv α} {wm:Nat} {h:H} {a:Option Addr} {c:Nat} {xs:List α} {k:Int} {x:α} {g:Bool} (s:g=true ->Sl e wm h a c xs) (hk:g=true ->YB xs k=some x):
 ∃ i o q,g=true ->(a=some ⟨i,o,none⟩∧At h i (o + k.toNat * e.sz) (e.sh q x)∧Stb wm h i∧e.F wm h q x):=by
 cases g with
 | false=>exact⟨0,0,e.dflt,fun z=>by cases z⟩
 | true=>obtain⟨i,o,q,z⟩:= (s rfl).at_ (hk rfl);exact⟨i,o,q,fun _=>z⟩
theorem Src.atG {α:Type} {e:Wv α} {wm:Nat} {h:H} {a:Option Addr} {c:Nat} {xs:List α} {k:Int} {x:α} {g:Bool} (s:g=true ->Src e wm h a c xs) (hk:g=true ->YB xs k=some x):
 ∃ i o q,g=true ->(a=some ⟨i,o,none⟩∧At h i (o + k.toNat * e.sz) (e.sh q x)∧e.F wm h q x):=by
 cases g with
 | false=>exact⟨0,0,e.dflt,fun z=>by cases z⟩
 | true=>obtain⟨i,o,q,z⟩:= (s rfl).at_ (hk rfl);exact⟨i,o,q,fun _=>z⟩
section
variable {ops:Array Oper} {l:List Oper} {fr:Fr} {ds:List Deferred} {h:H} {d:Nat} {ty:TypeId} {p:String} {af:Array Edge} {g:Option (Nat×Bool)} {c:Bool} {QQ:Fr ->Prop}
end
abbrev WR (X:Ctx) (f:FuncId) (args:Array Value) (wm:Nat) (h:H) (R:Value ->H ->Prop):Prop:=WF X f args wm h (fun e h'=>∃ v,e= .ret v∧R v h')
theorem WF.ZBK {f:FuncId} {args:Array Value} {h:H} {v:Value} (hp:plain v=true) (k:WR X f args h.size h (fun v' _=>v'=v)):Pure X f args h v:=
 WF.pure hp (k.mono fun e h' ⟨v',h1,h2⟩=>by rw [h1,h2])
end Go.Yj
end
end
section
noncomputable section
namespace Go.Yj
open Go.Lf
variable {X:Ctx} {n wm:Nat} {rd:Option Nat} {Q:XX ->Fs ->Prop}
variable {ops:Array Oper} {l:List Oper} {fr:Fr} {ds:List Deferred} {h:H} {d:Nat} {ty:TypeId} {p:String} {af:Array Edge} {g:Option (Nat×Bool)}
section
variable {α:Type} {e:Wv α} {lo:Nat} {h':H}
theorem Jp.nil {wm:Nat} {cs:List Value} {o:Nat} (hl:o <=cs.length):Jp e wm h cs o ([]:List α):= ⟨by simpa using hl,fun k x hk=>by simp at hk⟩
theorem Jp.Zu9 {wm:Nat}:∀ (qs:List (e.Par×α)),(∀ q ∈ qs,e.F wm h q.1 q.2) ->Jp e wm h (qs.flatMap fun q=>e.sh q.1 q.2) 0 (qs.map (·.2)):=by
 intro qs hq
 have hl:∀ (qs:List (e.Par×α)),(qs.flatMap fun q=>e.sh q.1 q.2).length=qs.length * e.sz:=by
  intro qs
  induction qs with
  | nil=>simp
  | cons q qs ih=>rw [List.flatMap_cons,List.length_append,ih,e.len,List.length_cons,Nat.succ_mul];omega
 refine⟨by rw [hl];simp,?_⟩
 induction qs with
 | nil=>intro k x hk;simp at hk
 | cons q qs ih=>
   intro k x hk;cases k with
   | zero=>
     simp at hk;subst hk;refine⟨q.1,?_,hq q (by simp)⟩;rw [List.flatMap_cons,Nat.zero_mul,Nat.add_zero,List.drop_zero,List.take_append_of_le_length (by rw [e.len];exact Nat.le_refl _),List.take_of_length_le (by rw [e.len];exact Nat.le_refl _)]
   | succ k=>
     obtain⟨q',h1,h2⟩:=ih (fun q hq'=>hq q (by simp [hq'])) k x (by simpa using hk);refine⟨q',?_,h2⟩;rw [← h1,List.flatMap_cons,List.drop_append,e.len,List.drop_of_length_le (by rw [e.len,Nat.succ_mul];omega),List.nil_append];congr 2;rw [Nat.succ_mul];omega
theorem Jp.cut {wm:Nat} {cs:List Value} {o:Nat} {xs:List α} (a:Jp e wm h cs o xs):Jp e wm h ((cs.drop o).take (xs.length * e.sz)) 0 xs:=by
 have hl:=a.len;refine⟨by rw [List.length_take,List.length_drop];omega,fun k x hk=>?_⟩;obtain⟨q,h1,h2⟩:=a.get k x hk;refine⟨q,?_,h2⟩;have hk':k < xs.length:= (Li0 hk).1;have:(k + 1) * e.sz <=xs.length * e.sz:=Nat.mul_le_mul_right _ hk';rw [Nat.succ_mul] at this;rw [← h1,List.drop_take,List.take_take,List.drop_drop,Nat.zero_add];congr 1;omega
theorem Jp.ZBx {wm:Nat} {cs:List Value} {o:Nat} {xs:List α} (hl:o + xs.length * e.sz <=cs.length) (a:Jp e wm h ((cs.drop o).take (xs.length * e.sz)) 0 xs):Jp e wm h cs o xs:=by
 refine⟨hl,fun k x hk=>?_⟩;obtain⟨q,h1,h2⟩:=a.get k x hk;refine⟨q,?_,h2⟩;have hk':k < xs.length:= (Li0 hk).1;have:(k + 1) * e.sz <=xs.length * e.sz:=Nat.mul_le_mul_right _ hk';rw [Nat.succ_mul] at this;rw [← h1,List.drop_take,List.take_take,List.drop_drop,Nat.zero_add];congr 1;omega
theorem Jp.append {wm:Nat} {Yr bs:List Value} {xs ys:List α} (hl:Yr.length=xs.length * e.sz) (a:Jp e wm h Yr 0 xs) (b:Jp e wm h bs 0 ys):Jp e wm h (Yr ++ bs) 0 (xs ++ ys):=by
 have h1:=a.len;have h2:=b.len;refine⟨by rw [List.length_append,List.length_append,Nat.add_mul];omega,fun k x hk=>?_⟩;rw [Nat.zero_add];by_cases hk':k < xs.length
 ·rw [List.getElem?_append_left hk'] at hk;obtain⟨q,q1,q2⟩:=a.get k x hk;refine⟨q,?_,q2⟩;have:(k + 1) * e.sz <=xs.length * e.sz:=Nat.mul_le_mul_right _ hk';rw [Nat.succ_mul] at this;rw [Nat.zero_add] at q1;rw [← q1,List.drop_append,List.take_append_of_le_length (by rw [List.length_drop];omega)]
 ·rw [List.getElem?_append_right (by omega)] at hk;obtain⟨q,q1,q2⟩:=b.get _ x hk;refine⟨q,?_,q2⟩;have:xs.length * e.sz <=k * e.sz:=Nat.mul_le_mul_right _ (by omega);rw [Nat.zero_add] at q1;rw [← q1,List.drop_append,List.drop_of_length_le (by omega),List.nil_append,hl,Nat.sub_mul]
theorem Jp.one {wm:Nat} {cs:List Value} {xs:List α} (hl:cs.length=xs.length * e.sz) (a:Jp e wm h cs 0 xs):cs.all Value.oneCell'=true:=by
 rw [List.all_eq_true];intro v hv;obtain⟨j,hj⟩:=List.mem_iff_getElem?.1 hv;have hjl:j < cs.length:= (Li0 hj).1;have hp:=e.pos;have hk:j / e.sz < xs.length:=Nat.div_lt_of_lt_mul (by rw [Nat.mul_comm,← hl];exact hjl);obtain⟨q,q1,_⟩:=a.get (j / e.sz) xs[j / e.sz] (List.getElem?_eq_getElem hk);have hone:=e.one q xs[j / e.sz];rw [List.all_eq_true] at hone;refine hone v ?_;rw [← q1,List.mem_iff_getElem?];refine⟨j % e.sz,?_⟩;rw [List.getElem?_take_of_lt (Nat.mod_lt _ hp),List.getElem?_drop,Nat.zero_add];have:j / e.sz * e.sz + j % e.sz=j:=Nat.div_add_mod' j e.sz;rw [this];exact hj
theorem K7 (h:H) (i o m c sz:Nat):Go.Yj.reads h (.slice (some ⟨i,o,none⟩) m c) sz=bif Nat.beq m 0 then some [] else
 match h.at i with
 | .row cs _ _=>bif Nat.ble (o + m * sz) cs.length then some ((cs.drop o).take (m * sz)) else none
 | _=>none:=by cases i <;> cases o <;> rfl
theorem Src.reads {wm:Nat} {a:Option Addr} {c:Nat} {xs:List α} (s:Src e wm h a c xs):∃ vs,reads h (.slice a xs.length c) e.sz=some vs∧vs.length=xs.length * e.sz∧Jp e wm h vs 0 xs:=by
 rcases s.mem with z | ⟨i,o,cs,own,z,h1,h2,h3⟩
 ·subst z;refine⟨[],?_,by simp,Jp.nil (by simp)⟩;rcases s.nl with⟨rfl,rfl⟩ | ⟨rfl,rfl⟩ | ⟨i,o,rfl⟩
  ·rfl
  ·rfl
  ·rw [K7];rfl
 ·subst h1;by_cases hx:xs= []
  ·subst hx;exact⟨[],by rw [K7];rfl,by simp,Jp.nil (by simp)⟩
  ·have hl:=h3.len;have hpos:0 < xs.length:=List.length_pos_iff.2 hx;refine⟨(cs.drop o).take (xs.length * e.sz),?_,by rw [List.length_take,List.length_drop];omega,h3.cut⟩;rw [K7];have hb:Nat.beq xs.length 0=false:=by rw [Bool.eq_false_iff];intro hh;have:=Nb0 hh;omega
   simp only [hb,Cq0,h2];rw [Nm0 hl];rfl
theorem Zav.mk' {wm:Nat} {h:H} {xs:List α} {vs:List Value} {i c:Nat} (hm:xs.length <=9223372036854775807) (hlo:lo <=i) (hr:h.at i= .row vs true e.sz) (hc:xs.length <=c / 2) (hcl:(c / 2) * e.sz <=vs.length) (ha:Jp e wm h vs 0 xs):Zav e wm lo h (some ⟨i,0,none⟩) c xs:=
 ⟨hm,.inr ⟨i,0,vs,rfl,hlo,hr,hc,by omega,ha⟩⟩
def ZhB (P:Program) (ts:Array TypeId) (sz WW:Nat):Prop:=∃ el z,Wm P ts=some (el,sz,WW,z)
theorem ZAR {K:Prop} {J:Value ->H ->Prop} {ts:Array TypeId} {x y:Operand} {WW:Nat} {a a2:Option Addr} {c c2:Nat} {xs ys zs:List α} (lo:Nat) (k':∀ v E h1,XG X h (Y5 fr) ⟨some d,.call {callee:= .builtin .append,args:=#[x,y],argTypes:=ts},ty,p,af,g⟩=some (.val v,E) ->E.apply wm h=some h1 ->J v h1 ->K)
 (hi:ZhB X.P ts e.sz WW) (hw:wm <=lo) (hlo:lo <=h.size) (hx:Y5 fr x=some (.slice a xs.length c)) (hy:Y5 fr y=some (.slice a2 ys.length c2)) (so:Zav e wm lo h a c xs) (sr:Src e wm h a2 c2 ys) (ha:app WW xs ys=some zs)
 (k:∀ a' c' h',Up lo (Kn a) h h' ->Zav e wm lo h' a' c' zs ->(∀ i,Kn a' i ->Kn a i∨i=h.size) ->J (.slice a' zs.length c') h'):K:=by
 obtain⟨rfl,hbd⟩:=Zt7 ha;obtain⟨el,z,hi⟩:=hi;obtain⟨new,n1,n2,n3⟩:=sr.reads;have n4:=n3.one n2;have hpos:=e.pos;have hev:evs (Y5 fr) (#[x,y]:Array Operand).toList=some [.slice a xs.length c,.slice a2 ys.length c2]:=Zf hx (Zf hy Zm);have hls:Qw (.slice a2 ys.length c2)=ys.length:=rfl
 have key:∀ (v:Value) (E:Eff),QL X.P h ts (.slice a xs.length c) (.slice a2 ys.length c2)=some (v,E) ->XG X h (Y5 fr) ⟨some d,.call {callee:= .builtin .append,args:=#[x,y],argTypes:=ts},ty,p,af,g⟩=some (.val v,E):=by
  intro v E hE;rw [UN,hev];show vE (QL X.P h ts (.slice a xs.length c) (.slice a2 ys.length c2))=_;rw [hE];rfl
 have ZCT:WW=0∨(2 * (xs.length + ys.length) + 1000) <=2 ^ 47:=by
  rcases Nat.eq_zero_or_pos WW with z | z
  ·exact .inl z
  ·right;have:(2 * (xs.length + ys.length) + 1000) * 1 <= (2 * (xs.length + ys.length) + 1000) * WW:=Nat.mul_le_mul_left _ z;rw [Nat.mul_one] at this;exact Nat.le_trans this hbd
 have hby:1 <=WW:=by
  unfold Wm at hi;split at hi
  ·split at hi
   ·split at hi
    ·rename_i sz0 by0 z0 hs hb hz;cases hc:(Nat.ble 1 sz0 && Nat.ble 1 by0 && Nat.beq z0.cells.toList.length sz0) <;> rw [hc] at hi <;> simp at hi
     obtain⟨_,_,rfl,_⟩:=hi;rw [Ba0,Ba0] at hc;exact Nl0 hc.1.2
    ·cases hi
   ·cases hi
  ·cases hi
 have hmax:(xs ++ ys).length <=9223372036854775807:=by
  rw [List.length_append];rcases ZCT with z | z <;> omega
 have hle2:(xs ++ ys).length=xs.length + ys.length:=List.length_append;rcases so.mem with⟨rfl,rfl,rfl⟩ | ⟨i,o,cs,rfl,hlo2,hrow,hc1,hc2,hel⟩
 ·-- of nothing
  by_cases hy0:ys= []
  ·subst hy0;refine k' _ (.none) _ (key (.slice none 0 0) _ ?_) rfl ?_
   ·unfold QL;rw [hi];dsimp only;rw [n1];rfl
   ·exact k none 0 h ⟨Nat.le_refl _,fun _ _ _=>rfl,fun i hb=>by obtain⟨o,hb⟩:=hb;cases hb⟩ Zav.nil (fun i hb=>by obtain⟨o,hb⟩:=hb;cases hb)
  ·have hyl:0 < ys.length:=List.length_pos_iff.2 hy0;refine k' _ (.new (.row ([] ++ new) true e.sz)) _ (key (.slice (some ⟨h.size,0,none⟩) ([] ++ ys).length (2 * ([] ++ ys).length + 1)) _ ?_) rfl ?_
   ·unfold QL;rw [hi];dsimp only;rw [n1];dsimp only;rw [hls];have b1:Nat.ble (([]:List α).length + ys.length) (0 / 2)=false:=by rw [Bool.eq_false_iff];intro q;have q:=Nl0 q;rw [List.length_nil,Nat.zero_add,Nat.zero_div] at q;omega
    rw [b1,Nm0 hbd,n4];simp only [Cq0,Bool.and_self,Cq1];have b2:reads h (.slice none ([]:List α).length 0) e.sz=some []:=rfl;rw [b2];simp
   ·refine k _ _ _ ⟨Nat.le_succ _,fun i hi _=>Ki hi _,fun i hb=>by obtain⟨o,hb⟩:=hb;cases hb⟩ ?_ (fun i hb=>by obtain⟨o,hb⟩:=hb;cases hb;exact .inr rfl);refine Zav.mk' hmax hlo (J5 h _) (by simp only [List.nil_append];omega) ?_ ?_
    ·simp only [List.nil_append];rw [n2];have:(2 * ys.length + 1) / 2=ys.length:=by omega
     rw [this];omega
    ·simp only [List.nil_append];exact n3.mono ((Up.push lo h _).fz hw)
 ·have hown:(h.at i).own=true:=by rw [hrow];rfl
  have hil:i < h.size:=JN hrow rfl;have hxl:o + xs.length * e.sz <=cs.length:=hel.len;by_cases hroom:xs.length + ys.length <=c / 2
  ·-- there is room
   by_cases hy0:ys= []
   ·subst hy0;refine k' _ (.none) _ (key (.slice (some ⟨i,o,none⟩) xs.length c) _ ?_) rfl ?_
    ·unfold QL;rw [hi];dsimp only;rw [n1];dsimp only;rw [hls,Nm0 hroom];rfl
    ·have:=k (some ⟨i,o,none⟩) c h ⟨Nat.le_refl _,fun _ _ _=>rfl,fun j hb=>by obtain⟨o',hb⟩:=hb;cases hb;exact⟨hlo2,hown⟩⟩ (by simpa using so) (fun j hb=>.inl hb)
     simpa using this
   ·have hyl:0 < ys.length:=List.length_pos_iff.2 hy0
    have hfit:o + xs.length * e.sz + new.length <=cs.length:=by
     rw [n2];have:(xs.length + ys.length) * e.sz <=c / 2 * e.sz:=Nat.mul_le_mul_right _ hroom;rw [Nat.add_mul] at this;omega
    refine k' _ (.upd i (.row (splice cs (o + xs.length * e.sz) new) true e.sz)) (h.put i (.row (splice cs (o + xs.length * e.sz) new) true e.sz)) (key (.slice (some ⟨i,o,none⟩) (xs ++ ys).length c) _ ?_) ?_ ?_
    ·unfold QL;rw [hi];dsimp only;rw [n1];dsimp only;rw [hls,Nm0 hroom];have b1:Nat.beq ys.length 0=false:=by rw [Bool.eq_false_iff];intro q;have:=Nb0 q;omega
     rw [b1,hrow];simp only [Cq1,Cq0];rw [Nm0 hfit,n4,hle2];rfl
    ·show(bif Nat.ble wm i && (h.at i).own then some (h.put i _) else none)=_;rw [hown,Nm0 (Nat.le_trans hw hlo2)];rfl
    ·have hu:Up lo (Kn (some ⟨i,o,none⟩)) h (h.put i (.row (splice cs (o + xs.length * e.sz) new) true e.sz)):=
      ⟨Nat.le_refl _,fun j _ hn=>Jt (fun q=>hn ⟨o,by rw [q]⟩) _,fun j hb=>by obtain⟨o',hb⟩:=hb;cases hb;exact⟨hlo2,hown⟩⟩
     refine k _ _ _ hu ⟨hmax,.inr ⟨i,o,_,rfl,hlo2,Xj hil _,by rw [hle2];exact hroom,?_,?_⟩⟩ (fun j hb=>.inl hb)
     ·simp only [splice,List.length_append,List.length_take,List.length_drop];omega
     ·refine Jp.ZBx ?_ (Jp.mono (hu.fz hw) ?_)
      ·simp only [splice,List.length_append,List.length_take,List.length_drop,Nat.add_mul,← n2];omega
      ·have e1:((splice cs (o + xs.length * e.sz) new).drop o).take ((xs ++ ys).length * e.sz)= (cs.drop o).take (xs.length * e.sz) ++ new:=by
        have l1:(cs.take (o + xs.length * e.sz)).length=o + xs.length * e.sz:=by rw [List.length_take];omega
        unfold splice;rw [List.append_assoc,List.drop_append_of_le_length (by omega),hle2,Nat.add_mul,← n2,List.take_append];have l2:((cs.take (o + xs.length * e.sz)).drop o).length=xs.length * e.sz:=by rw [List.length_drop,l1];omega
        rw [l2,List.take_of_length_le (by rw [l2];omega),List.drop_take];congr 1
        ·congr 1;omega
        ·have:xs.length * e.sz + new.length - xs.length * e.sz=new.length:=by omega
         rw [this,List.take_append_of_le_length (Nat.le_refl _),List.take_of_length_le (Nat.le_refl _)]
       rw [e1];exact Jp.append (by rw [List.length_take,List.length_drop];omega) hel.cut n3
  ·-- it grows
   have b0:Nat.ble (xs.length + ys.length) (c / 2)=false:=by rw [Bool.eq_false_iff];intro q;exact hroom (Nl0 q)
   have hold:reads h (.slice (some ⟨i,o,none⟩) xs.length c) e.sz=some ((cs.drop o).take (xs.length * e.sz)):=by
    rw [K7];cases hb:Nat.beq xs.length 0 with
    | true=>
      have:=Nb0 hb;rw [this];simp
    | false=>
      simp only [Cq0,hrow];rw [Nm0 hxl];rfl
   have hol:((cs.drop o).take (xs.length * e.sz)).length=xs.length * e.sz:=by rw [List.length_take,List.length_drop];omega
   have hrl:((cs.drop o).take (xs.length * e.sz) ++ new).length= (xs ++ ys).length * e.sz:=by rw [List.length_append,hol,n2,hle2,Nat.add_mul]
   have hcap:(2 * (xs ++ ys).length + 1) / 2= (xs ++ ys).length:=by omega
   cases ZvL:Nat.beq (c % 2) 0 with
   | true=>
     refine k' _ (.new (.row ((cs.drop o).take (xs.length * e.sz) ++ new) true e.sz)) _ (key (.slice (some ⟨h.size,0,none⟩) (xs ++ ys).length (2 * (xs ++ ys).length + 1)) _ ?_) rfl ?_
     ·unfold QL;rw [hi];dsimp only;rw [n1];dsimp only;rw [hls,b0,Nm0 hbd,n4,hold,ZvL,hle2];rfl
     ·refine k _ _ _ ⟨Nat.le_succ _,fun j hj _=>Ki hj _,fun j hb=>by obtain⟨o',hb⟩:=hb;cases hb;exact⟨hlo2,hown⟩⟩ ?_ (fun j hb=>by obtain⟨o',hb⟩:=hb;cases hb;exact .inr rfl);refine Zav.mk' hmax hlo (J5 h _) (by omega) (by rw [hcap,hrl];exact Nat.le_refl _) ?_;exact(Jp.append hol hel.cut n3).mono ((Up.push lo h _).fz hw)
   | false=>
     refine k' _ (.grow i (.row ((cs.drop o).take (xs.length * e.sz) ++ new) true e.sz)) ((h.put i .dead).push (.row ((cs.drop o).take (xs.length * e.sz) ++ new) true e.sz)) (key (.slice (some ⟨h.size,0,none⟩) (xs ++ ys).length (2 * (xs ++ ys).length + 1)) _ ?_) ?_ ?_
     ·unfold QL;rw [hi];dsimp only;rw [n1];dsimp only;rw [hls,b0,Nm0 hbd,n4,hold,ZvL];simp only [Cq0,Bool.and_self,Cq1];rw [hrow];dsimp only;rw [Nat.beq_refl,hle2];rfl
     ·show(bif Nat.ble wm i && (h.at i).own && true then some ((h.put i .dead).push _) else none)=_;rw [hown,Nm0 (Nat.le_trans hw hlo2)];rfl
     ·have hu:Up lo (Kn (some ⟨i,o,none⟩)) h ((h.put i .dead).push (.row ((cs.drop o).take (xs.length * e.sz) ++ new) true e.sz)):=
       ⟨Nat.le_succ _,fun j hj hn=>by rw [Ki (by simpa using hj),Jt (fun q=>hn ⟨o,by rw [q]⟩)],fun j hb=>by obtain⟨o',hb⟩:=hb;cases hb;exact⟨hlo2,hown⟩⟩
      refine k _ _ _ hu ?_ (fun j hb=>by obtain⟨o',hb⟩:=hb;cases hb;exact .inr rfl);refine Zav.mk' hmax hlo (by have:=J5 (h.put i .dead) (.row ((cs.drop o).take (xs.length * e.sz) ++ new) true e.sz);simpa using this) (by omega) (by rw [hcap,hrl];exact Nat.le_refl _) ?_;exact(Jp.append hol hel.cut n3).mono (hu.fz hw)
end
theorem Kn.none {i:Nat}:¬ Kn Option.none i:=fun⟨_,h⟩=>by cases h
section
variable {α:Type} {e:Wv α} {lo:Nat} {h':H}
end
end Go.Yj
end
end
section
noncomputable section
namespace Go.Yj
open Go.Lf
variable {X:Ctx} {P:Program}
theorem Zch {α β:Type} (s:Sem α) (f:α ->Sem β):ZX P (s >>=f)=match ZX P s with
 | some (.ok a)=>ZX P (f a)
 | some (.error v)=>some (.error v)
 | none=>none:=by
 induction s with
 | pure a=>rfl
 | program k ih=>exact ih P
 | halt x=>cases x <;> rfl
 | load | store | new | shape | freeze | frozen | getObj | setObj | choose | sys | mark=>rfl
theorem prb {α β:Type} {s:Sem α} {f:α ->Sem β} {a:α} (h:ZX P s=some (.ok a)):ZX P (s >>=f)=ZX P (f a):=by rw [Zch,h]
theorem Xv {t:TypeId} {u:TypeDesc} (h:P.underlying t=some u):ZX P (underlying t)=some (.ok u):=by
 show ZX P (match P.underlying t with | some d=>pure d | none=>stuck "no such type")=_;rw [h];rfl
theorem eq_int {t:TypeId} {k:IntKind} {a b:Int} {d:Nat} (hu:P.underlying t=some (.int k)):ZX P (Op.equalIn (d + 1) t (.int k a) (.int k b))=some (.ok (a==b)):=by
 unfold Op.equalIn;rw [prb (Xv hu)];show ZX P (if k=k then pure (a==b) else stuck "==: kinds differ")=_;rw [if_pos rfl];rfl
theorem ZAm {t:TypeId} {a b:ByteArray} {d:Nat} (hu:P.underlying t=some .string):ZX P (Op.equalIn (d + 1) t (.string a) (.string b))=some (.ok (a==b)):=by
 unfold Op.equalIn;rw [prb (Xv hu)];rfl
theorem ZbP {t:TypeId} {cs:Array Value} {off:Nat} {v:Value} (ht:YL P t=some false) (hv:cs[off]? =some v):ZX P (part t cs off)=some (.ok v):=by
 unfold YL at ht;unfold part isAgg;cases hu:P.underlying t with
 | none=>rw [hu] at ht;cases ht
 | some u=>
   rw [hu] at ht;rw [prb (a:=false)]
   ·simp only [hv];rfl
   ·rw [prb (Xv hu)];cases u <;> first | rfl | (cases ht;done)
def FEq (P:Program) (d:Nat) (xs ys:Array Value):List Field ->List Bool ->Prop
 | [],[]=>True
 | f::fl,b::bs=>(f.name ≠ "_" ∧∃ v w,ZX P (part f.type xs f.offset)=some (.ok v)∧ZX P (part f.type ys f.offset)=some (.ok w)∧ZX P (Op.equalIn d f.type v w)=some (.ok b))∧FEq P d xs ys fl bs
 | _,_=>False
theorem ZvS {d:Nat} {xs ys:Array Value}:∀ {fl:List Field} {bs:List Bool},FEq P d xs ys fl bs ->
 ZX P (forIn fl ((none:Option Bool),()) fun f _=>if f.name ≠ "_" then do
  let a ← part f.type xs f.offset
  let b ← part f.type ys f.offset
  let r ← Op.equalIn d f.type a b
  if(!r)=true then pure (ForInStep.done (some false,())) else pure (ForInStep.yield (none,()))
  else pure (ForInStep.yield (none,())):Sem (Option Bool×Unit))=some (.ok (bif bs.all id then none else some false,())):=by
 intro fl
 induction fl with
 | nil=>
   intro bs h;cases bs with
   | nil=>rfl
   | cons=>exact h.elim
 | cons f fl ih=>
   intro bs h;cases bs with
   | nil=>exact h.elim
   | cons b bs=>
     obtain⟨⟨h1,v,w,h2,h3,h4⟩,h5⟩:=h;rw [List.forIn_cons,if_pos h1,Zch,prb h2,prb h3,prb h4];cases b with
     | false=>rfl
     | true=>
       have:=ih h5;have e:(true::bs).all id=bs.all id:=by simp
       rw [e,← this];rfl
theorem Zqw {t:TypeId} {fs:Array Field} {xs ys:Array Value} {d:Nat} {bs:List Bool} (hu:P.underlying t=some (.struct fs)) (hst:P.stoodInHeld t=false) (hf:FEq P d xs ys fs.toList bs):
 ZX P (Op.equalIn (d + 1) t (.agg xs) (.agg ys))=some (.ok (bs.all id)):=by
 unfold Op.equalIn;rw [prb (Xv hu)];show ZX P (if P.stoodInHeld t=true then _ else _)=_;rw [hst,if_neg (by simp)];dsimp only;have:=ZvS hf;rw [← Array.forIn_toList];rw [prb this];cases bs.all id <;> rfl
theorem Zl8 {t:TypeId} {x y:Operand} {xs ys:Array Value} {op:BinOp} (hop:op= .eql∨op= .neq) (hg:P.eqGuardType P.depth t=false):ZX P (eqGuard op t x y (.agg xs) (.agg ys))=some (.ok ()):=by
 rcases hop with rfl | rfl
 ·show ZX P (if(!P.eqGuardType P.depth t)=true then _ else _)=_;rw [hg];rfl
 ·show ZX P (if(!P.eqGuardType P.depth t)=true then _ else _)=_;rw [hg];rfl
def ZE5 (P:Program) (t:TypeId) (xs ys:List Value) (b:Bool):Prop:=P.eqGuardType P.depth t=false∧ZX P (Op.equal t (.agg xs.toArray) (.agg ys.toArray))=some (.ok b)
theorem Zuo {t:TypeId} {x y:Operand} {xs ys:List Value} {b:Bool} (h:ZE5 P t xs ys b) (h1:xs.all scalar=true) (h2:ys.all scalar=true):Ui P .eql t x y (.agg xs.toArray) (.agg ys.toArray)=some (.val (.bool b),.none):=by
 have hp:(plain (.agg xs.toArray) && plain (.agg ys.toArray))=true:=by
  have e1:plain (.agg xs.toArray)=xs.all scalar:=rfl;have e2:plain (.agg ys.toArray)=ys.all scalar:=rfl;rw [e1,e2,h1,h2];rfl
 unfold Ui;rw [hp,Cq1];unfold K8;rw [prb (Zl8 (.inl rfl) h.1)]
 have:ZX P (binOp .eql t (.agg xs.toArray) (.agg ys.toArray))=some (.ok (.bool b)):=by
  show ZX P (do pure (Value.bool (← Op.equal t (.agg xs.toArray) (.agg ys.toArray))):Sem Value)=_;rw [prb h.2];rfl
 rw [this];rfl
theorem Zb8 {h:H} {t:TypeId} {b o oo j:Nat} {vs:List Value} {v:Value} (ht:YL P t=some false) (ha:At h b o vs) (ho:oo=o + j) (hv:vs[j]? =some v):WU P h t (.pointer (some ⟨b,oo,none⟩))=some v:=by
 obtain⟨cs,own,z,h1,h2⟩:=ha.cell hv;subst ho;exact Slc.load h1 ht h2
theorem Zy {fr:Fr} {h:H}:Zbw P fr h []=some []:=rfl
theorem ZG {fr:Fr} {h:H} {t:Nat} {v:Value} {rs:List ResultVar} {vs:List Value} (hv:Y5 fr (.tmp t)=some v) (hr:Zbw P fr h rs=some vs):Zbw P fr h (.tmp t::rs)=some (v::vs):=by
 have e:Zmw P fr h (.tmp t)=some v:=hv;simp only [Zbw,e,hr]
theorem Zb6 {fr:Fr} {h:H} {a t:Nat} {p v:Value} {rs:List ResultVar} {vs:List Value} (hp:fr.at a=p) (hv:WU P h t p=some v) (hr:Zbw P fr h rs=some vs):Zbw P fr h (.cell a t::rs)=some (v::vs):=by
 have e:Zmw P fr h (.cell a t)=some v:=by show WU P h t (fr.at a)=some v;rw [hp];exact hv
 simp only [Zbw,e,hr]
theorem YT.Qx {fn:Func} {R:Value ->H ->Prop} {fr:Fr} {h:H} {wr:Option Nat} {rs:List ResultVar} {v:Value} (hr:fn.results.toList=rs) (hv:Zbw X.P fr h rs=some [v]) (k:R v h):YT X fn (fun e h'=>∃ v,e= .ret v∧R v h') .ret ⟨fr,[],h,wr⟩:=by
 refine⟨⟨rfl,v,?_,v,rfl,k⟩⟩;unfold Qt;dsimp only;rw [hr,hv]
theorem YT.gen {fn:Func} {R:Value ->H ->Prop} {fr:Fr} {h:H} {wr:Option Nat} {rs:List ResultVar} {vs:List Value} (hr:fn.results.toList=rs) (hv:Zbw X.P fr h rs=some vs) (hl:Nat.beq vs.length 1=false) (k:R (.tuple vs.toArray) h):YT X fn (fun e h'=>∃ v,e= .ret v∧R v h') .ret ⟨fr,[],h,wr⟩:=by
 refine⟨⟨rfl,_,?_,_,rfl,k⟩⟩;unfold Qt;dsimp only;rw [hr,hv]
 match vs,hl with
 | [],_=>rfl
 | [_],h=>cases h
 | _::_::_,_=>rfl
theorem YT.Zv {fn:Func} {R:Uo ->H ->Prop} {s:Fs} (k:YT X fn R .ret s):YT X fn R .normal s:= ⟨k.out⟩
end Go.Yj
end
end
section
noncomputable section
namespace Go.Yj
open Go.Lf
abbrev SfT:=List (Nat×Nat×Nat×(YN ->Prop))×List (Nat×List Nat)
variable {X:Ctx} {n wm:Nat} {rd:Option Nat} {ops:Array Oper} {l:List Oper} {fr:Fr} {ds:List Deferred} {h h1:H} {ty:TypeId} {p:String} {af:Array Edge} {g:Option (Nat×Bool)} {m:Nat} {sf:SfT}
def Zx1 (A:YN):Prop:=∀ (ρ ρ':Ren) (w:World) (b d:Nat) (l:Nat×Nat),QW ρ w b d l A ->QW ρ' w b d l A
def Prm (P:Program) (wm:Nat) (rd:Option Nat) (ops:Array Oper) (o:Oper) (fr:Fr) (h:H) (v:Value) (x:Nat) (C:YN ->Prop):Prop:=
 x < h.size∧Zx1 (h.at x)∧Qb P wm rd ops o (fun _=>False) fr h v h∧∀ A,C A ->Zx1 A∧Qb P wm rd ops o (fun _=>False) fr (h.put x A) v (h.put x A)
variable {Q:Fr ->H ->Prop}
theorem ZE4 (wm:Nat) (t:Option Nat):KZ false wm t=fun x=>t=some x:=by funext x;unfold KZ;simp
def SU (X:Ctx) (wm:Nat) (o:Oper) (fr:Fr) (h:H) (h1:H) (tg:Bool):Prop:=∃ E,XG X h (Y5 fr) o=some (.skip,E)∧E.apply wm h=some h1∧(tg=false ->E.tgt=none)
theorem ZtQ {ps:List Nat} {i j:Nat} (h:i ≠ j):comp ps i j=comp ps j i:=by
 unfold comp;rcases Nat.lt_or_ge i j with z | z
 ·have h1:Nat.blt i j=true:=by rw [Nat.blt_eq];exact z
  have h2:Nat.blt j i=false:=by rw [Bool.eq_false_iff];intro q;rw [Nat.blt_eq] at q;omega
  rw [h1,h2];rfl
 ·have h1:Nat.blt j i=true:=by rw [Nat.blt_eq];omega
  have h2:Nat.blt i j=false:=by rw [Bool.eq_false_iff];intro q;rw [Nat.blt_eq] at q;omega
  rw [h1,h2];rfl
theorem ZBB {x y:Operand} {t:TypeId} {b o z sz:Nat} {cs cs' vs:List Value} {v:Value} {d:Option Tmp} (hs:YG X.P t=some sz) (hx:Y5 fr x=some (.pointer (some ⟨b,o,none⟩))) (hy:Y5 fr y=some v)
 (hr:h.at b= .row cs true z) (hb:wm <=b) (hvs:v.cells.toList=vs) (hn:vs.length=sz) (hl:o + sz <=cs.length) (hc:vs.all Value.oneCell'=true) (hv:splice cs o vs=cs'):
 XG X h (Y5 fr) ⟨d,.store t x y,ty,p,af,g⟩=some (.skip,.upd b (.row cs' true z))∧(Eff.upd b (.row cs' true z)).apply wm h=some (h.put b (.row cs' true z)):=by
 subst hvs;refine⟨?_,?_⟩
 ·rw [ZqH,hx,hy];dsimp only
  have:ZeX X.P h t (.pointer (some ⟨b,o,none⟩)) v=some (.upd b (.row cs' true z)):=by
   unfold ZeX;rw [hs];dsimp only;rw [hr];dsimp only;have h1:Nat.beq v.cells.toList.length sz=true:=by rw [hn];exact Nat.beq_refl sz
   have h2:Nat.ble (o + sz) cs.length=true:=Nm0 hl;rw [h1,h2,hc,hv];rfl
  rw [this];rfl
 ·show(bif Nat.ble wm b && (h.at b).own then some (h.put b (.row cs' true z)) else none)=_;rw [hr];have:Nat.ble wm b=true:=Nm0 hb;rw [this];rfl
theorem U3 {d:Option Tmp} {t:TypeId} {ps:Array (Nat×Operand)} {zs cs':List Value} {pl:List (Nat×Nat)} {pvs:List (Nat×Value)} {ev:Operand ->Option Value} (hb:Km X.P t zs pl) (hp:evp ev ps.toList=some pvs) (ho:ZgU (fun i=>pl[i]?) zs.length pvs=true) (hv:ZlW (fun i=>(pl.getD i (0,0)).1) zs pvs=cs'):
 XG X h ev ⟨d,.build t ps,ty,p,af,g⟩=some (.val (.agg cs'.toArray),.none):=by
 subst hv;obtain⟨z,fs,h1,rfl,h3,h4⟩:=hb;show(match evp ev ps.toList with | some ps=>vN (Zhw X.P t ps) | none=>none)=_;rw [hp];dsimp only;unfold Zhw;rw [h1,h3];dsimp only;rw [h4];dsimp only;rw [ZmB (off:=fun i=>(pl.getD i (0,0)).1) (fun i p e=>by rw [List.getD_eq_getElem?_getD,e];rfl) _ _ ho]
 rfl
section
variable {α:Type} {e:Wv α}
end
end Go.Yj
end
end
section
noncomputable section
namespace Go.Yj
open Go.Lf
variable {X:Ctx} {P:Program} {κ ν:Type} [DecidableEq κ]
structure Ze4 (P:Program) (kt:TypeId) (kv:κ ->Value):Prop where
 pl:∀ x,plain (kv x)=true
 ok:∀ e x,Zay P e kt (kv x)=true
 same:∀ x,Instr.sameBits 10000 (kv x) (kv x)=true
 eq:∀ x y,ZX P (Op.equal kt (kv x) (kv y))=some (.ok (decide (x=y)))
 kind:∃ u,P.underlying kt=some u∧((∀ x y,Instr.sameNow u (kv x) (kv y)=none)∨∀ x y,Instr.sameNow u (kv x) (kv y)=some (decide (x=y)))
def XM (kv:κ ->Value) (vv:ν ->Value) (l:List (κ×ν)) (bs:List Nat):List MapEntry:=List.zipWith (fun p b=>⟨kv p.1,vv p.2,b⟩) l bs
variable {kt:TypeId} {kv:κ ->Value} {vv:ν ->Value}
theorem ZlV (K:Ze4 P kt kv) (k:κ):∀ (l:List (κ×ν)) (bs:List Nat) (i:Nat),bs.length=l.length ->ZX P (Instr.findAsking kt (kv k) (XM kv vv l bs) i)=some (.ok ((YA l k).map fun q=>(i + q.1,vv q.2))):=by
 intro l
 induction l with
 | nil=>intro bs i _;rfl
 | cons p l ih=>
   intro bs i hb;cases bs with
   | nil=>cases hb
   | cons b bs=>
     show ZX P (do if ← Op.equal kt (kv k) (kv p.1) then pure (some (i,vv p.2)) else Instr.findAsking kt (kv k) (XM kv vv l bs) (i + 1))=_;rw [prb (K.eq k p.1)];unfold YA;by_cases e:p.1=k
     ·rw [if_pos e,decide_eq_true e.symm];rfl
     ·rw [if_neg e,decide_eq_false (fun z=>e z.symm)];show ZX P (Instr.findAsking kt (kv k) (XM kv vv l bs) (i + 1))=_;rw [ih bs (i + 1) (by simpa using hb)];cases YA l k with
      | none=>rfl
      | some q=>simp [Nat.add_assoc,Nat.add_comm 1]
theorem Ztr {u:TypeDesc} (hs:∀ x y,Instr.sameNow u (kv x) (kv y)=some (decide (x=y))) (k:κ):∀ (l:List (κ×ν)) (bs:List Nat) (i:Nat),bs.length=l.length ->Instr.findNow u (kv k) (XM kv vv l bs) i=some ((YA l k).map fun q=>(i + q.1,vv q.2)):=by
 intro l
 induction l with
 | nil=>intro bs i _;rfl
 | cons p l ih=>
   intro bs i hb;cases bs with
   | nil=>cases hb
   | cons b bs=>
     show(match Instr.sameNow u (kv k) (kv p.1) with | some true=>some (some (i,vv p.2)) | some false=>Instr.findNow u (kv k) (XM kv vv l bs) (i + 1) | none=>none)=_;rw [hs];unfold YA;by_cases e:p.1=k
     ·rw [if_pos e,decide_eq_true e.symm];rfl
     ·rw [if_neg e,decide_eq_false (fun z=>e z.symm)];show Instr.findNow u (kv k) (XM kv vv l bs) (i + 1)=_;rw [ih bs (i + 1) (by simpa using hb)];cases YA l k with
      | none=>rfl
      | some q=>simp [Nat.add_assoc,Nat.add_comm 1]
theorem Zd7 (K:Ze4 P kt kv) (k:κ) (l:List (κ×ν)) (bs:List Nat) (hb:bs.length=l.length):Zfu P kt (kv k) (XM kv vv l bs)=some ((YA l k).map fun q=>(q.1,vv q.2)):=by
 obtain⟨u,hu,hk⟩:=K.kind;unfold Zfu Instr.findKey;rw [prb (Xv hu)];rcases hk with hk | hk
 ·cases l with
  | nil=>cases bs with
    | nil=>rfl
    | cons=>cases hb
  | cons p l=>
    cases bs with
    | nil=>cases hb
    | cons b bs=>
      have:Instr.findNow u (kv k) (XM kv vv (p::l) (b::bs)) 0=none:=by
       show(match Instr.sameNow u (kv k) (kv p.1) with | some true=>some (some (0,vv p.2)) | some false=>Instr.findNow u (kv k) (XM kv vv l bs) (0 + 1) | none=>none)=_;rw [hk]
      rw [this];dsimp only;rw [ZlV K k (p::l) (b::bs) 0 hb];simp
 ·rw [Ztr hk k l bs 0 hb];simp only [Nat.zero_add];rfl
omit [DecidableEq κ] in
theorem Zlc {l l2:List (κ×ν)} {bs b2:List Nat} (hb:bs.length=l.length):XM kv vv (l ++ l2) (bs ++ b2)=XM kv vv l bs ++ XM kv vv l2 b2:=by
 unfold XM;rw [List.zipWith_append hb.symm]
omit [DecidableEq κ] in
theorem Zr5 {l:List (κ×ν)} {bs:List Nat} {j:Nat} {p:κ×ν} {b:Nat} (h1:l[j]? =some p) (h2:bs[j]? =some b):(XM kv vv l bs)[j]? =some ⟨kv p.1,vv p.2,b⟩:=by
 unfold XM;rw [List.getElem?_zipWith,h1,h2]
omit [DecidableEq κ] in
theorem Zla {l:List (κ×ν)} {bs:List Nat} (f:MapEntry ->MapEntry) (g:κ×ν ->κ×ν) (hfg:∀ p b,f ⟨kv p.1,vv p.2,b⟩= ⟨kv (g p).1,vv (g p).2,b⟩) (j:Nat):(XM kv vv l bs).modify j f=XM kv vv (l.modify j g) bs:=by
 induction l generalizing bs j with
 | nil=>simp [XM]
 | cons p l ih=>
   cases bs with
   | nil=>simp [XM]
   | cons b bs=>
     cases j with
     | zero=>simp only [XM,List.zipWith_cons_cons,List.modify_zero_cons,hfg]
     | succ j=>simp only [XM,List.zipWith_cons_cons,List.modify_succ_cons];congr 1;exact ih j
structure MapAt (kv:κ ->Value) (vv:ν ->Value) (h:H) (m:Option Nat) (l:List (κ×ν)):Prop where
 mem:(m=none∧l= [])∨∃ i bs Qm,m=some i∧h.at i= .map (XM kv vv l bs) Qm∧bs.length=l.length∧bs.Nodup∧∀ b ∈ bs,b < Qm
structure Zh9 (kv:κ ->Value) (vv:ν ->Value) (wm:Nat) (h:H) (m:Option Nat) (l:List (κ×ν)):Prop where
 at_:MapAt kv vv h m l
 low:∀ i,m=some i ->i < wm
structure ZAX (kv:κ ->Value) (vv:ν ->Value) (lo:Nat) (h:H) (m:Option Nat) (l:List (κ×ν)):Prop where
 at_:MapAt kv vv h m l
 low:∀ i,m=some i ->lo <=i
variable {wm lo:Nat} {h h':H} {m:Option Nat} {l:List (κ×ν)}
theorem map_lt {i:Nat} {es:List MapEntry} {c:Nat} (e:h.at i= .map es c):i < h.size:=JN e rfl
omit [DecidableEq κ] in
theorem MapAt.lt (s:MapAt kv vv h m l) {i:Nat} (e:m=some i):i < h.size:=by
 rcases s.mem with⟨q,_⟩ | ⟨j,bs,Qm,q,h1,_⟩
 ·rw [q] at e;cases e
 ·rw [q] at e;cases e;exact map_lt h1
omit [DecidableEq κ] in
theorem MapAt.keep (s:MapAt kv vv h m l) (k:∀ i,m=some i ->h'.at i=h.at i):MapAt kv vv h' m l:=
 ⟨s.mem.imp id fun⟨i,bs,Qm,q,h1,h2⟩=>⟨i,bs,Qm,q,by rw [k i q];exact h1,h2⟩⟩
omit [DecidableEq κ] in
theorem Zh9.fz (s:Zh9 kv vv wm h m l) (f:Fz wm h h'):Zh9 kv vv wm h' m l:= ⟨s.at_.keep fun i e=>f.low i (s.low i e) (s.at_.lt e),s.low⟩
omit [DecidableEq κ] in
theorem MapAt.all (s:MapAt kv vv h m l):Zh9 kv vv h.size h m l:= ⟨s,fun _ e=>s.lt e⟩
section
variable {ops:Array Oper} {ol:List Oper} {fr:Fr} {ds:List Deferred} {ty:TypeId} {p:String} {af:Array Edge} {g:Option (Nat×Bool)} {d:Option Tmp} {vt:TypeId} {ev:Operand ->Option Value}
omit [DecidableEq κ] in
theorem ZpD (s:MapAt kv vv h m l):∃ bs c,ZfD h (.map m)=some (XM kv vv l bs,c)∧bs.length=l.length:=by
 rcases s.mem with⟨rfl,rfl⟩ | ⟨i,bs,Qm,rfl,h1,h2,_⟩
 ·exact⟨[],0,rfl,rfl⟩
 ·refine⟨bs,Qm,?_,h2⟩;unfold ZfD;dsimp only;rw [h1]
theorem ZAM {t:TypeId} {x y:Operand} {k:κ} {z:ν} (K:Ze4 X.P kt kv) (hu:X.P.underlying t=some (.map kt vt)) (hz:Y3 X.P vt=some (vv z)) (hx:ev x=some (.map m)) (hy:ev y=some (kv k)) (s:MapAt kv vv h m l):
 XG X h ev ⟨d,.lookup t x y false,ty,p,af,g⟩=some (.val (vv ((Y0 l k).getD z)),.none):=by
 obtain⟨bs,c,h1,h2⟩:=ZpD s;show(match ev x,ev y with | some m,some k=>vN (Wn X.P h t m k false) | _,_=>none)=_;rw [hx,hy];dsimp only
 have:Wn X.P h t (.map m) (kv k) false=some (vv ((Y0 l k).getD z)):=by
  unfold Wn;rw [hu,h1];dsimp only;rw [K.ok,Cq1,Zd7 K k l bs h2];unfold Y0;cases YA l k with
  | some q=>rfl
  | none=>
    show(match Y3 X.P vt with | some z=>some (bif false then Value.tuple #[z,.bool false] else z) | none=>none)=_;rw [hz];rfl
 rw [this];rfl
theorem Zwz {t:TypeId} {x y:Operand} {k:κ} {z:ν} (K:Ze4 X.P kt kv) (hu:X.P.underlying t=some (.map kt vt)) (hz:Y3 X.P vt=some (vv z)) (hx:ev x=some (.map m)) (hy:ev y=some (kv k)) (s:MapAt kv vv h m l):
 XG X h ev ⟨d,.lookup t x y true,ty,p,af,g⟩=some (.val (.tuple [vv ((Y0 l k).getD z),.bool (Y0 l k).isSome].toArray),.none):=by
 obtain⟨bs,c,h1,h2⟩:=ZpD s;show(match ev x,ev y with | some m,some k=>vN (Wn X.P h t m k true) | _,_=>none)=_;rw [hx,hy];dsimp only
 have:Wn X.P h t (.map m) (kv k) true=some (.tuple [vv ((Y0 l k).getD z),.bool (Y0 l k).isSome].toArray):=by
  unfold Wn;rw [hu,h1];dsimp only;rw [K.ok,Cq1,Zd7 K k l bs h2];unfold Y0;cases YA l k with
  | some q=>rfl
  | none=>
    show(match Y3 X.P vt with | some z=>some (bif true then Value.tuple #[z,.bool false] else z) | none=>none)=_;rw [hz];rfl
 rw [this];rfl
theorem Zd2 {t:TypeId} {x y:Operand} {k:κ} {z v:ν} {w:Value} (K:Ze4 X.P kt kv) (hu:X.P.underlying t=some (.map kt vt)) (hz:Y3 X.P vt=some (vv z)) (hx:ev x=some (.map m)) (hy:ev y=some (kv k)) (s:MapAt kv vv h m l) (hv:Zjj l k z=some v) (hw:vv v=w):
 XG X h ev ⟨d,.lookup t x y false,ty,p,af,g⟩=some (.val w,.none):=by
 rw [ZAM K hu hz hx hy s,Oi0 hv,hw]
theorem Zt2 {t:TypeId} {x y:Operand} {k:κ} {z:ν} {v:ν×Bool} {w:Value} (K:Ze4 X.P kt kv) (hu:X.P.underlying t=some (.map kt vt)) (hz:Y3 X.P vt=some (vv z)) (hx:ev x=some (.map m)) (hy:ev y=some (kv k)) (s:MapAt kv vv h m l) (hv:ZrD l k z=some v) (hw:vv v.1=w):
 XG X h ev ⟨d,.lookup t x y true,ty,p,af,g⟩=some (.val (.tuple [w,.bool v.2].toArray),.none):=by
 have:=Oi0 hv;subst this;rw [Zwz K hu hz hx hy s,hw]
theorem Zpu {i:Nat} {es es':List MapEntry} {c c':Nat} (hw:wm <=i) (h1:h.at i= .map es c):Eff.apply wm h (.upd i (.map es' c'))=some (h.put i (.map es' c')):=by
 show(bif Nat.ble wm i && (h.at i).own then some (h.put i _) else none)=_;rw [h1,Nm0 hw];rfl
theorem Zrd {i:Nat} {es:List MapEntry} {c:Nat} {A:YN} (hl:lo <=i) (h1:h.at i= .map es c):Up lo (fun j=>some i=some j) h (h.put i A):=
 ⟨Nat.le_refl _,fun j _ hn=>Jt (fun q=>hn (by rw [q])) A,fun j e=>by cases e;exact⟨hl,by rw [h1];rfl⟩⟩
theorem Zyk {fr:Fr} {t:TypeId} {x y z:Operand} {k:κ} {v:ν} (K:Ze4 X.P kt kv) (hu:X.P.underlying t=some (.map kt vt)) (hw:wm <=lo) (hx:Y5 fr x=some (.map m)) (hm:m.isSome=true) (hy:Y5 fr y=some (kv k)) (hz:Y5 fr z=some (vv v)) (s:ZAX kv vv lo h m l):
 ∃ h',SU X wm ⟨d,.mapUpdate t x y z,ty,p,af,g⟩ fr h h' true∧Up lo (fun j=>m=some j) h h'∧ZAX kv vv lo h' m (QR l k v):=by
 obtain⟨i,rfl⟩:=Option.isSome_iff_exists.1 hm;have hlo:=s.low i rfl;rcases s.at_.mem with⟨q,_⟩ | ⟨j,bs,Qm,q,h1,h2,h3,h4⟩
 ·cases q
 ·cases q
  have key:∀ E,X9 X.P h t (.map (some i)) (kv k) (vv v)=some E ->XG X h (Y5 fr) ⟨d,.mapUpdate t x y z,ty,p,af,g⟩=some (.skip,E):=fun E hE=>by
   show(match Y5 fr x,Y5 fr y,Y5 fr z with | some m,some k,some x=>sE (X9 X.P h t m k x) | _,_,_=>none)=_;rw [hx,hy,hz];dsimp only;rw [hE];rfl
  have ham:ZfD h (.map (some i))=some (XM kv vv l bs,Qm):=by unfold ZfD;dsimp only;rw [h1]
  cases e:YA l k with
  | some q=>
    have hq:=Zgr e;have hql:q.1 < bs.length:=by rw [h2];exact(Li0 hq).1
    have hbq:bs[q.1]? =some bs[q.1]:=List.getElem?_eq_getElem hql
    have hmod:(XM kv vv l bs).modify q.1 (fun e=>{e with key:=kv k,val:=vv v})=XM kv vv (l.modify q.1 fun p=>(p.1,v)) bs:=by
     have h5:(XM kv vv l bs).modify q.1 (fun e=>{e with key:=kv k,val:=vv v})=XM kv vv (l.modify q.1 fun _=>(k,v)) bs:=Zla _ _ (fun p b=>rfl) _;rw [h5];congr 1;apply List.ext_getElem?;intro n;rw [List.getElem?_modify,List.getElem?_modify];by_cases hn:q.1=n
     ·subst hn;rw [hq];simp
     ·simp [hn]
    refine⟨_,⟨.upd i (.map (XM kv vv (l.modify q.1 fun p=>(p.1,v)) bs) Qm),key _ ?_,Zpu (Nat.le_trans hw hlo) h1,fun z=>by cases z⟩,Zrd hlo h1,⟨⟨.inr ⟨i,bs,Qm,rfl,?_,?_,h3,h4⟩⟩,s.low⟩⟩
    ·unfold X9;rw [hu,ham];dsimp only;rw [K.ok,Cq1,Zd7 K k l bs h2,e];dsimp only [Option.map_some];rw [Zr5 hq hbq];dsimp only;rw [K.same,Cq1,hmod]
    ·rw [Xj (map_lt h1)];unfold QR;rw [e]
    ·unfold QR;rw [e];simpa using h2
  | none=>
    refine⟨_,⟨.upd i (.map (XM kv vv (l ++ [(k,v)]) (bs ++ [Qm])) (Qm + 1)),key _ ?_,Zpu (Nat.le_trans hw hlo) h1,fun z=>by cases z⟩,Zrd hlo h1,⟨⟨.inr ⟨i,bs ++ [Qm],Qm + 1,rfl,?_,?_,?_,?_⟩⟩,s.low⟩⟩
    ·unfold X9;rw [hu,ham];dsimp only;rw [K.ok,Cq1,Zd7 K k l bs h2,e,Zlc h2];rfl
    ·rw [Xj (map_lt h1)];unfold QR;rw [e]
    ·unfold QR;rw [e];simp [h2]
    ·rw [List.nodup_append];exact⟨h3,by simp,fun a ha b hb=>by simp at hb;subst hb;exact Nat.ne_of_lt (h4 a ha)⟩
    ·intro b hb;rw [List.mem_append] at hb;rcases hb with hb | hb
     ·have:=h4 b hb;omega
     ·simp at hb;omega
end
end Go.Yj
end
end
section
noncomputable section
namespace Go.Yj
open Go.Lf
variable {P:Program}
theorem ZAv {e:Bool} {t:TypeId} {v:Value} {d:Nat} (hu:P.underlying t=some .string):ZX P (Instr.checkKey e (d + 1) t v)=some (.ok ()):=by
 unfold Instr.checkKey;rw [prb (Xv hu)];rfl
end Go.Yj
end
end
section
noncomputable section
namespace Go.Yj
open Go.Lf
variable {X:Ctx} {n wm lo:Nat} {Q:XX ->Fs ->Prop} {fr:Fr} {ds:List Deferred} {h:H}
structure BdK (n lo l:Nat) (fr:Fr) (ps:Array Tmp) (Yr bd:Code) (df:Nat) (R:H ->Prop) (e:XX) (s:Fs):Prop where
 out:e= .normal∧s.h.at l= .loop .busy none fr n ps Yr bd df∧∀ h',(lo <=l ->Up lo (fun i=>i=l) s.h h') ->h'.at l= .loop .ready none fr n ps Yr bd df ->R h'
structure AsK (X:Ctx) (n wm lo l:Nat) (fr:Fr) (ps:Array Tmp) (Yr bd:Code) (df:Nat) (R:H ->Prop) (e:XX) (s:Fs):Prop where
 out:e= .normal∧s.h.at l= .loop .ready none fr n ps Yr bd df∧∀ h1,(lo <=l ->Up lo (fun i=>i=l) s.h h1) ->h1.at l= .loop .busy none fr n ps Yr bd df ->WC X n wm (some l) bd ⟨s.fr,s.ds,h1,s.wr⟩ (BdK n lo l fr ps Yr bd df R)
theorem BdK.mk' {l:Nat} {fr QD:Fr} {ps:Array Tmp} {Yr bd:Code} {df:Nat} {R:H ->Prop} (h1:h.at l= .loop .busy none fr n ps Yr bd df) (k:∀ h',(lo <=l ->Up lo (fun i=>i=l) h h') ->h'.at l= .loop .ready none fr n ps Yr bd df ->R h'):BdK n lo l fr ps Yr bd df R .normal ⟨QD,ds,h,none⟩:= ⟨⟨rfl,h1,k⟩⟩
theorem AsK.mk' {l:Nat} {fr QD:Fr} {ps:Array Tmp} {Yr bd:Code} {df:Nat} {R:H ->Prop} (h1:h.at l= .loop .ready none fr n ps Yr bd df) (k:∀ h1,(lo <=l ->Up lo (fun i=>i=l) h h1) ->h1.at l= .loop .busy none fr n ps Yr bd df ->WC X n wm (some l) bd ⟨QD,ds,h1,none⟩ (BdK n lo l fr ps Yr bd df R)):AsK X n wm lo l fr ps Yr bd df R .normal ⟨QD,ds,h,none⟩:= ⟨⟨rfl,h1,k⟩⟩
def Zut (X:Ctx) (l:Nat) (args:Array Value) (wm:Nat) (h:H) (R:Bool ->H ->Prop):Prop:=∃ b h',R b h'∧Yu X (.round l args wm h) (.fin (.ret (.bool b)) h')
theorem Zut.mk' {l:Nat} {args:List Value} {fr fr1:Fr} {ps:Array Tmp} {Yr bd:Code} {df:Nat} {R:H ->Prop} (lo:Nat) (hat:h.at l= .loop .ready none fr n ps Yr bd df) (hw:wm <=l) (hl:Nat.beq args.length ps.toList.length=true) (hs:Qf (ps.toList.zip args) n fr=some fr1)
 (k:WC X n wm (some l) Yr ⟨fr1,[],h,none⟩ (AsK X n wm lo l fr ps Yr bd df R)):Zut X l args.toArray wm h (fun b h'=>b=true∧R h'):=by
 obtain⟨e1,s1,⟨rfl,h1,k1⟩,j1⟩:=k;have o1:(s1.h.at l).own=true:=by rw [h1];rfl
 have s1l:=JN h1 rfl;obtain⟨e2,s2,⟨rfl,h2,k2⟩,j2⟩:=k1 (s1.h.put l (.loop .busy none fr n ps Yr bd df)) (fun hl=>Up.put hl o1) (Xj s1l _);have o2:(s2.h.at l).own=true:=by rw [h2];rfl
 refine⟨true,s2.h.put l (.loop .ready none fr n ps Yr bd df),⟨rfl,k2 _ (fun hl=>Up.put hl o2) (Xj (JN h2 rfl) _)⟩,?_⟩
 classical
 let ih:Qg ->Option YF:=fun j=>if j= .code Yr n wm (some l) ⟨fr1,[],h,none⟩ then some (.code .normal s1) else JA (.code bd n wm (some l) {s1 with h:=s1.h.put l (.loop .busy none fr n ps Yr bd df)}) (.code .normal s2) j
 have HI:∀ j r,ih j=some r ->Yu X j r:=by
  intro j r e;dsimp only [ih] at e;split at e
  ·rename_i hj;cases e;rw [hj];exact j1
  ·exact Xg (X:=X) j2 j r e
 refine Kv (C:=cfg X fun _=>false) (ih:=ih) HI ?_;unfold Zb2;rw [hat];have hl':Nat.beq args.toArray.toList.length ps.toList.length=true:=hl;dsimp only;rw [Nm0 hw,hl'];simp only [Bool.and_self,Cq1];have hs':Qf (ps.toList.zip args.toArray.toList) n fr=some fr1:=hs;rw [hs'];dsimp only;have i1:ih (.code Yr n wm (some l) {fr:=fr1,ds:= [],h:=h})=some (.code .normal s1):=by dsimp only [ih];rw [if_pos rfl]
 rw [i1];show WS ih l bd n wm .normal s1=_;unfold WS;dsimp only;rw [h1];dsimp only
 have i2:ih (.code bd n wm (some l) {s1 with h:=s1.h.put l (.loop .busy none fr n ps Yr bd df)})=some (.code .normal s2):=by
  dsimp only [ih];split
  ·rename_i hj;exfalso;injection hj with _ _ _ _ hs
   have:({s1 with h:=s1.h.put l (.loop .busy none fr n ps Yr bd df)}:Fs).h.at l=h.at l:=by rw [hs]
   dsimp only at this;rw [Xj s1l,hat] at this;cases this
  ·exact Xh _ _
 rw [i2];show Jl l .normal s2=_;unfold Jl;rw [h2]
section
variable {ops:Array Oper} {ol:List Oper} {d:Nat} {ty:TypeId} {p:String} {af:Array Edge} {g:Option (Nat×Bool)} {rd:Option Nat}
theorem WO.round {l:Nat} {args:Array Value} {E:Eff} {v:Value} {h1 h2:H} {op:Op} (hg:Yi ops ⟨some d,op,ty,p,af,g⟩ fr) (hd:Nat.blt d n=true) (ha:XG X h (Y5 fr) ⟨some d,op,ty,p,af,g⟩=some (.round l args,E)) (hE:E.apply wm h=some h1)
 (hc:Yu X (.round l args wm h1) (.fin (.ret v) h2)) (k:WO X n wm rd ops ol ⟨Tr.set fr d v,ds,h2,none⟩ Q):WO X n wm rd ops (⟨some d,op,ty,p,af,g⟩::ol) ⟨fr,ds,h,none⟩ Q:=by
 have hd':Zhg n (some d)=true:=hd;refine WO.cons (Xg hc) (s1:= ⟨Tr.set fr d v,ds,h2,none⟩) ?_ k;unfold Uv;rw [hg.1,hg.2];dsimp only [Bool.not_true,Cq0,Cq1];rw [ha];dsimp only [Bool.not_true,Cq0,Cq1];rw [hE];unfold Kh;dsimp only [J9,Cq0];rw [Xh];dsimp only;rw [Zd3 hd']
 rfl
theorem WO.yld {l:Nat} {fo:Operand} {xs:Array Operand} {ts:Array TypeId} {vs:List Value} {R:Bool ->H ->Prop} {st:LoopState} {pd:Option Code} {fr':Fr} {n':Nat} {ps:Array Tmp} {Yr bd:Code} {df:Nat}
 (hg:Yi ops ⟨some d,.call {callee:= .value fo,args:=xs,argTypes:=ts},ty,p,af,g⟩ fr) (hd:Nat.blt d n=true) (hf:Y5 fr fo=some (.func (.yield l) #[] #[])) (hx:evs (Y5 fr) xs.toList=some vs)
 (hat:h.at l= .loop st pd fr' n' ps Yr bd df) (hl:vs.length=ps.toList.length) (hr:Zut X l vs.toArray wm h R) (k:∀ b h',R b h' ->WO X n wm rd ops ol ⟨Tr.set fr d (.bool b),ds,h',none⟩ Q):
 WO X n wm rd ops (⟨some d,.call {callee:= .value fo,args:=xs,argTypes:=ts},ty,p,af,g⟩::ol) ⟨fr,ds,h,none⟩ Q:=by
 obtain⟨b,h',hR,hj⟩:=hr;refine WO.round (E:= .none) hg hd ?_ rfl hj (k b h' hR);rw [Zb7,hx];dsimp only;rw [hf];dsimp only;unfold Ux;dsimp only;rw [hat];dsimp only;rw [hl,Nat.beq_refl];rfl
theorem WO.ZjJ {o:Oper} {c:Bool} (_:Ze ops o fr c) (h1:c=true ->WO X n wm rd ops (o::ol) ⟨fr,ds,h,none⟩ Q) (h2:c=false ->WO X n wm rd ops (o::ol) ⟨fr,ds,h,none⟩ Q):WO X n wm rd ops (o::ol) ⟨fr,ds,h,none⟩ Q:=by
 cases c
 ·exact h2 rfl
 ·exact h1 rfl
theorem Ze.on {o:Oper} {c:Bool} (hg:Ze ops o fr c) (hc:c=true):Yi ops o fr:= ⟨hg.1,hg.2.trans hc⟩
theorem Ze.off {o:Oper} {c:Bool} (hg:Ze ops o fr c) (hc:c=false):Zeb ops o fr:= ⟨hg.1,hg.2.trans hc⟩
end
structure Z8 (X:Ctx) (fn:Func) (wm:Nat) (Q:Uo ->H ->Prop) (e:XX) (s:Fs):Prop where
 out:∃ pm E h',xPM e=some pm∧Q E h'∧Yu X (.leave fn wm pm s) (.fin E h')
theorem WF.ZAn {f:FuncId} {fn:Func} {c:Code} {args:Array Value} {Q:Uo ->H ->Prop} (hf:X.fns.get f=some fn) (hb:fn.body=some c) (hn:args.toList.length <=fn.ntmps)
 (k:WC X fn.ntmps wm none c {fr:=XQ args.toList 0 .nil,ds:= [],h:=h} (Z8 X fn wm Q)):WF X f args wm h Q:=by
 obtain⟨e,s',⟨pm,E,h',hpm,hq,hj⟩,ka⟩:=k;refine⟨E,h',hq,?_⟩;intro ρ args' w ZQ hr hv
 have hi:Inv ρ fn.ntmps {fr:=XQ args.toList 0 .nil,ds:= [],h:=h} {tmps:=args' ++ Array.replicate (fn.ntmps - args'.size) undef,defers:= []} w:=
  ⟨hr,UG hv hn,.nil⟩
 refine callsIn_of_wp_marks (X.ok f fn hf).1 hb (ZeA hf) (wpIn_mono (ka ρ _ w base ZQ hi rfl) ?_);rintro e' a' w' ⟨ρ',he,hi',hst⟩;cases he with
 | normal=>cases hpm;exact hj ρ' _ a' .returning w' _ (Nat.le_trans ZQ hst.size) hi' .ret (fun _ _ hp=>Uk.trans hr.lt hst hp)
 | ret=>cases hpm;exact hj ρ' _ a' .returning w' _ (Nat.le_trans ZQ hst.size) hi' .ret (fun _ _ hp=>Uk.trans hr.lt hst hp)
 | panic hv'=>cases hpm;exact hj ρ' _ a' _ w' _ (Nat.le_trans ZQ hst.size) hi' (.Yn hv') (fun _ _ hp=>Uk.trans hr.lt hst hp)
 | exit id=>cases hpm
 | goto l=>cases hpm
theorem WF.Qq {f:FuncId} {fn:Func} {c:Code} {args:List Value} {n:Nat} {R:Uo ->H ->Prop} (hf:X.fns.get f=some fn) (hb:fn.body=some c) (hnt:fn.ntmps=n) (hn:args.length <=n)
 (k:WC X n wm none c ⟨XQ args 0 .nil,[],h,none⟩ (Z8 X fn wm R)):WF X f args.toArray wm h R:=by
 subst hnt;exact WF.ZAn hf hb hn k
theorem Zqb {fn:Func} {v:Value} {wr:Option Nat} (hv:Qt X.P fn fr h=some v):Yu X (.leave fn wm .ret ⟨fr,[],h,wr⟩) (.fin (.ret v) h):=by
 refine QX (C:=cfg X fun _=>false) (ih:=fun _=>none) (fun _ _ h=>by cases h) ?_;have hv':Qt (cfg X fun _=>false).X.P fn fr h=some v:=hv;unfold JQ;simp only [hv']
theorem Zio {fn:Func} {pm:PM} {r:Nat} {wr:Option Nat} {E:Uo} {h':H} (hat:h.at r= .deferred) (hw:wm <=r) (hj:Yu X (.leave fn wm pm ⟨fr,ds,h.put r .dead,wr⟩) (.fin E h')):Yu X (.leave fn wm pm ⟨fr,⟨.collected r,#[]⟩::ds,h,wr⟩) (.fin E h'):=by
 refine QX (C:=cfg X fun _=>false) (ih:=JA (.leave fn wm pm ⟨fr,ds,h.put r .dead,wr⟩) (.fin E h')) (Xg hj) ?_;unfold JQ;dsimp only;rw [hat];dsimp only;rw [Nm0 hw,Cq1];exact Xh _ _
theorem Z8.gen {fn:Func} {R:Value ->H ->Prop} {rs:List ResultVar} {vs:List Value} {v:Value} (hr:fn.results.toList=rs) (hv:Zbw X.P fr h rs=some vs) (hl:(match vs with | [v]=>v | vs=>.tuple vs.toArray)=v) (k:R v h):Z8 X fn wm (fun e h'=>∃ v,e= .ret v∧R v h') .ret ⟨fr,[],h,none⟩:=by
 refine⟨⟨.ret,.ret v,h,rfl,⟨v,rfl,k⟩,Zqb ?_⟩⟩;unfold Qt;rw [hr,hv,← hl]
 match vs with
 | []=>rfl
 | [_]=>rfl
 | _::_::_=>rfl
theorem Z8.col {fn:Func} {R:Uo ->H ->Prop} {r:Nat} (lo:Nat) (hlo:lo <=r) (hat:h.at r= .deferred) (hw:wm <=r) (k:∀ h',Up lo (fun i=>i=r) h h' ->Z8 X fn wm R .ret ⟨fr,ds,h',none⟩):Z8 X fn wm R .ret ⟨fr,⟨.collected r,#[]⟩::ds,h,none⟩:=by
 have hu:Up lo (fun i=>i=r) h (h.put r .dead):=Up.put hlo (by rw [hat];rfl);obtain⟨pm,E,h',hpm,hq,hj⟩:= (k _ hu).out;cases hpm;exact⟨⟨.ret,E,h',rfl,hq,Zio hat hw hj⟩⟩
theorem Z8.Zv {fn:Func} {R:Uo ->H ->Prop} {s:Fs} (k:Z8 X fn wm R .ret s):Z8 X fn wm R .normal s:=by
 obtain⟨pm,E,h',hpm,hq⟩:=k.out;cases hpm;exact⟨⟨.ret,E,h',rfl,hq⟩⟩
section
variable {ops:Array Oper} {ol:List Oper} {d:Nat} {ty:TypeId} {p:String} {af:Array Edge} {g:Option (Nat×Bool)} {rd:Option Nat} {mm:Nat} {sf:SfT} {QQ:Fr ->H ->Prop} {κ ν:Type} [DecidableEq κ] {kt vt:TypeId} {kv:κ ->Value} {vv:ν ->Value} {m:Option Nat} {l:List (κ×ν)}
end
theorem WO.Zgi {ops:Array Oper} {ol:List Oper} {d:Nat} {op:Op} {ty:TypeId} {p:String} {af:Array Edge} {g:Option (Nat×Bool)} {rd:Option Nat} {c:Bool} (hg:Ze ops ⟨some d,op,ty,p,af,g⟩ fr c) (hc:c=false) (hd:Nat.blt d n=true) (k:WO X n wm rd ops ol ⟨Tr.set fr d undef,ds,h,none⟩ Q):
 WO X n wm rd ops (⟨some d,op,ty,p,af,g⟩::ol) ⟨fr,ds,h,none⟩ Q:=WO.o (hg.off hc) hd k
theorem Zbv {ev:Operand ->Option Value} {d:Option Tmp} {ty:TypeId} {p:String} {af:Array Edge} {g:Option (Nat×Bool)} {f:FuncId} {xs:Array Operand} {vs:List Value} (hx:evs ev xs.toList=some vs):XG X h ev ⟨d,.makeFunc (.func f) #[] xs,ty,p,af,g⟩=some (.val (.func (.func f) #[] vs.toArray),.none):=by
 show(bif Zjz (.func f) then none else match evs ev [],evs ev xs.toList with | some vs,some us=>some (AN.val (.func (.func f) vs.toArray us.toArray),Eff.none) | _,_=>none)=_;rw [hx];rfl
section
variable {ops:Array Oper} {ol:List Oper} {d:Nat} {ty:TypeId} {p:String} {af:Array Edge} {g:Option (Nat×Bool)} {rd:Option Nat} {mm:Nat} {sf:SfT} {QQ:Fr ->H ->Prop} {κ ν:Type} [DecidableEq κ] {kt vt:TypeId} {kv:κ ->Value} {vv:ν ->Value} {m:Option Nat} {l:List (κ×ν)}
end
end Go.Yj
end
end
section
noncomputable section
namespace Go.Yj
open Go.Lf
theorem ZmY {h:H} {i:Nat} (e:(h.at i).own=true):i < h.size:=by
 rcases Nat.lt_or_ge i h.size with z | z
 ·exact z
 ·rw [H.KU z] at e;cases e
structure Ast (wm:Nat) where
 P:H ->Prop
 fp:Nat ->Prop
 loc:∀ {h h':H},Fz wm h h' ->(∀ i,fp i ->h'.at i=h.at i) ->P h ->P h'
 own:∀ {h:H} {i:Nat},P h ->fp i ->wm <=i∧(h.at i).own=true
def Dj {wm:Nat} (A B:Ast wm):Prop:=∀ i,A.fp i ->B.fp i ->False
theorem Dj.symm {wm:Nat} {A B:Ast wm} (h:Dj A B):Dj B A:=fun i a b=>h i b a
structure Yx {wm:Nat} (G:List (Ast wm)) (h:H):Prop where
 all:∀ A ∈ G,A.P h
 dis:G.Pairwise Dj
def Qc {wm:Nat} (G:List (Ast wm)) (i:Nat):Prop:=∃ A ∈ G,A.fp i
structure Sp (wm:Nat) (T:Nat ->Prop) (h0:H) (G:List (Ast wm)) (h:H):Prop where
 wl:wm <=h0.size
 fz:Fz wm h0 h
 keep:∀ i,i < h0.size ->¬ T i ->h.at i=h0.at i
 hold:Yx G h
 inn:∀ i,Qc G i ->T i∨h0.size <=i
inductive Pk {α:Type}:List α ->α ->List α ->Prop
 | z {A:α} {G:List α}:Pk (A::G) A G
 | s {A B:α} {G G':List α}:Pk G A G' ->Pk (B::G) A (B::G')
theorem Pk.perm {α:Type} {G G':List α} {A:α} (p:Pk G A G'):G.Perm (A::G'):=by
 induction p with
 | z=>exact List.Perm.refl _
 | s _ ih=>exact(List.Perm.cons _ ih).trans (List.Perm.swap _ _ _)
theorem Pk.mem {α:Type} {G G':List α} {A:α} (p:Pk G A G'):A ∈ G:=p.perm.mem_iff.2 (by simp)
inductive Sel {α:Type}:List α ->List α ->List α ->Prop
 | n {G:List α}:Sel G [] G
 | c {A:α} {G G1 Ga Gr:List α}:Pk G A G1 ->Sel G1 Ga Gr ->Sel G (A::Ga) Gr
theorem Sel.perm {α:Type} {G Ga Gr:List α} (p:Sel G Ga Gr):G.Perm (Ga ++ Gr):=by
 induction p with
 | n=>exact List.Perm.refl _
 | c p _ ih=>exact p.perm.trans (List.Perm.cons _ ih)
section
variable {wm:Nat} {G Ga Gb Gr:List (Ast wm)} {h h' h0:H} {T t:Nat ->Prop} {A B:Ast wm}
theorem Yx.perm (p:G.Perm Ga) (s:Yx G h):Yx Ga h:= ⟨fun A m=>s.all A (p.mem_iff.2 m),(p.pairwise_iff (fun h=>Dj.symm h)).1 s.dis⟩
theorem Yx.left (s:Yx (Ga ++ Gr) h):Yx Ga h:= ⟨fun A m=>s.all A (List.mem_append.2 (.inl m)),(List.pairwise_append.1 s.dis).1⟩
theorem Yx.right (s:Yx (Ga ++ Gr) h):Yx Gr h:= ⟨fun A m=>s.all A (List.mem_append.2 (.inr m)),(List.pairwise_append.1 s.dis).2.1⟩
theorem Yx.nil:Yx ([]:List (Ast wm)) h:= ⟨fun _ m=>by simp at m,.nil⟩
theorem Yx.one (a:A.P h):Yx [A] h:= ⟨fun _ m=>by rw [List.mem_singleton.1 m];exact a,List.pairwise_singleton _ _⟩
theorem Qc.perm (p:G.Perm Ga) {i:Nat} (s:Qc G i):Qc Ga i:=let⟨A,m,f⟩:=s;⟨A,p.mem_iff.1 m,f⟩
theorem Yx.own (s:Yx G h) {i:Nat} (f:Qc G i):wm <=i∧(h.at i).own=true:=let⟨A,m,f⟩:=f;A.own (s.all A m) f
theorem Sp.perm (p:G.Perm Ga) (s:Sp wm T h0 G h):Sp wm T h0 Ga h:= ⟨s.wl,s.fz,s.keep,s.hold.perm p,fun i f=>s.inn i (f.perm p.symm)⟩
theorem Sp.size (s:Sp wm T h0 G h):h0.size <=h.size:=s.fz.size
theorem Sp.hw (s:Sp wm T h0 G h):wm <=h.size:=Nat.le_trans s.wl s.fz.size
theorem Sp.start (hw:wm <=h.size) (s:Yx G h):Sp wm (Qc G) h G h:= ⟨hw,Fz.refl _ _,fun _ _ _=>rfl,s,fun _ f=>.inl f⟩
theorem Sp.step (s:Sp wm T h0 (Ga ++ Gr) h) (u:Up wm t h h') (ht:∀ i,t i ->Qc Ga i) (hb:Yx Gb h') (hf:∀ i,Qc Gb i ->Qc Ga i∨h.size <=i):Sp wm T h0 (Gb ++ Gr) h':=by
 have hd:= (List.pairwise_append.1 s.hold.dis).2.2;have hsep:∀ i,Qc Ga i ->Qc Gr i ->False:=fun i ⟨A,m,f⟩ ⟨B,m',f'⟩=>hd A m B m' i f f'
 have hr:=s.hold.right;refine⟨s.wl,s.fz.trans (u.fz (Nat.le_refl _)),fun i hi hn=>?_,⟨fun A m=>?_,?_⟩,fun i f=>?_⟩
 ·have hnt:¬ t i:=fun q=>by
   rcases s.inn i (by obtain⟨A,m,f⟩:=ht i q;exact⟨A,List.mem_append.2 (.inl m),f⟩) with z | z
   ·exact hn z
   ·omega
  rw [u.keep i (Nat.lt_of_lt_of_le hi s.size) hnt,s.keep i hi hn]
 ·rcases List.mem_append.1 m with m | m
  ·exact hb.all A m
  ·exact A.loc (u.fz (Nat.le_refl _)) (fun i f=>u.keep i (ZmY (A.own (hr.all A m) f).2) (fun q=>hsep i (ht i q) ⟨A,m,f⟩)) (hr.all A m)
 ·refine List.pairwise_append.2 ⟨hb.dis,hr.dis,fun B m A m' i f f'=>?_⟩;rcases hf i ⟨B,m,f⟩ with z | z
  ·exact hsep i z ⟨A,m',f'⟩
  ·exact absurd (ZmY (A.own (hr.all A m') f').2) (Nat.not_lt_of_le z)
 ·obtain⟨A,m,f⟩:=f;rcases List.mem_append.1 m with m | m
  ·rcases hf i ⟨A,m,f⟩ with⟨B,m',f'⟩ | z
   ·exact s.inn i ⟨B,List.mem_append.2 (.inl m'),f'⟩
   ·exact .inr (Nat.le_trans s.size z)
  ·exact s.inn i ⟨A,List.mem_append.2 (.inr m),f⟩
theorem Sp.new (s:Sp wm T h0 Gr h) (u:Up wm (fun _=>False) h h') (hb:B.P h') (hf:∀ i,B.fp i ->h.size <=i):Sp wm T h0 (B::Gr) h':=
 Sp.step (Ga:= []) (Gb:= [B]) s u (fun _ z=>z.elim) (Yx.one hb) fun i ⟨A,m,f⟩=>by rw [List.mem_singleton.1 m] at f;exact .inr (hf i f)
theorem Sp.up (s:Sp wm T h0 Gr h) (u:Up wm (fun _=>False) h h'):Sp wm T h0 Gr h':=
 Sp.step (Ga:= []) (Gb:= []) s u (fun _ z=>z.elim) Yx.nil fun i ⟨A,m,f⟩=>by simp at m
theorem Sp.one (p:Pk G A Gr) (s:Sp wm T h0 G h) (u:Up wm t h h') (ht:∀ i,t i ->A.fp i) (hb:B.P h') (hf:∀ i,B.fp i ->A.fp i∨h.size <=i):Sp wm T h0 (B::Gr) h':=
 Sp.step (Ga:= [A]) (Gb:= [B]) (s.perm p.perm) u (fun i q=>⟨A,by simp,ht i q⟩) (Yx.one hb) fun i ⟨C,m,f⟩=>by
   rw [List.mem_singleton.1 m] at f;exact(hf i f).imp (fun z=>⟨A,by simp,z⟩) id
theorem Sp.get (s:Sp wm T h0 G h) (p:Pk G A Gr):A.P h:=s.hold.all A p.mem
theorem Sp.only (p:Sel G Ga Gr) (s:Sp wm T h0 G h):Sp wm T h0 Ga h:=by
 have s:=s.perm p.perm;exact⟨s.wl,s.fz,s.keep,s.hold.left,fun i ⟨B,m,f⟩=>s.inn i ⟨B,by simp [m],f⟩⟩
theorem Sp.add (s:Sp wm T h0 G h) (ha:A.P h) (hf:∀ i,¬ A.fp i):Sp wm T h0 (A::G) h:=
 ⟨s.wl,s.fz,s.keep,⟨fun B m=>by rcases List.mem_cons.1 m with m | m;· rw [m];exact ha
                                ·exact s.hold.all B m,List.pairwise_cons.2 ⟨fun B _ i f _=>hf i f,s.hold.dis⟩⟩,fun i ⟨B,m,f⟩=>by
   rcases List.mem_cons.1 m with m | m
   ·rw [m] at f;exact absurd f (hf i)
   ·exact s.inn i ⟨B,m,f⟩⟩
theorem Sp.call (p:Sel G Ga Gr) (s:Sp wm T h0 G h) (c:Sp wm (Qc Ga) h Gb h'):Sp wm T h0 (Gb ++ Gr) h':=by
 have s:=s.perm p.perm;exact Sp.step s ⟨c.size,c.keep,fun i f=>s.hold.left.own f⟩ (fun _ q=>q) c.hold c.inn
theorem Sp.ZfM (p:Sel G Ga Gr) (s:Sp wm T h0 G h):Yx Ga h:= (s.hold.perm p.perm).left
end
def bx (wm b:Nat) (cs:List Value):Ast wm where
 P:=fun h=>h.at b= .row cs true 0∧wm <=b
 fp:=fun i=>i=b
 loc:=fun _ k ⟨h1,h2⟩=>⟨by rw [k b rfl,h1],h2⟩
 own:=fun⟨h1,h2⟩ e=>by subst e;exact⟨h2,by rw [h1];rfl⟩
def ow {α:Type} (wm:Nat) (e:Wv α) (a:Option Addr) (n c:Nat) (xs:List α):Ast wm where
 P:=fun h=>n=xs.length∧Zav e wm wm h a c xs
 fp:=Kn a
 loc:=fun f k ⟨h1,s⟩=>⟨h1,s.max,s.mem.imp id fun⟨i,o,cs,q1,q2,q3,q4,q5,q6⟩=>⟨i,o,cs,q1,q2,by rw [k i ⟨o,q1⟩,q3],q4,q5,q6.mono f⟩⟩
 own:=fun⟨_,s⟩ ⟨o,e⟩=>by
  rcases s.mem with⟨h1,_⟩ | ⟨i,o',cs,q1,q2,q3,_⟩
  ·rw [h1] at e;cases e
  ·rw [q1] at e;cases e;exact⟨q2,by rw [q3];rfl⟩
def mp {κ ν:Type} (wm:Nat) (kv:κ ->Value) (vv:ν ->Value) (m:Option Nat) (l:List (κ×ν)):Ast wm where
 P:=fun h=>ZAX kv vv wm h m l
 fp:=fun i=>m=some i
 loc:=fun _ k s=>⟨s.at_.keep k,s.low⟩
 own:=fun{h i} s e=>⟨s.low i e,by
  rcases s.at_.mem with⟨q,_⟩ | ⟨j,bs,Qm,q,h1,_⟩
  ·rw [q] at e;cases e
  ·rw [q] at e;cases e;rw [h1];rfl⟩
def Xx {α:Type} (wm:Nat) (r:Wv α) (p:r.Par) (x:α):Ast wm where
 P:=fun h=>r.F wm h p x
 fp:=fun _=>False
 loc:=fun f _ s=>r.mono f s
 own:=fun _ z=>z.elim
def ob (wm b:Nat) (A:YN):Ast wm where
 P:=fun h=>h.at b=A∧wm <=b∧A.own=true
 fp:=fun i=>i=b
 loc:=fun _ k ⟨h1,h2⟩=>⟨by rw [k b rfl,h1],h2⟩
 own:=fun⟨h1,h2,h3⟩ e=>by subst e;exact⟨h2,by rw [h1];exact h3⟩
section
variable {wm:Nat} {G Gr:List (Ast wm)} {h h0:H} {T:Nat ->Prop}
theorem Sp.Yh {b:Nat} {cs:List Value} (s:Sp wm T h0 G h) (p:Pk G (bx wm b cs) Gr):At h b 0 cs:=At.box (s.get p).1
theorem Sp.UX {α:Type} {e:Wv α} {a:Option Addr} {n c:Nat} {xs:List α} (s:Sp wm T h0 G h) (p:Pk G (ow wm e a n c xs) Gr):Src e wm h a c xs:= (s.get p).2.src
theorem Sp.ord {α:Type} {e:Wv α} {a:Option Addr} {n c:Nat} {xs:List α} (s:Sp wm T h0 G h) (p:Pk G (ow wm e a n c xs) Gr):Sl e h.size h a c xs:= (s.UX p).sl s.hw
theorem Sp.on {α:Type} {e:Wv α} {a:Option Addr} {n c:Nat} {xs:List α} (s:Sp wm T h0 G h) (p:Pk G (ow wm e a n c xs) Gr):n=xs.length:= (s.get p).1
theorem Sp.mrd {κ ν:Type} {kv:κ ->Value} {vv:ν ->Value} {m:Option Nat} {l:List (κ×ν)} (s:Sp wm T h0 G h) (p:Pk G (mp wm kv vv m l) Gr):Zh9 kv vv h.size h m l:=MapAt.all (s.get p).at_
theorem Sp.sl {α:Type} {e:Wv α} {a:Option Addr} {c:Nat} {xs:List α} (s:Sp wm T h0 G h) (f:Sl e wm h0 a c xs):Sl e wm h a c xs:=f.mono s.fz
theorem Sp.Wy {α:Type} {e:Wv α} {a:Option Addr} {c:Nat} {xs:List α} (s:Sp wm T h0 G h) (f:Sl e wm h0 a c xs):Sl e h.size h a c xs:= (f.mono s.fz).up s.hw
end
end Go.Yj
end
end
section
noncomputable section
namespace Go.Yj
open Go.Lf
variable {X:Ctx} {n wm:Nat} {rd:Option Nat} {ops:Array Oper} {l:List Oper} {fr:Fr} {ds:List Deferred} {h h1 h2:H} {ty:TypeId} {p:String} {af:Array Edge} {g:Option (Nat×Bool)} {m:Nat}
def VV (h h2:H) (xs:List Nat) (x:Nat):Prop:= (x < h.size∧x ∈ xs)∨h2.size <=x
structure ST where
 s:List (Nat×(Nat ->Prop))
 m:List (Nat×(Nat ->Prop))
 p:List (Nat×Nat×Nat×(YN ->Prop))
def ST.nil:ST:= ⟨[],[],[]⟩
structure ZE1 (X:Ctx) (n wm:Nat) (rd:Option Nat) (ops:Array Oper) (o:Oper) (T:Nat ->Prop) (xs:List Nat) (h:H) (fr:Fr) (v:Value) (h2:H):Prop where
 run:wm <=h.size ->∃ h1,h2=X0 xs h h1∧Qb X.P wm rd ops o T fr (mask xs h) v h1∧JL T (mask xs h) h1
 wmT:∀ x,T x ->wm <=x
 dst:∀ d,o.dst=some d ->d < n
 hl:Yd o=true ->(∀ x,¬ T x)∧h2=h∧∀ g,Qb X.P wm rd ops o (fun _=>False) fr g v g
 mx:∀ x,T x ->x < h.size ->x ∉ xs
abbrev Cmp (ops:Array Oper) (i j:Nat):Prop:=comp (Xp ops.toList 0 []) i j=true
abbrev PsT:=Option (Nat×Nat×(YN ->Prop))
structure WE (X:Ctx) (n wm:Nat) (rd:Option Nat) (ops:Array Oper) (sf:ST) (m:Nat) (h:H) (l:List Oper) (fr:Fr) (Q:Fr ->H ->Prop):Prop where
 out:∃ (hs:Nat ->H) (fs:Nat ->Fr) (vs:Nat ->Value) (Ts:Nat ->Nat ->Prop) (xs:Nat ->List Nat) (ps:Nat ->PsT),hs 0=h∧fs 0=fr∧Q (fs l.length) (hs l.length)∧∀ k o,l[k]? =some o ->
  ZE1 X n wm rd ops o (Ts k) (xs k) (hs k) (fs k) (vs k) (hs (k + 1))∧fs (k + 1)=QZ (fs k) o.dst (vs k)∧
  (∀ x,Ts k x ->x < (hs k).size ->∀ i o',i < m + k ->ops.toList[i]? =some o' ->Cmp ops i (m + k)∨Yd o'=true∨(∃ V,(i,V) ∈ sf.s∧V x)∨(∃ C,(i,x,m + k,C) ∈ sf.p∧C ((hs (k + 1)).at x))∨
    ∃ i',i=m + i'∧i' < k∧(VV (hs i') (hs (i' + 1)) (xs i') x∨∃ C,ps i'=some (x,m + k,C)∧C ((hs (k + 1)).at x)))∧
  (Yd o=false ->(∀ q ∈ sf.m,Cmp ops q.1 (m + k)∨∀ x,q.2 x ->VV (hs k) (hs (k + 1)) (xs k) x)∧∀ i',i' < k ->Cmp ops (m + i') (m + k)∨∀ x,Ts i' x ->x < (hs i').size ->VV (hs k) (hs (k + 1)) (xs k) x)∧
  (∀ x j C,ps k=some (x,j,C) ->xs k= []∧(∀ y,¬ Ts k y)∧hs (k + 1)=hs k∧Prm X.P wm rd ops o (fs k) (hs k) (vs k) x C)
variable {sf:ST} {Q:Fr ->H ->Prop}
theorem WE.nil (k:Q fr h):WE X n wm rd ops sf m h [] fr Q:= ⟨fun _=>h,fun _=>fr,fun _=>undef,fun _ _=>False,fun _=>[],fun _=>none,rfl,rfl,k,fun k o e=>by simp at e⟩
theorem WE.cons {o:Oper} {v:Value} {T:Nat ->Prop} {xs0:List Nat} (so to:List (Nat×(Nat ->Prop))) (p0:PsT) (h1:ZE1 X n wm rd ops o T xs0 h fr v h2)
 (hso:∀ q ∈ so,q.1=m∧∀ x,q.2 x ->VV h h2 xs0 x) (hto:∀ x,T x ->x < h.size ->∃ q ∈ to,q.1=m∧q.2 x)
 (c1:∀ x,T x ->x < h.size ->∀ i o',i < m ->ops.toList[i]? =some o' ->Cmp ops i m∨Yd o'=true∨(∃ V,(i,V) ∈ sf.s∧V x)∨∃ C,(i,x,m,C) ∈ sf.p∧C (h2.at x))
 (c2:Yd o=false ->∀ q ∈ sf.m,Cmp ops q.1 m∨∀ x,q.2 x ->VV h h2 xs0 x)
 (hp:∀ x j C,p0=some (x,j,C) ->xs0= []∧(∀ y,¬ T y)∧h2=h∧Prm X.P wm rd ops o fr h v x C)
 (k:WE X n wm rd ops ⟨so ++ sf.s,to ++ sf.m,(p0.map fun q=>(m,q.1,q.2.1,q.2.2)).toList ++ sf.p⟩ (m + 1) h2 l (QZ fr o.dst v) Q):WE X n wm rd ops sf m h (o::l) fr Q:=by
 obtain⟨gs,fs,vs,Ts,xs,ps,e0,e1,hq,hk⟩:=k;refine⟨fun k=>match k with | 0=>h | k + 1=>gs k,fun k=>match k with | 0=>fr | k + 1=>fs k,fun k=>match k with | 0=>v | k + 1=>vs k,fun k=>match k with | 0=>T | k + 1=>Ts k,fun k=>match k with | 0=>xs0 | k + 1=>xs k,fun k=>match k with | 0=>p0 | k + 1=>ps k,rfl,rfl,hq,fun k o' ho'=>?_⟩;cases k with
 | zero=>
   simp at ho';subst ho';dsimp only;rw [e0];refine⟨h1,e1,fun x tx hx i o' hi ho'=>?_,fun hh=>⟨c2 hh,fun i' hi'=>absurd hi' (Nat.not_lt_zero _)⟩,hp⟩;rcases c1 x tx hx i o' hi ho' with z | z | z | z
   ·exact .inl z
   ·exact .inr (.inl z)
   ·exact .inr (.inr (.inl z))
   ·exact .inr (.inr (.inr (.inl z)))
 | succ k=>
   obtain⟨k1,k2,k3,k4,k5⟩:=hk k o' (by simpa using ho');have e:m + 1 + k=m + (k + 1):=by omega
   rw [e] at k3 k4;dsimp only;refine⟨k1,k2,fun x tx hx i o' hi ho'=>?_,fun hh=>⟨fun q hq=>(k4 hh).1 q (List.mem_append.2 (.inr hq)),fun i' hi'=>?_⟩,k5⟩
   ·rcases k3 x tx hx i o' hi ho' with z | z | ⟨V,z1,z2⟩ | ⟨C,z1,z2⟩ | ⟨i',q1,q2,q3⟩
    ·exact .inl z
    ·exact .inr (.inl z)
    ·rcases List.mem_append.1 z1 with z1 | z1
     ·obtain⟨w1,w2⟩:=hso _ z1;dsimp only at w1 w2;subst w1;refine .inr (.inr (.inr (.inr ⟨0,rfl,Nat.succ_pos _,.inl ?_⟩)));dsimp only;rw [e0];exact w2 x z2
     ·exact .inr (.inr (.inl ⟨V,z1,z2⟩))
    ·rcases List.mem_append.1 z1 with z1 | z1
     ·cases p0 with
      | none=>simp at z1
      | some q=>
        simp at z1;obtain⟨w1,w2,w3,w4⟩:=z1;subst w1;exact .inr (.inr (.inr (.inr ⟨0,rfl,Nat.succ_pos _,.inr ⟨C,by show some q=_;rw [w2,w3,w4],z2⟩⟩)))
     ·exact .inr (.inr (.inr (.inl ⟨C,z1,z2⟩)))
    ·exact .inr (.inr (.inr (.inr ⟨i' + 1,by omega,by omega,q3⟩)))
   ·cases i' with
    | zero=>
      dsimp only;by_cases hc:Cmp ops (m + 0) (m + (k + 1))
      ·exact .inl hc
      ·refine .inr fun x tx hx=>?_
       obtain⟨q,q1,q2,q3⟩:=hto x tx hx;rcases(k4 hh).1 q (List.mem_append.2 (.inl q1)) with z | z
       ·rw [q2] at z;exact absurd z hc
       ·exact z x q3
    | succ i'=>
      have:= (k4 hh).2 i' (by omega);have e2:m + 1 + i'=m + (i' + 1):=by omega
      rw [e2] at this;exact this
theorem WC.ZEA (hm:X.P.follows .mixedOrders=true) {id:Nat} {R:XX ->Fs ->Prop} (hp:(plan ops.toList).isSome=true) (k:WE X n wm rd ops ST.nil 0 h ops.toList fr (fun fr' h'=>R .normal ⟨fr',ds,h',none⟩)):WC X n wm rd (.region id ops true) ⟨fr,ds,h,none⟩ R:=by
 obtain⟨gs,fs,vs,ts,xs,ps,e0,e1,hq,hk⟩:=k;obtain⟨ZW,hp⟩:=Option.isSome_iff_exists.1 hp;refine⟨.normal,_,hq,fun ρ a w F ZQ hi hF=>?_⟩;unfold plan ZoM at hp;cases hall:(Q5 ZcO ops.toList 0 && Q5 (ZcA ops.toList (Xp ops.toList 0 [])) ops.toList 0 && Q5 (Zhh ops.toList) ops.toList 0) <;> rw [hall] at hp <;> simp only [Cq1,Cq0] at hp
 ·cases hp
 rw [Ba0,Ba0] at hall;obtain⟨⟨Zbe,Zbc⟩,hdst⟩:=hall;have Zbe:=YP _ _ Zbe;have Zbc:=YP _ _ Zbc;have hdst:=YP _ _ hdst;have hget:∀ {k:Nat} {o:Oper},ops[k]? =some o ->ops.toList[k]? =some o:=fun h=>by rwa [Array.getElem?_toList]
 have hspec:= (Za5 ops.toList 0 [] rfl).2
 have hwk:∀ k,k <=ops.size ->wm <= (gs k).size:=by
  intro k
  induction k with
  | zero=>intro _;rw [e0];exact ZQ
  | succ k ih=>
    intro hk';have hlt:k < ops.size:=by omega
    have ho:ops.toList[k]? =some ops[k]:=by simp [hlt]
    obtain⟨h1,q1,_,q3⟩:= (hk k _ ho).1.run (ih (by omega));have q2:=q3.size;rw [ZJ] at q2;have:=ih (by omega);rw [q1,YO];omega
 have hlt:∀ {k:Nat} {o:Oper},ops[k]? =some o ->k < ops.size:=fun h=>(Array.getElem?_eq_some_iff.1 h).1
 have hco:∀ {k:Nat} (hl:k < ops.size),ops.toList[k]? =some ops[k]:=fun hl=>by simp [hl]
 classical
 let sft:Nat ->Option (Nat×Nat):=fun i=>match ps i with
  | none=>none
  | some (x,j,C)=>if i < j∧j < ops.size∧ts j x∧C ((gs (j + 1)).at x) then some (x,j) else none
 have Zrq:∀ i x j,sft i=some (x,j) ->∃ C,ps i=some (x,j,C)∧i < j∧j < ops.size∧ts j x∧C ((gs (j + 1)).at x):=by
  intro i x j e;dsimp only [sft] at e;cases hp:ps i with
  | none=>rw [hp] at e;cases e
  | some q=>
    obtain⟨y,j',C⟩:=q;rw [hp] at e;dsimp only at e;split at e
    ·rename_i hh;cases e;exact⟨C,rfl,hh⟩
    ·cases e
 let D:Data X.P n wm rd ops:= {
  hs:=gs,fs:=fs,vs:=vs,mo:=ts,Xs:=xs,soft:=sft,hl:=fun i=>hlAt ops.toList i,Pb:=fun j k=>bit ((Xp ops.toList 0 []).getD j 0) k=true
  Zie:=hwk 0 (Nat.zero_le _)
  step:=fun k o ho=>by
   obtain⟨h1,q1,q2,q3⟩:= (hk k o (hget ho)).1.run (hwk _ (Nat.le_of_lt (hlt ho)));exact⟨h1,q2,q3,q1,(hk k o (hget ho)).2.1⟩
  wmM:=fun k x hkl hx=>(hk k _ (hco hkl)).1.wmT x hx
  dst:=fun k o d ho hd=>(hk k o (hget ho)).1.dst d hd
  ZbO:=fun j k hb=>by
   obtain⟨o,ho,e,he,hb,hk⟩:=hspec j k (Nat.zero_le _) hb;exact⟨o,e,by rw [← Array.getElem?_toList];simpa using ho,by simpa using he,hb,hk⟩
  ZiH:=fun j o e ho he hb=>by
   have:=Zbe j o (hget ho);unfold ZcO at this;rw [List.all_eq_true] at this;have:=this e (by simpa using he);rw [hb] at this
   simpa [Nat.blt_eq] using this
  inc:=fun i j hil hjl hij h1 h2 hhl x hx hxs=>by
   have nc:¬ Cmp ops i j:=fun q=>by
    rcases Kg q with y | y
    ·exact h1 y
    ·exact h2 y
   have hh:Yd ops[i]=false:=by
    have:hlAt ops.toList i=false:=hhl;unfold hlAt at this;rw [hco hil] at this;exact this
   rcases Nat.lt_or_ge i j with hlt' | hge
   ·have:= (hk j _ (hco hjl)).2.2.1 x hx hxs i _ (by omega) (hco hil);rw [Nat.zero_add] at this;rcases this with q | q | ⟨V,q,_⟩ | ⟨C,q,_⟩ | ⟨i',q1,q2,q3⟩
    ·exact absurd q nc
    ·rw [hh] at q;cases q
    ·simp [ST.nil] at q
    ·simp [ST.nil] at q
    ·rw [Nat.zero_add] at q1;subst q1;rcases q3 with q3 | ⟨C,q3,q4⟩
     ·exact q3.imp (fun z=>⟨z.1,.inl z.2⟩) (fun z=>z)
     ·left;have hpr:= (hk i _ (hco hil)).2.2.2.2 x j C q3;refine⟨hpr.2.2.2.1,.inr ?_⟩;dsimp only [sft];rw [q3];dsimp only;rw [if_pos ⟨q2,hjl,hx,q4⟩]
   ·have:= ((hk i _ (hco hil)).2.2.2.1 hh).2 j (by omega);rw [Nat.zero_add,Nat.zero_add] at this;rcases this with q | q
    ·exact absurd (by unfold Cmp;rw [ZtQ hij];exact q) nc
    ·exact(q x hx hxs).imp (fun z=>⟨z.1,.inl z.2⟩) (fun z=>z)
  ZvI:=fun i o ho hh=>by
   have hq:Yd o=true:=by unfold hlAt at hh;rw [hget ho] at hh;exact hh
   obtain⟨z1,z2,z3⟩:= (hk i o (hget ho)).1.hl hq;exact⟨z1,by rw [z2],z3⟩
  Zi6:=fun i o x j ho hh=>by
   obtain⟨C,s1,s2,s3,s4,s5⟩:=Zrq i x j hh;obtain⟨z0,z1,z2,z3,z4,z5,z6⟩:= (hk i o (hget ho)).2.2.2.2 x j C s1;obtain⟨w1,w2⟩:=z6 _ s5;exact⟨s2,s3,z3,z1,by rw [z2],z4,w1,by rw [z0];exact z5,by rw [z0];exact w2⟩
  MX:=fun i x hil hx hxs=>(hk i _ (hco hil)).1.mx x hx hxs
  looks:=fun i o t ho ht k o' ho' hd=>by
   have:=Zbc i o (hget ho);unfold ZcA at this;rw [List.all_eq_true] at this;have:=YP _ _ (this t ht) k o' (hget ho');rw [ZbV.2 hd] at this;simp only [Cq1,Bool.or_eq_true,Nat.zero_add] at this;rcases this with z | z
   ·exact .inl (Nb0 z)
   ·exact .inr (Kg z)
  ZtL:=fun i j o o' t ho ho' hd hd'=>by
   have:=hdst i o (hget ho);unfold Zhh at this;rw [hd] at this;have:=YP _ _ this j o' (hget ho');rw [ZbV.2 hd'] at this;simp only [Cq1,Nat.zero_add] at this;exact(Nb0 this).symm}
 have hi2:Inv ρ n {fr:=D.fs 0,ds:=ds,h:=D.hs 0} a w:= ⟨by show Rel ρ (gs 0) w;rw [e0];exact hi.rel,by show FrR ρ (fs 0) n a.tmps;rw [e1];exact hi.fr,hi.ds⟩
 have:=D.region hm hi2 hF id;have hlen:ops.toList.length=ops.size:=by simp
 rw [hlen];refine wpIn_mono this fun e' a' w' ⟨ρ',q1,q2,q3⟩=>⟨ρ',q1,⟨q2.rel,q2.fr,q2.ds⟩,?_⟩
 have e0':D.hs 0=h:=e0;rw [e0'] at q3;exact q3
end Go.Yj
end
end
section
noncomputable section
namespace Go.Yj
open Go.Lf
variable {X:Ctx} {n wm:Nat} {rd:Option Nat} {ops:Array Oper} {l:List Oper} {fr:Fr} {ds:List Deferred} {h h1 h2 h0:H} {ty:TypeId} {p:String} {af:Array Edge} {g:Option (Nat×Bool)} {m:Nat}
theorem Zc5 {d:Option Tmp} {op:Op} {v:Value} {E:Eff} (hg:Yi ops ⟨d,op,ty,p,af,g⟩ fr) (ha:XG X h (Y5 fr) ⟨d,op,ty,p,af,g⟩=some (.val v,E)∨XG X h (Y5 fr) ⟨d,op,ty,p,af,g⟩=some (.skip,E)∧v=undef) (hE:E.apply wm h=some h1):
 Qb X.P wm rd ops ⟨d,op,ty,p,af,g⟩ (fun x=>E.tgt=some x) fr h v h1∧(wm <=h.size ->JL (fun x=>E.tgt=some x) h h1)∧(wm <=h.size ->∀ x,E.tgt=some x ->wm <=x):=by
 have hds:Q9 X (fun _=>true) (fun _=>none) ((d.getD 0) + 1) wm none false ops.toList ⟨d,op,ty,p,af,g⟩ fr h=some (E.tgt,v,h1):=by
  unfold Q9;dsimp only;rw [hg.1,hg.2];cases d with
  | none=>
    rcases ha with ha | ⟨ha,rfl⟩
    ·rw [ha];dsimp only [Bool.not_true,Cq0,Cq1];rw [hE];rfl
    ·rw [ha];dsimp only [Bool.not_true,Cq0,Cq1];rw [hE];rfl
  | some d'=>
    have:Nat.blt d' (d' + 1)=true:=by rw [Nat.blt_eq];omega
    have e2:(Nat.blt d' ((some d').getD 0 + 1) && allowed none d')=true:=by dsimp only [Option.getD];rw [this];rfl
    dsimp only at e2 ⊢;rw [e2];rcases ha with ha | ⟨ha,rfl⟩
    ·rw [ha];dsimp only [Bool.not_true,Cq0,Cq1];rw [hE];rfl
    ·rw [ha];dsimp only [Bool.not_true,Cq0,Cq1];rw [hE];rfl
 have e1:KZ false wm E.tgt=fun x=>E.tgt=some x:=ZE4 wm E.tgt
 refine⟨?_,fun hw=>?_,fun hw x hx=>?_⟩
 ·rw [← e1];exact Jm (Zab X) ZbQ hds
 ·rw [← e1];exact(Xe ZbQ hds hw).1
 ·exact(Xe ZbQ hds hw).2.1 x (by rw [e1];exact hx)
theorem ZiM {o:Oper} {f:FuncId} {args:Array Value} {wm':Nat} {v:Value} (hg:Yi ops o fr) (ha:XG X h (Y5 fr) o=some (.enter f args,.none)) (hl:wm' <=h.size) (hj:Yu X (.call f args wm' h) (.fin (.ret v) h2)):
 Qb X.P wm rd ops o (fun x=>wm' <=x∧(h.at x).own=true) fr h v h2:=by
 intro ρ a w F K Q r ZQ hf hF hK;rw [Zbu ops o hf hg.1,hg.2,if_pos rfl];obtain⟨ev2,e1,e2⟩:=Zfp ops o hf ha;obtain⟨ρ1,w1,p1,p2,p3⟩:=KV r e1 e2;have hE:Eff.apply wm h .none=some h:=rfl;obtain⟨r1,st1⟩:=Eff.sound r ZQ p1 hE p2;obtain⟨sm,km,Zso⟩:=Eff.ZBA r ZQ p1 hE p2;refine⟨fun f hab=>(WN hF f).2 (Zau ha p3 hab),?_⟩
 have ZjE:o.semAt F.round a.eval=execOp a.eval o:=by
  cases hrd:rd with
  | none=>rw [hrd] at hF;unfold Kl at hF;subst hF;rfl
  | some l=>
    refine Oper.semAt_eq _ _ _ fun c hc=>?_
    obtain⟨d,h1⟩:=Ze0 ha hc;simp at h1
 rw [ZjE];have ZvM:F.depth.isSome=true ->1 <=0:=fun hh=>by rw [Kb hF] at hh;cases hh
 have hF1:=hF.mono st1.ext;generalize hrun:(execOp a.eval o).run X.P w=res at p3;obtain⟨args',hva,rfl⟩:=p3;refine⟨ZvM,(QE hF1 (hj ρ1 args' w1 hl r1 hva)).mono ?_⟩;rintro e' w' ⟨ρ',he,hr,hst⟩;cases he with
 | @ret _ v' hv=>
   have st2:Wp (fun x=>wm' <=x∧(h.at x).own=true) ρ1 h w1 ρ' w':=hst.toM.Zic (fun i _ h2 h3=>⟨h2,h3⟩) r1.lt;have toM:Wp (fun x=>wm' <=x∧(h.at x).own=true) ρ h w ρ1 w1:=sm.weaken (fun i _ hi=>by cases hi) r.lt;exact hK ρ' v' w' hv hr (toM.trans r.lt (Nat.le_refl _) (fun _ _ z=>z) st2)
structure WX (X:Ctx) (n wm:Nat) (rd:Option Nat) (ops:Array Oper) (sf:ST) (m:Nat) (h:H) (l:List Oper) (fr:Fr) (Q:Fr ->H ->Prop):Prop where
 out:(∀ q ∈ sf.m,∀ x,q.2 x ->x < h.size) ->WE X n wm rd ops sf m h l fr Q
variable {sf:ST} {Q:Fr ->H ->Prop}
theorem WC.Zbs (hm:X.P.follows .mixedOrders=true) {id:Nat} {R:XX ->Fs ->Prop} (hp:(plan ops.toList).isSome=true) (k:WX X n wm rd ops ST.nil 0 h ops.toList fr (fun fr' h'=>R .normal ⟨fr',ds,h',none⟩)):WC X n wm rd (.region id ops true) ⟨fr,ds,h,none⟩ R:=
 WC.ZEA hm hp (k.out fun q hq=>by simp [ST.nil] at hq)
theorem WX.nil (k:Q fr h):WX X n wm rd ops sf m h [] fr Q:= ⟨fun _=>WE.nil k⟩
def okM (ops:Array Oper) (sf:ST) (m:Nat) (o:Oper):Bool:= (sf.m.all fun q=>comp (Xp ops.toList 0 []) q.1 m) || Yd o
theorem KG {o:Oper} (h:okM ops sf m o=true):Yd o=false ->∀ q ∈ sf.m,Cmp ops q.1 m:=fun hh q hq=>by
 unfold okM at h;rw [hh,Bool.or_false,List.all_eq_true] at h;exact h q hq
def okB (ops:Array Oper) (m:Nat) (is:List Nat):Bool:=Q5 (fun i o=>Nat.ble m i || comp (Xp ops.toList 0 []) i m || Yd o || is.any (Nat.beq i)) ops.toList 0
theorem Zk2 {is:List Nat} (h:okB ops m is=true) {i:Nat} {o:Oper} (hi:i < m) (ho:ops.toList[i]? =some o):Cmp ops i m∨Yd o=true∨i ∈ is:=by
 have:=YP _ _ h i o ho;rw [Nat.zero_add,Bool.or_eq_true,Bool.or_eq_true,Bool.or_eq_true] at this;rcases this with((q | q) | q) | q
 ·have:=Nl0 q;omega
 ·exact .inl q
 ·exact .inr (.inl q)
 ·rw [List.any_eq_true] at q;obtain⟨y,q1,q2⟩:=q;have e:=Nb0 q2;subst e;exact .inr (.inr q1)
theorem WO.w {Q:XX ->Fs ->Prop} {d:Nat} {op:Op} {v:Value} (hg:Yi ops ⟨some d,op,ty,p,af,g⟩ fr) (hd:Nat.blt d n=true) (ha:XG X h (Y5 fr) ⟨some d,op,ty,p,af,g⟩=some (.val v,.none)) (k:WO X n wm rd ops l ⟨Tr.set fr d v,ds,h,none⟩ Q):
 WO X n wm rd ops (⟨some d,op,ty,p,af,g⟩::l) ⟨fr,ds,h,none⟩ Q:=WO.v hg hd ha rfl k
theorem WX.w {d:Nat} {op:Op} {v:Value} (hg:Yi ops ⟨some d,op,ty,p,af,g⟩ fr) (hd:Nat.blt d n=true) (ha:XG X h (Y5 fr) ⟨some d,op,ty,p,af,g⟩=some (.val v,.none)) (k:WX X n wm rd ops sf (m + 1) h l (Tr.set fr d v) Q) (hM:okM ops sf m ⟨some d,op,ty,p,af,g⟩=true):
 WX X n wm rd ops sf m h (⟨some d,op,ty,p,af,g⟩::l) fr Q:=by
 refine⟨fun hb=>WE.cons (T:=fun _=>False) (xs0:= []) (v:=v) [] [] none ?_ (fun _ z=>by simp at z) (fun _ z=>z.elim) (fun _ z=>z.elim) (fun hh q hq=>.inl (KG hM hh q hq)) (fun x j C z=>by cases z) (k.out hb)⟩
 have hs:∀ h',XG X h' (Y5 fr) ⟨some d,op,ty,p,af,g⟩=some (.val v,.none) ->Qb X.P wm rd ops ⟨some d,op,ty,p,af,g⟩ (fun _=>False) fr h' v h':=fun h' ha'=>by
  have:= (Zc5 (wm:=wm) (rd:=rd) hg (.inl ha') (h1:=h') rfl).1
  simpa [Eff.tgt] using this
 refine⟨fun hw=>⟨h,rfl,hs h ha,⟨Nat.le_refl _,fun _ _ _=>rfl,fun _ _ z=>z,fun _ _ z=>z⟩⟩,fun _ z=>z.elim,fun d' e=>(by cases e;rwa [Nat.blt_eq] at hd),fun hh=>⟨fun _ z=>z,rfl,fun g=>hs g ?_⟩,fun _ z=>z.elim⟩;rw [Zd6 h g hh];exact ha
theorem WX.off {d:Nat} {op:Op} (hg:Zeb ops ⟨some d,op,ty,p,af,g⟩ fr) (hd:Nat.blt d n=true) (k:WX X n wm rd ops sf (m + 1) h l (Tr.set fr d undef) Q) (hM:okM ops sf m ⟨some d,op,ty,p,af,g⟩=true):
 WX X n wm rd ops sf m h (⟨some d,op,ty,p,af,g⟩::l) fr Q:=by
 refine⟨fun hb=>WE.cons (T:=fun _=>False) (xs0:= []) (v:=undef) [] [] none ?_ (fun _ z=>by simp at z) (fun _ z=>z.elim) (fun _ z=>z.elim) (fun hh q hq=>.inl (KG hM hh q hq)) (fun x j C z=>by cases z) (k.out hb)⟩
 have hs:∀ h',Qb X.P wm rd ops ⟨some d,op,ty,p,af,g⟩ (fun _=>False) fr h' undef h':=fun h'=>by
  have hds:Q9 X (fun _=>true) (fun _=>none) (d + 1) wm none false ops.toList ⟨some d,op,ty,p,af,g⟩ fr h'=some (none,undef,h'):=by
   unfold Q9;dsimp only;have:Nat.blt d (d + 1)=true:=by rw [Nat.blt_eq];omega
   rw [this,hg.1,hg.2];rfl
  have:=Jm (rd:=rd) (Zab X) ZbQ hds
  rwa [Zuv] at this
 exact⟨fun hw=>⟨h,rfl,hs h,⟨Nat.le_refl _,fun _ _ _=>rfl,fun _ _ z=>z,fun _ _ z=>z⟩⟩,fun _ z=>z.elim,fun d' e=>(by cases e;rwa [Nat.blt_eq] at hd),fun hh=>⟨fun _ z=>z,rfl,fun g=>hs g⟩,fun _ z=>z.elim⟩
theorem WX.gv {d:Nat} {op:Op} {c:Bool} {v:Value} (hg:Ze ops ⟨some d,op,ty,p,af,g⟩ fr c) (hd:Nat.blt d n=true) (ha:c=true ->XG X h (Y5 fr) ⟨some d,op,ty,p,af,g⟩=some (.val v,.none)) (k:WX X n wm rd ops sf (m + 1) h l (Tr.set fr d (cond c v undef)) Q) (hM:okM ops sf m ⟨some d,op,ty,p,af,g⟩=true):
 WX X n wm rd ops sf m h (⟨some d,op,ty,p,af,g⟩::l) fr Q:=by
 cases c
 ·exact WX.off hg hd k hM
 ·exact WX.w hg hd (ha rfl) k hM
open Classical in
def Qa (h:H) (R:Nat ->Prop):List Nat:= (List.range h.size).filter fun x=>decide (¬ R x)
theorem Zcy {h:H} {R:Nat ->Prop} {x:Nat}:x ∈ Qa h R↔x < h.size∧¬ R x:=by unfold Qa;simp
theorem ZyX {R:Nat ->Prop} {x:Nat} (hx:R x):(mask (Qa h R) h).at x=h.at x:=by rw [Xd,if_neg (fun z=>(Zcy.1 z).2 hx)]
theorem Up.hide (lo:Nat) (Y:List Nat) (h:H):Up lo (fun _=>False) h (X0 Y h (mask Y h)):=
 ⟨by rw [YO,ZJ];exact Nat.le_refl _,fun i hi _=>by
   rw [XA _ _ _ (by rw [ZJ];exact Nat.le_refl _),Xd];by_cases hy:i ∈ Y
   ·rw [if_pos ⟨hy,hi⟩]
   ·rw [if_neg (fun q=>hy q.1),if_neg hy],fun _ e=>e.elim⟩
def HV (X:Ctx) (wm:Nat) (o:Oper) (fr:Fr) (h:H) (T:Nat ->Prop) (K:Value ->H ->Prop):Prop:=∃ v E h1,XG X h (Y5 fr) o=some (.val v,E)∧E.apply wm h=some h1∧(∀ x,E.tgt=some x ->T x)∧h.size <=h1.size∧K v h1
def HU (X:Ctx) (wm:Nat) (o:Oper) (fr:Fr) (h:H) (T:Nat ->Prop) (K:H ->Prop):Prop:=∃ E h1,XG X h (Y5 fr) o=some (.skip,E)∧E.apply wm h=some h1∧(∀ x,E.tgt=some x ->T x)∧h.size <=h1.size∧K h1
theorem WO.hv {Q:XX ->Fs ->Prop} {d:Nat} {op:Op} {T:Nat ->Prop} {K:Value ->H ->Prop} (hg:Yi ops ⟨some d,op,ty,p,af,g⟩ fr) (hd:Nat.blt d n=true) (s:HV X wm ⟨some d,op,ty,p,af,g⟩ fr h T K) (k:∀ v h',K v h' ->WO X n wm rd ops l ⟨Tr.set fr d v,ds,h',none⟩ Q):
 WO X n wm rd ops (⟨some d,op,ty,p,af,g⟩::l) ⟨fr,ds,h,none⟩ Q:=let⟨v,_,h1,ha,hE,_,_,hk⟩:=s;WO.v hg hd ha hE (k v h1 hk)
theorem WO.hu {Q:XX ->Fs ->Prop} {op:Op} {T:Nat ->Prop} {K:H ->Prop} (hg:Yi ops ⟨none,op,ty,p,af,g⟩ fr) (s:HU X wm ⟨none,op,ty,p,af,g⟩ fr h T K) (k:∀ h',K h' ->WO X n wm rd ops l ⟨fr,ds,h',none⟩ Q):
 WO X n wm rd ops (⟨none,op,ty,p,af,g⟩::l) ⟨fr,ds,h,none⟩ Q:=let⟨_,h1,ha,hE,_,_,hk⟩:=s;WO.u hg ha hE (k h1 hk)
def Um (sf:ST) (T:Nat ->Prop) (is:List Nat):Prop:=∀ i ∈ is,∃ V,(i,V) ∈ sf.s∧∀ x,T x ->V x
theorem Um.e {T:Nat ->Prop}:Um sf T []:=fun _ z=>by simp at z
theorem Zsp {d:Option Tmp} {op:Op} {v:Value} {T:Nat ->Prop} {E:Eff} (hg:Yi ops ⟨d,op,ty,p,af,g⟩ fr) (hd:∀ d',d=some d' ->d' < n) (ha:XG X h (Y5 fr) ⟨d,op,ty,p,af,g⟩=some (.val v,E)∨XG X h (Y5 fr) ⟨d,op,ty,p,af,g⟩=some (.skip,E)∧v=undef) (hE:E.apply wm h=some h1) (hT:∀ x,E.tgt=some x ->T x) (hsz:h.size <=h1.size)
 (k:WX X n wm rd ops ⟨sf.s,(m,fun x=>T x∧x < h.size)::sf.m,sf.p⟩ (m + 1) h1 l (QZ fr d v) Q) (hh:Yd ⟨d,op,ty,p,af,g⟩=false) (hM:okM ops sf m ⟨d,op,ty,p,af,g⟩=true) (is:List Nat) (hB:okB ops m is=true) (hi:Um sf T is):
 WX X n wm rd ops sf m h (⟨d,op,ty,p,af,g⟩::l) fr Q:=by
 refine⟨fun hb=>?_⟩;by_cases hw:wm <=h.size
 ·have hs:=Zc5 (wm:=wm) (rd:=rd) hg ha hE
  refine WE.cons (T:=fun x=>E.tgt=some x) (xs0:= []) (h2:=h1) (v:=v) [] [(m,fun x=>T x∧x < h.size)] none ⟨fun _=>⟨h1,rfl,hs.1,hs.2.1 hw⟩,hs.2.2 hw,hd,fun q=>Bool.noConfusion (hh.symm.trans q),fun _ _ _ z=>by simp at z⟩ (fun _ z=>by simp at z) (fun x hx hl=>⟨_,List.mem_singleton.2 rfl,rfl,hT x hx,hl⟩)
   (fun x hx hl i o' hi' ho'=>?_) (fun hh q hq=>.inl (KG hM hh q hq)) (fun x j C z=>by cases z) (k.out fun q hq x hx=>?_)
  ·rcases Zk2 hB hi' ho' with z | z | z
   ·exact .inl z
   ·exact .inr (.inl z)
   ·obtain⟨V,q1,q2⟩:=hi i z;exact .inr (.inr (.inl ⟨V,q1,q2 x (hT x hx)⟩))
  ·rcases List.mem_cons.1 hq with z | z
   ·subst z;exact Nat.lt_of_lt_of_le hx.2 hsz
   ·exact Nat.lt_of_lt_of_le (hb q z x hx) hsz
 ·refine WE.cons (T:=fun _=>False) (xs0:= []) (h2:=h1) (v:=v) [] [(m,fun x=>T x∧x < h.size)] none ⟨fun z=>absurd z hw,fun _ z=>z.elim,hd,fun q=>Bool.noConfusion (hh.symm.trans q),fun _ z=>z.elim⟩ (fun _ z=>by simp at z) (fun x hx hl=>hx.elim)
   (fun x hx=>hx.elim) (fun hh q hq=>.inl (KG hM hh q hq)) (fun x j C z=>by cases z) (k.out fun q hq x hx=>?_)
  rcases List.mem_cons.1 hq with z | z
  ·subst z;exact Nat.lt_of_lt_of_le hx.2 hsz
  ·exact Nat.lt_of_lt_of_le (hb q z x hx) hsz
theorem WX.hv {d:Nat} {op:Op} {T:Nat ->Prop} {K:Value ->H ->Prop} (hg:Yi ops ⟨some d,op,ty,p,af,g⟩ fr) (hd:Nat.blt d n=true) (s:HV X wm ⟨some d,op,ty,p,af,g⟩ fr h T K)
 (k:∀ v h',K v h' ->WX X n wm rd ops ⟨sf.s,(m,fun x=>T x∧x < h.size)::sf.m,sf.p⟩ (m + 1) h' l (Tr.set fr d v) Q) (hh:Yd ⟨some d,op,ty,p,af,g⟩=false) (hM:okM ops sf m ⟨some d,op,ty,p,af,g⟩=true) (is:List Nat) (hB:okB ops m is=true) (hi:Um sf T is):
 WX X n wm rd ops sf m h (⟨some d,op,ty,p,af,g⟩::l) fr Q:=
 let⟨v,_,h1,ha,hE,hT,hz,hk⟩:=s;Zsp hg (fun d' e=>by cases e;rwa [Nat.blt_eq] at hd) (.inl ha) hE hT hz (k v h1 hk) hh hM is hB hi
theorem WX.hu {op:Op} {T:Nat ->Prop} {K:H ->Prop} (hg:Yi ops ⟨none,op,ty,p,af,g⟩ fr) (s:HU X wm ⟨none,op,ty,p,af,g⟩ fr h T K)
 (k:∀ h',K h' ->WX X n wm rd ops ⟨sf.s,(m,fun x=>T x∧x < h.size)::sf.m,sf.p⟩ (m + 1) h' l fr Q) (hh:Yd ⟨none,op,ty,p,af,g⟩=false) (hM:okM ops sf m ⟨none,op,ty,p,af,g⟩=true) (is:List Nat) (hB:okB ops m is=true) (hi:Um sf T is):
 WX X n wm rd ops sf m h (⟨none,op,ty,p,af,g⟩::l) fr Q:=
 let⟨_,h1,ha,hE,hT,hz,hk⟩:=s;Zsp (v:=undef) hg (fun d' e=>by cases e) (.inr ⟨ha,rfl⟩) hE hT hz (k h1 hk) hh hM is hB hi
theorem Zj9 (h:H) {A:YN} (hA:A.own=true):Eff.apply wm h (.new A)=some (h.push A):=by show(bif A.own then some (h.push A) else none)=_;rw [hA];rfl
def HN (X:Ctx) (wm:Nat) (o:Oper) (fr:Fr) (h:H) (K:Value ->H ->Prop):Prop:=∃ v A,A.own=true∧(∀ g:H,g.size=h.size ->XG X g (Y5 fr) o=some (.val v,.new A))∧∀ h',Up wm (fun _=>False) h h' ->h'.at h.size=A ->h'.size=h.size + 1 ->K v h'
theorem WO.hn {Q:XX ->Fs ->Prop} {d:Nat} {op:Op} {K:Value ->H ->Prop} (hg:Yi ops ⟨some d,op,ty,p,af,g⟩ fr) (hd:Nat.blt d n=true) (s:HN X wm ⟨some d,op,ty,p,af,g⟩ fr h K) (k:∀ v h',K v h' ->WO X n wm rd ops l ⟨Tr.set fr d v,ds,h',none⟩ Q):
 WO X n wm rd ops (⟨some d,op,ty,p,af,g⟩::l) ⟨fr,ds,h,none⟩ Q:=let⟨v,A,hA,ha,hk⟩:=s;WO.v hg hd (ha h rfl) (Zj9 h hA) (k v _ (hk _ (Up.push wm h A) (J5 h A) (by simp)))
theorem WX.hn {d:Nat} {op:Op} {K:Value ->H ->Prop} (hg:Yi ops ⟨some d,op,ty,p,af,g⟩ fr) (hd:Nat.blt d n=true) (s:HN X wm ⟨some d,op,ty,p,af,g⟩ fr h K) (k:∀ v h',K v h' ->WX X n wm rd ops ⟨(m,fun x=>x ≠ h.size)::sf.s,sf.m,sf.p⟩ (m + 1) h' l (Tr.set fr d v) Q) (hh:Yd ⟨some d,op,ty,p,af,g⟩=false):
 WX X n wm rd ops sf m h (⟨some d,op,ty,p,af,g⟩::l) fr Q:=by
 obtain⟨v,A,hA,ha,hk⟩:=s;have hmm:∀ x,x ∈ Qa h (fun _=>False)↔x < h.size:=fun x=>by rw [Zcy];simp
 have hsz:(X0 (Qa h fun _=>False) h ((mask (Qa h fun _=>False) h).push A)).size=h.size + 1:=by rw [YO,H.size_push,ZJ]
 have hle:h.size <= ((mask (Qa h fun _=>False) h).push A).size:=by rw [H.size_push,ZJ];omega
 have hu:Up wm (fun _=>False) h (X0 (Qa h fun _=>False) h ((mask (Qa h fun _=>False) h).push A)):=
  ⟨by rw [hsz];omega,fun i hi _=>by rw [XA _ _ _ hle,if_pos ⟨(hmm i).2 hi,hi⟩],fun _ e=>e.elim⟩
 have hat:(X0 (Qa h fun _=>False) h ((mask (Qa h fun _=>False) h).push A)).at h.size=A:=by
  rw [XA _ _ _ hle,if_neg (fun q=>Nat.lt_irrefl _ q.2)];have:=J5 (mask (Qa h fun _=>False) h) A
  rwa [ZJ] at this
 refine⟨fun hb=>WE.cons (T:=fun _=>False) (xs0:=Qa h fun _=>False) (v:=v) [(m,fun x=>x ≠ h.size)] [] none ?_ (fun q hq=>?_) (fun _ z=>z.elim) (fun _ z=>z.elim) (fun _ q hq=>.inr fun x hx=>?_) (fun x j C z=>by cases z)
  ((k v _ (hk _ hu hat hsz)).out fun q hq x hx=>by rw [hsz];exact Nat.lt_succ_of_lt (hb q hq x hx))⟩
 ·have:=Zc5 (wm:=wm) (rd:=rd) hg (.inl (ha _ (ZJ _ _))) (h1:= (mask (Qa h fun _=>False) h).push A) (Zj9 _ hA);have t0:(fun x:Nat=>Eff.tgt (Eff.new A)=some x)=fun _=>False:=by funext x;simp [Eff.tgt]
  rw [t0] at this;exact⟨fun hw=>⟨_,rfl,this.1,this.2.1 (by rw [ZJ];exact hw)⟩,fun _ z=>z.elim,fun d' e=>(by cases e;rwa [Nat.blt_eq] at hd),fun q=>Bool.noConfusion (hh.symm.trans q),fun _ z=>z.elim⟩
 ·rw [List.mem_singleton.1 hq];refine⟨rfl,fun x hx=>?_⟩;rcases Nat.lt_or_ge x h.size with z | z
  ·exact .inl ⟨z,(hmm x).2 z⟩
  ·right;rw [hsz];have:x ≠ h.size:=hx;omega
 ·exact .inl ⟨hb q hq x hx,(hmm x).2 (hb q hq x hx)⟩
end Go.Yj
end
end
section
noncomputable section
namespace Go.Yj
open Go.Lf
variable {X:Ctx} {n wm:Nat} {rd:Option Nat} {ops:Array Oper} {l:List Oper} {fr:Fr} {ds:List Deferred} {h h1 h2 h0:H} {ty:TypeId} {p:String} {af:Array Edge} {g:Option (Nat×Bool)} {m:Nat} {T:Nat ->Prop} {G Gr Ga Gb:List (Ast wm)} {d:Nat} {sf:ST}
theorem XB {x:Operand} {t:TypeId} {v:Value} {vs:List Value} (hS:Sp wm T h0 G h) (hx:Y5 fr x=some v) (hv:v.cells.toList=vs):
 HN X wm ⟨some d,.box t x,ty,p,af,g⟩ fr h (fun v h'=>∃ b,h.size=b∧v= .pointer (some ⟨b,0,none⟩)∧Sp wm T h0 (bx wm b vs::G) h'):=by
 subst hv;refine⟨.pointer (some ⟨h.size,0,none⟩),.row v.cells.toList true 0,rfl,fun g' hz=>?_,fun h' u hat _=>⟨h.size,rfl,rfl,hS.new u ⟨hat,hS.hw⟩ fun i e=>Nat.le_of_eq e.symm⟩⟩;rw [ZwB,hx];dsimp only;rw [← hz];rfl
theorem XC {t:TypeId} {v:Value} {vs:List Value} (hS:Sp wm T h0 G h) (hz:Y3 X.P t=some v) (hv:v.cells.toList=vs):
 HN X wm ⟨some d,.alloc t,ty,p,af,g⟩ fr h (fun v h'=>∃ b,h.size=b∧v= .pointer (some ⟨b,0,none⟩)∧Sp wm T h0 (bx wm b vs::G) h'):=by
 subst hv;refine⟨.pointer (some ⟨h.size,0,none⟩),.row v.cells.toList true 0,rfl,fun g' hz'=>?_,fun h' u hat _=>⟨h.size,rfl,rfl,hS.new u ⟨hat,hS.hw⟩ fun i e=>Nat.le_of_eq e.symm⟩⟩;rw [ZqL,hz];dsimp only;rw [← hz'];rfl
theorem XF {x y:Operand} {t:TypeId} {b o sz:Nat} {cs cs' vs:List Value} {v:Value} (hS:Sp wm T h0 G h) (pk:Pk G (bx wm b cs) Gr) (hs:YG X.P t=some sz) (hx:Y5 fr x=some (.pointer (some ⟨b,o,none⟩))) (hy:Y5 fr y=some v)
 (hvs:v.cells.toList=vs) (hn:Nat.beq vs.length sz=true) (hl:Nat.ble (o + sz) cs.length=true) (hc:vs.all Value.oneCell'=true) (hv:splice cs o vs=cs'):
 HU X wm ⟨none,.store t x y,ty,p,af,g⟩ fr h (fun i=>i=b) (fun h'=>Sp wm T h0 (bx wm b cs'::Gr) h'):=by
 obtain⟨hr,hw⟩:=hS.get pk;obtain⟨e1,e2⟩:=ZBB (d:=none) (ty:=ty) (p:=p) (af:=af) (g:=g) hs hx hy hr hw hvs (Nb0 hn) (Nl0 hl) hc hv;refine⟨_,_,e1,e2,fun x hx=>?_,by simp,?_⟩
 ·simpa [Eff.tgt,eq_comm] using hx
 ·exact hS.one pk (Up.put hw (by rw [hr];rfl)) (fun i e=>e) ⟨Xj (JN hr rfl) _,hw⟩ fun i e=>.inl e
theorem ZP {x:Operand} {t e':TypeId} {a:Option Addr} {mm cc:Nat} {k:Int} (hu:X.P.underlying t=some (.slice e')) (hx:Y5 fr x=some (.slice a mm cc)) (hk:(mm:Int)=k):
 XG X h (Y5 fr) ⟨some d,.call {callee:= .builtin .len,args:=#[x],argTypes:=#[t]},ty,p,af,g⟩=some (.val (.int .i64 k),.none):=by subst hk;exact ZAN hu hx
section
variable {α:Type} {e:Wv α}
theorem Zdb {t el:TypeId} {mm:Nat} {ps:Array (Nat×Operand)} {pvs:List (Nat×Value)} {z:Value} {zs:List Value} {xs:List α} (hS:Sp wm T h0 G h)
 (hu:X.P.underlying t=some (.slice el)) (hs:YG X.P el=some e.sz) (hz:Y3 X.P el=some z) (hzs:z.cells.toList=zs) (hzl:zs.length=e.sz) (hm:Nat.ble (mm * e.sz) 10000=true) (hp:evp (Y5 fr) ps.toList=some pvs)
 (ho:ZgU (fun i=>some (i * e.sz,e.sz)) (ZaJ zs mm).length pvs=true) (qs:List (e.Par×α)) (hv:ZlW (fun i=>i * e.sz) (ZaJ zs mm) pvs=qs.flatMap fun q=>e.sh q.1 q.2) (hq:qs.map (·.2)=xs) (hF:∀ q ∈ qs,e.F wm h q.1 q.2) (hlen:Nat.beq mm xs.length=true):
 HN X wm ⟨some d,.buildSlice t mm ps,ty,p,af,g⟩ fr h (fun v h'=>∃ b,h.size=b∧v= .slice (some ⟨b,0,none⟩) mm (2 * mm)∧Sp wm T h0 (ow wm e (some ⟨b,0,none⟩) mm (2 * mm) xs::G) h'):=by
 have hlen:=Nb0 hlen;subst hlen;have hm':=Nl0 hm;refine⟨.slice (some ⟨h.size,0,none⟩) xs.length (2 * xs.length),.row (qs.flatMap fun q=>e.sh q.1 q.2) true e.sz,rfl,fun g' hz'=>?_,fun h' u hat _=>⟨h.size,rfl,rfl,hS.new u ⟨rfl,?_⟩ fun i ⟨o,e⟩=>by cases e;exact Nat.le_refl _⟩⟩
 ·show(match evp (Y5 fr) ps.toList with
   | some ps=>vE (Zmu X.P g' t xs.length ps)
   | none=>none)=_
  rw [hp];dsimp only;unfold Zmu;rw [hu];dsimp only;rw [hs,hz];dsimp only;rw [hzs,hzl];have b1:Nat.ble 1 e.sz=true:=Nm0 e.pos;rw [b1,hm,Nat.beq_refl];simp only [Bool.and_self,Cq1];rw [ZmB (off:=fun i=>i * e.sz) (fun i p e=>by cases e;rfl) _ _ ho,hv,hz']
  rfl
 ·have hel:=Jp.Zu9 (h:=h) (wm:=wm) qs hF;rw [hq] at hel;have hl2:=hel.len
  have hmax:xs.length <=9223372036854775807:=by
   have:xs.length * 1 <=xs.length * e.sz:=Nat.mul_le_mul_left _ e.pos;omega
  refine Zav.mk' hmax hS.hw hat (by omega) ?_ (hel.mono (u.fz (Nat.le_refl _)));have:2 * xs.length / 2=xs.length:=by omega
  rw [this];omega
theorem ZwG {P:Program} {ts:Array TypeId} {a:Option Addr} {nn c:Nat} {y v:Value} {E:Eff} {x0:Nat} (ha:QL P h ts (.slice a nn c) y=some (v,E)) (ht:E.tgt=some x0):Kn a x0:=by
 unfold QL at ha;cases hi:Wm P ts with
 | none=>rw [hi] at ha;cases ha
 | some q=>
   obtain⟨q1,sz,WW,q4⟩:=q;rw [hi] at ha;dsimp only at ha;cases hr:reads h y sz with
   | none=>rw [hr] at ha;cases ha
   | some new=>
     rw [hr] at ha;dsimp only at ha;cases hb:Nat.ble (nn + Qw y) (c / 2) with
     | true=>
       rw [hb,Cq1] at ha;cases hz:Nat.beq (Qw y) 0 with
       | true=>rw [hz,Cq1] at ha;cases ha;cases ht
       | false=>
         rw [hz,Cq0] at ha;split at ha
         ·split at ha
          ·rw [Bool.cond_eq_ite] at ha;split at ha
           ·cases ha;cases ht;exact⟨_,rfl⟩
           ·cases ha
          ·cases ha
         ·cases ha
     | false=>
       rw [hb,Cq0] at ha;cases hq:(Nat.ble ((2 * (nn + Qw y) + 1000) * WW) (2 ^ 47) && new.all Value.oneCell') with
       | false=>rw [hq,Cq0] at ha;cases ha
       | true=>
         rw [hq,Cq1] at ha;split at ha
         ·cases hz:Nat.beq (c % 2) 0 with
          | true=>rw [hz,Cq1] at ha;cases ha;cases ht
          | false=>
            rw [hz,Cq0] at ha;split at ha
            ·split at ha
             ·rw [Bool.cond_eq_ite] at ha;split at ha
              ·cases ha;cases ht;exact⟨_,rfl⟩
              ·cases ha
             ·cases ha
            ·cases ha
         ·cases ha
theorem ZAQ {ts:Array TypeId} {x y:Operand} {a:Option Addr} {nn c:Nat} {v w:Value} {E:Eff} {x0:Nat} (hx:Y5 fr x=some (.slice a nn c)) (hy:Y5 fr y=some w) (ha:XG X h (Y5 fr) ⟨some d,.call {callee:= .builtin .append,args:=#[x,y],argTypes:=ts},ty,p,af,g⟩=some (.val v,E)) (ht:E.tgt=some x0):Kn a x0:=by
 have hev:evs (Y5 fr) [x,y]=some [.slice a nn c,w]:=Zf hx (Zf hy Zm);rw [UN] at ha;have ZvL:evs (Y5 fr) (#[x,y]:Array Operand).toList=some [.slice a nn c,w]:=hev;rw [ZvL] at ha;replace ha:vE (QL X.P h ts (.slice a nn c) w)=some (.val v,E):=ha;cases hh:QL X.P h ts (.slice a nn c) w with
 | none=>rw [hh] at ha;cases ha
 | some q=>rw [hh] at ha;obtain⟨v',E'⟩:=q;cases ha;exact ZwG hh ht
theorem Zfx {ts:Array TypeId} {x y:Operand} {WW:Nat} {a a2:Option Addr} {nn n2 c c2:Nat} {xs ys zs:List α} (hS:Sp wm T h0 G h) (pk:Pk G (ow wm e a nn c xs) Gr) (hi:ZhB X.P ts e.sz WW) (hx:Y5 fr x=some (.slice a nn c)) (hy:Y5 fr y=some (.slice a2 n2 c2)) (sr:Src e wm h a2 c2 ys) (hn:n2=ys.length) (ha:app WW xs ys=some zs):
 HV X wm ⟨some d,.call {callee:= .builtin .append,args:=#[x,y],argTypes:=ts},ty,p,af,g⟩ fr h (Kn a) (fun v h'=>∃ (a':Option Addr) (c':Nat),v= .slice a' zs.length c'∧Sp wm T h0 (ow wm e a' zs.length c' zs::Gr) h'):=by
 obtain⟨h1,so⟩:=hS.get pk;subst h1 hn
 refine ZAR (K:=HV X wm ⟨some d,.call {callee:= .builtin .append,args:=#[x,y],argTypes:=ts},ty,p,af,g⟩ fr h (Kn a) (fun v h'=>∃ (a':Option Addr) (c':Nat),v= .slice a' zs.length c'∧Sp wm T h0 (ow wm e a' zs.length c' zs::Gr) h'))
  (J:=fun v h'=>Up wm (Kn a) h h'∧∃ (a':Option Addr) (c':Nat),v= .slice a' zs.length c'∧Sp wm T h0 (ow wm e a' zs.length c' zs::Gr) h') wm (fun v E h1 e1 e2 ⟨u,j⟩=>⟨v,E,h1,e1,e2,fun x0 hx0=>?_,u.size,j⟩) hi (Nat.le_refl _) hS.hw hx hy so sr ha
  (fun a' c' h' u so' hb=>⟨u,a',c',rfl,hS.one pk u (fun i q=>q) ⟨rfl,so'⟩ fun i q=>(hb i q).imp id fun z=>Nat.le_of_eq z.symm⟩)
 exact ZAQ hx hy e1 hx0
end
end Go.Yj
end
end
section
noncomputable section
namespace Go.Yj
open Go.Lf
variable {X:Ctx} {n wm:Nat} {rd:Option Nat} {ops:Array Oper} {l:List Oper} {fr:Fr} {ds:List Deferred} {h h1 h2 h0:H} {ty:TypeId} {p:String} {af:Array Edge} {g:Option (Nat×Bool)} {m:Nat} {T:Nat ->Prop} {G Gr Ga Gb:List (Ast wm)} {d:Nat} {sf:ST}
section
variable {P:Program} {t:TypeId} {i x0:Nat} {k x:Value} {E:Eff}
theorem ZwD (ha:X9 P h t (.map (some i)) k x=some E) (ht:E.tgt=some x0):x0=i:=by
 unfold X9 at ha;split at ha
 ·rename_i heq _;cases heq;rw [Bool.cond_eq_ite] at ha;split at ha
  ·split at ha
   ·split at ha
    ·rw [Bool.cond_eq_ite] at ha;split at ha
     ·cases ha;cases ht;rfl
     ·cases ha
    ·cases ha
   ·cases ha;cases ht;rfl
   ·cases ha
  ·cases ha
 ·cases ha
end
section
variable {κ ν:Type} [DecidableEq κ] {kt vt:TypeId} {kv:κ ->Value} {vv:ν ->Value} {i:Nat} {ll:List (κ×ν)}
theorem ZkT {t:TypeId} (kv:κ ->Value) (vv:ν ->Value) (hS:Sp wm T h0 G h):
 HN X wm ⟨some d,.makeMap t none,ty,p,af,g⟩ fr h (fun v h'=>∃ b,h.size=b∧v= .map (some b)∧Sp wm T h0 (mp wm kv vv (some b) []::G) h'):=
 ⟨.map (some h.size),.map [] 0,rfl,fun g' hz=>by rw [← hz];rfl,fun h' u hat _=>⟨h.size,rfl,rfl,hS.new u ⟨⟨.inr ⟨h.size,[],0,rfl,hat,rfl,by simp,by simp⟩⟩,fun i e=>by cases e;exact hS.hw⟩ fun i e=>by cases e;exact Nat.le_refl _⟩⟩
theorem ZkS {t:TypeId} {x y z:Operand} {k:κ} {v:ν} (hS:Sp wm T h0 G h) (pk:Pk G (mp wm kv vv (some i) ll) Gr) (K:Ze4 X.P kt kv) (hu:X.P.underlying t=some (.map kt vt)) (hx:Y5 fr x=some (.map (some i))) (hy:Y5 fr y=some (kv k)) (hz:Y5 fr z=some (vv v)):
 HU X wm ⟨none,.mapUpdate t x y z,ty,p,af,g⟩ fr h (fun j=>j=i) (fun h'=>Sp wm T h0 (mp wm kv vv (some i) (QR ll k v)::Gr) h'):=by
 obtain⟨h',⟨E,ha,hE,_⟩,u,ho⟩:=Zyk (d:=none) (ty:=ty) (p:=p) (af:=af) (g:=g) K hu (Nat.le_refl wm) hx rfl hy hz (hS.get pk);refine⟨E,h',ha,hE,fun x0 hx0=>?_,u.size,hS.one pk u (fun j e=>e) ho fun j e=>.inl e⟩;have ha':(match Y5 fr x,Y5 fr y,Y5 fr z with | some m,some k,some x=>sE (X9 X.P h t m k x) | _,_,_=>none)=some (.skip,E):=ha;rw [hx,hy,hz] at ha';dsimp only at ha';cases hh:X9 X.P h t (.map (some i)) (kv k) (vv v) with
 | none=>rw [hh] at ha';cases ha'
 | some E'=>rw [hh] at ha';cases ha';exact ZwD hh hx0
end
end Go.Yj
end
end
section
noncomputable section
namespace Go.Yj
open Go.Lf
variable {X:Ctx} {n wm:Nat} {rd:Option Nat} {ops:Array Oper} {l:List Oper} {fr:Fr} {ds:List Deferred} {h h1 h2 h0:H} {ty:TypeId} {p:String} {af:Array Edge} {g:Option (Nat×Bool)} {m:Nat} {T:Nat ->Prop} {G Gr Ga Gb:List (Ast wm)} {d:Nat} {sf:ST}
def CP {wm:Nat} (K:Value ->List (Ast wm) ->Prop) (Ga:List (Ast wm)) (h:H):Value ->H ->Prop:=fun v h'=>∃ Gb,K v Gb∧Sp wm (Qc Ga) h Gb h'
def Yv (X:Ctx) (fr:Fr) (o:Oper) (f:FuncId) (args:Array Value):Prop:=∀ h:H,XG X h (Y5 fr) o=some (.enter f args,.none)
theorem Yv.fn {f:FuncId} {xs:Array Operand} {ts:Array TypeId} {vs:List Value} {d:Option Tmp} (hf:(X.fns.get f).isSome=true) (hx:evs (Y5 fr) xs.toList=some vs):Yv X fr ⟨d,.call {callee:= .value (.func f),args:=xs,argTypes:=ts},ty,p,af,g⟩ f vs.toArray:=fun h=>by
 obtain⟨fn,hf⟩:=Option.isSome_iff_exists.1 hf;rw [Zb7,hx];dsimp only;rw [ZmC];dsimp only;exact Zuk hf
theorem Yv.clo {f:FuncId} {fo:Operand} {xs:Array Operand} {ts:Array TypeId} {vs first cap args:List Value} {d:Option Tmp} (hc:Y5 fr fo=some (.func (.func f) first.toArray cap.toArray)) (hf:(X.fns.get f).isSome=true) (hx:evs (Y5 fr) xs.toList=some vs) (ha:first ++ vs ++ cap=args):
 Yv X fr ⟨d,.call {callee:= .value fo,args:=xs,argTypes:=ts},ty,p,af,g⟩ f args.toArray:=fun h=>by
 obtain⟨fn,hf⟩:=Option.isSome_iff_exists.1 hf;subst ha;rw [Zb7,hx];dsimp only;rw [hc];dsimp only;unfold Ux;dsimp only;rw [hf]
theorem WO.en {Q:XX ->Fs ->Prop} {op:Op} {f:FuncId} {args:Array Value} {v:Value} {h2:H} (hg:Yi ops ⟨some d,op,ty,p,af,g⟩ fr) (hd:Nat.blt d n=true) (he:Yv X fr ⟨some d,op,ty,p,af,g⟩ f args)
 (hc:Yu X (.call f args wm h) (.fin (.ret v) h2)) (k:WO X n wm rd ops l ⟨Tr.set fr d v,ds,h2,none⟩ Q):WO X n wm rd ops (⟨some d,op,ty,p,af,g⟩::l) ⟨fr,ds,h,none⟩ Q:=
 WO.call hg hd (he h) rfl hc k
theorem WO.cl {Q:XX ->Fs ->Prop} {op:Op} {f:FuncId} {args:Array Value} {K:Value ->List (Ast wm) ->Prop} (hg:Yi ops ⟨some d,op,ty,p,af,g⟩ fr) (hd:Nat.blt d n=true) (he:Yv X fr ⟨some d,op,ty,p,af,g⟩ f args) (hS:Sp wm T h0 G h) (pk:Sel G Ga Gr)
 (hc:∀ g':H,g'.size=h.size ->Fz wm h g' ->Yx Ga g' ->WR X f args wm g' (CP K Ga g')) (k:∀ v h' Gb,K v Gb ->Sp wm T h0 (Gb ++ Gr) h' ->WO X n wm rd ops l ⟨Tr.set fr d v,ds,h',none⟩ Q):
 WO X n wm rd ops (⟨some d,op,ty,p,af,g⟩::l) ⟨fr,ds,h,none⟩ Q:=by
 obtain⟨e,h',⟨v,rfl,Gb,hk,hs⟩,hj⟩:=hc h rfl (Fz.refl _ _) (hS.ZfM pk);exact WO.en hg hd he hj (k v h' Gb hk (hS.call pk hs))
theorem Qb.mono {P:Program} {o:Oper} {M M':Nat ->Prop} {v:Value} (hM:∀ i,i < h.size ->M i ->M' i) (s:Qb P wm rd ops o M fr h v h2):Qb P wm rd ops o M' fr h v h2:=fun ρ a w F K Q r ZQ hf hF hK=>
 s ρ a w F K Q r ZQ hf hF fun ρ' v' w' hv r' st=>hK ρ' v' w' hv r' (st.weaken hM r.lt)
theorem Sp.ZBX (hh:Yx Ga h) (c:Sp wm (Qc Ga) h Gb h2):JL (Qc Ga) h h2:=by
 refine⟨c.size,c.keep,fun i hi ho=>?_,fun i hi ho=>?_⟩
 ·by_cases ht:Qc Ga i
  ·exact(hh.own ht).2
  ·rwa [c.keep i hi ht] at ho
 ·by_cases ht:Qc Ga i
  ·exact Ud (hh.own ht).2
  ·rwa [c.keep i hi ht] at ho
open Classical in
def Jh (wm:Nat) (h:H) (R:Nat ->Prop):List Nat:= (List.range h.size).filter fun x=>decide (wm <=x∧(h.at x).own=true∧¬ R x)
theorem JX {R:Nat ->Prop} {x:Nat}:x ∈ Jh wm h R↔x < h.size∧wm <=x∧(h.at x).own=true∧¬ R x:=by unfold Jh;simp
theorem WX.clC {Q:Fr ->H ->Prop} (to:List (Nat×(Nat ->Prop))) {op:Op} {f:FuncId} {args:Array Value} {K:Value ->List (Ast wm) ->Prop} (hg:Yi ops ⟨some d,op,ty,p,af,g⟩ fr) (hd:Nat.blt d n=true) (he:Yv X fr ⟨some d,op,ty,p,af,g⟩ f args) (hS:Sp wm T h0 G h) (pk:Sel G Ga Gr)
 (hc:∀ g':H,g'.size=h.size ->Fz wm h g' ->Yx Ga g' ->WR X f args wm g' (CP K Ga g')) (k:∀ v h' Gb,K v Gb ->Sp wm T h0 (Gb ++ Gr) h' ->WX X n wm rd ops ⟨sf.s,to ++ sf.m,sf.p⟩ (m + 1) h' l (Tr.set fr d v) Q)
 (hh:Yd ⟨some d,op,ty,p,af,g⟩=false) (hto:∀ x,Qc Ga x ->x < h.size ->∃ q ∈ to,q.1=m∧q.2 x) (htb:∀ q ∈ to,∀ x,q.2 x ->x < h.size) (hM:okM ops sf m ⟨some d,op,ty,p,af,g⟩=true) (hB:∀ x,Qc Ga x ->∀ i o',i < m ->ops.toList[i]? =some o' ->Cmp ops i m∨Yd o'=true∨∃ V,(i,V) ∈ sf.s∧V x):
 WX X n wm rd ops sf m h (⟨some d,op,ty,p,af,g⟩::l) fr Q:=by
 have ha:=hS.ZfM pk;have hw:=hS.hw;have hat:∀ x,x ∉ Jh wm h (Qc Ga) ->(mask (Jh wm h (Qc Ga)) h).at x=h.at x:=fun x hx=>by rw [Xd,if_neg hx]
 have hnf:∀ x,Qc Ga x ->x ∉ Jh wm h (Qc Ga):=fun x hx q=>(JX.1 q).2.2.2 hx
 have hfz:Fz wm h (mask (Jh wm h (Qc Ga)) h):=by
  refine⟨by rw [ZJ];exact Nat.le_refl _,fun i cs own z e s=>?_,fun i h1 h2=>?_⟩
  ·rw [hat i fun q=>?_,e];have q:=JX.1 q;rcases s with s | s
   ·omega
   ·rw [e] at q;subst s;exact Bool.noConfusion q.2.2.1
  ·exact hat i fun q=>by have:= (JX.1 q).2.1;omega
 have hha:Yx Ga (mask (Jh wm h (Qc Ga)) h):= ⟨fun A hA=>A.loc hfz (fun i f=>hat i (hnf i ⟨A,hA,f⟩)) (ha.all A hA),ha.dis⟩
 obtain⟨e,g2,⟨v,rfl,Gb,hk,hs⟩,hj⟩:=hc _ (ZJ _ _) hfz hha;have hsz:h.size <=g2.size:=by have:=hs.size;rwa [ZJ] at this
 have hua:=XA (Jh wm h (Qc Ga)) h g2 hsz;have hout:∀ x,x ∉ Jh wm h (Qc Ga) ->(X0 (Jh wm h (Qc Ga)) h g2).at x=g2.at x:=fun x hx=>by rw [hua,if_neg (fun q=>hx q.1)]
 have hin:∀ x,x ∈ Jh wm h (Qc Ga) ->g2.at x= .dead:=fun x hx=>by
  have q:=JX.1 hx;rw [hs.keep x (by rw [ZJ];exact q.1) q.2.2.2,Xd,if_pos hx]
 have hf2:Fz wm g2 (X0 (Jh wm h (Qc Ga)) h g2):=by
  refine⟨by rw [YO];exact Nat.le_refl _,fun i cs own z e _=>?_,fun i h1 _=>hout i fun q=>by have:= (JX.1 q).2.1;omega⟩;rw [hout i fun q=>?_,e];rw [hin i q] at e;cases e
 have hsp:Sp wm (Qc Ga) h Gb (X0 (Jh wm h (Qc Ga)) h g2):=by
  refine⟨hw,(hfz.trans hs.fz).trans hf2,fun i hi hn=>?_,⟨fun A hA=>A.loc hf2 (fun i f=>hout i fun q=>?_) (hs.hold.all A hA),hs.hold.dis⟩,fun i f=>by have:=hs.inn i f;rwa [ZJ] at this⟩
  ·by_cases hx:i ∈ Jh wm h (Qc Ga)
   ·rw [hua,if_pos ⟨hx,hi⟩]
   ·rw [hout i hx,hs.keep i (by rw [ZJ];exact hi) hn,hat i hx]
  ·have q':=JX.1 q;rcases hs.inn i ⟨A,hA,f⟩ with z | z
   ·exact q'.2.2.2 z
   ·rw [ZJ] at z;omega
 have hown:∀ x,Qc Ga x ->x < h.size:=fun x hx=>ZmY (ha.own hx).2
 refine⟨fun hb=>WE.cons (T:=Qc Ga) (xs0:=Jh wm h (Qc Ga)) (v:=v) (h2:=X0 (Jh wm h (Qc Ga)) h g2) [] to none ?_ (fun _ z=>by simp at z) hto
  (fun x hx hl i o' hi' ho'=>?_) (fun hh q hq=>.inl (KG hM hh q hq)) (fun x j C z=>by cases z) ((k v _ Gb hk (hS.call pk hsp)).out fun q hq x hx=>?_)⟩
 ·refine⟨fun _=>⟨g2,rfl,(ZiM hg (he _) (by rw [ZJ];exact hw) hj).mono fun i hi hm=>?_,hs.ZBX hha⟩,fun x hx=>(ha.own hx).1,fun d' e=>by cases e;rwa [Nat.blt_eq] at hd,fun q=>Bool.noConfusion (hh.symm.trans q),fun x hx _=>hnf x hx⟩;rw [ZJ] at hi;by_cases ht:Qc Ga i
  ·exact ht
  ·exfalso;by_cases hx:i ∈ Jh wm h (Qc Ga)
   ·rw [Xd,if_pos hx] at hm;cases hm.2
   ·rw [hat i hx] at hm;exact hx (JX.2 ⟨hi,hm.1,hm.2,ht⟩)
 ·exact(hB x hx i o' hi' ho').imp (fun z=>z) fun z=>z.imp (fun z=>z) .inl
 ·rw [YO];rcases List.mem_append.1 hq with z | z
  ·exact Nat.lt_of_lt_of_le (htb q z x hx) hsz
  ·exact Nat.lt_of_lt_of_le (hb q z x hx) hsz
theorem WX.cl {Q:Fr ->H ->Prop} {op:Op} {f:FuncId} {args:Array Value} {K:Value ->List (Ast wm) ->Prop} (hg:Yi ops ⟨some d,op,ty,p,af,g⟩ fr) (hd:Nat.blt d n=true) (he:Yv X fr ⟨some d,op,ty,p,af,g⟩ f args) (hS:Sp wm T h0 G h) (pk:Sel G Ga Gr)
 (hc:∀ g':H,g'.size=h.size ->Fz wm h g' ->Yx Ga g' ->WR X f args wm g' (CP K Ga g')) (k:∀ v h' Gb,K v Gb ->Sp wm T h0 (Gb ++ Gr) h' ->WX X n wm rd ops ⟨sf.s,(m,fun x=>Qc Ga x∧x < h.size)::sf.m,sf.p⟩ (m + 1) h' l (Tr.set fr d v) Q)
 (hh:Yd ⟨some d,op,ty,p,af,g⟩=false) (hM:okM ops sf m ⟨some d,op,ty,p,af,g⟩=true) (is:List Nat) (hB:okB ops m is=true) (hi:Um sf (Qc Ga) is):
 WX X n wm rd ops sf m h (⟨some d,op,ty,p,af,g⟩::l) fr Q:=
 WX.clC [(m,fun x=>Qc Ga x∧x < h.size)] hg hd he hS pk hc k hh (fun x hx hl=>⟨_,List.mem_singleton.2 rfl,rfl,hx,hl⟩) (fun q hq x hx=>by rw [List.mem_singleton.1 hq] at hx;exact hx.2) hM fun x hx i o' hi' ho'=>(Zk2 hB hi' ho').imp (fun z=>z) fun z=>z.imp (fun z=>z) fun z=>let⟨V,q1,q2⟩:=hi i z;⟨V,q1,q2 x hx⟩
theorem WX.ZEE {Q:Fr ->H ->Prop} {op:Op} {f:FuncId} {args:Array Value} {v:Value} (hg:Yi ops ⟨some d,op,ty,p,af,g⟩ fr) (hd:Nat.blt d n=true) (he:Yv X fr ⟨some d,op,ty,p,af,g⟩ f args) (gr:Grow h h2) (hj:Yu X (.call f args h.size h) (.fin (.ret v) h2))
 (k:WX X n wm rd ops sf (m + 1) h2 l (Tr.set fr d v) Q) (hh:Yd ⟨some d,op,ty,p,af,g⟩=false) (hM:okM ops sf m ⟨some d,op,ty,p,af,g⟩=true):WX X n wm rd ops sf m h (⟨some d,op,ty,p,af,g⟩::l) fr Q:=by
 refine⟨fun hb=>WE.cons (T:=fun _=>False) (xs0:= []) (v:=v) (h2:=h2) [] [] none ?_ (fun _ z=>by simp at z) (fun _ z=>z.elim) (fun _ z=>z.elim) (fun hh q hq=>.inl (KG hM hh q hq)) (fun x j C z=>by cases z) (k.out fun q hq x hx=>Nat.lt_of_lt_of_le (hb q hq x hx) gr.size)⟩;refine⟨fun _=>⟨h2,rfl,(ZiM hg (he h) (Nat.le_refl _) hj).mono fun i hi hm=>absurd hm.1 (Nat.not_le_of_lt hi),gr.size,fun i hi _=>gr.keep i hi,fun i hi q=>by rwa [gr.keep i hi] at q,fun i hi q=>by rwa [gr.keep i hi] at q⟩,fun _ z=>z.elim,fun d' e=>by cases e;rwa [Nat.blt_eq] at hd,fun q=>Bool.noConfusion (hh.symm.trans q),fun _ z=>z.elim⟩
theorem WO.cp {Q:XX ->Fs ->Prop} {op:Op} {f:FuncId} {args:Array Value} {v:Value} (hg:Yi ops ⟨some d,op,ty,p,af,g⟩ fr) (hd:Nat.blt d n=true) (he:Yv X fr ⟨some d,op,ty,p,af,g⟩ f args) (hj:Pure X f args h v) (k:WO X n wm rd ops l ⟨Tr.set fr d v,ds,h,none⟩ Q):
 WO X n wm rd ops (⟨some d,op,ty,p,af,g⟩::l) ⟨fr,ds,h,none⟩ Q:=WO.en hg hd he (hj wm) k
theorem WX.cp {Q:Fr ->H ->Prop} {op:Op} {f:FuncId} {args:Array Value} {v:Value} (hg:Yi ops ⟨some d,op,ty,p,af,g⟩ fr) (hd:Nat.blt d n=true) (he:Yv X fr ⟨some d,op,ty,p,af,g⟩ f args) (hj:Pure X f args h v)
 (k:WX X n wm rd ops sf (m + 1) h l (Tr.set fr d v) Q) (hh:Yd ⟨some d,op,ty,p,af,g⟩=false) (hM:okM ops sf m ⟨some d,op,ty,p,af,g⟩=true):WX X n wm rd ops sf m h (⟨some d,op,ty,p,af,g⟩::l) fr Q:=WX.ZEE hg hd he (Grow.refl h) (hj _) k hh hM
theorem WO.gcp {Q:XX ->Fs ->Prop} {op:Op} {f:FuncId} {args:Array Value} {v:Value} {c:Bool} (hg:Ze ops ⟨some d,op,ty,p,af,g⟩ fr c) (hd:Nat.blt d n=true) (he:c=true ->Yv X fr ⟨some d,op,ty,p,af,g⟩ f args) (hj:c=true ->Pure X f args h v) (k:WO X n wm rd ops l ⟨Tr.set fr d (cond c v undef),ds,h,none⟩ Q):
 WO X n wm rd ops (⟨some d,op,ty,p,af,g⟩::l) ⟨fr,ds,h,none⟩ Q:=by
 cases c
 ·exact WO.Zgi hg rfl hd k
 ·exact WO.cp hg hd (he rfl) (hj rfl) k
theorem WX.gcp {Q:Fr ->H ->Prop} {op:Op} {f:FuncId} {args:Array Value} {v:Value} {c:Bool} (hg:Ze ops ⟨some d,op,ty,p,af,g⟩ fr c) (hd:Nat.blt d n=true) (he:c=true ->Yv X fr ⟨some d,op,ty,p,af,g⟩ f args) (hj:c=true ->Pure X f args h v)
 (k:WX X n wm rd ops sf (m + 1) h l (Tr.set fr d (cond c v undef)) Q) (hh:Yd ⟨some d,op,ty,p,af,g⟩=false) (hM:okM ops sf m ⟨some d,op,ty,p,af,g⟩=true):WX X n wm rd ops sf m h (⟨some d,op,ty,p,af,g⟩::l) fr Q:=by
 cases c
 ·exact WX.off hg hd k hM
 ·exact WX.cp hg hd (he rfl) (hj rfl) k hh hM
theorem WO.inl {Q:XX ->Fs ->Prop} {op:Op} {f:FuncId} {args:Array Value} (hg:Yi ops ⟨some d,op,ty,p,af,g⟩ fr) (hd:Nat.blt d n=true) (he:Yv X fr ⟨some d,op,ty,p,af,g⟩ f args)
 (k:WR X f args wm h (fun v h'=>WO X n wm rd ops l ⟨Tr.set fr d v,ds,h',none⟩ Q)):WO X n wm rd ops (⟨some d,op,ty,p,af,g⟩::l) ⟨fr,ds,h,none⟩ Q:=by
 obtain⟨e,h',⟨v,rfl,hk⟩,hj⟩:=k;exact WO.en hg hd he hj hk
theorem Sp.fsl {α:Type} {e:Wv α} {a:Option Addr} {c:Nat} {xs:List α} (s:Sp wm T h0 G h) (pk:Pk G (Xx wm (XJ e) (a,c) xs) Gr):Sl e wm h a c xs:=s.get pk
end Go.Yj
end
end
section
noncomputable section
namespace Go.Yj
open Go.Lf
theorem k0 {α:Type} {A:α} {G:List α}:Pk (A::G) A G:= .z
theorem k1 {α:Type} {A b:α} {G:List α}:Pk (b::A::G) A (b::G):= .s k0
theorem k2 {α:Type} {A b c:α} {G:List α}:Pk (b::c::A::G) A (b::c::G):= .s k1
theorem k3 {α:Type} {A b c d:α} {G:List α}:Pk (b::c::d::A::G) A (b::c::d::G):= .s k2
theorem k4 {α:Type} {A b c d e:α} {G:List α}:Pk (b::c::d::e::A::G) A (b::c::d::e::G):= .s k3
theorem k5 {α:Type} {A b c d e f:α} {G:List α}:Pk (b::c::d::e::f::A::G) A (b::c::d::e::f::G):= .s k4
theorem k6 {α:Type} {A b c d e f g:α} {G:List α}:Pk (b::c::d::e::f::g::A::G) A (b::c::d::e::f::g::G):= .s k5
theorem k7 {α:Type} {A b c d e f g h:α} {G:List α}:Pk (b::c::d::e::f::g::h::A::G) A (b::c::d::e::f::g::h::G):= .s k6
theorem k8 {α:Type} {A b c d e f g h i:α} {G:List α}:Pk (b::c::d::e::f::g::h::i::A::G) A (b::c::d::e::f::g::h::i::G):= .s k7
theorem k9 {α:Type} {A b c d e f g h i j:α} {G:List α}:Pk (b::c::d::e::f::g::h::i::j::A::G) A (b::c::d::e::f::g::h::i::j::G):= .s k8
theorem k10 {α:Type} {A b c d e f g h i j k:α} {G:List α}:Pk (b::c::d::e::f::g::h::i::j::k::A::G) A (b::c::d::e::f::g::h::i::j::k::G):= .s k9
theorem k11 {α:Type} {A b c d e f g h i j k l:α} {G:List α}:Pk (b::c::d::e::f::g::h::i::j::k::l::A::G) A (b::c::d::e::f::g::h::i::j::k::l::G):= .s k10
theorem k12 {α:Type} {A b c d e f g h i j k l m:α} {G:List α}:Pk (b::c::d::e::f::g::h::i::j::k::l::m::A::G) A (b::c::d::e::f::g::h::i::j::k::l::m::G):= .s k11
theorem k13 {α:Type} {A b c d e f g h i j k l m n:α} {G:List α}:Pk (b::c::d::e::f::g::h::i::j::k::l::m::n::A::G) A (b::c::d::e::f::g::h::i::j::k::l::m::n::G):= .s k12
theorem k14 {α:Type} {A b c d e f g h i j k l m n o:α} {G:List α}:Pk (b::c::d::e::f::g::h::i::j::k::l::m::n::o::A::G) A (b::c::d::e::f::g::h::i::j::k::l::m::n::o::G):= .s k13
theorem k15 {α:Type} {A b c d e f g h i j k l m n o p:α} {G:List α}:Pk (b::c::d::e::f::g::h::i::j::k::l::m::n::o::p::A::G) A (b::c::d::e::f::g::h::i::j::k::l::m::n::o::p::G):= .s k14
theorem At.eqv {h h':H} {b o:Nat} {vs:List Value} (e:h'.at b=h.at b) (a:At h b o vs):At h' b o vs:=by
 obtain⟨cs,own,z,h1,h2⟩:=a;exact⟨cs,own,z,by rw [e,h1],h2⟩
section
variable {wm:Nat} {G Ga Gr:List (Ast wm)} {h h0:H} {T:Nat ->Prop} {A B:Ast wm}
theorem Sp.nil {α:Type} (s:Sp wm T h0 G h) {e:Wv α}:Sp wm T h0 (ow wm e none 0 0 ([]:List α)::G) h:=s.add ⟨rfl,Zav.nil⟩ fun i=>Kn.none
theorem Sp.ms {κ ν:Type} {kv:κ ->Value} {vv:ν ->Value} {m:Option Nat} {l:List (κ×ν)} (s:Sp wm T h0 G h) (f:Zh9 kv vv wm h0 m l):Zh9 kv vv wm h m l:=f.fz s.fz
end
theorem ZrI {b:Bool} (h:(!b)=true):b=false:=by cases b <;> simp_all
theorem ZrJ {b:Bool} (h:(!b)=false):b=true:=by cases b <;> simp_all
section
variable {X:Ctx} {h:H} {ev:Operand ->Option Value} {d:Nat} {ty:TypeId} {p:String} {af:Array Edge} {g:Option (Nat×Bool)}
theorem Yg {α:Type} {xs:List α} {v:α} {x y:Operand} {t e:TypeId} {sz b o nn c:Nat} {a:Option Addr} {k:Int} (hu:X.P.underlying t=some (.slice e)) (hs:YG X.P e=some sz) (hx:ev x=some (.slice a nn c)) (hy:ev y=some (.int .i64 k)) (hn:nn=xs.length) (ha:a=some ⟨b,o,none⟩) (hk:YB xs k=some v):
 XG X h ev ⟨some d,.indexAddr t x y,ty,p,af,g⟩=some (.val (.pointer (some ⟨b,o + k.toNat * sz,none⟩)),.none):=by subst hn;exact ZEN hu hs hx hy ha hk
theorem Zkk {q x y:Operand} {b:Bool} {v:Value} (hc:ev q=some (.bool b)) (hb:b=true) (hx:ev x=some v):XG X h ev ⟨some d,.pick q x y,ty,p,af,g⟩=some (.val v,.none):=by
 subst hb;rw [Zd5,hc];dsimp only;rw [hx];rfl
theorem Zkl {q x y:Operand} {b:Bool} {v:Value} (hc:ev q=some (.bool b)) (hb:b=false) (hy:ev y=some v):XG X h ev ⟨some d,.pick q x y,ty,p,af,g⟩=some (.val v,.none):=by
 subst hb;rw [Zd5,hc];dsimp only;rw [hy];rfl
end
theorem WR.Us {X:Ctx} {f:FuncId} {args:Array Value} {h:H} {v:Value} (hp:plain v=true) (k:WR X f args h.size h (CP (wm:=h.size) (fun v' Gb=>v'=v∧Gb= []) [] h)):Pure X f args h v:=
 WF.ZBK hp (k.mono fun _ _ ⟨v',h1,_,h2,_⟩=>⟨v',h1,h2.1⟩)
end Go.Yj
end
end
section
noncomputable section
namespace Go.Yj
open Go.Lf
variable {X:Ctx} {n wm:Nat} {rd:Option Nat} {ops:Array Oper} {fr:Fr} {h h1 h2 h0:H} {ty:TypeId} {p:String} {af:Array Edge} {g:Option (Nat×Bool)} {T:Nat ->Prop} {G Gr Ga Gb:List (Ast wm)} {d:Nat}
section
variable {α:Type} {e:Wv α}
end
end Go.Yj
end
end
section
noncomputable section
namespace Go.Yj
open Go.Lf
variable {X:Ctx} {n wm:Nat} {rd:Option Nat} {ops:Array Oper} {fr:Fr} {h h1 h2 h0:H} {ty:TypeId} {p:String} {af:Array Edge} {g:Option (Nat×Bool)} {T:Nat ->Prop} {G Gr Ga Gb:List (Ast wm)} {d:Nat}
structure Ne (α:Type) where
 sz:Nat
 pos:0 < sz
 Par:Type
 dflt:Par
 sh:Par ->α ->List Value
 len:∀ p x,(sh p x).length=sz
 one:∀ p x,(sh p x).all Value.oneCell'=true
 Yr:(wm:Nat) ->Par ->α ->List (Ast wm)
section
variable {α:Type} {e:Ne α}
def upd {β:Type} (ps:Nat ->β) (i:Nat) (p:β):Nat ->β:=fun k=>if k=i then p else ps k
variable {a:Option Addr} {nn c:Nat} {ps:Nat ->e.Par} {xs:List α}
end
end Go.Yj
end
end
section
noncomputable section
namespace Go.Yj
open Go.Lf
variable {X:Ctx} {n wm:Nat} {rd:Option Nat} {ops:Array Oper} {fr:Fr} {h h1 h2 h0:H} {ty:TypeId} {p:String} {af:Array Edge} {g:Option (Nat×Bool)} {T:Nat ->Prop} {G Gr Ga Gb:List (Ast wm)} {d:Nat}
section
variable {α:Type} {e:Ne α} {a:Option Addr} {nn c:Nat} {ps:Nat ->e.Par} {xs:List α}
end
end Go.Yj
end
end
section
noncomputable section
namespace Go.Yj
open Go.Lf
variable {X:Ctx} {n wm:Nat} {rd:Option Nat} {ops:Array Oper} {l:List Oper} {fr:Fr} {h h1 h2 h0:H} {ty:TypeId} {p:String} {af:Array Edge} {g:Option (Nat×Bool)} {T:Nat ->Prop} {G Gr Ga Gb:List (Ast wm)} {d m:Nat} {sf:ST}
section
variable {α:Type} {e:Wv α}
end
section
variable {α:Type} {e:Ne α}
end
end Go.Yj
end
end
section
noncomputable section
namespace Go.Yj
open Go.Lf
variable {X:Ctx} {n wm:Nat} {rd:Option Nat} {ops:Array Oper} {l:List Oper} {fr:Fr} {ds:List Deferred} {h h1 h2 h0:H} {ty:TypeId} {p:String} {af:Array Edge} {g:Option (Nat×Bool)} {T:Nat ->Prop} {G Gr Ga Gb:List (Ast wm)} {d m:Nat} {sf:ST}
section
variable {α:Type} {e:Wv α} {a a1:Option Addr} {nn c n1 c1:Nat} {ps:Nat ->Option Addr×Nat×Nat} {xs:List (List α)}
end
section
variable {κ ν:Type} [DecidableEq κ] {kt vt:TypeId} {kv:κ ->Value} {vv:ν ->Value} {i:Nat} {ll:List (κ×ν)} {Q:Fr ->H ->Prop}
end
theorem ZEn {f:FuncId}:Y5 fr (.func f)=some (.func (.func f) #[] #[]):=ZmC fr f
end Go.Yj
end
end
section
noncomputable section
namespace Go.Yj
open Go.Lf
variable {X:Ctx} {h:H} {ev:Operand ->Option Value} {d:Option Tmp} {ty:TypeId} {p:String} {af:Array Edge} {g:Option (Nat×Bool)} {P:Program}
theorem ZcR {x y:Operand} {ts:Array TypeId} {k:IntKind} {a b:Int} (hx:ev x=some (.int k a)) (hy:ev y=some (.int k b)):XG X h ev ⟨d,.call {callee:= .builtin .max,args:=#[x,y],argTypes:=ts},ty,p,af,g⟩=some (.val (.int k (if b > a then b else a)),.none):=by
 have hev:evs ev (#[x,y]:Array Operand).toList=some [.int k a,.int k b]:=Zf hx (Zf hy Zm);rw [UN,hev];show(bif QT [.int k a,.int k b] then pN (K8 X.P (Builtin.max_ ts ty #[.int k a,.int k b])) else none)=_;have:Builtin.max_ ts ty #[.int k a,.int k b]=pure (.int k (if b > a then b else a)):=rfl;rw [this];rfl
end Go.Yj
end
end
section
noncomputable section
namespace Go.Yj
open Go.Lf
variable {X:Ctx} {n wm:Nat} {rd:Option Nat} {ops:Array Oper} {ol:List Oper} {fr:Fr} {ds:List Deferred} {h h0:H} {ty:TypeId} {p:String} {af:Array Edge} {g:Option (Nat×Bool)} {T:Nat ->Prop} {G Gr:List (Ast wm)} {d l df:Nat} {LO:YN} {ps:Array Tmp} {Yr bd:Code}
def bsy:YN ->YN
 | .loop _ pd fr n ps Yr bd df=>.loop .busy pd fr n ps Yr bd df
 | A=>A
structure RgE (wm l:Nat) (fr:Fr) (n:Nat) (ps:Array Tmp) (Yr bd:Code) (df:Nat) (ds:List Deferred) (Q:XX ->Fs ->Prop) (h:H):Prop where
 at_:h.at l= .loop .ready none fr n ps Yr bd df
 low:wm <=l
 k:∀ h',Up wm (fun i=>i=l) h h' ->Q .normal ⟨fr,⟨.collected df,#[]⟩::ds,h',none⟩
theorem RgE.sp {Q:XX ->Fs ->Prop} (hLO:LO= .loop .ready none fr n ps Yr bd df) (hS:Sp wm T h0 G h) (pk:Pk G (ob wm l LO) Gr) (k:∀ h',Sp wm T h0 Gr h' ->Q .normal ⟨fr,⟨.collected df,#[]⟩::ds,h',none⟩):RgE wm l fr n ps Yr bd df ds Q h:=by
 obtain⟨h1,h2,h3⟩:=hS.get pk;refine⟨h1.trans hLO,h2,fun h' u=>k h' ?_⟩;exact Sp.step (Ga:= [ob wm l LO]) (Gb:= []) (hS.perm pk.perm) u (fun i e=>⟨_,List.mem_singleton.2 rfl,e⟩) Yx.nil fun i ⟨A,m,f⟩=>by simp at m
theorem Zgj {A:YN} (hA:A.own=true) (s:Sp wm T h0 Gr h):Sp wm T h0 (ob wm h.size A::Gr) (h.push A):=
 Sp.new s (Up.push wm h A) ⟨J5 h A,s.hw,hA⟩ fun i e=>by have:i=h.size:=e;omega
theorem WC.Zyt {Q:XX ->Fs ->Prop} {gg:Operand} {f:FuncId} {first cap:List Value} (hS:Sp wm T h0 G h) (hg:Y5 fr gg=some (.func (.func f) first.toArray cap.toArray)) (hf:(X.fns.get f).isSome=true)
 (k:∀ h' l df LO,LO=YN.loop .ready none fr n ps Yr bd df ->Sp wm T h0 (ob wm l LO::ob wm df .deferred::G) h' ->WR X f (first ++ ([Value.func (.yield l) #[] #[]] ++ cap)).toArray wm h' (fun _ h2=>RgE wm l fr n ps Yr bd df ds Q h2)):
 WC X n wm none (.rangeFunc gg ps Yr bd) ⟨fr,ds,h,none⟩ Q:=by
 have s1:Sp wm T h0 (ob wm h.size .deferred::G) (h.push .deferred):=Zgj rfl hS
 have s2:Sp wm T h0 (ob wm (h.size + 1) (.loop .ready none fr n ps Yr bd h.size)::ob wm h.size .deferred::G) ((h.push .deferred).push (.loop .ready none fr n ps Yr bd h.size)):=by
  have:=Zgj (A:= .loop .ready none fr n ps Yr bd h.size) rfl s1
  rwa [H.size_push] at this
 obtain⟨fn,hf⟩:=Option.isSome_iff_exists.1 hf;obtain⟨e,h3,⟨v,rfl,hr⟩,hj⟩:=k _ _ _ _ rfl s2;have hat:=hr.at_;refine⟨.normal,_,hr.k (h3.put (h.size + 1) (.loop .exhausted none fr n ps Yr bd h.size)) (Up.put hr.low (by rw [hat];rfl)),?_⟩;refine Y4.2 (JJ (C:=cfg X fun _=>false) (ih:=JA (.call f _ wm _) (.fin (.ret v) h3)) (Xg hj) ?_);show X8 (cfg X fun _=>false) _ gg n wm none (h.size + 1) ⟨fr,⟨.collected h.size,#[]⟩::ds,(h.push .deferred).push (.loop .ready none fr n ps Yr bd h.size),none⟩=_;unfold X8;dsimp only;rw [hg]
 have hac:Ux (cfg X fun _=>false).X ((h.push .deferred).push (.loop .ready none fr n ps Yr bd h.size)) (.func (.func f) first.toArray cap.toArray) [Value.func (.yield (h.size + 1)) #[] #[]]=some (.enter f (first ++ ([Value.func (.yield (h.size + 1)) #[] #[]] ++ cap)).toArray,.none):=by
  unfold Ux;have:(cfg X fun _=>false).X.fns.get f=some fn:=hf;dsimp only;rw [this];simp only [List.append_assoc]
 dsimp only;rw [hac];dsimp only;unfold JI;rw [Xh];dsimp only;rw [hat]
 rfl
theorem WR.ZGd {f:FuncId} {args:Array Value} {K:Value ->H ->Prop} {α β:Type} {r:β} (I:α ->Value ->H ->Prop) (j:α ->Option β) (k:∀ x v h',j x=some r ->I x v h' ->K v h') (hc:WR X f args wm h (fun v h'=>∃ x,j x=some r∧I x v h')):WR X f args wm h K:=
 hc.mono fun _ h' ⟨v,e,x,h1,h2⟩=>⟨v,e,k x v h' h1 h2⟩
theorem AsK.sp {QD:Fr} {R:H ->Prop} (hLO:LO= .loop .ready none fr n ps Yr bd df) (hS:Sp wm T h0 G h) (pk:Pk G (ob wm l LO) Gr) (k:∀ h1,Sp wm T h0 (ob wm l (bsy LO)::Gr) h1 ->WC X n wm (some l) bd ⟨QD,ds,h1,none⟩ (BdK n wm l fr ps Yr bd df R)):AsK X n wm wm l fr ps Yr bd df R .normal ⟨QD,ds,h,none⟩:=by
 obtain⟨h1,h2,h3⟩:=hS.get pk;refine AsK.mk' (h1.trans hLO) fun h' u e=>k h' ?_
 exact hS.one pk (u h2) (fun _ q=>q) ⟨by rw [e,hLO];rfl,h2,by rw [hLO];rfl⟩ fun _ q=>.inl q
theorem BdK.sp {QD:Fr} {R:H ->Prop} (hLO:LO= .loop .ready none fr n ps Yr bd df) (hS:Sp wm T h0 G h) (pk:Pk G (ob wm l (bsy LO)) Gr) (k:∀ h1,Sp wm T h0 (ob wm l LO::Gr) h1 ->R h1):BdK n wm l fr ps Yr bd df R .normal ⟨QD,ds,h,none⟩:=by
 obtain⟨h1,h2,h3⟩:=hS.get pk;refine BdK.mk' (h1.trans (by rw [hLO];rfl)) fun h' u e=>k h' ?_
 exact hS.one pk (u h2) (fun _ q=>q) ⟨by rw [e,hLO],h2,by rw [hLO];rfl⟩ fun _ q=>.inl q
theorem WO.ZFx {Q:XX ->Fs ->Prop} {fo:Operand} {xs:Array Operand} {ts:Array TypeId} {vs:List Value} {n2:Nat} {QD fr1:Fr} {as2 bd2:Code} (hg:Yi ops ⟨some d,.call {callee:= .value fo,args:=xs,argTypes:=ts},ty,p,af,g⟩ fr) (hd:Nat.blt d n=true) (hf:Y5 fr fo=some (.func (.yield l) #[] #[])) (hx:evs (Y5 fr) xs.toList=some vs)
 (hS:Sp wm T h0 G h) (pk:Pk G (ob wm l LO) Gr) (hLO:LO= .loop .ready none QD n2 ps as2 bd2 df) (hl:Nat.beq vs.length ps.toList.length=true) (hs:Qf (ps.toList.zip vs) n2 QD=some fr1)
 (k:WC X n2 wm (some l) as2 ⟨fr1,[],h,none⟩ (AsK X n2 wm wm l QD ps as2 bd2 df (fun h'=>WO X n wm rd ops ol ⟨Tr.set fr d (.bool true),ds,h',none⟩ Q))):
 WO X n wm rd ops (⟨some d,.call {callee:= .value fo,args:=xs,argTypes:=ts},ty,p,af,g⟩::ol) ⟨fr,ds,h,none⟩ Q:=by
 obtain⟨h1,h2,h3⟩:=hS.get pk;have hat:=h1.trans hLO;refine WO.yld hg hd hf hx hat (Nb0 hl) (Zut.mk' (lo:=wm) hat h2 hl hs k) fun b h' ⟨e,hk⟩=>?_
 rw [e];exact hk
theorem Z8.Zhl {fn:Func} {R:Uo ->H ->Prop} (hS:Sp wm T h0 G h) (pk:Pk G (ob wm df .deferred) Gr) (k:∀ h',Sp wm T h0 Gr h' ->Z8 X fn wm R .ret ⟨fr,ds,h',none⟩):Z8 X fn wm R .ret ⟨fr,⟨.collected df,#[]⟩::ds,h,none⟩:=by
 obtain⟨h1,h2,h3⟩:=hS.get pk;refine Z8.col wm h2 h1 h2 fun h' u=>k h' ?_
 exact Sp.step (Ga:= [ob wm df .deferred]) (Gb:= []) (hS.perm pk.perm) u (fun i e=>⟨_,List.mem_singleton.2 rfl,e⟩) Yx.nil fun i ⟨A,m,f⟩=>by simp at m
end Go.Yj
end
end
section
noncomputable section
namespace Go.Yj
open Go.Lf
variable {X:Ctx} {n wm:Nat} {rd:Option Nat} {ops:Array Oper} {l:List Oper} {fr:Fr} {ds:List Deferred} {h h1 h2 h0:H} {ty:TypeId} {p:String} {af:Array Edge} {g:Option (Nat×Bool)} {m:Nat} {T:Nat ->Prop} {G Gr Ga Gb:List (Ast wm)} {d:Nat} {sf:ST}
def HW (X:Ctx) (wm:Nat) (o:Oper) (fr:Fr) (h:H) (K:H ->Prop):Prop:=∃ v E h1,XG X h (Y5 fr) o=some (.val v,E)∧E.apply wm h=some h1∧K h1
section
variable {α:Type} {e:Wv α} {t el:TypeId} {x:Operand} {a:Option Addr} {nn c:Nat} {xs zs ws us:List α} {a1 a2 a3:Int}
end
section
variable {κ ν:Type} [DecidableEq κ] {kt vt:TypeId} {kv:κ ->Value} {vv:ν ->Value} {i:Nat} {ll:List (κ×ν)}
end
end Go.Yj
end
end
section
noncomputable section
namespace Go.Yj
open Go.Lf
variable {X:Ctx} {n wm:Nat} {rd:Option Nat} {ops:Array Oper} {l:List Oper} {fr:Fr} {ds:List Deferred} {h h1 h2 h0:H} {ty:TypeId} {p:String} {af:Array Edge} {g:Option (Nat×Bool)} {m:Nat} {T:Nat ->Prop} {G Gr Ga Gb:List (Ast wm)} {d:Nat} {sf:ST}
section
variable {α:Type} {e:Wv α} {t el:TypeId} {x:Operand} {a:Option Addr} {nn c:Nat} {xs zs ws us:List α} {a1 a2 a3:Int}
end
end Go.Yj
end
end
section
noncomputable section
namespace Go.Yj
open Go.Lf
variable {X:Ctx} {n wm wm':Nat} {fr:Fr} {h:H} {ty:TypeId} {p:String} {af:Array Edge} {g:Option (Nat×Bool)} {d:Nat}
section
variable {α:Type} {e:Wv α} {t el:TypeId} {x:Operand} {a:Option Addr} {nn c:Nat} {xs zs:List α} {a2:Int}
end
end Go.Yj
end
end
section
noncomputable section
namespace Go.Yj
open Go.Lf
variable {X:Ctx} {n wm:Nat} {rd:Option Nat} {ops:Array Oper} {l:List Oper} {fr:Fr} {ds:List Deferred} {h h1 h2 h0:H} {ty:TypeId} {p:String} {af:Array Edge} {g:Option (Nat×Bool)} {T:Nat ->Prop} {G Gr Ga Gb:List (Ast wm)} {d:Nat}
theorem Yy {α β:Type} {y:α} {p:Int ->Option β} {k:α ->Option β} {r:β} (h:Ut (.ok y) p k=some r):k y=some r:=h
theorem Yl {α β:Type} {e:Int} {p:Int ->Option β} {k:α ->Option β} {r:β} (h:Ut (.Yn e) p k=some r):p e=some r:=h
def pv (t:TypeId) (k:Int):Value:= .iface t (bif Nat.beq t 147 then .agg #[.int .i64 k] else .int .i64 k)
def PQ {β:Type} {wm:Nat} (t:TypeId) (K:β ->Value ->List (Ast wm) ->Prop) (Ga:List (Ast wm)) (h:H) (r:PR β):Uo ->H ->Prop:=fun e h'=>match r with
 | .ok b=>∃ v,e= .ret v∧CP (K b) Ga h v h'
 | .Yn k=>e= .Yn (pv t k)∧Sp wm (Qc Ga) h [] h'
section
variable {β:Type} {t:TypeId} {K:β ->Value ->List (Ast wm) ->Prop} {f:FuncId} {args:Array Value}
theorem PQ.ok {b:β} (k:WF X f args wm h (PQ t K Ga h (.ok b))):WR X f args wm h (CP (K b) Ga h):=k
theorem PQ.Yn {k:Int} (w:WF X f args wm h (PQ t K Ga h (.Yn k))):∃ h',Sp wm (Qc Ga) h [] h'∧Yu X (.call f args wm h) (.fin (.Yn (pv t k)) h'):=
 let⟨_,h',hq,hj⟩:=w;⟨h',hq.2,by have:=hq.1;subst this;exact hj⟩
theorem WO.Kw {Q:XX ->Fs ->Prop} {op:Op} {k:Int} (hg:Yi ops ⟨some d,op,ty,p,af,g⟩ fr) (he:Yv X fr ⟨some d,op,ty,p,af,g⟩ f args) (hS:Sp wm T h0 G h) (pk:Sel G Ga Gr)
 (hc:∀ g':H,g'.size=h.size ->Fz wm h g' ->Yx Ga g' ->WF X f args wm g' (PQ t K Ga g' (.Yn k))) (kk:∀ h',Sp wm T h0 Gr h' ->Q (.panic (pv t k)) ⟨fr,ds,h',none⟩):
 WO X n wm rd ops (⟨some d,op,ty,p,af,g⟩::l) ⟨fr,ds,h,none⟩ Q:=by
 obtain⟨h',hs,hj⟩:=PQ.Yn (hc h rfl (Fz.refl _ _) (hS.ZfM pk));exact WO.Zhm hg (he h) rfl hj (kk h' (hS.call pk hs))
theorem Z8.U0 {fn:Func} {rs:List ResultVar} {vs:List Value} {v:Value} {b:β} {h0:H} (hr:fn.results.toList=rs) (hv:Zbw X.P fr h rs=some vs) (hl:(match vs with | [v]=>v | vs=>.tuple vs.toArray)=v) (k:CP (K b) Ga h0 v h):Z8 X fn wm (PQ t K Ga h0 (.ok b)) .ret ⟨fr,[],h,none⟩:=
 Z8.gen (R:=fun v h'=>CP (K b) Ga h0 v h') hr hv hl k
end
def YS (X:Ctx) (fn:Func) (wm:Nat) (Q:Uo ->H ->Prop) (pm:PM) (s:Fs):Prop:=∃ E h',Q E h'∧Yu X (.leave fn wm pm s) (.fin E h')
section
variable {fn:Func} {R:Uo ->H ->Prop} {s:Fs} {v:Value} {pm:PM}
theorem Z8.ofP (k:YS X fn wm R .ret s):Z8 X fn wm R .ret s:=let⟨E,h',h1,h2⟩:=k;⟨⟨.ret,E,h',rfl,h1,h2⟩⟩
theorem Z8.WG (k:YS X fn wm R (.Yn v) s):Z8 X fn wm R (.panic v) s:=let⟨E,h',h1,h2⟩:=k;⟨⟨.Yn v,E,h',rfl,h1,h2⟩⟩
theorem YS.ofL (k:Z8 X fn wm R .ret s) (hp:pm= .ret):YS X fn wm R pm s:=by
 obtain⟨U9,E,h',e,h1,h2⟩:=k.out;cases e;subst hp;exact⟨E,h',h1,h2⟩
theorem YS.Yn (k:R (.Yn v) h):YS X fn wm R (.Yn v) ⟨fr,[],h,none⟩:=by
 refine⟨.Yn v,h,k,QX (C:=cfg X fun _=>false) (ih:=fun _=>none) (fun _ _ h=>by cases h) ?_⟩;unfold JQ
 rfl
def DC (X:Ctx) (n wm:Nat) (c:Code) (pm:PM) (s:Fs) (Q:XX ->PM ->Fs ->Prop):Prop:=∃ e U9 s',Q e U9 s'∧Yu X (.Xf c n wm pm s) (.Xf e U9 s')
structure DSq (X:Ctx) (n wm:Nat) (b:Code) (Q:XX ->PM ->Fs ->Prop) (e:XX) (pm:PM) (s:Fs):Prop where
 Zv:e= .normal
 k:DC X n wm b pm s Q
theorem DC.seq {a b:Code} {Q:XX ->PM ->Fs ->Prop} (k:DC X n wm a pm s (DSq X n wm b Q)):DC X n wm (.seq a b) pm s Q:=by
 obtain⟨e,pm1,s1,⟨rfl,e2,pm2,s2,hq,j2⟩,j1⟩:=k;obtain⟨_,_,_,q1,ka⟩:=XD.1 j1;cases q1;obtain⟨_,_,_,q2,kb⟩:=XD.1 j2;cases q2;refine⟨_,_,_,hq,XD.2 ⟨_,_,_,rfl,fun ρ a c0 cs w ZQ hi hpm=>wpSIn_seq (QG (ka ρ a c0 cs w ZQ hi hpm) ?_)⟩⟩;rintro e' a' cs' w' ⟨ρ',u',rfl,hp',he,hi',hst⟩;cases he;refine QG (kb ρ' a' {c0 with mode:=u'} cs w' (Nat.le_trans ZQ hst.size) hi' hp') ?_;rintro e3 a3 cs3 w3 ⟨ρ3,u3,rfl,q1,q2,q3,q4⟩;exact⟨ρ3,u3,rfl,q1,q2,q3,hst.trans hi.rel.lt q4⟩
theorem DC.rgn {id:Nat} {ops:Array Oper} {dr:Bool} {Q:XX ->PM ->Fs ->Prop} (hn:(!dr && ops.toList.any isRecover)=false) (k:WC X n wm none (.region id ops dr) s (fun e s'=>Q e pm s')):DC X n wm (.region id ops dr) pm s Q:=by
 obtain⟨e,s',hq,j⟩:=k;refine⟨e,pm,s',hq,XD.2 (QY (C:=cfg X fun _=>false) (ih:=JA (.code (.region id ops dr) n wm none s) (.code e s')) (Xg (Y4.2 ⟨_,_,rfl,j⟩)) ?_)⟩;unfold Wl;dsimp only;rw [hn];unfold KR;rw [Xh];rfl
theorem DC.skip {Q:XX ->PM ->Fs ->Prop} (k:Q .normal pm s):DC X n wm .skip pm s Q:=by
 obtain⟨e,s',hq,j⟩:WC X n wm none .skip s (fun e s'=>Q e pm s'):=WC.skip k;refine⟨e,pm,s',hq,XD.2 (QY (C:=cfg X fun _=>false) (ih:=JA (.code .skip n wm none s) (.code e s')) (Xg (Y4.2 ⟨_,_,rfl,j⟩)) ?_)⟩;unfold Wl KR;dsimp only;rw [Xh];rfl
theorem DC.Zpx {c:Operand} {a b:Code} {t:Bool} {Q:XX ->PM ->Fs ->Prop} {fr:Fr} (hc:Y5 fr c=some (.bool t)) (ht:t=true) (k:DC X n wm a pm ⟨fr,ds,h,none⟩ Q):DC X n wm (.cond c a b) pm ⟨fr,ds,h,none⟩ Q:=by
 subst ht;obtain⟨e,U9,s',hq,j⟩:=k;refine⟨e,U9,s',hq,XD.2 (QY (C:=cfg X fun _=>false) (ih:=JA (.Xf a n wm pm ⟨fr,ds,h,none⟩) (.Xf e U9 s')) (Xg j) ?_)⟩;unfold Wl;dsimp only;rw [hc];exact Xh _ _
theorem DC.ZiI {c:Operand} {a b:Code} {t:Bool} {Q:XX ->PM ->Fs ->Prop} {fr:Fr} (hc:Y5 fr c=some (.bool t)) (ht:t=false) (k:DC X n wm b pm ⟨fr,ds,h,none⟩ Q):DC X n wm (.cond c a b) pm ⟨fr,ds,h,none⟩ Q:=by
 subst ht;obtain⟨e,U9,s',hq,j⟩:=k;refine⟨e,U9,s',hq,XD.2 (QY (C:=cfg X fun _=>false) (ih:=JA (.Xf b n wm pm ⟨fr,ds,h,none⟩) (.Xf e U9 s')) (Xg j) ?_)⟩;unfold Wl;dsimp only;rw [hc];exact Xh _ _
theorem DC.rec {id:Nat} {ops:Array Oper} {Q:XX ->PM ->Fs ->Prop} (U9:PM) (fr':Fr) (hd:Zmd X n wm ops.toList ops.toList pm ⟨fr,ds,h,none⟩=some (U9,⟨fr',ds,h,none⟩)) (hn:ops.toList.any isRecover=true) (k:Q .normal U9 ⟨fr',ds,h,none⟩):DC X n wm (.region id ops false) pm ⟨fr,ds,h,none⟩ Q:=by
 refine⟨.normal,U9,_,k,XD.2 (QY (C:=cfg X fun _=>false) (ih:=fun _=>none) (fun _ _ h=>by cases h) ?_)⟩;unfold Wl;dsimp only;rw [hn];have hd':Zmd (cfg X fun _=>false).X n wm ops.toList ops.toList pm ⟨fr,ds,h,none⟩=some (U9,⟨fr',ds,h,none⟩):=hd;rw [hd'];rfl
structure DEn (X:Ctx) (fn:Func) (wm:Nat) (R:Uo ->H ->Prop) (fr:Fr) (ds:List Deferred) (e:XX) (pm:PM) (s:Fs):Prop where
 Zv:e= .normal
 no:s.ds= []
 k:YS X fn wm R (ZfH pm) ⟨fr,ds,s.h,none⟩
end
section
theorem WO.pnc {Q:XX ->Fs ->Prop} {x:Operand} {t:TypeId} {v:Value} (hg:Yi ops ⟨none,.panic x,ty,p,af,g⟩ fr) (hx:Y5 fr x=some (.iface t v)) (k:Q (.panic (.iface t v)) ⟨fr,ds,h,none⟩):WO X n wm rd ops (⟨none,.panic x,ty,p,af,g⟩::l) ⟨fr,ds,h,none⟩ Q:=by
 refine WO.panic (E:= .none) (h1:=h) hg ?_ rfl k
 show(match Y5 fr x with
  | some (.iface t v)=>some (AN.panic (.iface t v),Eff.none)
  | _=>none)=_
 rw [hx]
theorem Zam {x:Operand} {t:TypeId} {v:Value} (hx:Y5 fr x=some v) (ht:(match X.P.underlying t with | some (.interface _)=>false | some _=>true | none=>false)=true):XG X h (Y5 fr) ⟨some d,.makeInterface t x,ty,p,af,g⟩=some (.val (.iface t v),.none):=by
 show(match Y5 fr x,X.P.underlying t with
  | some _,some (.interface _)=>none
  | some v,some _=>some (AN.val (.iface t v),Eff.none)
  | _,_=>none)=_
 rw [hx];cases hh:X.P.underlying t with
 | none=>rw [hh] at ht;cases ht
 | some u=>
   rw [hh] at ht;cases u
   case interface=>cases ht
   all_goals rfl
end
end Go.Yj
end
end
section
noncomputable section
namespace Go.Yj
open Go.Lf
variable {X:Ctx} {n wm:Nat} {rd:Option Nat} {ops:Array Oper} {l:List Oper} {rest:Code}
theorem WO.body {s:Fs} {Q:XX ->Fs ->Prop} (k:WO X n wm rd ops l s (Zh X n wm rd rest Q)):∃ e s',Q e s'∧∀ {ρ:Ren} {F:Fence} {a:Act} {w:World},Inv ρ n s a w ->wm <=s.h.size ->Kl ρ rd F ->∀ Q':Exit ->Act ->World ->Prop,(∀ e' a' w',Xu wm n ρ s.h w e s' e' a' w' ->Q' e' a' w') ->
 wpListIn F 0 X.P ops (Exit.then (rest.wpIn F 0 X.P Q') Q') l a w:=by
 obtain⟨e1,s1,hk,ho⟩:=k.out;have hk:=hk.out;cases e1 with
 | normal=>
   obtain⟨e,s',hq,hj⟩:=hk;obtain⟨_,_,q0,kb⟩:=Y4.1 hj;cases q0;refine⟨e,s',hq,fun{ρ F a w} hi hw hF Q' hQ=>ho _ hi hw hF fun e' a' w' hp=>?_⟩;obtain⟨ρ',he,hi',hst⟩:=hp;cases he;exact wpIn_mono (kb ρ' a' w' F (Nat.le_trans hw hst.size) hi' (hF.mono hst.ext)) fun e2 a2 w2 hp2=>hQ _ _ _ (Xu.trans hi.rel.lt hst hp2)
 | exit id=>
   refine⟨_,s1,hk,fun{ρ F a w} hi hw hF Q' hQ=>ho _ hi hw hF fun e' a' w' hp=>?_⟩;obtain⟨ρ',he,hi',hst⟩:=hp;cases he;exact hQ _ _ _ ⟨ρ',.exit id,hi',hst⟩
 | goto id=>
   refine⟨_,s1,hk,fun{ρ F a w} hi hw hF Q' hQ=>ho _ hi hw hF fun e' a' w' hp=>?_⟩;obtain⟨ρ',he,hi',hst⟩:=hp;cases he;exact hQ _ _ _ ⟨ρ',.goto id,hi',hst⟩
 | ret=>
   refine⟨_,s1,hk,fun{ρ F a w} hi hw hF Q' hQ=>ho _ hi hw hF fun e' a' w' hp=>?_⟩;obtain⟨ρ',he,hi',hst⟩:=hp;cases he;exact hQ _ _ _ ⟨ρ',.ret,hi',hst⟩
 | panic v=>
   refine⟨_,s1,hk,fun{ρ F a w} hi hw hF Q' hQ=>ho _ hi hw hF fun e' a' w' hp=>?_⟩;obtain⟨ρ',he,hi',hst⟩:=hp;cases he with
   | panic hv=>exact hQ _ _ _ ⟨ρ',.panic hv,hi',hst⟩
theorem EL.mem' {ρ:Ren} {es es':List MapEntry} (e:EL ρ es es') {x:MapEntry} (hx:x ∈ es):∃ x' ∈ es',x'.born=x.born:=by
 induction e with
 | nil=>cases hx
 | cons hk hp hb hv _ ih=>
   rcases List.mem_cons.1 hx with rfl | h
   ·exact⟨_,by simp,hb⟩
   ·obtain⟨x',h1,h2⟩:=ih h;exact⟨x',List.mem_cons_of_mem _ h1,h2⟩
theorem Zr7 {s:Fs} {id:Nat} {o:Oper} {t it m Qm clock d:Nat} {es:List MapEntry} {T:List Nat} {v:Value} {e:XX} {s2:Fs} (Yn:Nat ->Bool)
 (hops:ops.toList=o::l) (hop:o.op= .next (.tmp t) false) (hgu:o.guard=none) (hfr:s.fr.at t= .pointer (some ⟨it,0,none⟩)) (hit:s.h.at it= .iter m clock Qm none) (hm:s.h.at m= .map es clock) (hck:clock <=Qm) (hborn:Qs clock es=true) (Znk:wm <=it) (htT:t ∉ T) (hd:o.dst=some d) (hdn:d < n) (hdT:d ∈ T) (hv:plain v=true)
 (ZgE:∀ x ∈ es,∃ ex s3,(s3.ds=s.ds∧(∀ t,t ∉ T ->s3.fr.at t=s.fr.at t)∧(ex= .normal∧Yn x.born=false∨ex= .panic v∧Yn x.born=true))∧∀ {ρ:Ren} {F:Fence} {a:Act} {w:World},Inv ρ n {fr:=QZ (Yq T s.fr) o.dst (.tuple #[.bool true,x.key,x.val]),ds:=s.ds,h:=s.h.put it (.iter m clock clock (some x.born)),wr:=s.wr} a w ->s.h.size <= (s.h.put it (.iter m clock clock (some x.born))).size ->Kl ρ rd F ->∀ Q':Exit ->Act ->World ->Prop,
   (∀ e' a' w',Xu s.h.size n ρ (s.h.put it (.iter m clock clock (some x.born))) w ex s3 e' a' w' ->Q' e' a' w') ->wpListIn F 0 X.P ops (Exit.then (rest.wpIn F 0 X.P Q') Q') l a w)
 (hover:(∀ x ∈ es,Yn x.born=false) ->e ≠ .normal∧∀ {ρ:Ren} {F:Fence} {a:Act} {w:World},Inv ρ n {s with fr:=QZ (Yq T s.fr) o.dst Jw,h:=s.h.put it .dead} a w ->wm <= (s.h.put it .dead).size ->Kl ρ rd F ->∀ Q':Exit ->Act ->World ->Prop,
   (∀ e' a' w',Xu wm n ρ (s.h.put it .dead) w e s2 e' a' w' ->Q' e' a' w') ->wpListIn F 0 X.P ops (Exit.then (rest.wpIn F 0 X.P Q') Q') l a w)
 (ZGD:(∃ x ∈ es,Yn x.born=true) ->e= .panic v∧s2= {s with fr:=Yq T s.fr,h:=s.h.put it .dead}):Yu X (.loop (.seq (.region id ops false) rest) n wm rd s) (.code e s2):=by
 refine KI.2 ⟨e,s2,rfl,fun ρ a0 w0 F ZQ hi0 hF=>?_⟩;obtain⟨dd,hdr⟩:∃ d,d=it:= ⟨_,rfl⟩
 have Znn:=hi0.fr.val t (by rw [hfr];rfl);rw [hfr] at Znn;generalize hpx:a0.tmps.getD t undef=px at Znn;cases Znn with
 | @ptr _ bi di _ ZcB=>
 have hoi:=hi0.rel.obj _ _ _ ZcB;rw [hit] at hoi;obtain⟨rfl,bm,ZBD,Zgz,ZsG,_,ZcD⟩:=hoi;have ZcD:=ZcD rfl;subst ZcD;have hom:=hi0.rel.obj _ _ _ Zgz;rw [hm] at hom;obtain⟨_,es',ZsE,hes⟩:=hom;have hilt:=hi0.rel.dom _ _ _ ZcB;have ZGF:=hi0.rel.dom _ _ _ Zgz;have Zno:m ≠ it:=fun z=>by rw [z,hit] at hm;cases hm
 have hold:∀ x ∈ es'.toList,x.born < clock:=by
  intro x hx;obtain⟨y,hy,_,_,hyb,_⟩:=hes.mem hx;rw [hyb];exact ZcQ hborn y hy
 have Zlr:∀ j b d,ρ j=some (b,d) ->b=bi ->j ≠ it ->((s.h.at j).live=true ->False):=by
  intro j b d hj hbb hne' hl;subst hbb;exact hne' (hi0.rel.inj it j b 0 d ZcB hj (by rw [hit];rfl) hl).symm
 have hbne:bm ≠ bi:=fun z=>Zlr m bm 0 Zgz z Zno (by rw [hm];rfl)
 have ZCN:s.h.size= (s.h.put it .dead).size:=rfl
 have ZgC:∀ {a:Act} {w:World} {K:Act ->World ->Prop} {Q:Exit ->Act ->World ->Prop} {v:Value} {w1:World},a.tmps.getD t undef= .pointer (some ⟨bi,0,none⟩) ->(Instr.next (.pointer (some ⟨bi,0,none⟩)) false o.type).run X.P w= .ok v w1 ->
  K (a.put o.dst v) w1 ->(if Region.wanted o (yielded ops a.tmps) then o.wpIn F 0 X.P a w K Q else(∀ f,o.about X.P w a.eval=some f ->F.fn f)∧K (a.put o.dst undef) w):=by
  intro a w K Q v w1 ht hrun hK;have hw:Region.wanted o (yielded ops a.tmps)=true:=by unfold Region.wanted;rw [hgu]
  rw [if_pos hw];refine⟨fun f hab=>(by unfold Oper.about at hab;rw [hop] at hab;cases hab),?_⟩;have ZjE:o.semAt F.round a.eval=execOp a.eval o:=Oper.semAt_eq _ _ _ fun c hc=>by rw [hop] at hc;cases hc
  have he:a.eval (.tmp t)= .pointer (some ⟨bi,0,none⟩):=ht
  have hx:(execOp a.eval o).run X.P w= .ok (.value v) w1:=by
   unfold execOp;rw [hop];simp [he,hrun]
  rw [ZjE,hx];exact hK
 have ZCK:∀ t,t ∉ T ->t ≠ d:=fun t ht z=>by rw [z] at ht;exact ht hdT
 have Zlm:∀ (a:Act) (w:World),Inv ρ n {s with fr:=Yq T s.fr,h:=s.h.put it .dead} a w ->a.tmps.getD t undef= .pointer (some ⟨bi,0,none⟩):=by
  intro a w hi;have h0:VR ρ ((Yq T s.fr).at t) (a.tmps.getD t undef):=hi.fr.val t (by show QC ((Yq T s.fr).at t)=false;rw [Xi,if_neg htT,hfr];rfl);rw [Xi,if_neg htT,hfr] at h0;generalize a.tmps.getD t undef=y at h0;cases h0 with
  | ptr _ h1=>rw [ZcB] at h1;cases h1;rfl
 have Zss:(∀ x ∈ es,Yn x.born=false) ->∀ (a:Act) (w:World),Inv ρ n {s with fr:=Yq T s.fr,h:=s.h.put it .dead} a w ->Stp wm ρ s.h w0 ρ (s.h.put it .dead) w ->a.tmps.getD t undef= .pointer (some ⟨bi,0,none⟩) ->
  (Instr.next (.pointer (some ⟨bi,0,none⟩)) false o.type).run X.P w= .ok Jw w ->LoopIn F 0 X.P (.seq (.region id ops false) rest) (Xu wm n ρ s.h w0 e s2) a w:=by
  intro hall a w hi hst ht hrun;obtain⟨hne,hover⟩:=hover hall;refine Xz (wpIn_seq (wpIn_region_list ?_));rw [hops];refine ZgC ht hrun ?_
  have hio:Inv ρ n {s with fr:=QZ (Yq T s.fr) o.dst Jw,h:=s.h.put it .dead} (a.put o.dst Jw) w:=by
   refine⟨hi.rel,?_,?_⟩
   ·rw [hd];exact hi.fr.set hdn (VR.Z0 rfl)
   ·rw [hd];exact hi.ds
  refine hover hio ZQ hF _ fun e3 a3 w3 hp=>?_
  have hp2:=Xu.trans hi0.rel.lt hst hp;obtain⟨ρ3,hx3,hi3,UB⟩:=hp2;cases hx3 with
  | normal=>exact(hne rfl).elim
  | exit id=>exact⟨ρ3,.exit id,hi3,UB⟩
  | goto id=>exact⟨ρ3,.goto id,hi3,UB⟩
  | ret=>exact⟨ρ3,.ret,hi3,UB⟩
  | panic hv=>exact⟨ρ3,.panic hv,hi3,UB⟩
 have ZxO:∀ seen:Array Nat,(∀ b,seen.contains b=true ->Yn b=false) ->(leftOf es' seen).size=0 ->∀ x ∈ es,Yn x.born=false:=by
  intro seen Zfj h00 x hx;obtain⟨y,hy,hyb⟩:=hes.mem' hx;refine Zfj _ ?_;cases hc:seen.contains x.born with
  | true=>rfl
  | false=>
    exfalso;have:y ∈ leftOf es' seen:=Array.mem_filter.2 ⟨Array.mem_toList_iff.1 hy,by rw [hyb,hc];rfl⟩;rw [Array.eq_empty_of_size_eq_zero h00] at this;simp at this
 have head:∀ (k:Nat) (seen:Array Nat) (last:Nat) (a:Act) (w:World),(∀ b,seen.contains b=true ->Yn b=false) ->(leftOf es' seen).size <=k ->clock <=last ->w.heap[bi]? =some (.mapIter (some bm) clock seen last) ->w.heap[bm]? =some (.map es' clock) ->
  Inv ρ n {s with fr:=Yq T s.fr,h:=s.h.put it .dead} a w ->
  Stp wm ρ s.h w0 ρ (s.h.put it .dead) w ->LoopIn F 0 X.P (.seq (.region id ops false) rest) (Xu wm n ρ s.h w0 e s2) a w:=by
  intro k
  induction k with
  | zero=>
    intro seen last a w Zfj hk hlast hblk Zdt hi hst;have ht:=Zlm a w hi;rcases ZfI (P:=X.P) o.type hblk Zdt hold (hlast) with⟨h00,hrun⟩ | ⟨e',he',_⟩
    ·exact Zss (ZxO seen Zfj h00) a w hi hst ht hrun
    ·have:=Array.length_toList ▸ List.length_pos_of_mem he';omega
  | succ k ihk=>
    intro seen last a w Zfj hk hlast hblk Zdt hi hst;have ht:=Zlm a w hi;rcases ZfI (P:=X.P) o.type hblk Zdt hold (hlast) with⟨h00,hrun⟩ | ⟨e',he',w1,hw1,hsame,hrun⟩
    ·exact Zss (ZxO seen Zfj h00) a w hi hst ht hrun
    ·have hmem:= (mem_left he').1;obtain⟨x,hx,hkey,hkp,hbn,hval⟩:=hes.mem hmem;obtain⟨ex,s3,⟨ZyZ,hwr,hpn⟩,hbody⟩:=ZgE x hx;have ZsF:bi < w.heap.size:= (hi.rel.dom _ _ _ ZcB).2;have ZCM:bm < w.heap.size:= (hi.rel.dom _ _ _ Zgz).2;obtain⟨w2,hw2⟩:∃ w2,w2=w1.putObj bi (.mapIter (some bm) clock (seen.push e'.born) clock):= ⟨_,rfl⟩
     rw [← hw2] at hrun;have hsz2:w2.heap.size=w.heap.size:=by rw [hw2,World.putObj_size,hw1]
     have hother:∀ k,k ≠ bi ->w2.heap[k]? =w.heap[k]?:=fun k hk=>by rw [hw2,World.putObj_heap_other hk,hw1]
     have ZsH:w2.heap[bi]? =some (.mapIter (some bm) clock (seen.push e'.born) clock):=by rw [hw2];exact World.putObj_heap_same (by rw [hw1];exact ZsF)
     have ZcE:Same w w2:=by rw [hw2];exact⟨hsame.os,hsame.tape,hsame.output⟩
     have hrel:Rel ρ (s.h.put it (.iter m clock clock (some x.born))) w2:=by
      refine Zga hi.rel ZcB Zlr hother hsz2 ⟨rfl,bm,seen.push e'.born,Zgz,ZsH,fun z hz=>?_,fun z=>by cases z⟩;cases hz;rw [← hbn];simp
     have hie:Inv ρ n {fr:=QZ (Yq T s.fr) o.dst (.tuple #[.bool true,x.key,x.val]),ds:=s.ds,h:=s.h.put it (.iter m clock clock (some x.born)),wr:=s.wr} (a.put o.dst (.tuple #[.bool true,e'.key,e'.val])) w2:=by
      refine⟨hrel,?_,?_⟩
      ·rw [hd];refine hi.fr.set hdn (.tuple _ _ rfl fun j y y' p q=>?_)
       match j,p,q with
       | 0,p,q=>simp at p q;subst p q;exact .bool true
       | 1,p,q=>simp at p q;subst p q;rw [hkey];exact VR.Z0 hkp
       | 2,p,q=>simp at p q;subst p q;exact hval
       | j + 3,p,q=>simp at p
      ·rw [hd];exact hi.ds
     refine Xz (wpIn_seq (wpIn_region_list ?_));rw [hops];refine ZgC ht hrun ?_;refine hbody hie (Nat.le_refl _) hF _ fun e3 a3 w3 hp=>?_
     obtain⟨ρ3,hx3,hi3,UB⟩:=hp;obtain⟨q1,q2⟩:=KS hrel UB;have Znp:∀ b,b < w2.heap.size ->w3.heap[b]? =w2.heap[b]?:=fun b hb=>UB.frame b hb fun i d hi' e _=>by have:=hrel.lt i _ e;simp at this hi';omega
     have hinv:Inv ρ n {s with fr:=Yq T s.fr,h:=s.h.put it .dead} a3 w3:=by
      refine⟨?_,⟨hi3.fr.size,fun t hany=>?_⟩,?_⟩
      ·refine(ZaT (i:=it) q1).congr rfl fun i=>?_
       rw [H.Xq,H.Xq];by_cases hii:i=it∧i < s.h.size
       ·rw [if_pos hii,if_pos (by simpa using hii)]
       ·rw [if_neg hii,if_neg (by simpa using hii),H.Xq,if_neg hii]
      ·change QC ((Yq T s.fr).at t)=false at hany
       show VR ρ ((Yq T s.fr).at t) _;rw [Xi] at hany ⊢;by_cases Zba:t ∈ T
       ·rw [if_pos Zba] at hany;cases hany
       ·rw [if_neg Zba] at hany ⊢;have h0:=hi.fr.val t (by show QC ((Yq T s.fr).at t)=false;rw [Xi,if_neg Zba];exact hany);have h0:VR ρ ((Yq T s.fr).at t) _:=h0;rw [Xi,if_neg Zba] at h0;have h1:=hi3.fr.val t (by rw [hwr t Zba];exact hany);rw [hwr t Zba] at h1;exact VR.back UB.ext h0 h1
      ·have h0:DsR ρ s.ds a.defers:=hi.ds;have h1:=hi3.ds;rw [ZyZ] at h1;exact DsR.back UB.ext h0 h1
     have hstp:Stp wm ρ s.h w0 ρ (s.h.put it .dead) w3:=by
      refine⟨Ren.le_refl _,hst.size,hst.keep,hst.own,hst.live,UB.os.trans (ZcE.os.trans hst.os),UB.tape.trans (ZcE.tape.trans hst.tape),UB.output.trans (ZcE.output.trans hst.output),
       Nat.le_trans hst.Y9 (by rw [← hsz2];exact UB.Y9),fun b hb hno=>?_,fun i b d p q=>by rw [p] at q;cases q⟩
      have hbb:b ≠ bi:=fun z=>by subst z;exact hno it 0 Znk ZcB (by rw [hit];rfl)
      have:=hst.Y9;rw [Znp b (by omega),hother b hbb,hst.frame b hb hno]
     rcases hpn with⟨rfl,hpf⟩ | ⟨rfl,hpt⟩
     ·cases hx3;show LoopIn F 0 X.P _ _ a3 w3
      exact ihk (seen.push e'.born) clock a3 w3 (fun b hb=>by
       rw [contains_push] at hb;rcases Bool.or_eq_true_iff.1 hb with z | z
       ·exact Zfj b z
       ·have:b=e'.born:=by simpa using z
        rw [this,hbn];exact hpf) (by have:=left_shrinks es' seen e' he';omega) (Nat.le_refl _) (by rw [Znp bi (by omega)];exact ZsH) (by rw [Znp bm (by omega),hother bm hbne];exact Zdt) hinv hstp
     ·obtain⟨he,ZGz⟩:=ZGD ⟨x,hx,hpt⟩;cases hx3 with
      | panic hv3=>
        show Xu wm n ρ s.h w0 e s2 _ a3 w3;rw [he,ZGz];have:=VR.YZ hv hv3;subst this;exact⟨ρ,.panic (VR.Z0 hv),hinv,hstp⟩
 have Znl:Stp wm ρ s.h w0 ρ (s.h.put it .dead) w0:=by
  have kk:=Jj (h:=s.h) (A:= .dead) Znk (by rw [hit];rfl);exact⟨Ren.le_refl _,Nat.le_refl _,kk.keep,kk.own,kk.live,rfl,rfl,rfl,Nat.le_refl _,fun _ _ _=>rfl,fun i b d e e'=>by rw [e] at e';cases e'⟩
 refine head _ #[] Qm a0 w0 (fun b hb=>by simp at hb) (Nat.le_refl _) hck ZsG ZsE ⟨ZaT hi0.rel,⟨hi0.fr.size,fun t hany=>?_⟩,hi0.ds⟩ Znl
 change QC ((Yq T s.fr).at t)=false at hany
 show VR ρ ((Yq T s.fr).at t) _;rw [Xi] at hany ⊢;by_cases ht:t ∈ T
 ·rw [if_pos ht] at hany;cases hany
 ·rw [if_neg ht] at hany ⊢;exact hi0.fr.val t hany
def Agr (T:List Nat) (fr fr':Fr):Prop:=∀ t v,T.contains t=false ->fr.at t=v ->fr'.at t=v
theorem Agr.at {T:List Nat} {fr fr':Fr} (a:Agr T fr fr') {t:Nat} {v:Value} (ht:T.contains t=false) (h:fr.at t=v):fr'.at t=v:=a t v ht h
def MFr (T:List Nat) (fr f:Fr):Prop:=∀ t,t ∉ T ->f.at t=fr.at t
theorem MFr.z {T:List Nat} {fr:Fr}:MFr T fr fr:=fun _ _=>rfl
theorem MFr.s {T:List Nat} {fr f:Fr} {i:Nat} {v:Value} (hi:T.contains i=true) (h:MFr T fr f):MFr T fr (Tr.set f i v):=fun t ht=>by
 have hne:t ≠ i:=fun z=>ht (by subst z;rwa [List.contains_iff_mem] at hi)
 have:=K6 (fr:=f) (d:=some i) (v:=v) (t:=t);rw [show QZ f (some i) v=Tr.set f i v from rfl] at this;rw [this,if_neg (fun z=>hne (Oi0 z).symm)];exact h t ht
structure Zos (T:List Nat) (fr:Fr) (ds:List Deferred) (v:Value) (p:Bool) (e:XX) (s:Fs):Prop where
 ds:s.ds=ds
 fr:MFr T fr s.fr
 e:e= .normal∧p=false∨e= .panic v∧p=true
theorem Zos.Zv {T:List Nat} {fr f:Fr} {ds:List Deferred} {v:Value} {h:H} (k:MFr T fr f):Zos T fr ds v false .normal ⟨f,ds,h,none⟩:= ⟨rfl,k,.inl ⟨rfl,rfl⟩⟩
theorem Zos.panic {T:List Nat} {fr f:Fr} {ds:List Deferred} {v:Value} {h:H} (k:MFr T fr f):Zos T fr ds v true (.panic v) ⟨f,ds,h,none⟩:= ⟨rfl,k,.inr ⟨rfl,rfl⟩⟩
structure ZwR (Q:XX ->Fs ->Prop) (e:XX) (s:Fs):Prop where
 nn:e ≠ .normal
 k:Q e s
theorem ZwR.exit {Q:XX ->Fs ->Prop} {s:Fs} {id:Nat} (k:Q (.exit id) s):ZwR Q (.exit id) s:= ⟨(fun z=>by cases z),k⟩
def ZwS {κ ν:Type} (kv:κ ->Value) (vv:ν ->Value) (h:H) (it:Nat) (x:κ×ν):Prop:=ZcW h (.pointer (some ⟨it,0,none⟩))=some (.tuple #[kv x.1,vv x.2])
section
variable {κ ν:Type} {kv:κ ->Value} {vv:ν ->Value} {ll:List (κ×ν)} {bs:List Nat}
theorem Zlb:∀ {ll:List (κ×ν)} {bs:List Nat} {x:MapEntry},x ∈ XM kv vv ll bs ->∃ (j:Nat) (y:κ×ν) (b:Nat),ll[j]? =some y∧bs[j]? =some b∧x= ⟨kv y.1,vv y.2,b⟩:=by
 intro ll bs x hx;obtain⟨j,hj⟩:=List.mem_iff_getElem?.1 hx;unfold XM at hj;rw [List.getElem?_zipWith] at hj;cases h1:ll[j]? with
 | none=>rw [h1] at hj;simp at hj
 | some y=>
   cases h2:bs[j]? with
   | none=>rw [h1,h2] at hj;simp at hj
   | some b=>rw [h1,h2] at hj;simp at hj;exact⟨j,y,b,h1,h2,hj.symm⟩
theorem Zvd {j:Nat} {y:κ×ν} {b:Nat} (h1:ll[j]? =some y) (h2:bs[j]? =some b):(⟨kv y.1,vv y.2,b⟩:MapEntry) ∈ XM kv vv ll bs:=by
 refine List.mem_iff_getElem?.2 ⟨j,?_⟩;unfold XM;rw [List.getElem?_zipWith,h1,h2]
theorem Zfh {b:Nat}:∀ {ll:List (κ×ν)} {bs:List Nat},b ∉ bs ->Zac b (XM kv vv ll bs)=true
 | [],_,_=>by unfold XM;simp [Zac]
 | _::_,[],_=>by unfold XM;simp [Zac]
 | x::ll,b'::bs,h=>by
   have ih:=Zfh (ll:=ll) (bs:=bs) (b:=b) (fun z=>h (by simp [z]));unfold XM at ih ⊢;rw [List.zipWith_cons_cons];unfold Zac;have:Nat.beq b' b=false:=by rw [Bool.eq_false_iff];intro q;exact h (by simp [Nb0 q])
   dsimp only;rw [this];exact ih
theorem Zgq {Qm:Nat}:∀ {ll:List (κ×ν)} {bs:List Nat},bs.Nodup ->(∀ b ∈ bs,b < Qm) ->Qs Qm (XM kv vv ll bs)=true
 | [],_,_,_=>by unfold XM;simp [Qs]
 | _::_,[],_,_=>by unfold XM;simp [Qs]
 | x::ll,b::bs,hn,hl=>by
   rw [List.nodup_cons] at hn;have ih:=Zgq (ll:=ll) (bs:=bs) hn.2 (fun b hb=>hl b (by simp [hb]));have hno:Zac b (XM kv vv ll bs)=true:=Zfh (ll:=ll) hn.1;unfold XM at ih hno ⊢;rw [List.zipWith_cons_cons];unfold Qs;dsimp only;rw [hno,ih];have:Nat.blt b Qm=true:=by rw [Nat.blt_eq];exact hl b (by simp)
   rw [this];rfl
theorem Zik:∀ {ll:List (κ×ν)} {bs:List Nat} {j:Nat} {y:κ×ν} {b:Nat},bs.Nodup ->ll[j]? =some y ->bs[j]? =some b ->ZiG b (XM kv vv ll bs)=some ⟨kv y.1,vv y.2,b⟩
 | [],_,_,_,_,_,h,_=>by simp at h
 | _::_,[],_,_,_,_,_,h=>by simp at h
 | x::ll,b'::bs,j,y,b,hn,h1,h2=>by
   rw [List.nodup_cons] at hn;unfold XM;rw [List.zipWith_cons_cons];unfold ZiG;dsimp only;cases j with
   | zero=>
     simp at h1 h2;subst h1 h2;rw [Nat.beq_refl];rfl
   | succ j=>
     simp at h1 h2
     have:Nat.beq b' b=false:=by
      rw [Bool.eq_false_iff];intro q;have:=Nb0 q;subst this;exact hn.1 (List.mem_iff_getElem?.2 ⟨j,h2⟩)
     rw [this];exact Zik hn.2 h1 h2
end
section
variable {wm:Nat} {G Gr:List (Ast wm)} {h h0:H} {T0:Nat ->Prop} {fr:Fr} {ds:List Deferred} {ty:TypeId} {p:String} {af:Array Edge} {g:Option (Nat×Bool)} {κ ν:Type} {kv:κ ->Value} {vv:ν ->Value} {ll:List (κ×ν)} {d:Nat}
theorem WO.rng {Q:XX ->Fs ->Prop} {t kt vt:TypeId} {x:Operand} {i:Nat} (hg:Yi ops ⟨some d,.range t x,ty,p,af,g⟩ fr) (hd:Nat.blt d n=true) (hS:Sp wm T0 h0 G h) (hu:X.P.underlying t=some (.map kt vt)) (hx:Y5 fr x=some (.map (some i))) (s:MapAt kv vv h (some i) ll)
 (k:∀ h' b bs Qm,Sp wm T0 h0 (ob wm b (.iter i Qm Qm none)::G) h' ->h'.at i= .map (XM kv vv ll bs) Qm ->bs.length=ll.length∧bs.Nodup∧(∀ x ∈ bs,x < Qm) ->WO X n wm rd ops l ⟨Tr.set fr d (.pointer (some ⟨b,0,none⟩)),ds,h',none⟩ Q):
 WO X n wm rd ops (⟨some d,.range t x,ty,p,af,g⟩::l) ⟨fr,ds,h,none⟩ Q:=by
 rcases s.mem with⟨q,_⟩ | ⟨i',bs,Qm,q,h1,h2,h3,h4⟩
 ·cases q
 ·cases q;refine WO.v (v:=QS h) (E:= .new (.iter i Qm Qm none)) (h1:=h.push (.iter i Qm Qm none)) hg hd ?_ (Zj9 h rfl) (k (h.push (.iter i Qm Qm none)) h.size bs Qm (Zgj rfl hS) ?_ ⟨h2,h3,h4⟩)
  ·show(match Y5 fr x with
    | some x=>vE (Zhs X.P h t x)
    | none=>none)=_
   rw [hx];dsimp only;unfold Zhs;simp only [hu,h1]
   rfl
  ·rw [Ki (JN h1 rfl),h1]
theorem Zt3 {x:Operand} {it:Nat} {y:κ×ν} (hx:Y5 fr x=some (.pointer (some ⟨it,0,none⟩))) (he:ZwS kv vv h it y):XG X h (Y5 fr) ⟨some d,.entry x,ty,p,af,g⟩=some (.val (.tuple #[kv y.1,vv y.2]),.none):=by
 show(match Y5 fr x with
  | some it=>vN (ZcW h it)
  | none=>none)=_
 rw [hx];dsimp only;rw [show ZcW h (.pointer (some ⟨it,0,none⟩))=_ from he];rfl
end
end Go.Yj
end
end
section
noncomputable section
namespace Go.Yj
open Go.Lf
variable {X:Ctx} {n wm:Nat} {rd:Option Nat} {ops:Array Oper} {l:List Oper} {fr:Fr} {ds:List Deferred} {h h1 h2 h0:H} {T:Nat ->Prop} {G Gr Ga Gb:List (Ast wm)}
end Go.Yj
end
end
section
namespace Go.Lf
end Go.Lf
end
section
noncomputable section
namespace Go.Yj
open Go.Lf
variable {X:Ctx} {n wm:Nat} {rd:Option Nat} {ops:Array Oper} {l:List Oper} {rest:Code}
section
variable {wm:Nat} {G Gr:List (Ast wm)} {h h0:H} {T0:Nat ->Prop} {fr:Fr} {ds:List Deferred} {κ ν:Type} {kv:κ ->Value} {vv:ν ->Value} {ll:List (κ×ν)} {d:Nat}
structure RK (it:Nat) (h h2:H):Prop where
 it_:∃ a b c d,h.at it= .iter a b c d
 at_:∀ i,i ≠ it ->h2.at i=h.at i
theorem Zh9.rk {κ ν:Type} {kv:κ ->Value} {vv:ν ->Value} {it:Nat} {h h2:H} {m:Nat} {l:List (κ×ν)} (s:Zh9 kv vv h.size h (some m) l) (k:RK it h h2):Zh9 kv vv h.size h2 (some m) l:=
 ⟨s.at_.keep fun i e=>(by
   cases e;refine k.at_ m fun z=>?_
   obtain⟨a,b,c,d,e1⟩:=k.it_;rcases s.at_.mem with⟨q,_⟩ | ⟨j,bs,Qm,q,h1,_⟩
   ·cases q
   ·cases q;rw [z,e1] at h1;cases h1),s.low⟩
end
end Go.Yj
end
end
section
noncomputable section
namespace Go.Yj
open Go.Lf
variable {P:Program}
end Go.Yj
end
end
section
noncomputable section
namespace Go.Yj
open Go.Lf
variable {X:Ctx} {n wm:Nat} {rd:Option Nat} {ops:Array Oper} {ol:List Oper} {fr:Fr} {ds:List Deferred} {h h0:H} {ty:TypeId} {p:String} {af:Array Edge} {g:Option (Nat×Bool)} {T:Nat ->Prop} {G Gr:List (Ast wm)} {d l df:Nat} {LO:YN} {ps:Array Tmp} {Yr bd:Code}
theorem X3 {α β:Type} {body:α ->(α ->Option β) ->Option β} (C:α ->β ->Prop) (hb:∀ next:α ->Option β,(∀ x r,next x=some r ->C x r) ->∀ x r,body x next=some r ->C x r):∀ F x r,loop F body x=some r ->C x r:=by
 intro F
 induction F with
 | zero=>intro x r h;cases h
 | succ F ih=>intro x r h;exact hb _ ih x r h
def dne (c:Code):YN ->YN
 | .loop _ _ fr n ps Yr bd df=>.loop .done (some c) fr n ps Yr bd df
 | A=>A
def lst (b:Bool) (c:Code) (A:YN):YN:=bif b then dne c A else A
inductive Zur:XX ->Code ->Prop
 | ret:Zur .ret .ret
 | exit (id:Nat):Zur (.exit id) (.exit id)
structure BdS (n lo l:Nat) (fr:Fr) (ps:Array Tmp) (Yr bd:Code) (df:Nat) (R:Bool ->H ->Prop) (e:XX) (s:Fs):Prop where
 out:s.h.at l= .loop .busy none fr n ps Yr bd df∧
  ((e= .normal∧∀ h',(lo <=l ->Up lo (fun i=>i=l) s.h h') ->h'.at l= .loop .ready none fr n ps Yr bd df ->R true h')∨
   (∃ c,Zur e c∧∀ h',(lo <=l ->Up lo (fun i=>i=l) s.h h') ->h'.at l= .loop .done (some c) fr n ps Yr bd df ->R false h'))
theorem BdS.sp {QD:Fr} {R:Bool ->H ->Prop} (hLO:LO= .loop .ready none fr n ps Yr bd df) (hS:Sp wm T h0 G h) (pk:Pk G (ob wm l (bsy LO)) Gr) (k:∀ h1,Sp wm T h0 (ob wm l LO::Gr) h1 ->R true h1):BdS n wm l fr ps Yr bd df R .normal ⟨QD,ds,h,none⟩:=by
 obtain⟨h1,h2,h3⟩:=hS.get pk;refine⟨⟨h1.trans (by rw [hLO];rfl),.inl ⟨rfl,fun h' u e=>k h' ?_⟩⟩⟩;exact hS.one pk (u h2) (fun _ q=>q) ⟨by rw [e,hLO],h2,by rw [hLO];rfl⟩ fun _ q=>.inl q
structure RgS (X:Ctx) (wm l:Nat) (fr:Fr) (n:Nat) (ps:Array Tmp) (Yr bd:Code) (df:Nat) (ds:List Deferred) (Q:XX ->Fs ->Prop) (h:H):Prop where
 low:wm <=l
 k:(h.at l= .loop .ready none fr n ps Yr bd df∧∀ h',Up wm (fun i=>i=l) h h' ->Q .normal ⟨fr,⟨.collected df,#[]⟩::ds,h',none⟩)∨
  (∃ c,h.at l= .loop .done (some c) fr n ps Yr bd df∧∀ h',Up wm (fun i=>i=l) h h' ->WC X n wm none c ⟨fr,⟨.collected df,#[]⟩::ds,h',none⟩ Q)
theorem RgS.sp {Q:XX ->Fs ->Prop} (hLO:LO= .loop .ready none fr n ps Yr bd df) (hS:Sp wm T h0 G h) (pk:Pk G (ob wm l LO) Gr) (k:∀ h',Sp wm T h0 Gr h' ->Q .normal ⟨fr,⟨.collected df,#[]⟩::ds,h',none⟩):RgS X wm l fr n ps Yr bd df ds Q h:=by
 obtain⟨h1,h2,h3⟩:=hS.get pk;refine⟨h2,.inl ⟨h1.trans hLO,fun h' u=>k h' ?_⟩⟩;exact Sp.step (Ga:= [ob wm l LO]) (Gb:= []) (hS.perm pk.perm) u (fun i e=>⟨_,List.mem_singleton.2 rfl,e⟩) Yx.nil fun i ⟨A,m,f⟩=>by simp at m
structure JnP {α β:Type} (I:α ->Fs ->Prop) (j:α ->Option β) (r:β) (Q:XX ->Fs ->Prop) (e:XX) (s:Fs):Prop where
 out:(e= .normal∧∃ x,j x=some r∧I x s)∨(e ≠ .normal∧Q e s)
theorem JnP.Zv {α β:Type} {I:α ->Fs ->Prop} {j:α ->Option β} {r:β} {Q:XX ->Fs ->Prop} {s:Fs} (x:α) (h:j x=some r) (i:I x s):JnP I j r Q .normal s:= ⟨.inl ⟨rfl,x,h,i⟩⟩
theorem JnP.pass {α β:Type} {I:α ->Fs ->Prop} {j:α ->Option β} {r:β} {Q:XX ->Fs ->Prop} {e:XX} {s:Fs} (h:e ≠ .normal) (q:Q e s):JnP I j r Q e s:= ⟨.inr ⟨h,q⟩⟩
theorem WC.jnP {Q:XX ->Fs ->Prop} {c:Code} {s:Fs} {α β:Type} {r:β} (I:α ->Fs ->Prop) (j:α ->Option β) (k:∀ x s',j x=some r ->I x s' ->Q .normal s') (hc:WC X n wm rd c s (JnP I j r Q)):WC X n wm rd c s Q:=
 hc.mono fun e s' ⟨q⟩=>by
   rcases q with⟨q,x,h1,h2⟩ | ⟨_,q⟩
   ·rw [q];exact k x s' h1 h2
   ·exact q
theorem Zcg {κ ν:Type} [DecidableEq κ] {kv:κ ->Value} {vv:ν ->Value} {kt vt:TypeId} {i:Nat} {ll:List (κ×ν)} {t:TypeId} {x y z:Operand} {k:κ} {v:ν} (hS:Sp wm T h0 G h) (pk:Pk G (mp wm kv vv (some i) ll) Gr) (K:Ze4 X.P kt kv) (hu:X.P.underlying t=some (.map kt vt)) (hx:Y5 fr x=some (.map (some i))) (hy:Y5 fr y=some (kv k)) (hz:Y5 fr z=some (vv v)):
 HU X wm ⟨none,.insert t x y z,ty,p,af,g⟩ fr h (fun j=>j=i) (fun h'=>Sp wm T h0 (mp wm kv vv (some i) (QR ll k v)::Gr) h'):=
 ZkS (ty:=ty) (p:=p) (af:=af) (g:=g) hS pk K hu hx hy hz
section
variable {sf:ST} {m:Nat}
theorem Sp.djs {T0:Nat ->Prop} {G Ga Gr:List (Ast wm)} {B:Ast wm} (s:Sp wm T0 h0 G h) (p:Sel G (B::Ga) Gr):∀ x,Qc Ga x ->¬ B.fp x:=fun x ⟨A,hA,fa⟩ fb=>
 (List.pairwise_cons.1 (s.ZfM p).dis).1 A hA x fb fa
inductive Lk (ops:Array Oper) (m:Nat) (R:Nat ->Prop):List (Nat×(Nat ->Prop)) ->Prop
 | n:Lk ops m R []
 | o {q:Nat×(Nat ->Prop)} {r:List (Nat×(Nat ->Prop))} (h:comp (Xp ops.toList 0 []) q.1 m=true):Lk ops m R r ->Lk ops m R (q::r)
 | d {q:Nat×(Nat ->Prop)} {r:List (Nat×(Nat ->Prop))} (h:∀ x,q.2 x ->¬ R x):Lk ops m R r ->Lk ops m R (q::r)
theorem Lk.get {R:Nat ->Prop} {r:List (Nat×(Nat ->Prop))} (h:Lk ops m R r):∀ q ∈ r,Cmp ops q.1 m∨∀ x,q.2 x ->¬ R x:=by
 induction h with
 | n=>intro q hq;simp at hq
 | o h1 _ ih=>intro q hq;rcases List.mem_cons.1 hq with z | z
              ·subst z;exact .inl h1
              ·exact ih q z
 | d h1 _ ih=>intro q hq;rcases List.mem_cons.1 hq with z | z
              ·subst z;exact .inr h1
              ·exact ih q z
theorem WX.wrM {Q:Fr ->H ->Prop} {T0:Nat ->Prop} {G:List (Ast wm)} {op:Op} {v:Value} (R:Nat ->Prop) (hS:Sp wm T0 h0 G h) (hg:Yi ops ⟨some d,op,ty,p,af,g⟩ fr) (hd:Nat.blt d n=true) (ha:∀ g':H,g'.size=h.size ->(∀ x,R x ->g'.at x=h.at x) ->XG X g' (Y5 fr) ⟨some d,op,ty,p,af,g⟩=some (.val v,.none))
 (k:∀ h',h'.size=h.size ->Sp wm T0 h0 G h' ->WX X n wm rd ops ⟨(m,fun x=>¬ R x)::sf.s,sf.m,sf.p⟩ (m + 1) h' ol (Tr.set fr d v) Q) (hh:Yd ⟨some d,op,ty,p,af,g⟩=false) (hM:Lk ops m R sf.m):
 WX X n wm rd ops sf m h (⟨some d,op,ty,p,af,g⟩::ol) fr Q:=by
 have hsz:(X0 (Qa h R) h (mask (Qa h R) h)).size=h.size:=by rw [YO,ZJ]
 have hvv:∀ x,¬ R x ->VV h (X0 (Qa h R) h (mask (Qa h R) h)) (Qa h R) x:=fun x hx=>by
  rcases Nat.lt_or_ge x h.size with z | z
  ·exact .inl ⟨z,Zcy.2 ⟨z,hx⟩⟩
  ·exact .inr (by rw [hsz];exact z)
 refine⟨fun hb=>WE.cons (T:=fun _=>False) (xs0:=Qa h R) (h2:=X0 (Qa h R) h (mask (Qa h R) h)) (v:=v) [(m,fun x=>¬ R x)] [] none ?_ (fun q hq=>?_) (fun _ z=>z.elim) (fun _ z=>z.elim) (fun hh q hq=>(hM.get q hq).imp id fun z x hx=>hvv x (z x hx)) (fun x j C z=>by cases z) ((k _ hsz (hS.up (Up.hide wm _ h))).out fun q hq x hx=>by rw [hsz];exact hb q hq x hx)⟩
 ·have:=Zc5 (wm:=wm) (rd:=rd) hg (.inl (ha _ (ZJ _ _) fun x hx=>ZyX hx)) (h1:=mask (Qa h R) h) rfl;have t0:(fun x:Nat=>Eff.tgt Eff.none=some x)=fun _=>False:=by funext x;simp [Eff.tgt]
  rw [t0] at this;exact⟨fun hw=>⟨_,rfl,this.1,this.2.1 (by rw [ZJ];exact hw)⟩,fun _ z=>z.elim,fun d' e=>(by cases e;rwa [Nat.blt_eq] at hd),fun q=>Bool.noConfusion (hh.symm.trans q),fun _ z=>z.elim⟩
 ·rw [List.mem_singleton.1 hq];exact⟨rfl,fun x hx=>hvv x hx⟩
end
end Go.Yj
end
end
section
noncomputable section
namespace Go.Yj
open Go.Lf
section
variable {X:Ctx} {n wm:Nat} {G G1 G2 Gr:List (Ast wm)} {h h0:H} {T:Nat ->Prop} {df:Nat} {L:List Nat} {fr:Fr} {ds:List Deferred}
end
end Go.Yj
end
end
section
noncomputable section
namespace Go.Yj
open Go.Lf
variable {X:Ctx} {n wm wm':Nat} {rd:Option Nat} {ops:Array Oper} {ol:List Oper} {m:Nat} {sf:ST} {fr:Fr} {h h0:H} {ty:TypeId} {p:String} {af:Array Edge} {g:Option (Nat×Bool)} {T:Nat ->Prop} {G Gr:List (Ast wm)} {d:Nat}
section
variable {α:Type} {e:Wv α} {a a1 a2:Option Addr} {nn c n1 c1 n2 c2:Nat} {ps:Nat ->Option Addr×Nat×Nat} {xs:List (List α)}
end
section
variable {α:Type} {e:Wv α} {t el:TypeId} {x:Operand} {a:Option Addr} {nn c:Nat} {xs zs:List α} {a1:Int}
end
end Go.Yj
end
end
