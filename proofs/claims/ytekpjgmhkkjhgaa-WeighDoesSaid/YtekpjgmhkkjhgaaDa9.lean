/- Does Part 9 of the proof. -/
import Derived.Test.YtekpjgmhkkjhgaaDa8
set_option linter.all false
section
noncomputable section
namespace Go.Yy
open Go.Lf
variable {X:Ctx} {n wm:Nat} {rd:Option Nat} {ops:Array Oper} {l:List Oper} {fr:Fr} {ds:List Deferred} {h h1 h2 h0:H} {ty:TypeId} {p:String} {af:Array Edge} {g:Option (Nat×Bool)} {m:Nat} {T:Nat ->Prop} {G Gr Ga Gb:List (Ast wm)} {d:Nat} {sf:ST}
def HW (X:Ctx) (wm:Nat) (o:Oper) (fr:Fr) (h:H) (K:H ->Prop):Prop:=∃ v E h1,Xy X h (ZY fr) o=some (.val v,E)∧E.apply wm h=some h1∧K h1
theorem WO.hw {Q:XX ->Fs ->Prop} {op:Op} {K:H ->Prop} (hg:ZU ops ⟨none,op,ty,p,af,g⟩ fr) (s:HW X wm ⟨none,op,ty,p,af,g⟩ fr h K) (k:∀ h',K h' ->WO X n wm rd ops l ⟨fr,ds,h',none⟩ Q):
 WO X n wm rd ops (⟨none,op,ty,p,af,g⟩::l) ⟨fr,ds,h,none⟩ Q:=let⟨_,_,h1,ha,hE,hk⟩:=s;WO.val hg rfl ha hE (k h1 hk)
theorem UQ {t:TypeId} {x:Operand} {lo hi mx:Option Operand} {a:Option Addr} {nn c:Nat} {vlo vhi vmx:Option Value} {v:Value} (hx:ZY fr x=some (.slice a nn c)) (el1:evo (ZY fr) lo=some vlo) (eh1:evo (ZY fr) hi=some vhi) (em1:evo (ZY fr) mx=some vmx) (hv:aslice X.P h t (.slice a nn c) vlo vhi vmx=some v):
 Xy X h (ZY fr) ⟨some d,.slice t x lo hi mx,ty,p,af,g⟩=some (.val v,.none):=by
 show(match ZY fr x,evo (ZY fr) lo,evo (ZY fr) hi,evo (ZY fr) mx with
  | some x,some lo,some hi,some mx=>bif plain x && not (Zmz x) then(match lo,hi,mx with
     | lo,hi,mx=>bif QS (lo.toList ++ hi.toList ++ mx.toList) then pN (Zbh X.P (Instr.sliceAt t x lo hi mx)) else none)
    else vN (aslice X.P h t x lo hi mx)
  | _,_,_,_=>none)=_
 rw [hx,el1,eh1,em1];show(bif plain (.slice a nn c) && not (Zmz (.slice a nn c)) then _ else vN (aslice X.P h t (.slice a nn c) vlo vhi vmx))=_;have:Zmz (.slice a nn c)=true:=rfl;rw [this,Bool.not_true,Bool.and_false,cond_false,hv];rfl
section
variable {α:Type} {e:Ww α} {t el:TypeId} {x:Operand} {a:Option Addr} {nn c:Nat} {xs zs ws us:List α} {a1 a2 a3:Int}
theorem ZyL {lo hi mx:Operand} (so:Qi e wm wm h a c xs) (hn:nn=xs.length) (hu:X.P.underlying t=some (.slice el)) (hs:Z8 X.P el=some e.sz) (hx:ZY fr x=some (.slice a nn c))
 (hlo:ZY fr lo=some (.int .i64 a1)) (hhi:ZY fr hi=some (.int .i64 a2)) (hmx:ZY fr mx=some (.int .i64 (xs.length:Nat))) (hz:slL xs a1 a2=some zs):
 ∃ v,Xy X h (ZY fr) ⟨some d,.slice t x (some lo) (some hi) (some mx),ty,p,af,g⟩=some (.val v,.none):=by
 obtain⟨l,k,rfl,rfl,hlk,hkx,rfl⟩:=ZaN hz;subst hn;have e1:obN (some (.int .i64 (l:Int))) 0=some l:=rfl;have e2:∀ q,obN (some (.int .i64 (k:Int))) q=some k:=fun q=>rfl
 have e3:Zcc (.int .i64 ((xs.length:Nat):Int))=some xs.length:=rfl;rcases so.mem with⟨rfl,rfl,rfl⟩ | ⟨i,o,cs,rfl,q2,q3,q4,q5,q6⟩
 ·have hk0:k=0:=by simpa using hkx
  have hl0:l=0:=by omega
  subst hk0 hl0;refine⟨.slice none 0 0,UQ hx (XI hlo) (XI hhi) (XI hmx) ?_⟩
  have:aslice X.P h t (.slice none 0 0) (some (.int .i64 ((0:Nat):Int))) (some (.int .i64 ((0:Nat):Int))) (some (.int .i64 ((0:Nat):Int)))=some (.slice none 0 0):=by
   unfold aslice;simp only [hu,hs]
   rfl
  exact this
 ·refine⟨.slice (some ⟨i,bif Nat.beq xs.length l then o else o + l * e.sz,none⟩) (k - l) (2 * (xs.length - l)),UQ hx (XI hlo) (XI hhi) (XI hmx) ?_⟩;unfold aslice;simp only [hu,hs,e1,e2,e3];rw [Nat.ble_eq_true_of_le hlk,Nat.ble_eq_true_of_le hkx,Nat.ble_eq_true_of_le q4]
  rfl
theorem ZyK {hi:Operand} (so:Qi e wm wm h a c xs) (hn:nn=xs.length) (hu:X.P.underlying t=some (.slice el)) (hs:Z8 X.P el=some e.sz) (hx:ZY fr x=some (.slice a nn c))
 (hhi:ZY fr hi=some (.int .i64 a2)) (hz:slL xs 0 a2=some zs):
 ∃ a' c',a'=a∧c'=c∧Xy X h (ZY fr) ⟨some d,.slice t x none (some hi) none,ty,p,af,g⟩=some (.val (.slice a' zs.length c'),.none)∧ZpO e a c xs a' c' zs:=by
 obtain⟨l,k,hl0,rfl,hlk,hkx,rfl⟩:=ZaN hz;have hl0:l=0:=by omega
 subst hl0 hn;have hlen:((xs.take k).drop 0).length=k:=by rw [List.drop_zero,List.length_take];omega
 have e2:∀ q,obN (some (.int .i64 (k:Int))) q=some k:=fun q=>rfl
 have e1:obN none 0=some 0:=rfl;refine⟨a,c,rfl,rfl,?_⟩;rcases so.mem with⟨rfl,rfl,rfl⟩ | ⟨i,o,cs,rfl,q2,q3,q4,q5,q6⟩
 ·have hk0:k=0:=by simpa using hkx
  subst hk0;refine⟨UQ hx rfl (XI hhi) rfl ?_,ZpZ rfl⟩
  have:aslice X.P h t (.slice none 0 0) none (some (.int .i64 ((0:Nat):Int))) none=some (.slice none 0 0):=by
   unfold aslice;simp only [hu,hs]
   rfl
  exact this
 ·refine⟨UQ hx rfl (XI hhi) rfl ?_,ZkD hlk hkx (.inl ⟨by omega,by omega⟩)⟩;rw [hlen];unfold aslice;simp only [hu,hs,e1,e2];rw [Nat.ble_eq_true_of_le (Nat.zero_le k),Nat.ble_eq_true_of_le (Nat.le_trans hkx q4)];simp only [Bool.and_self,cond_true];cases hev:Nat.beq (c % 2) 0 with
  | true=>
    have:=Nat.eq_of_beq_eq_true hev;have hc:2 * (c / 2 - 0)=c:=by omega
    simp only [cond_true,Nat.zero_mul,Nat.add_zero,Nat.sub_zero];cases Nat.beq (c / 2) 0 <;> simp only [cond_true,cond_false] <;> congr 2 <;> omega
  | false=>
    simp only [cond_false]
    rfl
structure Tl (e:Ww α) (a:Option Addr) (c k n3:Nat) (a3:Option Addr):Prop where
 out:n3=0∨∃ i o,a=some ⟨i,o,none⟩∧a3=some ⟨i,o + k * e.sz,none⟩∧k + n3 <=c / 2
theorem ZyJ {lo hi:Operand} {mm:Nat} (so:Qi e wm wm h a c zs) (hu:X.P.underlying t=some (.slice el)) (hs:Z8 X.P el=some e.sz) (hx:ZY fr x=some (.slice a zs.length c))
 (hlo:ZY fr lo=some (.int .i64 (zs.length:Nat))) (hhi:ZY fr hi=some (.int .i64 (mm:Nat))) (hm:zs.length <=mm) (hc:mm <=c / 2):
 ∃ a' c',Xy X h (ZY fr) ⟨some d,.slice t x (some lo) (some hi) none,ty,p,af,g⟩=some (.val (.slice a' (mm - zs.length) c'),.none)∧Tl e a c zs.length (mm - zs.length) a':=by
 have e1:obN (some (.int .i64 ((zs.length:Nat):Int))) 0=some zs.length:=rfl;have e2:∀ q,obN (some (.int .i64 (mm:Int))) q=some mm:=fun q=>rfl
 rcases so.mem with⟨rfl,rfl,rfl⟩ | ⟨i,o,cs,rfl,q2,q3,q4,q5,q6⟩
 ·have hk0:mm=0:=by omega
  subst hk0;refine⟨none,0,UQ hx (XI hlo) (XI hhi) rfl ?_,⟨.inl rfl⟩⟩
  have:aslice X.P h t (.slice none 0 0) (some (.int .i64 ((0:Nat):Int))) (some (.int .i64 ((0:Nat):Int))) none=some (.slice none 0 0):=by
   unfold aslice;simp only [hu,hs]
   rfl
  exact this
 ·have hmain:∀ v,(bif Nat.beq (c % 2) 0 then some (Value.slice (some ⟨i,bif Nat.beq (c / 2) zs.length then o else o + zs.length * e.sz,none⟩) (mm - zs.length) (2 * (c / 2 - zs.length)))
   else bif Nat.beq zs.length 0 then some (.slice (some ⟨i,o,none⟩) mm c)
   else some (.slice (some ⟨i,o + zs.length * e.sz,none⟩) (mm - zs.length) (2 * (c / 2 - zs.length) + 1)))=some v ->aslice X.P h t (.slice (some ⟨i,o,none⟩) zs.length c) (some (.int .i64 ((zs.length:Nat):Int))) (some (.int .i64 (mm:Int))) none=some v:=fun v hv=>by
   unfold aslice;simp only [hu,hs,e1,e2];rw [Nat.ble_eq_true_of_le hm,Nat.ble_eq_true_of_le hc,q3];have b2:(Nat.beq e.sz e.sz && Nat.ble 1 e.sz)=true:=by rw [Nat.beq_refl,Nat.ble_eq_true_of_le (show 1 <=e.sz from e.pos)];rfl
   simp only [b2,Bool.and_self,cond_true];exact hv
  cases hev:Nat.beq (c % 2) 0 with
  | true=>
    rw [hev] at hmain;refine⟨_,_,UQ hx (XI hlo) (XI hhi) rfl (hmain _ rfl),⟨?_⟩⟩;cases hcl:Nat.beq (c / 2) zs.length with
    | true=>have:=Nat.eq_of_beq_eq_true hcl;left;omega
    | false=>right;exact⟨i,o,rfl,rfl,by omega⟩
  | false=>
    rw [hev] at hmain;cases hl0:Nat.beq zs.length 0 with
    | true=>
      have h00:=Nat.eq_of_beq_eq_true hl0;rw [hl0] at hmain;refine⟨some ⟨i,o,none⟩,c,UQ hx (XI hlo) (XI hhi) rfl (hmain _ ?_),⟨.inr ⟨i,o,rfl,by rw [h00];simp,by omega⟩⟩⟩;rw [h00];rfl
    | false=>
      rw [hl0] at hmain;exact⟨_,_,UQ hx (XI hlo) (XI hhi) rfl (hmain _ rfl),⟨.inr ⟨i,o,rfl,rfl,by omega⟩⟩⟩
theorem Zsq (z:List Value) (k:Nat):(Uo z k).length=k * z.length:=by unfold Uo;simp
theorem ZDN {ts:Array TypeId} {rest:List TypeId} {n3 c3:Nat} {z:Value} {a3':Option Addr} (hS:Sp wm T h0 G h) (pk:Pk G (ow wm e a nn c zs) Gr) (tl:Tl e a c zs.length n3 a3') (hts:ts.toList=t::rest) (hu:X.P.underlying t=some (.slice el)) (hz:YI X.P el=some z) (hzl:z.cells.toList.length=e.sz) (hx:ZY fr x=some (.slice a3' n3 c3)):
 HW X wm ⟨none,.call {callee:= .builtin .clear,args:=#[x],argTypes:=ts},ty,p,af,g⟩ fr h (fun h'=>Sp wm T h0 (ow wm e a nn c zs::Gr) h'):=by
 have key:∀ E,Zd5 X.P h t (.slice a3' n3 c3)=some E ->Xy X h (ZY fr) ⟨none,.call {callee:= .builtin .clear,args:=#[x],argTypes:=ts},ty,p,af,g⟩=some (.val (.tuple #[]),E):=fun E hE=>by
  have hev:evs (ZY fr) (#[x]:Array Operand).toList=some [.slice a3' n3 c3]:=Zc hx Zj;rw [UR,hev];show(match ts.toList with | t::_=>(match Zd5 X.P h t (.slice a3' n3 c3) with | some E=>some (AN.val (.tuple #[]),E) | none=>none) | []=>none)=_;rw [hts];dsimp only;rw [hE]
 obtain⟨h1,so⟩:=hS.get pk;by_cases h0':n3=0
 ·refine⟨_,.none,h,key _ ?_,rfl,hS.perm pk.perm⟩;unfold Zd5;simp only [hu,h0',Nat.beq_refl,cond_true]
 ·rcases tl.out with q | ⟨i,o,rfl,rfl,hcap⟩
  ·exact absurd q h0'
  ·rcases so.mem with⟨q,_⟩ | ⟨i',o',cs,q,q2,q3,q4,q5,q6⟩
   ·cases q
   ·cases q;have hb:Nat.beq n3 0=false:=by rw [Bool.eq_false_iff];intro q;exact h0' (Nat.eq_of_beq_eq_true q)
    have hfit:o + zs.length * e.sz + n3 * e.sz <=cs.length:=by
     have:(zs.length + n3) * e.sz <=c / 2 * e.sz:=Nat.mul_le_mul_right _ hcap;rw [Nat.add_mul] at this;omega
    have hzr:(Uo z.cells.toList n3).length=n3 * e.sz:=by rw [Zsq,hzl]
    have hl2:o + zs.length * e.sz + (Uo z.cells.toList n3).length <=cs.length:=by rw [hzr];exact hfit
    have hu':Up wm (fun j=>j=i) h (h.put i (.row (splice cs (o + zs.length * e.sz) (Uo z.cells.toList n3)) true e.sz)):=Up.put q2 (by rw [q3];rfl);refine⟨_,.upd i (.row (splice cs (o + zs.length * e.sz) (Uo z.cells.toList n3)) true e.sz),_,key _ ?_,?_,hS.one pk hu' (fun j q=>⟨o,by rw [q]⟩) ⟨h1,so.max,.inr ⟨i,o,_,rfl,q2,YE (Q9 q3 rfl) _,q4,by rw [Ur _ _ _ hl2];exact q5,?_⟩⟩ fun j q=>.inl q⟩
    ·unfold Zd5;simp only [hu,hb,cond_false,hz,q3,hzl];rw [Nat.ble_eq_true_of_le hfit];rfl
    ·show(bif Nat.ble wm i && (h.at i).own then some (h.put i _) else none)=_;rw [q3,Nat.ble_eq_true_of_le q2];rfl
    ·refine⟨by rw [Ur _ _ _ hl2];exact q6.len,fun k x hk=>?_⟩;obtain⟨q,g1,g2⟩:=q6.get k x hk;refine⟨q,?_,e.mono (hu'.fz (Nat.le_refl _)) g2⟩;have hkl:= (List.getElem?_eq_some_iff.1 hk).1;have:(k + 1) * e.sz <=zs.length * e.sz:=Nat.mul_le_mul_right _ hkl;rw [Nat.succ_mul] at this;rw [Zhv hl2 (.inl (by omega)),g1]
theorem ZyR {ts:Array TypeId} {x y:Operand} {JA:Nat} {b2:Option Addr} {c2:Nat} {ys:List α} (hi:Zfi X.P ts e.sz JA) (hx:ZY fr x=some (.slice a xs.length c)) (hy:ZY fr y=some (.slice b2 ys.length c2)) (so:Qi e wm wm h a c xs) (sr:Src e wm h b2 c2 ys) (hr:xs.length + ys.length <=c / 2):
 ∃ E,Xy X h (ZY fr) ⟨some d,.call {callee:= .builtin .append,args:=#[x,y],argTypes:=ts},ty,p,af,g⟩=some (.val (.slice a (xs ++ ys).length c),E):=by
 obtain⟨el,z,hi⟩:=hi;obtain⟨new,n1,n2,n3⟩:=sr.reads;have n4:=n3.one n2;have hev:evs (ZY fr) (#[x,y]:Array Operand).toList=some [.slice a xs.length c,.slice b2 ys.length c2]:=Zc hx (Zc hy Zj);have hls:Qf (.slice b2 ys.length c2)=ys.length:=rfl
 have key:∀ (v:Value) (E:Eff),XZ X.P h ts (.slice a xs.length c) (.slice b2 ys.length c2)=some (v,E) ->Xy X h (ZY fr) ⟨some d,.call {callee:= .builtin .append,args:=#[x,y],argTypes:=ts},ty,p,af,g⟩=some (.val v,E):=by
  intro v E hE;rw [UR,hev];show vE (XZ X.P h ts (.slice a xs.length c) (.slice b2 ys.length c2))=_;rw [hE];rfl
 have hle2:(xs ++ ys).length=xs.length + ys.length:=List.length_append;by_cases hy0:ys= []
 ·subst hy0;refine⟨.none,key _ _ ?_⟩;unfold XZ;rw [hi];dsimp only;rw [n1];dsimp only;rw [hls,Nat.ble_eq_true_of_le hr,hle2];rfl
 ·have hyl:0 < ys.length:=List.length_pos_iff.2 hy0;rcases so.mem with⟨rfl,rfl,rfl⟩ | ⟨i,o,cs,rfl,hlo2,hrow,hc1,hc2,hel⟩
  ·exfalso;simp at hr;exact hy0 hr
  ·refine⟨.upd i (.row (splice cs (o + xs.length * e.sz) new) true e.sz),key _ _ ?_⟩
   have hfit:o + xs.length * e.sz + new.length <=cs.length:=by
    rw [n2];have:(xs.length + ys.length) * e.sz <=c / 2 * e.sz:=Nat.mul_le_mul_right _ hr;rw [Nat.add_mul] at this;omega
   unfold XZ;rw [hi];dsimp only;rw [n1];dsimp only;rw [hls,Nat.ble_eq_true_of_le hr];have b1:Nat.beq ys.length 0=false:=by rw [Bool.eq_false_iff];intro q;have:=Nat.eq_of_beq_eq_true q;omega
   rw [b1,hrow];simp only [cond_true,cond_false];rw [Nat.ble_eq_true_of_le hfit,n4,hle2];rfl
theorem ZDP {ts:Array TypeId} {x y:Operand} {JA:Nat} {b2:Option Addr} {n2 c2:Nat} {ys:List α} (hS:Sp wm T h0 G h) (pk:Pk G (ow wm e a nn c xs) Gr) (hi:Zfi X.P ts e.sz JA) (hx:ZY fr x=some (.slice a nn c)) (hy:ZY fr y=some (.slice b2 n2 c2)) (sr:Src e wm h b2 c2 ys) (hn:n2=ys.length) (ha:app JA xs ys=some zs) (hr:zs.length <=c / 2):
 HV X wm ⟨some d,.call {callee:= .builtin .append,args:=#[x,y],argTypes:=ts},ty,p,af,g⟩ fr h (X9 a) (fun v h'=>v= .slice a zs.length c∧Sp wm T h0 (ow wm e a zs.length c zs::Gr) h'):=by
 obtain⟨v,E,h1,e1,e2,e3,e4,a',c',rfl,hS'⟩:=KF (d:=d) (ty:=ty) (p:=p) (af:=af) (g:=g) hS pk hi hx hy sr hn ha;obtain⟨h1',so⟩:=hS.get pk;obtain⟨rfl,_⟩:=Ze8 ha;subst h1' hn;obtain⟨E',e5⟩:=ZyR (d:=d) (ty:=ty) (p:=p) (af:=af) (g:=g) hi hx hy so sr (by rw [List.length_append] at hr;exact hr);rw [e5] at e1;cases e1;exact⟨_,_,h1,e5,e2,e3,e4,rfl,hS'⟩
theorem ZqS {b:Nat} {i j:Int} {u v:List α} (h3:slL xs i j=some ws) (h1:slL xs 0 i=some u) (h2:slL xs j xs.length=some v) (ha:app b u v=some zs):zs.length <=xs.length:=by
 obtain⟨l,k,rfl,rfl,hlk,hkx,rfl⟩:=ZaN h3;obtain⟨l1,k1,hl1,hk1,_,_,rfl⟩:=ZaN h1;obtain⟨l2,k2,hl2,hk2,_,_,rfl⟩:=ZaN h2;obtain⟨rfl,_⟩:=Ze8 ha;simp only [List.length_append,List.length_drop,List.length_take];omega
end
section
variable {κ ν:Type} [DecidableEq κ] {kt vt:TypeId} {kv:κ ->Value} {vv:ν ->Value} {i:Nat} {ll:List (κ×ν)}
theorem ZAL {ts:Array TypeId} {t:TypeId} {rest:List TypeId} {x y:Operand} {k:κ} (hS:Sp wm T h0 G h) (pk:Pk G (mp wm kv vv (some i) ll) Gr) (K:ZbO X.P kt kv) (hts:ts.toList=t::rest) (hu:X.P.underlying t=some (.map kt vt)) (hx:ZY fr x=some (.map (some i))) (hy:ZY fr y=some (kv k)):
 HW X wm ⟨none,.call {callee:= .builtin .delete,args:=#[x,y],argTypes:=ts},ty,p,af,g⟩ fr h (fun h'=>Sp wm T h0 (mp wm kv vv (some i) (ZaT ll k)::Gr) h'):=by
 obtain⟨h',⟨E,ha,hE,_⟩,u,ho⟩:=ZCI (d:=none) (ty:=ty) (p:=p) (af:=af) (g:=g) K hts hu (Nat.le_refl wm) hx rfl hy (hS.get pk);exact⟨_,E,h',ha,hE,hS.one pk u (fun j e=>by cases e;rfl) ho fun j e=>.inl e⟩
end
end Go.Yy
end
end
section
noncomputable section
namespace Go.Yy
open Go.Lf
variable {X:Ctx} {n wm:Nat} {rd:Option Nat} {ops:Array Oper} {l:List Oper} {fr:Fr} {ds:List Deferred} {h h1 h2 h0:H} {ty:TypeId} {p:String} {af:Array Edge} {g:Option (Nat×Bool)} {m:Nat} {T:Nat ->Prop} {G Gr Ga Gb:List (Ast wm)} {d:Nat} {sf:ST}
def HE (X:Ctx) (o:Oper) (fr:Fr) (h:H) (K:Value ->Prop):Prop:=∃ v,Xy X h (ZY fr) o=some (.val v,.none)∧K v
theorem WO.he {Q:XX ->Fs ->Prop} {op:Op} {K:Value ->Prop} (hg:ZU ops ⟨some d,op,ty,p,af,g⟩ fr) (hd:Nat.blt d n=true) (s:HE X ⟨some d,op,ty,p,af,g⟩ fr h K) (k:∀ v,K v ->WO X n wm rd ops l ⟨Tr.set fr d v,ds,h,none⟩ Q):
 WO X n wm rd ops (⟨some d,op,ty,p,af,g⟩::l) ⟨fr,ds,h,none⟩ Q:=let⟨v,ha,hk⟩:=s;WO.w hg hd ha (k v hk)
theorem WX.he {Q:Fr ->H ->Prop} {op:Op} {K:Value ->Prop} (hg:ZU ops ⟨some d,op,ty,p,af,g⟩ fr) (hd:Nat.blt d n=true) (s:HE X ⟨some d,op,ty,p,af,g⟩ fr h K) (k:∀ v,K v ->WX X n wm rd ops sf (m + 1) h l (Tr.set fr d v) Q) (hM:okM ops sf m ⟨some d,op,ty,p,af,g⟩=true):
 WX X n wm rd ops sf m h (⟨some d,op,ty,p,af,g⟩::l) fr Q:=let⟨v,ha,hk⟩:=s;WX.w hg hd ha (k v hk) hM
section
variable {α:Type} {e:Ww α} {t el:TypeId} {x:Operand} {a:Option Addr} {nn c:Nat} {xs zs ws us:List α} {a1 a2 a3:Int}
theorem ZDL {lo hi:Option Operand} (so:Qi e wm wm h a c xs) (hn:nn=xs.length) (hu:X.P.underlying t=some (.slice el)) (hs:Z8 X.P el=some e.sz) (hx:ZY fr x=some (.slice a nn c))
 (hlo:evo (ZY fr) lo=some none∧a1=0∨∃ k,evo (ZY fr) lo=some (some (.int k a1))) (hhi:evo (ZY fr) hi=some none∧a2=xs.length∨∃ k,evo (ZY fr) hi=some (some (.int k a2))) (hz:slL xs a1 a2=some zs):
 HE X ⟨some d,.slice t x lo hi none,ty,p,af,g⟩ fr h (fun v=>∃ a' c',v= .slice a' zs.length c'∧ZpO e a c xs a' c' zs):=
 let⟨a',c',h1,h2⟩:=ZCV (d:=d) (ty:=ty) (p:=p) (af:=af) (g:=g) so hn hu hs hx hlo hhi hz;⟨_,h1,a',c',rfl,h2⟩
theorem ZAK {lo hi mx:Operand} (so:Qi e wm wm h a c xs) (hn:nn=xs.length) (hu:X.P.underlying t=some (.slice el)) (hs:Z8 X.P el=some e.sz) (hx:ZY fr x=some (.slice a nn c))
 (hlo:ZY fr lo=some (.int .i64 a1)) (hhi:ZY fr hi=some (.int .i64 a2)) (hmx:ZY fr mx=some (.int .i64 (xs.length:Nat))) (hz:slL xs a1 a2=some zs):
 HE X ⟨some d,.slice t x (some lo) (some hi) (some mx),ty,p,af,g⟩ fr h (fun _=>True):=let⟨v,hv⟩:=ZyL (d:=d) (ty:=ty) (p:=p) (af:=af) (g:=g) so hn hu hs hx hlo hhi hmx hz;⟨v,hv,trivial⟩
theorem ZAJ {hi:Operand} (so:Qi e wm wm h a c xs) (hn:nn=xs.length) (hu:X.P.underlying t=some (.slice el)) (hs:Z8 X.P el=some e.sz) (hx:ZY fr x=some (.slice a nn c))
 (hhi:ZY fr hi=some (.int .i64 a2)) (hz:slL xs 0 a2=some zs):
 HE X ⟨some d,.slice t x none (some hi) none,ty,p,af,g⟩ fr h (fun v=>∃ a' c',a'=a∧c'=c∧v= .slice a' zs.length c'∧ZpO e a c xs a' c' zs):=
 let⟨a',c',h1,h2,h3,h4⟩:=ZyK (d:=d) (ty:=ty) (p:=p) (af:=af) (g:=g) so hn hu hs hx hhi hz;⟨_,h3,a',c',h1,h2,rfl,h4⟩
theorem ZAI {lo hi:Operand} {mm:Nat} (so:Qi e wm wm h a c zs) (hu:X.P.underlying t=some (.slice el)) (hs:Z8 X.P el=some e.sz) (hx:ZY fr x=some (.slice a zs.length c))
 (hlo:ZY fr lo=some (.int .i64 (zs.length:Nat))) (hhi:ZY fr hi=some (.int .i64 (mm:Nat))) (hm:zs.length <=mm) (hc:mm <=c / 2):
 HE X ⟨some d,.slice t x (some lo) (some hi) none,ty,p,af,g⟩ fr h (fun v=>∃ a' c',v= .slice a' (mm - zs.length) c'∧Tl e a c zs.length (mm - zs.length) a'):=
 let⟨a',c',h1,h2⟩:=ZyJ (d:=d) (ty:=ty) (p:=p) (af:=af) (g:=g) so hu hs hx hlo hhi hm hc;⟨_,h1,a',c',rfl,h2⟩
end
end Go.Yy
end
end
section
noncomputable section
namespace Go.Yy
open Go.Lf
variable {X:Ctx} {n wm UZ:Nat} {fr:Fr} {h:H} {ty:TypeId} {p:String} {af:Array Edge} {g:Option (Nat×Bool)} {d:Nat}
section
variable {α:Type} {e:Ww α} {t el:TypeId} {x:Operand} {a:Option Addr} {nn c:Nat} {xs zs:List α} {a2:Int}
end
end Go.Yy
end
end
section
noncomputable section
namespace Go.Yy
open Go.Lf
variable {X:Ctx} {n wm:Nat} {rd:Option Nat} {ops:Array Oper} {l:List Oper} {fr:Fr} {ds:List Deferred} {h h1 h2 h0:H} {ty:TypeId} {p:String} {af:Array Edge} {g:Option (Nat×Bool)} {T:Nat ->Prop} {G Gr Ga Gb:List (Ast wm)} {d:Nat}
theorem ZsN {α β:Type} {y:α} {p:Int ->Option β} {k:α ->Option β} {r:β} (h:prC (.ok y) p k=some r):k y=some r:=h
theorem Zp8 {α β:Type} {e:Int} {p:Int ->Option β} {k:α ->Option β} {r:β} (h:prC (.Jr e) p k=some r):p e=some r:=h
theorem ZsT {α β:Type} {y:α} {p:Option β} {k:α ->Option β} {r:β} (h:opt (some y) p k=some r):k y=some r:=h
theorem ZsU {α β:Type} {p:Option β} {k:α ->Option β} {r:β} (h:opt none p k=some r):p=some r:=h
def pv (t:TypeId) (k:Int):Value:= .iface t (.int .i64 k)
def PQ {β:Type} {wm:Nat} (t:TypeId) (K:β ->Value ->List (Ast wm) ->Prop) (Ga:List (Ast wm)) (h:H) (r:PR β):Kr ->H ->Prop:=fun e h'=>match r with
 | .ok b=>∃ v,e= .ret v∧CP (K b) Ga h v h'
 | .Jr k=>e= .Jr (pv t k)∧Sp wm (XG Ga) h [] h'
section
variable {β:Type} {t:TypeId} {K:β ->Value ->List (Ast wm) ->Prop} {f:FuncId} {args:Array Value}
theorem PQ.ok {b:β} (k:WF X f args wm h (PQ t K Ga h (.ok b))):WR X f args wm h (CP (K b) Ga h):=k
theorem PQ.Jr {k:Int} (w:WF X f args wm h (PQ t K Ga h (.Jr k))):∃ h',Sp wm (XG Ga) h [] h'∧Yv X (.call f args wm h) (.fin (.Jr (pv t k)) h'):=
 let⟨_,h',hq,hj⟩:=w;⟨h',hq.2,by have:=hq.1;subst this;exact hj⟩
theorem WO.clX {Q:XX ->Fs ->Prop} {op:Op} {k:Int} (hg:ZU ops ⟨some d,op,ty,p,af,g⟩ fr) (he:YF X fr ⟨some d,op,ty,p,af,g⟩ f args) (hS:Sp wm T h0 G h) (pk:Sel G Ga Gr)
 (hc:∀ g':H,g'.size=h.size ->Fz wm h g' ->ZO Ga g' ->WF X f args wm g' (PQ t K Ga g' (.Jr k))) (kk:∀ h',Sp wm T h0 Gr h' ->Q (.panic (pv t k)) ⟨fr,ds,h',none⟩):
 WO X n wm rd ops (⟨some d,op,ty,p,af,g⟩::l) ⟨fr,ds,h,none⟩ Q:=by
 obtain⟨h',hs,hj⟩:=PQ.Jr (hc h rfl (Fz.refl _ _) (hS.Zhe pk));exact WO.ZiW hg (he h) rfl hj (kk h' (hS.call pk hs))
theorem WO.ZJ2 {Q:XX ->Fs ->Prop} {op:Op} {k:Int} {K:β ->Value ->List (Ast h.size) ->Prop} (hg:ZU ops ⟨some d,op,ty,p,af,g⟩ fr) (he:YF X fr ⟨some d,op,ty,p,af,g⟩ f args) (hw:wm <=h.size) (hS:Sp wm T h0 G h)
 (hc:WF X f args h.size h (PQ t K [] h (.Jr k))) (kk:∀ h',Sp wm T h0 G h' ->Q (.panic (pv t k)) ⟨fr,ds,h',none⟩):
 WO X n wm rd ops (⟨some d,op,ty,p,af,g⟩::l) ⟨fr,ds,h,none⟩ Q:=by
 obtain⟨h',hs,hj⟩:=PQ.Jr hc;exact WO.ZiW hg (he h) rfl (hj.weaken hw (Nat.le_refl _)) (kk h' (Sp.clR (Gb:= []) hS hs .n))
theorem X0.ZuO {fn:Func} {rs:List ResultVar} {vs:List Value} {v:Value} {b:β} {h0:H} (hr:fn.results.toList=rs) (hv:Zdj X.P fr h rs=some vs) (hl:(match vs with | [v]=>v | vs=>.tuple vs.toArray)=v) (k:CP (K b) Ga h0 v h):X0 X fn wm (PQ t K Ga h0 (.ok b)) .ret ⟨fr,[],h,none⟩:=
 X0.gen (R:=fun v h'=>CP (K b) Ga h0 v h') hr hv hl k
end
def Zbc (X:Ctx) (fn:Func) (wm:Nat) (Q:Kr ->H ->Prop) (pm:PM) (s:Fs):Prop:=∃ E h',Q E h'∧Yv X (.leave fn wm pm s) (.fin E h')
section
variable {fn:Func} {R:Kr ->H ->Prop} {s:Fs} {v:Value} {pm:PM}
theorem X0.ofP (k:Zbc X fn wm R .ret s):X0 X fn wm R .ret s:=let⟨E,h',h1,h2⟩:=k;⟨⟨.ret,E,h',rfl,h1,h2⟩⟩
theorem X0.ofX (k:Zbc X fn wm R (.Jr v) s):X0 X fn wm R (.panic v) s:=let⟨E,h',h1,h2⟩:=k;⟨⟨.Jr v,E,h',rfl,h1,h2⟩⟩
theorem Zbc.ofL (k:X0 X fn wm R .ret s) (hp:pm= .ret):Zbc X fn wm R pm s:=by
 obtain⟨KG,E,h',e,h1,h2⟩:=k.out;cases e;subst hp;exact⟨E,h',h1,h2⟩
theorem Zbc.Jr (k:R (.Jr v) h):Zbc X fn wm R (.Jr v) ⟨fr,[],h,none⟩:=by
 refine⟨.Jr v,h,k,Jo (C:=cfg X fun _=>false) (ih:=fun _=>none) (fun _ _ h=>by cases h) ?_⟩;unfold Um
 rfl
def DC (X:Ctx) (n wm:Nat) (c:Code) (pm:PM) (s:Fs) (Q:XX ->PM ->Fs ->Prop):Prop:=∃ e KG s',Q e KG s'∧Yv X (.Xv c n wm pm s) (.Xv e KG s')
structure DSq (X:Ctx) (n wm:Nat) (b:Code) (Q:XX ->PM ->Fs ->Prop) (e:XX) (pm:PM) (s:Fs):Prop where
 Yo:e= .normal
 k:DC X n wm b pm s Q
theorem DC.seq {a b:Code} {Q:XX ->PM ->Fs ->Prop} (k:DC X n wm a pm s (DSq X n wm b Q)):DC X n wm (.seq a b) pm s Q:=by
 obtain⟨e,pm1,s1,⟨rfl,e2,pm2,s2,hq,j2⟩,j1⟩:=k;obtain⟨_,_,_,q1,ka⟩:=XP.1 j1;cases q1;obtain⟨_,_,_,q2,kb⟩:=XP.1 j2;cases q2;refine⟨_,_,_,hq,XP.2 ⟨_,_,_,rfl,fun ρ a c0 cs w ZJ hi hpm=>wpSIn_seq (Q0 (ka ρ a c0 cs w ZJ hi hpm) ?_)⟩⟩;rintro e' a' cs' w' ⟨ρ',u',rfl,hp',he,hi',hst⟩;cases he;refine Q0 (kb ρ' a' {c0 with mode:=u'} cs w' (Nat.le_trans ZJ hst.size) hi' hp') ?_;rintro e3 a3 cs3 w3 ⟨ρ3,u3,rfl,q1,q2,q3,q4⟩;exact⟨ρ3,u3,rfl,q1,q2,q3,hst.trans hi.rel.lt q4⟩
theorem DC.rgn {id:Nat} {ops:Array Oper} {dr:Bool} {Q:XX ->PM ->Fs ->Prop} (hn:(!dr && ops.toList.any isRecover)=false) (k:WC X n wm none (.region id ops dr) s (fun e s'=>Q e pm s')):DC X n wm (.region id ops dr) pm s Q:=by
 obtain⟨e,s',hq,j⟩:=k;refine⟨e,pm,s',hq,XP.2 (Jp (C:=cfg X fun _=>false) (ih:=Ku (.code (.region id ops dr) n wm none s) (.code e s')) (QJ (Xw.2 ⟨_,_,rfl,j⟩)) ?_)⟩;unfold KM;dsimp only;rw [hn];unfold Za1;rw [QK];rfl
theorem DC.skip {Q:XX ->PM ->Fs ->Prop} (k:Q .normal pm s):DC X n wm .skip pm s Q:=by
 obtain⟨e,s',hq,j⟩:WC X n wm none .skip s (fun e s'=>Q e pm s'):=WC.skip k;refine⟨e,pm,s',hq,XP.2 (Jp (C:=cfg X fun _=>false) (ih:=Ku (.code .skip n wm none s) (.code e s')) (QJ (Xw.2 ⟨_,_,rfl,j⟩)) ?_)⟩;unfold KM Za1;dsimp only;rw [QK];rfl
theorem DC.ZvC {c:Operand} {a b:Code} {t:Bool} {Q:XX ->PM ->Fs ->Prop} {fr:Fr} (hc:ZY fr c=some (.bool t)) (ht:t=true) (k:DC X n wm a pm ⟨fr,ds,h,none⟩ Q):DC X n wm (.cond c a b) pm ⟨fr,ds,h,none⟩ Q:=by
 subst ht;obtain⟨e,KG,s',hq,j⟩:=k;refine⟨e,KG,s',hq,XP.2 (Jp (C:=cfg X fun _=>false) (ih:=Ku (.Xv a n wm pm ⟨fr,ds,h,none⟩) (.Xv e KG s')) (QJ j) ?_)⟩;unfold KM;dsimp only;rw [hc];exact QK _ _
theorem DC.ZvD {c:Operand} {a b:Code} {t:Bool} {Q:XX ->PM ->Fs ->Prop} {fr:Fr} (hc:ZY fr c=some (.bool t)) (ht:t=false) (k:DC X n wm b pm ⟨fr,ds,h,none⟩ Q):DC X n wm (.cond c a b) pm ⟨fr,ds,h,none⟩ Q:=by
 subst ht;obtain⟨e,KG,s',hq,j⟩:=k;refine⟨e,KG,s',hq,XP.2 (Jp (C:=cfg X fun _=>false) (ih:=Ku (.Xv b n wm pm ⟨fr,ds,h,none⟩) (.Xv e KG s')) (QJ j) ?_)⟩;unfold KM;dsimp only;rw [hc];exact QK _ _
theorem DC.rec {id:Nat} {ops:Array Oper} {Q:XX ->PM ->Fs ->Prop} (KG:PM) (fr':Fr) (hd:ZnB X n wm ops.toList ops.toList pm ⟨fr,ds,h,none⟩=some (KG,⟨fr',ds,h,none⟩)) (hn:ops.toList.any isRecover=true) (k:Q .normal KG ⟨fr',ds,h,none⟩):DC X n wm (.region id ops false) pm ⟨fr,ds,h,none⟩ Q:=by
 refine⟨.normal,KG,_,k,XP.2 (Jp (C:=cfg X fun _=>false) (ih:=fun _=>none) (fun _ _ h=>by cases h) ?_)⟩;unfold KM;dsimp only;rw [hn];have hd':ZnB (cfg X fun _=>false).X n wm ops.toList ops.toList pm ⟨fr,ds,h,none⟩=some (KG,⟨fr',ds,h,none⟩):=hd;rw [hd'];rfl
structure DEn (X:Ctx) (fn:Func) (wm:Nat) (R:Kr ->H ->Prop) (fr:Fr) (ds:List Deferred) (e:XX) (pm:PM) (s:Fs):Prop where
 Yo:e= .normal
 no:s.ds= []
 k:Zbc X fn wm R (Zg6 pm) ⟨fr,ds,s.h,none⟩
theorem Zbc.dfn {f:FuncId} {fn2:Func} {c:Code} {cap:List Value} {n2:Nat} (hf:X.fns.get f=some fn2) (hb:fn2.body=some c) (hnt:fn2.ntmps=n2) (hn:cap.length <=n2) (hr:fn2.results.toList= [])
 (k:DC X n2 wm c pm ⟨XO cap 0 .nil,[],h,none⟩ (DEn X fn wm R fr ds)):Zbc X fn wm R pm ⟨fr,⟨.fn (.func f) cap.toArray,#[]⟩::ds,h,none⟩:=by
 subst hnt;obtain⟨e,KG,s',⟨rfl,hno,E,h',hR,jl⟩,jd⟩:=k;obtain⟨fr',ds',h2,wr'⟩:=s';dsimp only at hno jl;subst hno
 have jc:Yv X (.dcall f (([]:List Value) ++ cap).toArray pm wm h) (.Zdi KG h2):=by
  refine Zdv (C:=cfg X fun _=>false) (ih:=Ku (.Xv c fn2.ntmps wm pm ⟨XO cap 0 .nil,[],h,none⟩) (.Xv .normal KG ⟨fr',[],h2,wr'⟩)) (QJ jd) ?_;unfold ZeX;have hf':(cfg X fun _=>false).X.fns.get f=some fn2:=hf;rw [hf'];dsimp only;rw [hb];dsimp only;have e1:Nat.ble (([]:List Value) ++ cap).toArray.toList.length fn2.ntmps=true:=Nat.ble_eq_true_of_le hn;rw [e1,cond_true];rw [List.nil_append,QK];unfold ZvA;dsimp only;have e3:QE (cfg X fun _=>false).X.P fn2 fr' h2=some (.tuple #[]):=by unfold QE;rw [hr];rfl
  rw [e3]
 refine⟨E,h',hR,?_⟩
 classical
 let ih:Jg ->Option YO:=fun j=>if j= .dcall f (([]:List Value) ++ cap).toArray pm wm h then some (.Zdi KG h2) else if j= .leave fn wm (Zg6 KG) ⟨fr,ds,h2,none⟩ then some (.fin E h') else none
 refine Jo (C:=cfg X fun _=>false) (ih:=ih) ?_ ?_
 ·intro j r e;dsimp only [ih] at e;split at e
  ·rename_i hj;cases e;rw [hj];exact jc
  ·split at e
   ·rename_i hj;cases e;rw [hj];exact jl
   ·cases e
 ·unfold Um;dsimp only;have hf':(cfg X fun _=>false).X.fns.get f=some fn2:=hf;rw [hf'];dsimp only;have i1:ih (.dcall f ((#[]:Array Value).toList ++ cap.toArray.toList).toArray pm wm h)=some (.Zdi KG h2):=by dsimp only [ih];rw [if_pos rfl]
  rw [i1];dsimp only [ih];rw [if_neg (by intro q;cases q),if_pos rfl]
end
section
theorem WO.dfr {Q:XX ->Fs ->Prop} {fo:Operand} {ts:Array TypeId} {f:FuncId} {cap:Array Value} (hg:ZU ops ⟨none,.defer {callee:= .value fo,args:=#[],argTypes:=ts},ty,p,af,g⟩ fr) (hf:ZY fr fo=some (.func (.func f) #[] cap))
 (k:WO X n wm none ops l ⟨fr,⟨.fn (.func f) cap,#[]⟩::ds,h,none⟩ Q):WO X n wm none ops (⟨none,.defer {callee:= .value fo,args:=#[],argTypes:=ts},ty,p,af,g⟩::l) ⟨fr,ds,h,none⟩ Q:=by
 refine WO.cons (Zbq X) (s1:= ⟨fr,⟨.fn (.func f) cap,#[]⟩::ds,h,none⟩) ?_ k
 have ha:Xy X h (ZY fr) ⟨none,.defer {callee:= .value fo,args:=#[],argTypes:=ts},ty,p,af,g⟩=some (.dfr ⟨.fn (.func f) cap,#[]⟩,.none):=by
  show(match evs (ZY fr) [] with
   | some args=>(match ZY fr fo with
     | some (.func (.func g) first cap)=>some (AN.dfr {target:= .fn (.func g) cap,args:=first ++ args.toArray},Eff.none)
     | _=>none)
   | none=>none)=_
  rw [hf];rfl
 unfold Ko;rw [hg.1,hg.2];dsimp only [Bool.not_true,cond_false,cond_true];rw [ha]
 rfl
theorem WO.pnc {Q:XX ->Fs ->Prop} {x:Operand} {t:TypeId} {v:Value} (hg:ZU ops ⟨none,.panic x,ty,p,af,g⟩ fr) (hx:ZY fr x=some (.iface t v)) (k:Q (.panic (.iface t v)) ⟨fr,ds,h,none⟩):WO X n wm rd ops (⟨none,.panic x,ty,p,af,g⟩::l) ⟨fr,ds,h,none⟩ Q:=by
 refine WO.panic (E:= .none) (h1:=h) hg ?_ rfl k
 show(match ZY fr x with
  | some (.iface t v)=>some (AN.panic (.iface t v),Eff.none)
  | _=>none)=_
 rw [hx]
theorem Zgk {x:Operand} {t:TypeId} {v:Value} (hx:ZY fr x=some v) (ht:(match X.P.underlying t with | some (.interface _)=>false | some _=>true | none=>false)=true):Xy X h (ZY fr) ⟨some d,.makeInterface t x,ty,p,af,g⟩=some (.val (.iface t v),.none):=by
 show(match ZY fr x,X.P.underlying t with
  | some _,some (.interface _)=>none
  | some v,some _=>some (AN.val (.iface t v),Eff.none)
  | _,_=>none)=_
 rw [hx];cases hh:X.P.underlying t with
 | none=>rw [hh] at ht;cases ht
 | some u=>
   rw [hh] at ht;cases u
   case interface=>cases ht
   all_goals rfl
end
end Go.Yy
end
end
section
noncomputable section
namespace Go.Yy
open Go.Lf
variable {X:Ctx} {n wm:Nat} {rd:Option Nat} {ops:Array Oper} {l:List Oper} {rest:Code}
theorem WO.body {s:Fs} {Q:XX ->Fs ->Prop} (k:WO X n wm rd ops l s (QD X n wm rd rest Q)):∃ e s',Q e s'∧∀ {ρ:Ren} {F:Fence} {a:Act} {w:World},Inv ρ n s a w ->wm <=s.h.size ->FR' ρ rd F ->∀ Q':Exit ->Act ->World ->Prop,(∀ e' a' w',XF wm n ρ s.h w e s' e' a' w' ->Q' e' a' w') ->
 wpListIn F 0 X.P ops (Exit.then (rest.wpIn F 0 X.P Q') Q') l a w:=by
 obtain⟨e1,s1,hk,ho⟩:=k.out;have hk:=hk.out;cases e1 with
 | normal=>
   obtain⟨e,s',hq,hj⟩:=hk;obtain⟨_,_,q0,kb⟩:=Xw.1 hj;cases q0;refine⟨e,s',hq,fun{ρ F a w} hi hw hF Q' hQ=>ho _ hi hw hF fun e' a' w' hp=>?_⟩;obtain⟨ρ',he,hi',hst⟩:=hp;cases he;exact wpIn_mono (kb ρ' a' w' F (Nat.le_trans hw hst.size) hi' (hF.mono hst.ext)) fun e2 a2 w2 hp2=>hQ _ _ _ (XF.trans hi.rel.lt hst hp2)
 | exit id=>
   refine⟨_,s1,hk,fun{ρ F a w} hi hw hF Q' hQ=>ho _ hi hw hF fun e' a' w' hp=>?_⟩;obtain⟨ρ',he,hi',hst⟩:=hp;cases he;exact hQ _ _ _ ⟨ρ',.exit id,hi',hst⟩
 | goto id=>
   refine⟨_,s1,hk,fun{ρ F a w} hi hw hF Q' hQ=>ho _ hi hw hF fun e' a' w' hp=>?_⟩;obtain⟨ρ',he,hi',hst⟩:=hp;cases he;exact hQ _ _ _ ⟨ρ',.goto id,hi',hst⟩
 | ret=>
   refine⟨_,s1,hk,fun{ρ F a w} hi hw hF Q' hQ=>ho _ hi hw hF fun e' a' w' hp=>?_⟩;obtain⟨ρ',he,hi',hst⟩:=hp;cases he;exact hQ _ _ _ ⟨ρ',.ret,hi',hst⟩
 | panic v=>
   refine⟨_,s1,hk,fun{ρ F a w} hi hw hF Q' hQ=>ho _ hi hw hF fun e' a' w' hp=>?_⟩;obtain⟨ρ',he,hi',hst⟩:=hp;cases he with
   | panic hv=>exact hQ _ _ _ ⟨ρ',.panic hv,hi',hst⟩
theorem EL.mem' {ρ:Ren} {es es':List MapEntry} (e:EL ρ es es') {x:MapEntry} (hx:x ∈ es):∃ x' ∈ es',x'.born=x.born:=by
 induction e with
 | nil=>cases hx
 | cons hk hp hb hv _ ih=>
   rcases List.mem_cons.1 hx with rfl | h
   ·exact⟨_,by simp,hb⟩
   ·obtain⟨x',h1,h2⟩:=ih h;exact⟨x',List.mem_cons_of_mem _ h1,h2⟩
theorem Zth {s:Fs} {id:Nat} {o:Oper} {t it m Xq clock d:Nat} {es:List MapEntry} {T:List Nat} {v:Value} {e:XX} {s2:Fs} (Jr:Nat ->Bool)
 (hops:ops.toList=o::l) (hop:o.op= .next (.tmp t) false) (hgu:o.guard=none) (hfr:s.fr.at t= .pointer (some ⟨it,0,none⟩)) (hit:s.h.at it= .iter m clock Xq none) (hm:s.h.at m= .map es clock) (hck:clock <=Xq) (hborn:W9 clock es=true) (ZoE:wm <=it) (htT:t ∉ T) (hd:o.dst=some d) (hdn:d < n) (hdT:d ∈ T) (hv:plain v=true)
 (Zh6:∀ x ∈ es,∃ ex s3,(s3.ds=s.ds∧(∀ t,t ∉ T ->s3.fr.at t=s.fr.at t)∧(ex= .normal∧Jr x.born=false∨ex= .panic v∧Jr x.born=true))∧∀ {ρ:Ren} {F:Fence} {a:Act} {w:World},Inv ρ n {fr:=J9 (Yf T s.fr) o.dst (.tuple #[.bool true,x.key,x.val]),ds:=s.ds,h:=s.h.put it (.iter m clock clock (some x.born)),wr:=s.wr} a w ->s.h.size <= (s.h.put it (.iter m clock clock (some x.born))).size ->FR' ρ rd F ->∀ Q':Exit ->Act ->World ->Prop,
   (∀ e' a' w',XF s.h.size n ρ (s.h.put it (.iter m clock clock (some x.born))) w ex s3 e' a' w' ->Q' e' a' w') ->wpListIn F 0 X.P ops (Exit.then (rest.wpIn F 0 X.P Q') Q') l a w)
 (hover:(∀ x ∈ es,Jr x.born=false) ->e ≠ .normal∧∀ {ρ:Ren} {F:Fence} {a:Act} {w:World},Inv ρ n {s with fr:=J9 (Yf T s.fr) o.dst Wy,h:=s.h.put it .dead} a w ->wm <= (s.h.put it .dead).size ->FR' ρ rd F ->∀ Q':Exit ->Act ->World ->Prop,
   (∀ e' a' w',XF wm n ρ (s.h.put it .dead) w e s2 e' a' w' ->Q' e' a' w') ->wpListIn F 0 X.P ops (Exit.then (rest.wpIn F 0 X.P Q') Q') l a w)
 (ZIQ:(∃ x ∈ es,Jr x.born=true) ->e= .panic v∧s2= {s with fr:=Yf T s.fr,h:=s.h.put it .dead}):Yv X (.loop (.seq (.region id ops false) rest) n wm rd s) (.code e s2):=by
 refine Zcf.2 ⟨e,s2,rfl,fun ρ a0 w0 F ZJ hi0 hF=>?_⟩;obtain⟨dd,hdr⟩:∃ d,d=it:= ⟨_,rfl⟩
 have ZoF:=hi0.fr.val t (by rw [hfr];rfl);rw [hfr] at ZoF;generalize hpx:a0.tmps.getD t undef=px at ZoF;cases ZoF with
 | @ptr _ bi di _ ZdP=>
 have hoi:=hi0.rel.obj _ _ _ ZdP;rw [hit] at hoi;obtain⟨rfl,bm,ZDK,Zh2,ZtL,_,ZdR⟩:=hoi;have ZdR:=ZdR rfl;subst ZdR;have hom:=hi0.rel.obj _ _ _ Zh2;rw [hm] at hom;obtain⟨_,es',ZtI,hes⟩:=hom;have hilt:=hi0.rel.dom _ _ _ ZdP;have ZIT:=hi0.rel.dom _ _ _ Zh2;have ZoP:m ≠ it:=fun z=>by rw [z,hit] at hm;cases hm
 have hold:∀ x ∈ es'.toList,x.born < clock:=by
  intro x hx;obtain⟨y,hy,_,_,hyb,_⟩:=hes.mem hx;rw [hyb];exact ZiX hborn y hy
 have ZmI:∀ j b d,ρ j=some (b,d) ->b=bi ->j ≠ it ->((s.h.at j).live=true ->False):=by
  intro j b d hj hbb hne' hl;subst hbb;exact hne' (hi0.rel.inj it j b 0 d ZdP hj (by rw [hit];rfl) hl).symm
 have hbne:bm ≠ bi:=fun z=>ZmI m bm 0 Zh2 z ZoP (by rw [hm];rfl)
 have ZEI:s.h.size= (s.h.put it .dead).size:=rfl
 have Zh3:∀ {a:Act} {w:World} {K:Act ->World ->Prop} {Q:Exit ->Act ->World ->Prop} {v:Value} {w1:World},a.tmps.getD t undef= .pointer (some ⟨bi,0,none⟩) ->(Instr.next (.pointer (some ⟨bi,0,none⟩)) false o.type).run X.P w= .ok v w1 ->
  K (a.put o.dst v) w1 ->(if Region.wanted o (yielded ops a.tmps) then o.wpIn F 0 X.P a w K Q else(∀ f,o.about X.P w a.eval=some f ->F.fn f)∧K (a.put o.dst undef) w):=by
  intro a w K Q v w1 ht hrun hK;have hw:Region.wanted o (yielded ops a.tmps)=true:=by unfold Region.wanted;rw [hgu]
  rw [if_pos hw];refine⟨fun f _=>Kn hF f,?_⟩;have Zk1:o.semAt F.round a.eval=execOp a.eval o:=Oper.semAt_eq _ _ _ fun c hc=>by rw [hop] at hc;cases hc
  have he:a.eval (.tmp t)= .pointer (some ⟨bi,0,none⟩):=ht
  have hx:(execOp a.eval o).run X.P w= .ok (.value v) w1:=by
   unfold execOp;rw [hop];simp [he,hrun]
  rw [Zk1,hx];exact hK
 have ZEF:∀ t,t ∉ T ->t ≠ d:=fun t ht z=>by rw [z] at ht;exact ht hdT
 have ZmE:∀ (a:Act) (w:World),Inv ρ n {s with fr:=Yf T s.fr,h:=s.h.put it .dead} a w ->a.tmps.getD t undef= .pointer (some ⟨bi,0,none⟩):=by
  intro a w hi;have h0:VR ρ ((Yf T s.fr).at t) (a.tmps.getD t undef):=hi.fr.val t (by show QL ((Yf T s.fr).at t)=false;rw [Xx,if_neg htT,hfr];rfl);rw [Xx,if_neg htT,hfr] at h0;generalize a.tmps.getD t undef=y at h0;cases h0 with
  | ptr _ h1=>rw [ZdP] at h1;cases h1;rfl
 have ZtH:(∀ x ∈ es,Jr x.born=false) ->∀ (a:Act) (w:World),Inv ρ n {s with fr:=Yf T s.fr,h:=s.h.put it .dead} a w ->Stp wm ρ s.h w0 ρ (s.h.put it .dead) w ->a.tmps.getD t undef= .pointer (some ⟨bi,0,none⟩) ->
  (Instr.next (.pointer (some ⟨bi,0,none⟩)) false o.type).run X.P w= .ok Wy w ->LoopIn F 0 X.P (.seq (.region id ops false) rest) (XF wm n ρ s.h w0 e s2) a w:=by
  intro hall a w hi hst ht hrun;obtain⟨hne,hover⟩:=hover hall;refine XH (wpIn_seq (wpIn_region_list ?_));rw [hops];refine Zh3 ht hrun ?_
  have hio:Inv ρ n {s with fr:=J9 (Yf T s.fr) o.dst Wy,h:=s.h.put it .dead} (a.put o.dst Wy) w:=by
   refine⟨hi.rel,?_,?_⟩
   ·rw [hd];exact hi.fr.set hdn (VR.ZN rfl)
   ·rw [hd];exact hi.ds
  refine hover hio ZJ hF _ fun e3 a3 w3 hp=>?_
  have hp2:=XF.trans hi0.rel.lt hst hp;obtain⟨ρ3,hx3,hi3,WM⟩:=hp2;cases hx3 with
  | normal=>exact(hne rfl).elim
  | exit id=>exact⟨ρ3,.exit id,hi3,WM⟩
  | goto id=>exact⟨ρ3,.goto id,hi3,WM⟩
  | ret=>exact⟨ρ3,.ret,hi3,WM⟩
  | panic hv=>exact⟨ρ3,.panic hv,hi3,WM⟩
 have ZzL:∀ seen:Array Nat,(∀ b,seen.contains b=true ->Jr b=false) ->(leftOf es' seen).size=0 ->∀ x ∈ es,Jr x.born=false:=by
  intro seen Zj3 h00 x hx;obtain⟨y,hy,hyb⟩:=hes.mem' hx;refine Zj3 _ ?_;cases hc:seen.contains x.born with
  | true=>rfl
  | false=>
    exfalso;have:y ∈ leftOf es' seen:=Array.mem_filter.2 ⟨Array.mem_toList_iff.1 hy,by rw [hyb,hc];rfl⟩;rw [Array.eq_empty_of_size_eq_zero h00] at this;simp at this
 have head:∀ (k:Nat) (seen:Array Nat) (last:Nat) (a:Act) (w:World),(∀ b,seen.contains b=true ->Jr b=false) ->(leftOf es' seen).size <=k ->clock <=last ->w.heap[bi]? =some (.mapIter (some bm) clock seen last) ->w.heap[bm]? =some (.map es' clock) ->
  Inv ρ n {s with fr:=Yf T s.fr,h:=s.h.put it .dead} a w ->
  Stp wm ρ s.h w0 ρ (s.h.put it .dead) w ->LoopIn F 0 X.P (.seq (.region id ops false) rest) (XF wm n ρ s.h w0 e s2) a w:=by
  intro k
  induction k with
  | zero=>
    intro seen last a w Zj3 hk hlast hblk Zeu hi hst;have ht:=ZmE a w hi;rcases Zg9 (P:=X.P) o.type hblk Zeu hold (hlast) with⟨h00,hrun⟩ | ⟨e',he',_⟩
    ·exact ZtH (ZzL seen Zj3 h00) a w hi hst ht hrun
    ·have:=Array.length_toList ▸ List.length_pos_of_mem he';omega
  | succ k ihk=>
    intro seen last a w Zj3 hk hlast hblk Zeu hi hst;have ht:=ZmE a w hi;rcases Zg9 (P:=X.P) o.type hblk Zeu hold (hlast) with⟨h00,hrun⟩ | ⟨e',he',w1,hw1,hsame,hrun⟩
    ·exact ZtH (ZzL seen Zj3 h00) a w hi hst ht hrun
    ·have hmem:= (mem_left he').1;obtain⟨x,hx,hkey,hkp,hbn,hval⟩:=hes.mem hmem;obtain⟨ex,s3,⟨ZBj,hwr,hpn⟩,hbody⟩:=Zh6 x hx;have ZtJ:bi < w.heap.size:= (hi.rel.dom _ _ _ ZdP).2;have ZEH:bm < w.heap.size:= (hi.rel.dom _ _ _ Zh2).2;obtain⟨w2,hw2⟩:∃ w2,w2=w1.putObj bi (.mapIter (some bm) clock (seen.push e'.born) clock):= ⟨_,rfl⟩
     rw [← hw2] at hrun;have hsz2:w2.heap.size=w.heap.size:=by rw [hw2,World.putObj_size,hw1]
     have hother:∀ k,k ≠ bi ->w2.heap[k]? =w.heap[k]?:=fun k hk=>by rw [hw2,World.putObj_heap_other hk,hw1]
     have ZtM:w2.heap[bi]? =some (.mapIter (some bm) clock (seen.push e'.born) clock):=by rw [hw2];exact World.putObj_heap_same (by rw [hw1];exact ZtJ)
     have ZdS:Same w w2:=by rw [hw2];exact⟨hsame.os,hsame.tape,hsame.output⟩
     have hrel:Rel ρ (s.h.put it (.iter m clock clock (some x.born))) w2:=by
      refine ZhG hi.rel ZdP ZmI hother hsz2 ⟨rfl,bm,seen.push e'.born,Zh2,ZtM,fun z hz=>?_,fun z=>by cases z⟩;cases hz;rw [← hbn];simp
     have hie:Inv ρ n {fr:=J9 (Yf T s.fr) o.dst (.tuple #[.bool true,x.key,x.val]),ds:=s.ds,h:=s.h.put it (.iter m clock clock (some x.born)),wr:=s.wr} (a.put o.dst (.tuple #[.bool true,e'.key,e'.val])) w2:=by
      refine⟨hrel,?_,?_⟩
      ·rw [hd];refine hi.fr.set hdn (.tuple _ _ rfl fun j y y' p q=>?_)
       match j,p,q with
       | 0,p,q=>simp at p q;subst p q;exact .bool true
       | 1,p,q=>simp at p q;subst p q;rw [hkey];exact VR.ZN hkp
       | 2,p,q=>simp at p q;subst p q;exact hval
       | j + 3,p,q=>simp at p
      ·rw [hd];exact hi.ds
     refine XH (wpIn_seq (wpIn_region_list ?_));rw [hops];refine Zh3 ht hrun ?_;refine hbody hie (Nat.le_refl _) hF _ fun e3 a3 w3 hp=>?_
     obtain⟨ρ3,hx3,hi3,WM⟩:=hp;obtain⟨q1,q2⟩:=Za2 hrel WM;have ZoQ:∀ b,b < w2.heap.size ->w3.heap[b]? =w2.heap[b]?:=fun b hb=>WM.frame b hb fun i d hi' e _=>by have:=hrel.lt i _ e;simp at this hi';omega
     have hinv:Inv ρ n {s with fr:=Yf T s.fr,h:=s.h.put it .dead} a3 w3:=by
      refine⟨?_,⟨hi3.fr.size,fun t hany=>?_⟩,?_⟩
      ·refine(Zb2 (i:=it) q1).congr rfl fun i=>?_
       rw [H.XE,H.XE];by_cases hii:i=it∧i < s.h.size
       ·rw [if_pos hii,if_pos (by simpa using hii)]
       ·rw [if_neg hii,if_neg (by simpa using hii),H.XE,if_neg hii]
      ·change QL ((Yf T s.fr).at t)=false at hany
       show VR ρ ((Yf T s.fr).at t) _;rw [Xx] at hany ⊢;by_cases Zck:t ∈ T
       ·rw [if_pos Zck] at hany;cases hany
       ·rw [if_neg Zck] at hany ⊢;have h0:=hi.fr.val t (by show QL ((Yf T s.fr).at t)=false;rw [Xx,if_neg Zck];exact hany);have h0:VR ρ ((Yf T s.fr).at t) _:=h0;rw [Xx,if_neg Zck] at h0;have h1:=hi3.fr.val t (by rw [hwr t Zck];exact hany);rw [hwr t Zck] at h1;exact VR.back WM.ext h0 h1
      ·have h0:DsR ρ s.ds a.defers:=hi.ds;have h1:=hi3.ds;rw [ZBj] at h1;exact DsR.back WM.ext h0 h1
     have hstp:Stp wm ρ s.h w0 ρ (s.h.put it .dead) w3:=by
      refine⟨Ren.le_refl _,hst.size,hst.keep,hst.own,hst.live,WM.os.trans (ZdS.os.trans hst.os),WM.tape.trans (ZdS.tape.trans hst.tape),WM.output.trans (ZdS.output.trans hst.output),
       Nat.le_trans hst.Xi (by rw [← hsz2];exact WM.Xi),fun b hb hno=>?_,fun i b d p q=>by rw [p] at q;cases q⟩
      have hbb:b ≠ bi:=fun z=>by subst z;exact hno it 0 ZoE ZdP (by rw [hit];rfl)
      have:=hst.Xi;rw [ZoQ b (by omega),hother b hbb,hst.frame b hb hno]
     rcases hpn with⟨rfl,hpf⟩ | ⟨rfl,hpt⟩
     ·cases hx3;show LoopIn F 0 X.P _ _ a3 w3
      exact ihk (seen.push e'.born) clock a3 w3 (fun b hb=>by
       rw [contains_push] at hb;rcases Bool.or_eq_true_iff.1 hb with z | z
       ·exact Zj3 b z
       ·have:b=e'.born:=by simpa using z
        rw [this,hbn];exact hpf) (by have:=left_shrinks es' seen e' he';omega) (Nat.le_refl _) (by rw [ZoQ bi (by omega)];exact ZtM) (by rw [ZoQ bm (by omega),hother bm hbne];exact Zeu) hinv hstp
     ·obtain⟨he,ZIM⟩:=ZIQ ⟨x,hx,hpt⟩;cases hx3 with
      | panic hv3=>
        show XF wm n ρ s.h w0 e s2 _ a3 w3;rw [he,ZIM];have:=VR.YQ hv hv3;subst this;exact⟨ρ,.panic (VR.ZN hv),hinv,hstp⟩
 have ZBb:Stp wm ρ s.h w0 ρ (s.h.put it .dead) w0:=by
  have kk:=Ui (h:=s.h) (A:= .dead) ZoE (by rw [hit];rfl);exact⟨Ren.le_refl _,Nat.le_refl _,kk.keep,kk.own,kk.live,rfl,rfl,rfl,Nat.le_refl _,fun _ _ _=>rfl,fun i b d e e'=>by rw [e] at e';cases e'⟩
 refine head _ #[] Xq a0 w0 (fun b hb=>by simp at hb) (Nat.le_refl _) hck ZtL ZtI ⟨Zb2 hi0.rel,⟨hi0.fr.size,fun t hany=>?_⟩,hi0.ds⟩ ZBb
 change QL ((Yf T s.fr).at t)=false at hany
 show VR ρ ((Yf T s.fr).at t) _;rw [Xx] at hany ⊢;by_cases ht:t ∈ T
 ·rw [if_pos ht] at hany;cases hany
 ·rw [if_neg ht] at hany ⊢;exact hi0.fr.val t hany
def Agr (T:List Nat) (fr fr':Fr):Prop:=∀ t v,T.contains t=false ->fr.at t=v ->fr'.at t=v
theorem Agr.at {T:List Nat} {fr fr':Fr} (a:Agr T fr fr') {t:Nat} {v:Value} (ht:T.contains t=false) (h:fr.at t=v):fr'.at t=v:=a t v ht h
def MFr (T:List Nat) (fr f:Fr):Prop:=∀ t,t ∉ T ->f.at t=fr.at t
theorem MFr.z {T:List Nat} {fr:Fr}:MFr T fr fr:=fun _ _=>rfl
theorem MFr.s {T:List Nat} {fr f:Fr} {i:Nat} {v:Value} (hi:T.contains i=true) (h:MFr T fr f):MFr T fr (Tr.set f i v):=fun t ht=>by
 have hne:t ≠ i:=fun z=>ht (by subst z;rwa [List.contains_iff_mem] at hi)
 have:=ZcN (fr:=f) (d:=some i) (v:=v) (t:=t);rw [show J9 f (some i) v=Tr.set f i v from rfl] at this;rw [this,if_neg (fun z=>hne (Option.some.inj z).symm)];exact h t ht
structure ZpQ (T:List Nat) (fr:Fr) (ds:List Deferred) (v:Value) (p:Bool) (e:XX) (s:Fs):Prop where
 ds:s.ds=ds
 fr:MFr T fr s.fr
 e:e= .normal∧p=false∨e= .panic v∧p=true
theorem ZpQ.Yo {T:List Nat} {fr f:Fr} {ds:List Deferred} {v:Value} {h:H} (k:MFr T fr f):ZpQ T fr ds v false .normal ⟨f,ds,h,none⟩:= ⟨rfl,k,.inl ⟨rfl,rfl⟩⟩
theorem ZpQ.panic {T:List Nat} {fr f:Fr} {ds:List Deferred} {v:Value} {h:H} (k:MFr T fr f):ZpQ T fr ds v true (.panic v) ⟨f,ds,h,none⟩:= ⟨rfl,k,.inr ⟨rfl,rfl⟩⟩
structure Zy1 (Q:XX ->Fs ->Prop) (e:XX) (s:Fs):Prop where
 nn:e ≠ .normal
 k:Q e s
theorem Zy1.exit {Q:XX ->Fs ->Prop} {s:Fs} {id:Nat} (k:Q (.exit id) s):Zy1 Q (.exit id) s:= ⟨(fun z=>by cases z),k⟩
def Zy5 {κ ν:Type} (kv:κ ->Value) (vv:ν ->Value) (h:H) (it:Nat) (x:κ×ν):Prop:=Zd3 h (.pointer (some ⟨it,0,none⟩))=some (.tuple #[kv x.1,vv x.2])
section
variable {κ ν:Type} {kv:κ ->Value} {vv:ν ->Value} {ll:List (κ×ν)} {bs:List Nat}
theorem Zmv:∀ {ll:List (κ×ν)} {bs:List Nat} {x:MapEntry},x ∈ Yt kv vv ll bs ->∃ (j:Nat) (y:κ×ν) (b:Nat),ll[j]? =some y∧bs[j]? =some b∧x= ⟨kv y.1,vv y.2,b⟩:=by
 intro ll bs x hx;obtain⟨j,hj⟩:=List.mem_iff_getElem?.1 hx;unfold Yt at hj;rw [List.getElem?_zipWith] at hj;cases h1:ll[j]? with
 | none=>rw [h1] at hj;simp at hj
 | some y=>
   cases h2:bs[j]? with
   | none=>rw [h1,h2] at hj;simp at hj
   | some b=>rw [h1,h2] at hj;simp at hj;exact⟨j,y,b,h1,h2,hj.symm⟩
theorem Zw2 {j:Nat} {y:κ×ν} {b:Nat} (h1:ll[j]? =some y) (h2:bs[j]? =some b):(⟨kv y.1,vv y.2,b⟩:MapEntry) ∈ Yt kv vv ll bs:=by
 refine List.mem_iff_getElem?.2 ⟨j,?_⟩;unfold Yt;rw [List.getElem?_zipWith,h1,h2]
theorem ZgB {b:Nat}:∀ {ll:List (κ×ν)} {bs:List Nat},b ∉ bs ->ZdG b (Yt kv vv ll bs)=true
 | [],_,_=>by unfold Yt;simp [ZdG]
 | _::_,[],_=>by unfold Yt;simp [ZdG]
 | x::ll,b'::bs,h=>by
   have ih:=ZgB (ll:=ll) (bs:=bs) (b:=b) (fun z=>h (by simp [z]));unfold Yt at ih ⊢;rw [List.zipWith_cons_cons];unfold ZdG;have:Nat.beq b' b=false:=by rw [Bool.eq_false_iff];intro q;exact h (by simp [Nat.eq_of_beq_eq_true q])
   dsimp only;rw [this];exact ih
theorem ZhS {Xq:Nat}:∀ {ll:List (κ×ν)} {bs:List Nat},bs.Nodup ->(∀ b ∈ bs,b < Xq) ->W9 Xq (Yt kv vv ll bs)=true
 | [],_,_,_=>by unfold Yt;simp [W9]
 | _::_,[],_,_=>by unfold Yt;simp [W9]
 | x::ll,b::bs,hn,hl=>by
   rw [List.nodup_cons] at hn;have ih:=ZhS (ll:=ll) (bs:=bs) hn.2 (fun b hb=>hl b (by simp [hb]));have hno:ZdG b (Yt kv vv ll bs)=true:=ZgB (ll:=ll) hn.1;unfold Yt at ih hno ⊢;rw [List.zipWith_cons_cons];unfold W9;dsimp only;rw [hno,ih];have:Nat.blt b Xq=true:=by rw [Nat.blt_eq];exact hl b (by simp)
   rw [this];rfl
theorem ZjT:∀ {ll:List (κ×ν)} {bs:List Nat} {j:Nat} {y:κ×ν} {b:Nat},bs.Nodup ->ll[j]? =some y ->bs[j]? =some b ->Zkn b (Yt kv vv ll bs)=some ⟨kv y.1,vv y.2,b⟩
 | [],_,_,_,_,_,h,_=>by simp at h
 | _::_,[],_,_,_,_,_,h=>by simp at h
 | x::ll,b'::bs,j,y,b,hn,h1,h2=>by
   rw [List.nodup_cons] at hn;unfold Yt;rw [List.zipWith_cons_cons];unfold Zkn;dsimp only;cases j with
   | zero=>
     simp at h1 h2;subst h1 h2;rw [Nat.beq_refl];rfl
   | succ j=>
     simp at h1 h2
     have:Nat.beq b' b=false:=by
      rw [Bool.eq_false_iff];intro q;have:=Nat.eq_of_beq_eq_true q;subst this;exact hn.1 (List.mem_iff_getElem?.2 ⟨j,h2⟩)
     rw [this];exact ZjT hn.2 h1 h2
end
section
variable {wm:Nat} {G Gr:List (Ast wm)} {h h0:H} {T0:Nat ->Prop} {fr:Fr} {ds:List Deferred} {ty:TypeId} {p:String} {af:Array Edge} {g:Option (Nat×Bool)} {κ ν:Type} {kv:κ ->Value} {vv:ν ->Value} {ll:List (κ×ν)} {d:Nat}
theorem WO.rng {Q:XX ->Fs ->Prop} {t kt vt:TypeId} {x:Operand} {i:Nat} (hg:ZU ops ⟨some d,.range t x,ty,p,af,g⟩ fr) (hd:Nat.blt d n=true) (hS:Sp wm T0 h0 G h) (hu:X.P.underlying t=some (.map kt vt)) (hx:ZY fr x=some (.map (some i))) (s:MapAt kv vv h (some i) ll)
 (k:∀ h' b bs Xq,Sp wm T0 h0 (ob wm b (.iter i Xq Xq none)::G) h' ->h'.at i= .map (Yt kv vv ll bs) Xq ->bs.length=ll.length∧bs.Nodup∧(∀ x ∈ bs,x < Xq) ->WO X n wm rd ops l ⟨Tr.set fr d (.pointer (some ⟨b,0,none⟩)),ds,h',none⟩ Q):
 WO X n wm rd ops (⟨some d,.range t x,ty,p,af,g⟩::l) ⟨fr,ds,h,none⟩ Q:=by
 rcases s.mem with⟨q,_⟩ | ⟨i',bs,Xq,q,h1,h2,h3,h4⟩
 ·cases q
 ·cases q;refine WO.v (v:=Jk h) (E:= .new (.iter i Xq Xq none)) (h1:=h.push (.iter i Xq Xq none)) hg hd ?_ (ZlC h rfl) (k (h.push (.iter i Xq Xq none)) h.size bs Xq (Zop rfl hS) ?_ ⟨h2,h3,h4⟩)
  ·show(match ZY fr x with
    | some x=>vE (Zi3 X.P h t x)
    | none=>none)=_
   rw [hx];dsimp only;unfold Zi3;simp only [hu,h1]
   rfl
  ·rw [Zav (Q9 h1 rfl),h1]
theorem ZvR {x:Operand} {it:Nat} {y:κ×ν} (hx:ZY fr x=some (.pointer (some ⟨it,0,none⟩))) (he:Zy5 kv vv h it y):Xy X h (ZY fr) ⟨some d,.entry x,ty,p,af,g⟩=some (.val (.tuple #[kv y.1,vv y.2]),.none):=by
 show(match ZY fr x with
  | some it=>vN (Zd3 h it)
  | none=>none)=_
 rw [hx];dsimp only;rw [show Zd3 h (.pointer (some ⟨it,0,none⟩))=_ from he];rfl
theorem WL.ZH9 {Q:XX ->Fs ->Prop} {id:Nat} {o:Oper} {t it m Xq:Nat} {bs:List Nat} {b:κ ->ν ->Option Bool} {q:Bool} (T:List Nat) (v:Value) (hq:ZjS b ll=some q) (hS:Sp wm T0 h0 G h) (pi:Pk G (ob wm it (.iter m Xq Xq none)) Gr) (hat:fr.at t= .pointer (some ⟨it,0,none⟩)) (hm:h.at m= .map (Yt kv vv ll bs) Xq) (hb:bs.length=ll.length∧bs.Nodup∧∀ x ∈ bs,x < Xq)
 (hops:ops.toList=o::l) (hop:o.op= .next (.tmp t) false) (hgu:o.guard=none) (hd:o.dst=some d) (hdn:Nat.blt d n=true) (hT:T.contains t=false) (hdT:T.contains d=true) (hv:plain v=true)
 (body:∀ (x:κ×ν) (p:Bool),b x.1 x.2=some p ->∀ h2 fr',Agr T fr fr' ->Sp h.size (XG ([]:List (Ast h.size))) h2 [] h2 ->Zy5 kv vv h2 it x ->WO X n h.size rd ops l ⟨Tr.set fr' d (.tuple #[.bool true,kv x.1,vv x.2]),ds,h2,none⟩ (QD X n h.size rd rest (ZpQ T fr' ds v p)))
 (over:q=false ->∀ h' fr',Agr T fr fr' ->Sp wm T0 h0 Gr h' ->WO X n wm rd ops l ⟨Tr.set fr' d (.tuple #[.bool false]),ds,h',none⟩ (QD X n wm rd rest (Zy1 Q)))
 (Jr:q=true ->∀ h' fr',Agr T fr fr' ->Sp wm T0 h0 Gr h' ->Q (.panic v) ⟨fr',ds,h',none⟩):WL X n wm rd (.seq (.region id ops false) rest) ⟨fr,ds,h,none⟩ Q:=by
 obtain⟨hb1,hb2,hb3⟩:=hb;obtain⟨o1,o2,o3⟩:=hS.get pi;obtain⟨m1,m2⟩:=ZdM hq
 have ZBC:Agr T fr (Yf T fr):=fun t' v' ht' hv'=>by
  rw [Xx,if_neg (fun z=>by rw [← List.contains_iff_mem] at z;rw [z] at ht';cases ht'),hv']
 have htT:t ∉ T:=fun z=>by rw [← List.contains_iff_mem] at z;rw [z] at hT;cases hT
 have ZI5:d ∈ T:=List.contains_iff_mem.1 hdT;have ZIS:m ≠ it:=fun z=>by rw [z,o1] at hm;cases hm
 classical
 let pn:Nat ->Bool:=fun bn=>decide (∃ (j:Nat) (y:κ×ν),ll[j]? =some y∧bs[j]? =some bn∧b y.1 y.2=some true)
 have ZkJ:∀ (j:Nat) (y:κ×ν) (bn:Nat),ll[j]? =some y ->bs[j]? =some bn ->∀ p,b y.1 y.2=some p ->pn bn=p:=by
  intro j y bn h1 h2 p hp;cases p with
  | true=>exact decide_eq_true ⟨j,y,h1,h2,hp⟩
  | false=>
    refine decide_eq_false ?_;rintro⟨j',y',h1',h2',hp'⟩
    have hj:j'=j:=by
     obtain⟨q1,e1⟩:=List.getElem?_eq_some_iff.1 h2';obtain⟨q2,e2⟩:=List.getElem?_eq_some_iff.1 h2;exact(List.getElem_inj hb2).1 (e1.trans e2.symm)
    subst hj;rw [h1] at h1';cases h1';rw [hp] at hp';cases hp'
 have ZzA:Sp wm T0 h0 Gr (h.put it .dead):=
  Sp.step (Ga:= [ob wm it (.iter m Xq Xq none)]) (Gb:= []) (hS.perm pi.perm) (Up.put o2 (by rw [o1];rfl)) (fun i e=>⟨_,List.mem_singleton.2 rfl,e⟩) ZO.nil fun i ⟨A,mm,f⟩=>by simp at mm
 have Zh6:∀ x ∈ Yt kv vv ll bs,∃ ex s3,(s3.ds=ds∧(∀ t,t ∉ T ->s3.fr.at t=fr.at t)∧(ex= .normal∧pn x.born=false∨ex= .panic v∧pn x.born=true))∧∀ {ρ:Ren} {F:Fence} {a:Act} {w:World},Inv ρ n {fr:=J9 (Yf T fr) o.dst (.tuple #[.bool true,x.key,x.val]),ds:=ds,h:=h.put it (.iter m Xq Xq (some x.born)),wr:=none} a w ->h.size <= (h.put it (.iter m Xq Xq (some x.born))).size ->FR' ρ rd F ->∀ Q':Exit ->Act ->World ->Prop,
  (∀ e' a' w',XF h.size n ρ (h.put it (.iter m Xq Xq (some x.born))) w ex s3 e' a' w' ->Q' e' a' w') ->wpListIn F 0 X.P ops (Exit.then (rest.wpIn F 0 X.P Q') Q') l a w:=by
  intro x hx;obtain⟨j,y,bn,h1,h2,rfl⟩:=Zmv hx;obtain⟨p,hp⟩:=m1 y (List.mem_iff_getElem?.2 ⟨j,h1⟩);have hpn:=ZkJ j y bn h1 h2 p hp;have hsz:(h.put it (.iter m Xq Xq (some bn))).size=h.size:=H.size_put _ _ _;have e1:(h.put it (.iter m Xq Xq (some bn))).at it= .iter m Xq Xq (some bn):=YE (Q9 o1 rfl) _;have e2:(h.put it (.iter m Xq Xq (some bn))).at m= .map (Yt kv vv ll bs) Xq:=by rw [Wn ZIS,hm]
  have hent:Zy5 kv vv (h.put it (.iter m Xq Xq (some bn))) it y:=by
   unfold Zy5 Zd3;simp only [e1,e2,Nat.beq_refl,cond_true,ZjT hb2 h1 h2]
  obtain⟨ex,s3,⟨q1,q2,q3⟩,q4⟩:=WO.body (body y p hp (h.put it (.iter m Xq Xq (some bn))) (Yf T fr) ZBC (Sp.start (Nat.le_of_eq hsz.symm) ZO.nil) hent);refine⟨ex,s3,⟨q1,fun t' ht'=>?_,?_⟩,?_⟩
  ·rw [q2 t' ht',Xx,if_neg ht']
  ·dsimp only;rw [hpn];exact q3
  ·rw [hd];intro ρ F a w i1 i2 i3 Q' i4;exact q4 i1 i2 i3 Q' i4
 have key:=fun(e:XX) (s2:Fs)=>Zth (X:=X) (n:=n) (wm:=wm) (rd:=rd) (rest:=rest) (id:=id) (s:= ⟨fr,ds,h,none⟩) (e:=e) (s2:=s2) (T:=T) (v:=v) pn hops hop hgu hat o1 hm (Nat.le_refl _) (ZhS hb2 hb3) o2 htT hd (by rwa [Nat.blt_eq] at hdn) ZI5 hv Zh6
 cases q with
 | true=>
   refine⟨.panic v,⟨Yf T fr,ds,h.put it .dead,none⟩,Jr rfl _ _ ZBC ZzA,key _ _ (fun hall=>?_) fun _=>⟨rfl,rfl⟩⟩;exfalso;obtain⟨y,hy,hyb⟩:=m2.1 rfl;obtain⟨j,hj⟩:=List.mem_iff_getElem?.1 hy;have hjl:= (List.getElem?_eq_some_iff.1 hj).1;have h2:bs[j]? =some (bs[j]'(by omega)):=List.getElem?_eq_getElem _;have:=hall _ (Zw2 hj h2);rw [ZkJ j y _ hj h2 true hyb] at this;cases this
 | false=>
   obtain⟨e,s2,⟨q1,q2⟩,q3⟩:=WO.body (over rfl _ _ ZBC ZzA);refine⟨e,s2,q2,key e s2 (fun _=>⟨q1,?_⟩) fun⟨x,hx,hp⟩=>?_⟩
   ·rw [hd];intro ρ F a w i1 i2 i3 Q' i4;exact q3 i1 i2 i3 Q' i4
   ·exfalso;obtain⟨j,y,bn,h1,h2,rfl⟩:=Zmv hx;obtain⟨p,hp'⟩:=m1 y (List.mem_iff_getElem?.2 ⟨j,h1⟩);have hpn:=ZkJ j y bn h1 h2 p hp';rw [show pn bn=true from hp] at hpn;subst hpn;exact absurd (m2.2 ⟨y,List.mem_iff_getElem?.2 ⟨j,h1⟩,hp'⟩) (by simp)
end
end Go.Yy
end
end
section
noncomputable section
namespace Go.Yy
open Go.Lf
variable {X:Ctx} {n wm:Nat} {rd:Option Nat} {ops:Array Oper} {l:List Oper} {fr:Fr} {ds:List Deferred} {h h1 h2 h0:H} {T:Nat ->Prop} {G Gr Ga Gb:List (Ast wm)}
end Go.Yy
end
end
section
end
section
namespace Go.Proofs.Ytekpjgmhkkjhgaa
structure Zb where
 name:Int
 root:Bool
 from_:Int
 has:Int
 out:Int
 use:Bool
 deriving DecidableEq,Inhabited
structure Zf where
 kind:Int
 ZH:Int
 name:Int
 via:Int
 w:Int
 deriving DecidableEq,Inhabited
structure Za where
 cells:(List (List Zb))
 notes:(List Zf)
 names:Int
 freed:(List Int)
 deriving DecidableEq,Inhabited
structure Zv where
 Xf:Int
 at_:Int
 name:Int
 ZH:Int
 deriving DecidableEq,Inhabited
structure Zg where
 e0:Int
 e1:Int
 deriving DecidableEq,Inhabited
structure Store where
 machines:Int
 names:Int
 cells:(List (Zg×Zb))
 notes:(List Zf)
 freed:(List Int)
 deriving DecidableEq,Inhabited
def JO (x y:Zb):Bool:= [x.name==y.name,x.root==y.root,x.from_==y.from_,x.has==y.has,x.out==y.out,x.use==y.use].all id
def Zau (x y:Zf):Bool:= [x.kind==y.kind,x.ZH==y.ZH,x.name==y.name,x.via==y.via,x.w==y.w].all id
def Zvo:Option Bool:=some true
def Zvr (x:Int):Option Int:=Go.Lf.Qf x
end Go.Proofs.Ytekpjgmhkkjhgaa
end
section
set_option maxRecDepth 100000
noncomputable section
namespace Go.Proofs.Ytekpjgmhkkjhgaa
open Go.Yy Go.Lf
def Zd:Ww Zb where
 sz:=6
 pos:=by decide
 Par:=Unit
 dflt:= ()
 sh:=fun _ x=>[.int .i64 x.name,.bool x.root,.int .i64 x.from_,.int .i64 x.has,.int .i64 x.out,.bool x.use]
 len:=fun _ _=>rfl
 one:=fun _ _=>rfl
 F:=fun _ _ _ _=>True
 mono:=fun _ x=>x
 up:=fun _ x=>x
def Ze:Ww Zf where
 sz:=5
 pos:=by decide
 Par:=Unit
 dflt:= ()
 sh:=fun _ x=>[.int .i64 x.kind,.int .i64 x.ZH,.int .i64 x.name,.int .i64 x.via,.int .i64 x.w]
 len:=fun _ _=>rfl
 one:=fun _ _=>rfl
 F:=fun _ _ _ _=>True
 mono:=fun _ x=>x
 up:=fun _ x=>x
def Zmq:Ww Za where
 sz:=4
 pos:=by decide
 Par:= (Option Addr×Nat)×(Option Addr×Nat)×(Option Addr×Nat)
 dflt:= ((none,0),(none,0),(none,0))
 sh:=fun p x=>[.slice p.1.1 x.cells.length p.1.2,.slice p.2.1.1 x.notes.length p.2.1.2,.int .i64 x.names,.slice p.2.2.1 x.freed.length p.2.2.2]
 len:=fun _ _=>rfl
 one:=fun _ _=>rfl
 F:=fun wm h p x=>Sl (rSl Zd) wm h p.1.1 p.1.2 x.cells∧Sl Ze wm h p.2.1.1 p.2.1.2 x.notes∧Sl (ZA .i64) wm h p.2.2.1 p.2.2.2 x.freed
 mono:=fun f ⟨y0,y1,y2⟩=>⟨y0.mono f,y1.mono f,y2.mono f⟩
 up:=fun f ⟨y0,y1,y2⟩=>⟨y0.up f,y1.up f,y2.up f⟩
def Zom:Ww Zv where
 sz:=4
 pos:=by decide
 Par:=Unit
 dflt:= ()
 sh:=fun _ x=>[.int .i64 x.Xf,.int .i64 x.at_,.int .i64 x.name,.int .i64 x.ZH]
 len:=fun _ _=>rfl
 one:=fun _ _=>rfl
 F:=fun _ _ _ _=>True
 mono:=fun _ x=>x
 up:=fun _ x=>x
def Zl (x:Zg):Value:= .agg [.int .i64 x.e0,.int .i64 x.e1].toArray
def Zt (x:Zb):Value:= .agg [.int .i64 x.name,.bool x.root,.int .i64 x.from_,.int .i64 x.has,.int .i64 x.out,.bool x.use].toArray
theorem ZHK:XX.P.underlying 3=some (.int .i64):=by kernel_rfl
theorem ZHJ:XX.P.underlying 4=some .bool:=by kernel_rfl
theorem YT:XX.P.underlying 22=some (.slice 59):=by kernel_rfl
theorem QV:XX.P.underlying 23=some (.slice 58):=by kernel_rfl
theorem Xp:XX.P.underlying 24=some (.slice 3):=by kernel_rfl
theorem ZDD:XX.P.underlying 38=some (.slice 29):=by kernel_rfl
theorem ZDC:XX.P.underlying 43=some (.slice 91):=by kernel_rfl
theorem Xg:XX.P.underlying 59=some (.slice 61):=by kernel_rfl
theorem ZDB:XX.P.underlying 62=some (.slice 80):=by kernel_rfl
theorem ZDA:XX.P.underlying 63=some (.slice 73):=by kernel_rfl
theorem ZDz:XX.P.underlying 69=some (.slice 5):=by kernel_rfl
theorem Uf:XX.P.underlying 95=some (.map 113 61):=by kernel_rfl
theorem U0:XX.P.underlying 110=some (.map 113 3):=by kernel_rfl
theorem ZAu:XX.P.underlying 160=some (.int .u64):=by kernel_rfl
theorem YS:Yp XX.P 3=some false:=by kernel_rfl
theorem ZyU:Yp XX.P 4=some false:=by kernel_rfl
theorem ZKp:Yp XX.P 5=some false:=by kernel_rfl
theorem Zv7:Yp XX.P 22=some false:=by kernel_rfl
theorem ZnZ:Yp XX.P 23=some false:=by kernel_rfl
theorem Zv6:Yp XX.P 24=some false:=by kernel_rfl
theorem X7:Yp XX.P 26=some true:=by kernel_rfl
theorem Zv5:Yp XX.P 27=some false:=by kernel_rfl
theorem ZG3:Yp XX.P 29=some true:=by kernel_rfl
theorem Zv4:Yp XX.P 32=some false:=by kernel_rfl
theorem ZG2:Yp XX.P 56=some false:=by kernel_rfl
theorem ZbJ:Yp XX.P 58=some true:=by kernel_rfl
theorem Xl:Yp XX.P 59=some false:=by kernel_rfl
theorem Zax:Yp XX.P 61=some true:=by kernel_rfl
theorem ZG1:Yp XX.P 63=some false:=by kernel_rfl
theorem ZG0:Yp XX.P 65=some true:=by kernel_rfl
theorem ZGZ:Yp XX.P 73=some true:=by kernel_rfl
theorem ZGY:Yp XX.P 80=some true:=by kernel_rfl
theorem ZGX:Yp XX.P 91=some true:=by kernel_rfl
theorem Zv3:Yp XX.P 94=some false:=by kernel_rfl
theorem ZgP:Yp XX.P 95=some false:=by kernel_rfl
theorem ZlW:Yp XX.P 110=some false:=by kernel_rfl
theorem ZC0:Yp XX.P 113=some true:=by kernel_rfl
theorem Yx:Z8 XX.P 3=some 1:=by kernel_rfl
theorem Zp0:Z8 XX.P 4=some 1:=by kernel_rfl
theorem ZDJ:Z8 XX.P 5=some 1:=by kernel_rfl
theorem ZAF:Z8 XX.P 22=some 1:=by kernel_rfl
theorem Zoi:Z8 XX.P 23=some 1:=by kernel_rfl
theorem ZAE:Z8 XX.P 24=some 1:=by kernel_rfl
theorem Y4:Z8 XX.P 26=some 4:=by kernel_rfl
theorem ZAD:Z8 XX.P 29=some 4:=by kernel_rfl
theorem ZAC:Z8 XX.P 32=some 1:=by kernel_rfl
theorem YV:Z8 XX.P 58=some 5:=by kernel_rfl
theorem Z9:Z8 XX.P 59=some 1:=by kernel_rfl
theorem ZW:Z8 XX.P 61=some 6:=by kernel_rfl
theorem ZAB:Z8 XX.P 63=some 1:=by kernel_rfl
theorem ZAA:Z8 XX.P 65=some 2:=by kernel_rfl
theorem ZAz:Z8 XX.P 73=some 2:=by kernel_rfl
theorem ZAy:Z8 XX.P 80=some 4:=by kernel_rfl
theorem ZAx:Z8 XX.P 91=some 4:=by kernel_rfl
theorem ZAw:Z8 XX.P 94=some 1:=by kernel_rfl
theorem ZkF:Z8 XX.P 110=some 1:=by kernel_rfl
theorem ZwH:Z8 XX.P 113=some 2:=by kernel_rfl
theorem Zya:ZE XX.P 26 0 0:=ZE.of (by kernel_rfl)
theorem Zx9:ZE XX.P 26 1 1:=ZE.of (by kernel_rfl)
theorem Zx8:ZE XX.P 26 2 2:=ZE.of (by kernel_rfl)
theorem Zx7:ZE XX.P 26 3 3:=ZE.of (by kernel_rfl)
theorem Zlf:ZE XX.P 29 0 0:=ZE.of (by kernel_rfl)
theorem Zby:ZE XX.P 29 1 1:=ZE.of (by kernel_rfl)
theorem ZcX:ZE XX.P 29 2 2:=ZE.of (by kernel_rfl)
theorem Zbx:ZE XX.P 29 3 3:=ZE.of (by kernel_rfl)
theorem Zx6:ZE XX.P 58 0 0:=ZE.of (by kernel_rfl)
theorem Zx5:ZE XX.P 58 1 1:=ZE.of (by kernel_rfl)
theorem Zx4:ZE XX.P 58 2 2:=ZE.of (by kernel_rfl)
theorem Zx3:ZE XX.P 58 3 3:=ZE.of (by kernel_rfl)
theorem Zqw:ZE XX.P 58 4 4:=ZE.of (by kernel_rfl)
theorem Zx2:ZE XX.P 61 0 0:=ZE.of (by kernel_rfl)
theorem Zx1:ZE XX.P 61 1 1:=ZE.of (by kernel_rfl)
theorem Zqv:ZE XX.P 61 2 2:=ZE.of (by kernel_rfl)
theorem Zle:ZE XX.P 61 3 3:=ZE.of (by kernel_rfl)
theorem Zx0:ZE XX.P 61 4 4:=ZE.of (by kernel_rfl)
theorem ZxZ:ZE XX.P 61 5 5:=ZE.of (by kernel_rfl)
theorem ZxY:ZE XX.P 65 0 0:=ZE.of (by kernel_rfl)
theorem ZxX:ZE XX.P 65 1 1:=ZE.of (by kernel_rfl)
theorem ZxW:ZE XX.P 73 0 0:=ZE.of (by kernel_rfl)
theorem ZxV:ZE XX.P 73 1 1:=ZE.of (by kernel_rfl)
theorem ZxU:ZE XX.P 80 0 0:=ZE.of (by kernel_rfl)
theorem ZxT:ZE XX.P 80 1 1:=ZE.of (by kernel_rfl)
theorem ZxS:ZE XX.P 80 2 2:=ZE.of (by kernel_rfl)
theorem ZxR:ZE XX.P 80 3 3:=ZE.of (by kernel_rfl)
theorem ZxQ:ZE XX.P 91 2 2:=ZE.of (by kernel_rfl)
theorem ZxP:ZE XX.P 91 3 3:=ZE.of (by kernel_rfl)
theorem ZxO:ZE XX.P 97 0 0:=ZE.of (by kernel_rfl)
theorem ZxN:ZE XX.P 97 1 1:=ZE.of (by kernel_rfl)
theorem ZxM:ZE XX.P 97 2 2:=ZE.of (by kernel_rfl)
theorem Zld:ZE XX.P 97 3 3:=ZE.of (by kernel_rfl)
theorem ZxL:ZE XX.P 97 4 4:=ZE.of (by kernel_rfl)
theorem Ud:YI XX.P 3=some (.int .i64 0):=by kernel_rfl
theorem ZAl:YI XX.P 24=some (.slice none 0 0):=by kernel_rfl
theorem ZkC:YI XX.P 26=some (.agg #[.slice none 0 0,.slice none 0 0,.int .i64 0,.slice none 0 0]):=by kernel_rfl
theorem ZAk:YI XX.P 29=some (.agg #[.int .i64 0,.int .i64 0,.int .i64 0,.int .i64 0]):=by kernel_rfl
theorem ZAj:YI XX.P 32=some (.int .i64 0):=by kernel_rfl
theorem KT:YI XX.P 58=some (.agg #[.int .i64 0,.int .i64 0,.int .i64 0,.int .i64 0,.int .i64 0]):=by kernel_rfl
theorem ZkB:YI XX.P 59=some (.slice none 0 0):=by kernel_rfl
theorem QF:YI XX.P 61=some (.agg #[.int .i64 0,.bool false,.int .i64 0,.int .i64 0,.int .i64 0,.bool false]):=by kernel_rfl
theorem ZAi:YI XX.P 65=some (.agg #[.slice none 0 0,.slice none 0 0]):=by kernel_rfl
theorem ZAh:YI XX.P 73=some (.agg #[.int .i64 0,.int .i64 0]):=by kernel_rfl
theorem ZAg:YI XX.P 80=some (.agg #[.int .u8 0,.int .u8 0,.int .u8 0,.int .u8 0]):=by kernel_rfl
theorem ZAf:YI XX.P 91=some (.agg #[.int .i64 0,.int .i64 0,.int .i64 0,.int .i64 0]):=by kernel_rfl
theorem ZAe:YI XX.P 94=some (.pointer none):=by kernel_rfl
theorem Zsr:YI XX.P 97=some (.agg #[.int .i64 0,.int .i64 0,.map none,.slice none 0 0,.slice none 0 0]):=by kernel_rfl
theorem Zwv:YI XX.P 110=some (.map none):=by kernel_rfl
theorem ZpT:YI XX.P 113=some (.agg #[.int .i64 0,.int .i64 0]):=by kernel_rfl
theorem Ze6:Zfh XX.P 26 [.slice none 0 0,.slice none 0 0,.int .i64 0,.slice none 0 0] [(0,1),(1,1),(2,1),(3,1)]:= ⟨_,_,ZkC,rfl,Try.underlying26,by kernel_rfl⟩
theorem ZgN:Zfh XX.P 58 [.int .i64 0,.int .i64 0,.int .i64 0,.int .i64 0,.int .i64 0] [(0,1),(1,1),(2,1),(3,1),(4,1)]:= ⟨_,_,KT,rfl,Try.underlying58,by kernel_rfl⟩
theorem ZnL:Zfh XX.P 61 [.int .i64 0,.bool false,.int .i64 0,.int .i64 0,.int .i64 0,.bool false] [(0,1),(1,1),(2,1),(3,1),(4,1),(5,1)]:= ⟨_,_,QF,rfl,Try.underlying61,by kernel_rfl⟩
theorem ZvN:Zfh XX.P 97 [.int .i64 0,.int .i64 0,.map none,.slice none 0 0,.slice none 0 0] [(0,1),(1,1),(2,1),(3,1),(4,1)]:= ⟨_,_,Zsr,rfl,Try.underlying97,by kernel_rfl⟩
theorem XY:Zq0 XX.P 113 [.int .i64 0,.int .i64 0] 1:= ⟨_,_,_,ZpT,rfl,Try.underlying113,by kernel_rfl⟩
theorem ZnV:Zfi XX.P #[22,22] 1 24:= ⟨59,.slice none 0 0,by kernel_rfl⟩
theorem Wo:Zfi XX.P #[23,23] 5 40:= ⟨58,.agg #[.int .i64 0,.int .i64 0,.int .i64 0,.int .i64 0,.int .i64 0],by kernel_rfl⟩
theorem Kq:Zfi XX.P #[24,24] 1 8:= ⟨3,.int .i64 0,by kernel_rfl⟩
theorem Zaf:Zfi XX.P #[59,59] 6 48:= ⟨61,.agg #[.int .i64 0,.bool false,.int .i64 0,.int .i64 0,.int .i64 0,.bool false],by kernel_rfl⟩
theorem ZGt (x y:Zf):ZC8 XX.P 58 (Ze.sh () x) (Ze.sh () y) (Zau x y):=
 ⟨by kernel_rfl,Zkm (d:=9999) (bs:= [x.kind==y.kind,x.ZH==y.ZH,x.name==y.name,x.via==y.via,x.w==y.w]) Try.underlying58 (by kernel_rfl) ⟨⟨by decide,_,_,Yi (by kernel_rfl) rfl,Yi (by kernel_rfl) rfl,eq_int (by kernel_rfl)⟩,⟨by decide,_,_,Yi (by kernel_rfl) rfl,Yi (by kernel_rfl) rfl,eq_int (by kernel_rfl)⟩,⟨by decide,_,_,Yi (by kernel_rfl) rfl,Yi (by kernel_rfl) rfl,eq_int (by kernel_rfl)⟩,⟨by decide,_,_,Yi (by kernel_rfl) rfl,Yi (by kernel_rfl) rfl,eq_int (by kernel_rfl)⟩,⟨by decide,_,_,Yi (by kernel_rfl) rfl,Yi (by kernel_rfl) rfl,eq_int (by kernel_rfl)⟩,trivial⟩⟩
theorem Zz4 (x y:Zb):ZC8 XX.P 61 (Zd.sh () x) (Zd.sh () y) (JO x y):=
 ⟨by kernel_rfl,Zkm (d:=9999) (bs:= [x.name==y.name,x.root==y.root,x.from_==y.from_,x.has==y.has,x.out==y.out,x.use==y.use]) Try.underlying61 (by kernel_rfl) ⟨⟨by decide,_,_,Yi (by kernel_rfl) rfl,Yi (by kernel_rfl) rfl,eq_int (by kernel_rfl)⟩,⟨by decide,_,_,Yi (by kernel_rfl) rfl,Yi (by kernel_rfl) rfl,ZlA (by kernel_rfl)⟩,⟨by decide,_,_,Yi (by kernel_rfl) rfl,Yi (by kernel_rfl) rfl,eq_int (by kernel_rfl)⟩,⟨by decide,_,_,Yi (by kernel_rfl) rfl,Yi (by kernel_rfl) rfl,eq_int (by kernel_rfl)⟩,⟨by decide,_,_,Yi (by kernel_rfl) rfl,Yi (by kernel_rfl) rfl,eq_int (by kernel_rfl)⟩,⟨by decide,_,_,Yi (by kernel_rfl) rfl,Yi (by kernel_rfl) rfl,ZlA (by kernel_rfl)⟩,trivial⟩⟩
theorem Y5:ZbO XX.P 113 Zl:=ZbO.ZKo (et:=3) (by kernel_rfl) (by kernel_rfl) (by kernel_rfl) (fun x=>x.e0) (fun x=>x.e1) (fun _=>rfl) (fun x y=>by cases x;cases y;simp)
theorem ZCT:ZdY XX.P 59=some 24:=by kernel_rfl
theorem ZFe:(XX.fns.get 13).isSome=true:=by kernel_rfl
theorem ZzJ:(XX.fns.get 14).isSome=true:=by kernel_rfl
theorem ZFd:(XX.fns.get 15).isSome=true:=by kernel_rfl
theorem ZFc:(XX.fns.get 16).isSome=true:=by kernel_rfl
theorem ZFb:(XX.fns.get 17).isSome=true:=by kernel_rfl
theorem ZFa:(XX.fns.get 18).isSome=true:=by kernel_rfl
theorem ZzI:(XX.fns.get 19).isSome=true:=by kernel_rfl
theorem ZzH:(XX.fns.get 20).isSome=true:=by kernel_rfl
theorem ZE9:(XX.fns.get 30).isSome=true:=by kernel_rfl
theorem ZtS:(XX.fns.get 52).isSome=true:=by kernel_rfl
theorem Zap:(XX.fns.get 53).isSome=true:=by kernel_rfl
theorem ZE8:(XX.fns.get 54).isSome=true:=by kernel_rfl
theorem ZE7:(XX.fns.get 55).isSome=true:=by kernel_rfl
theorem ZtR:(XX.fns.get 56).isSome=true:=by kernel_rfl
theorem ZzG:(XX.fns.get 57).isSome=true:=by kernel_rfl
theorem ZE6:(XX.fns.get 58).isSome=true:=by kernel_rfl
theorem ZE5:(XX.fns.get 59).isSome=true:=by kernel_rfl
theorem ZE4:(XX.fns.get 60).isSome=true:=by kernel_rfl
theorem ZtQ:(XX.fns.get 61).isSome=true:=by kernel_rfl
theorem ZE3:(XX.fns.get 62).isSome=true:=by kernel_rfl
theorem ZE2:(XX.fns.get 65).isSome=true:=by kernel_rfl
theorem ZE1:(XX.fns.get 66).isSome=true:=by kernel_rfl
theorem ZE0:(XX.fns.get 67).isSome=true:=by kernel_rfl
theorem ZzF:(XX.fns.get 68).isSome=true:=by kernel_rfl
theorem ZtP:(XX.fns.get 69).isSome=true:=by kernel_rfl
theorem ZEZ:(XX.fns.get 70).isSome=true:=by kernel_rfl
theorem ZtO:(XX.fns.get 71).isSome=true:=by kernel_rfl
theorem Zdq:(XX.fns.get 72).isSome=true:=by kernel_rfl
theorem ZEY:(XX.fns.get 75).isSome=true:=by kernel_rfl
theorem ZzE:(XX.fns.get 86).isSome=true:=by kernel_rfl
theorem ZzD:(XX.fns.get 87).isSome=true:=by kernel_rfl
theorem ZEX:(XX.fns.get 88).isSome=true:=by kernel_rfl
theorem ZtN:(XX.fns.get 89).isSome=true:=by kernel_rfl
theorem ZEW:(XX.fns.get 90).isSome=true:=by kernel_rfl
theorem ZEV:(XX.fns.get 91).isSome=true:=by kernel_rfl
theorem Zqo:(XX.fns.get 92).isSome=true:=by kernel_rfl
theorem ZEU:(XX.fns.get 94).isSome=true:=by kernel_rfl
theorem ZzC:(XX.fns.get 95).isSome=true:=by kernel_rfl
theorem ZET:(XX.fns.get 96).isSome=true:=by kernel_rfl
theorem ZES:(XX.fns.get 97).isSome=true:=by kernel_rfl
theorem ZER:(XX.fns.get 98).isSome=true:=by kernel_rfl
theorem ZEQ:(XX.fns.get 99).isSome=true:=by kernel_rfl
theorem Zt0:(XX.fns.get 100).isSome=true:=by kernel_rfl
theorem ZBB:(XX.fns.get 101).isSome=true:=by kernel_rfl
theorem Zk9:(XX.fns.get 103).isSome=true:=by kernel_rfl
theorem Zh7:(XX.fns.get 104).isSome=true:=by kernel_rfl
theorem ZtZ:(XX.fns.get 105).isSome=true:=by kernel_rfl
theorem ZoY:(XX.fns.get 106).isSome=true:=by kernel_rfl
theorem ZBA:(XX.fns.get 107).isSome=true:=by kernel_rfl
theorem ZBz:(XX.fns.get 108).isSome=true:=by kernel_rfl
theorem ZoX:(XX.fns.get 109).isSome=true:=by kernel_rfl
theorem ZoW:(XX.fns.get 110).isSome=true:=by kernel_rfl
theorem ZBy:(XX.fns.get 112).isSome=true:=by kernel_rfl
theorem ZBx:(XX.fns.get 113).isSome=true:=by kernel_rfl
theorem ZBw:(XX.fns.get 114).isSome=true:=by kernel_rfl
theorem ZtY:(XX.fns.get 115).isSome=true:=by kernel_rfl
theorem ZBv:(XX.fns.get 116).isSome=true:=by kernel_rfl
theorem Zk8:(XX.fns.get 117).isSome=true:=by kernel_rfl
theorem ZBu:(XX.fns.get 118).isSome=true:=by kernel_rfl
theorem ZtX:(XX.fns.get 119).isSome=true:=by kernel_rfl
theorem ZBt:(XX.fns.get 120).isSome=true:=by kernel_rfl
theorem ZtW:(XX.fns.get 121).isSome=true:=by kernel_rfl
theorem ZtV:(XX.fns.get 122).isSome=true:=by kernel_rfl
theorem ZBs:(XX.fns.get 123).isSome=true:=by kernel_rfl
theorem ZoV:(XX.fns.get 124).isSome=true:=by kernel_rfl
theorem ZBr:(XX.fns.get 125).isSome=true:=by kernel_rfl
theorem ZBq:(XX.fns.get 126).isSome=true:=by kernel_rfl
theorem ZBp:(XX.fns.get 127).isSome=true:=by kernel_rfl
theorem ZBo:(XX.fns.get 128).isSome=true:=by kernel_rfl
theorem ZoU:(XX.fns.get 133).isSome=true:=by kernel_rfl
theorem ZtU:(XX.fns.get 138).isSome=true:=by kernel_rfl
theorem ZtT:(XX.fns.get 143).isSome=true:=by kernel_rfl
end Go.Proofs.Ytekpjgmhkkjhgaa
end
end
section
noncomputable section
namespace Go.Yy
open Go.Lf
class Zea (P:Program) (t:TypeId):Prop where
 out:Yp P t=some false
class ZjI (P:Program) (t:TypeId):Prop where
 out:Yp P t=some true
class SzF (P:Program) (t:TypeId) (n:outParam Nat):Prop where
 out:Z8 P t=some n
class JU (P:Program) (t:TypeId) (f:Nat) (o:outParam Nat):Prop where
 out:ZE P t f o
class ZjF (P:Program) (t:TypeId) (e:outParam TypeId):Prop where
 out:P.underlying t=some (.slice e)
class ZDb (P:Program) (t:TypeId):Prop where
 out:P.underlying t=some .bool
class ZcI (P:Program) (t:TypeId) (v:outParam Value):Prop where
 out:YI P t=some v
theorem ia {v:Value} (h:QL v=false):QL v=false:=h
theorem ZaJ {fr:Fr} {t:Nat} {c:Bool} {v:Value} (h:fr.at t=cond c v undef) (ha:QL v=false) (hc:c=true):ZY fr (.tmp t)=some v:=Yw h ha hc
section
variable {X:Ctx} {h:H} {fr:Fr} {ty:TypeId} {p':String} {af:Array Edge} {g:Option (Nat×Bool)} {d:Option Tmp} {wm:Nat} {T:Nat ->Prop} {h0:H} {G Gr:List (Ast wm)}
theorem ZGR {x:Operand} {t:TypeId} {f off b o:Nat} [hf:JU X.P t f off] (hx:ZY fr x=some (.pointer (some ⟨b,o,none⟩))):Xy X h (ZY fr) ⟨d,.fieldAddr t x f,ty,p',af,g⟩=some (.val (.pointer (some ⟨b,o + off,none⟩)),.none):=XJ hf.out hx
theorem ZKe {x:Operand} {t:TypeId} {b oo:Nat} {vs:List Value} {v:Value} [ht:Zea X.P t] (hx:ZY fr x=some (.pointer (some ⟨b,oo,none⟩))) (hS:Sp wm T h0 G h) (pp:Pk G (bx wm b vs) Gr) (hv:vs[oo]? =some v):
 Xy X h (ZY fr) ⟨d,.load t x,ty,p',af,g⟩=some (.val v,.none):=Zy ht.out hx (hS.Qw pp) (Nat.zero_add _).symm hv
theorem ZGQ {x:Operand} {t:TypeId} {b oo sz:Nat} {vs ws:List Value} [ht:ZjI X.P t] [hs:SzF X.P t sz] (hx:ZY fr x=some (.pointer (some ⟨b,oo,none⟩))) (hS:Sp wm T h0 G h) (pp:Pk G (bx wm b vs) Gr) (hj:Nat.ble (oo + sz) vs.length=true) (hv:(vs.drop oo).take sz=ws):
 Xy X h (ZY fr) ⟨d,.load t x,ty,p',af,g⟩=some (.val (.agg ws.toArray),.none):=Ql ht.out hs.out hx (hS.Qw pp) (Nat.zero_add _).symm hj hv
theorem ZGS {dd:Tmp} {x:Operand} {t:TypeId} {v:Value} {vs:List Value} (hx:ZY fr x=some v) (hS:Sp wm T h0 G h) (hv:v.cells.toList=vs):
 HN X wm ⟨some dd,.box t x,ty,p',af,g⟩ fr h (fun v h'=>∃ b,h.size=b∧v= .pointer (some ⟨b,0,none⟩)∧Sp wm T h0 (bx wm b vs::G) h'):=Zp3 hS hx hv
theorem ZGT {dd:Tmp} {t:TypeId} {v:Value} {vs:List Value} [hz:ZcI X.P t v] (hS:Sp wm T h0 G h) (hv:v.cells.toList=vs):
 HN X wm ⟨some dd,.alloc t,ty,p',af,g⟩ fr h (fun v h'=>∃ b,h.size=b∧v= .pointer (some ⟨b,0,none⟩)∧Sp wm T h0 (bx wm b vs::G) h'):=ZhE hS hz.out hv
theorem ZKd {x y:Operand} {t:TypeId} {b o sz:Nat} {cs cs' vs:List Value} {v:Value} [hs:SzF X.P t sz] (hx:ZY fr x=some (.pointer (some ⟨b,o,none⟩))) (hS:Sp wm T h0 G h) (pk:Pk G (bx wm b cs) Gr) (hy:ZY fr y=some v)
 (hvs:v.cells.toList=vs) (hn:Nat.beq vs.length sz=true) (hl:Nat.ble (o + sz) cs.length=true) (hc:vs.all Value.oneCell'=true) (hv:splice cs o vs=cs'):
 HU X wm ⟨none,.store t x y,ty,p',af,g⟩ fr h (fun i=>i=b) (fun h'=>Sp wm T h0 (bx wm b cs'::Gr) h'):=ZbK hS pk hs.out hx hy hvs hn hl hc hv
theorem ZGP {x:Operand} {t e':TypeId} {a:Option Addr} {mm cc dd:Nat} [hu:ZjF X.P t e'] (hx:ZY fr x=some (.slice a mm cc)):
 Xy X h (ZY fr) ⟨some dd,.call {callee:= .builtin .len,args:=#[x],argTypes:=#[t]},ty,p',af,g⟩=some (.val (.int .i64 (mm:Int)),.none):=ZlP hu.out hx rfl
end
section
variable {X:Ctx} {n wm:Nat} {rd:Option Nat} {ops:Array Oper} {l:List Oper} {fr:Fr} {ds:List Deferred} {h:H} {ty:TypeId} {p:String} {af:Array Edge} {g:Option (Nat×Bool)} {sf:ST} {m:Nat}
theorem WX.w2 {Q:Fr ->H ->Prop} {d:Nat} {op:Op} {v:Value} (hg:ZU ops ⟨some d,op,ty,p,af,g⟩ fr) (hd:Nat.blt d n=true) (hM:okM ops sf m ⟨some d,op,ty,p,af,g⟩=true) (ha:Xy X h (ZY fr) ⟨some d,op,ty,p,af,g⟩=some (.val v,.none)) (k:WX X n wm rd ops sf (m + 1) h l (Tr.set fr d v) Q):
 WX X n wm rd ops sf m h (⟨some d,op,ty,p,af,g⟩::l) fr Q:=WX.w hg hd ha k hM
theorem WX.gv2 {Q:Fr ->H ->Prop} {d:Nat} {op:Op} {c:Bool} {v:Value} (hg:Zh ops ⟨some d,op,ty,p,af,g⟩ fr c) (hd:Nat.blt d n=true) (hM:okM ops sf m ⟨some d,op,ty,p,af,g⟩=true) (ha:c=true ->Xy X h (ZY fr) ⟨some d,op,ty,p,af,g⟩=some (.val v,.none)) (k:WX X n wm rd ops sf (m + 1) h l (Tr.set fr d (cond c v undef)) Q):
 WX X n wm rd ops sf m h (⟨some d,op,ty,p,af,g⟩::l) fr Q:=WX.gv hg hd ha k hM
end
structure Kp (q:Prop):Prop where
 out:q
section
variable {X:Ctx} {n wm:Nat} {rd:Option Nat} {Q:XX ->Fs ->Prop}
theorem cn {c:Operand} {a b:Code} {t:Bool} {fr:Fr} {ds:List Deferred} {h:H} {α:Type} {x y r:α} (hL:(bif t then x else y)=r) (h1:t=true ->x=r ->WC X n wm rd a ⟨fr,ds,h,none⟩ Q) (h2:t=false ->y=r ->WC X n wm rd b ⟨fr,ds,h,none⟩ Q) (hc:ZY fr c=some (.bool t):=by(first | exact JW rfl | (apply Zz;(focus (repeat (first | with_reducible exact fh | ((with_reducible apply Ya);exact rfl) | ((with_reducible apply Yb);exact rfl) | ((with_reducible apply ZR);exact rfl) | ((with_reducible apply Zi);exact rfl) | with_reducible assumption));done);(first | exact ia rfl | assumption)) | (apply ZaJ;(focus (repeat (first | with_reducible exact fh | ((with_reducible apply Ya);exact rfl) | ((with_reducible apply Yb);exact rfl) | ((with_reducible apply ZR);exact rfl) | ((with_reducible apply Zi);exact rfl) | with_reducible assumption));done);(first | exact ia rfl | assumption);assumption) | fail)):WC X n wm rd (.cond c a b) ⟨fr,ds,h,none⟩ Q:=
 WC.ZnG hc (fun e=>h1 e (WY e hL)) (fun e=>h2 e (WZ e hL))
theorem rt {fn:Func} {fr:Fr} {h h0:H} {T:Nat ->Prop} {G G':List (Ast wm)} {wr:Option Nat} {t:Tmp} {β:Type} {x r:β} {g:β ->Value} (hL:some x=some r) (hT:T=XG G) (hS:Sp wm T h0 G' h) (hr:fn.results.toList= [.tmp t]:=by exact rfl) (hv:ZY fr (.tmp t)=some (g x):=by(first | exact JW rfl | (apply Zz;(focus (repeat (first | with_reducible exact fh | ((with_reducible apply Ya);exact rfl) | ((with_reducible apply Yb);exact rfl) | ((with_reducible apply ZR);exact rfl) | ((with_reducible apply Zi);exact rfl) | with_reducible assumption));done);(first | exact ia rfl | assumption)) | (apply ZaJ;(focus (repeat (first | with_reducible exact fh | ((with_reducible apply Ya);exact rfl) | ((with_reducible apply Yb);exact rfl) | ((with_reducible apply ZR);exact rfl) | ((with_reducible apply Zi);exact rfl) | with_reducible assumption));done);(first | exact ia rfl | assumption);assumption) | fail)):
 ZX X fn (fun e h'=>∃ v,e= .ret v∧CP (fun v Gb=>v=g r∧Gb= []) G h0 v h') .ret ⟨fr,[],h,wr⟩:=by
 cases hL;exact ZX.QU hr (Z5 hv Zu) ⟨_,⟨rfl,rfl⟩,hT ▸ hS.only .n⟩
theorem bg {f:FuncId} {fn:Func} {c:Code} {args:List Value} {n:Nat} {K:Value ->List (Ast wm) ->Prop} {G:List (Ast wm)} {h:H} {fr:Fr} (hnt:fn.ntmps=n) (ZJ:wm <=h.size) (hO:ZO G h)
 (k:∀ T,T=XG (wm:=wm) G ->Sp wm T h G h ->WC X n wm none c ⟨fr,[],h,none⟩ (ZX X fn (fun e h'=>∃ v,e= .ret v∧CP K G h v h'))) (hf:X.fns.get f=some fn:=by kernel_rfl) (hb:fn.body=some c:=by exact rfl) (hn:args.length <=n:=by simp)
 (hfr:XO args 0 .nil=fr:=by(simp only [ZT,Z4,Nat.reduceAdd];exact rfl)):WR X f args.toArray wm h (CP K G h):=by
 subst hfr;exact WF.begin hf hb hnt hn (k _ rfl (Sp.start ZJ hO))
end
theorem lk {p:Prop} (h:p:=by(first | exact JW rfl | (apply Zz;(focus (repeat (first | with_reducible exact fh | ((with_reducible apply Ya);exact rfl) | ((with_reducible apply Yb);exact rfl) | ((with_reducible apply ZR);exact rfl) | ((with_reducible apply Zi);exact rfl) | with_reducible assumption));done);(first | exact ia rfl | assumption)) | (apply ZaJ;(focus (repeat (first | with_reducible exact fh | ((with_reducible apply Ya);exact rfl) | ((with_reducible apply Yb);exact rfl) | ((with_reducible apply ZR);exact rfl) | ((with_reducible apply Zi);exact rfl) | with_reducible assumption));done);(first | exact ia rfl | assumption);assumption) | fail)):p:=h
theorem YK {p:Prop} (h:p:=by
 repeat (first | with_reducible exact fh | ((with_reducible apply Ya);exact rfl) | ((with_reducible apply Yb);exact rfl) | ((with_reducible apply ZR);exact rfl) | ((with_reducible apply Zi);exact rfl) | with_reducible assumption | refine⟨?_,?_⟩)
 done):p:=h
theorem r1 {p q:Prop} (k:q) (h:Kp q ->p:=by
 intro k
 first
 | refine WO.nil ?_
 | refine QD.Yo ?_
 | refine WC.seq ?_
 | refine WC.region ?_
 | ((first | apply WO.w gN rfl | (apply WO.gv;(focus (first | (apply Zh.yes rfl rfl rfl;(focus (repeat (first | with_reducible exact fh | ((with_reducible apply Ya);exact rfl) | ((with_reducible apply Yb);exact rfl) | ((with_reducible apply ZR);exact rfl) | ((with_reducible apply Zi);exact rfl) | with_reducible assumption));done)) | (apply Zh.no rfl rfl rfl;(focus (repeat (first | with_reducible exact fh | ((with_reducible apply Ya);exact rfl) | ((with_reducible apply Yb);exact rfl) | ((with_reducible apply ZR);exact rfl) | ((with_reducible apply Zi);exact rfl) | with_reducible assumption));done)) | (apply Zh.Zah rfl rfl rfl;(focus (repeat (first | with_reducible exact fh | ((with_reducible apply Ya);exact rfl) | ((with_reducible apply Yb);exact rfl) | ((with_reducible apply ZR);exact rfl) | ((with_reducible apply Zi);exact rfl) | with_reducible assumption));done)) | (apply Zh.no2 rfl rfl rfl;(focus (repeat (first | with_reducible exact fh | ((with_reducible apply Ya);exact rfl) | ((with_reducible apply Yb);exact rfl) | ((with_reducible apply ZR);exact rfl) | ((with_reducible apply Zi);exact rfl) | with_reducible assumption));done)) | fail);done);rfl;intro hg) | (apply WX.w2 gN;rfl;rfl) | (apply WX.gv2;(focus (first | (apply Zh.yes rfl rfl rfl;(focus (repeat (first | with_reducible exact fh | ((with_reducible apply Ya);exact rfl) | ((with_reducible apply Yb);exact rfl) | ((with_reducible apply ZR);exact rfl) | ((with_reducible apply Zi);exact rfl) | with_reducible assumption));done)) | (apply Zh.no rfl rfl rfl;(focus (repeat (first | with_reducible exact fh | ((with_reducible apply Ya);exact rfl) | ((with_reducible apply Yb);exact rfl) | ((with_reducible apply ZR);exact rfl) | ((with_reducible apply Zi);exact rfl) | with_reducible assumption));done)) | (apply Zh.Zah rfl rfl rfl;(focus (repeat (first | with_reducible exact fh | ((with_reducible apply Ya);exact rfl) | ((with_reducible apply Yb);exact rfl) | ((with_reducible apply ZR);exact rfl) | ((with_reducible apply Zi);exact rfl) | with_reducible assumption));done)) | (apply Zh.no2 rfl rfl rfl;(focus (repeat (first | with_reducible exact fh | ((with_reducible apply Ya);exact rfl) | ((with_reducible apply Yb);exact rfl) | ((with_reducible apply ZR);exact rfl) | ((with_reducible apply Zi);exact rfl) | with_reducible assumption));done)) | fail);done);rfl;rfl;intro hg));(focus (first
   | ((with_reducible apply YR);(first | exact JW rfl | (apply Zz;(focus (repeat (first | with_reducible exact fh | ((with_reducible apply Ya);exact rfl) | ((with_reducible apply Yb);exact rfl) | ((with_reducible apply ZR);exact rfl) | ((with_reducible apply Zi);exact rfl) | with_reducible assumption));done);(first | exact ia rfl | assumption)) | (apply ZaJ;(focus (repeat (first | with_reducible exact fh | ((with_reducible apply Ya);exact rfl) | ((with_reducible apply Yb);exact rfl) | ((with_reducible apply ZR);exact rfl) | ((with_reducible apply Zi);exact rfl) | with_reducible assumption));done);(first | exact ia rfl | assumption);assumption) | fail))
   | ((with_reducible apply ZKe);(focus (first | exact JW rfl | (apply Zz;(focus (repeat (first | with_reducible exact fh | ((with_reducible apply Ya);exact rfl) | ((with_reducible apply Yb);exact rfl) | ((with_reducible apply ZR);exact rfl) | ((with_reducible apply Zi);exact rfl) | with_reducible assumption));done);(first | exact ia rfl | assumption)) | (apply ZaJ;(focus (repeat (first | with_reducible exact fh | ((with_reducible apply Ya);exact rfl) | ((with_reducible apply Yb);exact rfl) | ((with_reducible apply ZR);exact rfl) | ((with_reducible apply Zi);exact rfl) | with_reducible assumption));done);(first | exact ia rfl | assumption);assumption) | fail);done);assumption;(focus (first | exact k0 | exact k1 | exact k2 | exact k3 | exact k4 | exact k5 | exact k6 | exact k7 | (repeat (first | exact k7 | apply Pk.s)));done);rfl)
   | ((with_reducible apply ZGR);(first | exact JW rfl | (apply Zz;(focus (repeat (first | with_reducible exact fh | ((with_reducible apply Ya);exact rfl) | ((with_reducible apply Yb);exact rfl) | ((with_reducible apply ZR);exact rfl) | ((with_reducible apply Zi);exact rfl) | with_reducible assumption));done);(first | exact ia rfl | assumption)) | (apply ZaJ;(focus (repeat (first | with_reducible exact fh | ((with_reducible apply Ya);exact rfl) | ((with_reducible apply Yb);exact rfl) | ((with_reducible apply ZR);exact rfl) | ((with_reducible apply Zi);exact rfl) | with_reducible assumption));done);(first | exact ia rfl | assumption);assumption) | fail))
   | ((with_reducible apply YG);(first | exact JW rfl | (apply Zz;(focus (repeat (first | with_reducible exact fh | ((with_reducible apply Ya);exact rfl) | ((with_reducible apply Yb);exact rfl) | ((with_reducible apply ZR);exact rfl) | ((with_reducible apply Zi);exact rfl) | with_reducible assumption));done);(first | exact ia rfl | assumption)) | (apply ZaJ;(focus (repeat (first | with_reducible exact fh | ((with_reducible apply Ya);exact rfl) | ((with_reducible apply Yb);exact rfl) | ((with_reducible apply ZR);exact rfl) | ((with_reducible apply Zi);exact rfl) | with_reducible assumption));done);(first | exact ia rfl | assumption);assumption) | fail))
   | ((with_reducible apply Y3);(focus (first | exact JW rfl | (apply Zz;(focus (repeat (first | with_reducible exact fh | ((with_reducible apply Ya);exact rfl) | ((with_reducible apply Yb);exact rfl) | ((with_reducible apply ZR);exact rfl) | ((with_reducible apply Zi);exact rfl) | with_reducible assumption));done);(first | exact ia rfl | assumption)) | (apply ZaJ;(focus (repeat (first | with_reducible exact fh | ((with_reducible apply Ya);exact rfl) | ((with_reducible apply Yb);exact rfl) | ((with_reducible apply ZR);exact rfl) | ((with_reducible apply Zi);exact rfl) | with_reducible assumption));done);(first | exact ia rfl | assumption);assumption) | fail);done);(focus (first | exact JW rfl | (apply Zz;(focus (repeat (first | with_reducible exact fh | ((with_reducible apply Ya);exact rfl) | ((with_reducible apply Yb);exact rfl) | ((with_reducible apply ZR);exact rfl) | ((with_reducible apply Zi);exact rfl) | with_reducible assumption));done);(first | exact ia rfl | assumption)) | (apply ZaJ;(focus (repeat (first | with_reducible exact fh | ((with_reducible apply Ya);exact rfl) | ((with_reducible apply Yb);exact rfl) | ((with_reducible apply ZR);exact rfl) | ((with_reducible apply Zi);exact rfl) | with_reducible assumption));done);(first | exact ia rfl | assumption);assumption) | fail);done);(first | with_reducible exact Zsc | with_reducible exact JS | with_reducible exact ZcH | with_reducible exact Zi4 | with_reducible exact Zr7 | with_reducible exact Zwd | with_reducible exact Wt | with_reducible exact Zwc | with_reducible exact Zsa | with_reducible exact Zsb ZDb.out | with_reducible exact Zr9 ZDb.out))
   | ((with_reducible apply ZGQ);(focus (first | exact JW rfl | (apply Zz;(focus (repeat (first | with_reducible exact fh | ((with_reducible apply Ya);exact rfl) | ((with_reducible apply Yb);exact rfl) | ((with_reducible apply ZR);exact rfl) | ((with_reducible apply Zi);exact rfl) | with_reducible assumption));done);(first | exact ia rfl | assumption)) | (apply ZaJ;(focus (repeat (first | with_reducible exact fh | ((with_reducible apply Ya);exact rfl) | ((with_reducible apply Yb);exact rfl) | ((with_reducible apply ZR);exact rfl) | ((with_reducible apply Zi);exact rfl) | with_reducible assumption));done);(first | exact ia rfl | assumption);assumption) | fail);done);assumption;(focus (first | exact k0 | exact k1 | exact k2 | exact k3 | exact k4 | exact k5 | exact k6 | exact k7 | (repeat (first | exact k7 | apply Pk.s)));done);rfl;(focus simp only [Nat.zero_add,Nat.reduceAdd,List.drop_succ_cons,List.drop_zero,List.take_succ_cons,List.take_zero,List.take_nil];rfl))
   | ((with_reducible apply ZGP);(first | exact JW rfl | (apply Zz;(focus (repeat (first | with_reducible exact fh | ((with_reducible apply Ya);exact rfl) | ((with_reducible apply Yb);exact rfl) | ((with_reducible apply ZR);exact rfl) | ((with_reducible apply Zi);exact rfl) | with_reducible assumption));done);(first | exact ia rfl | assumption)) | (apply ZaJ;(focus (repeat (first | with_reducible exact fh | ((with_reducible apply Ya);exact rfl) | ((with_reducible apply Yb);exact rfl) | ((with_reducible apply ZR);exact rfl) | ((with_reducible apply Zi);exact rfl) | with_reducible assumption));done);(first | exact ia rfl | assumption);assumption) | fail))
   | ((with_reducible apply WQ);(focus (first | exact JW rfl | (apply Zz;(focus (repeat (first | with_reducible exact fh | ((with_reducible apply Ya);exact rfl) | ((with_reducible apply Yb);exact rfl) | ((with_reducible apply ZR);exact rfl) | ((with_reducible apply Zi);exact rfl) | with_reducible assumption));done);(first | exact ia rfl | assumption)) | (apply ZaJ;(focus (repeat (first | with_reducible exact fh | ((with_reducible apply Ya);exact rfl) | ((with_reducible apply Yb);exact rfl) | ((with_reducible apply ZR);exact rfl) | ((with_reducible apply Zi);exact rfl) | with_reducible assumption));done);(first | exact ia rfl | assumption);assumption) | fail);done);rfl)
   | ((with_reducible apply ZlO);(first | exact JW rfl | (apply Zz;(focus (repeat (first | with_reducible exact fh | ((with_reducible apply Ya);exact rfl) | ((with_reducible apply Yb);exact rfl) | ((with_reducible apply ZR);exact rfl) | ((with_reducible apply Zi);exact rfl) | with_reducible assumption));done);(first | exact ia rfl | assumption)) | (apply ZaJ;(focus (repeat (first | with_reducible exact fh | ((with_reducible apply Ya);exact rfl) | ((with_reducible apply Yb);exact rfl) | ((with_reducible apply ZR);exact rfl) | ((with_reducible apply Zi);exact rfl) | with_reducible assumption));done);(first | exact ia rfl | assumption);assumption) | fail))
   | ((with_reducible apply Zpy);(first | exact JW rfl | (apply Zz;(focus (repeat (first | with_reducible exact fh | ((with_reducible apply Ya);exact rfl) | ((with_reducible apply Yb);exact rfl) | ((with_reducible apply ZR);exact rfl) | ((with_reducible apply Zi);exact rfl) | with_reducible assumption));done);(first | exact ia rfl | assumption)) | (apply ZaJ;(focus (repeat (first | with_reducible exact fh | ((with_reducible apply Ya);exact rfl) | ((with_reducible apply Yb);exact rfl) | ((with_reducible apply ZR);exact rfl) | ((with_reducible apply Zi);exact rfl) | with_reducible assumption));done);(first | exact ia rfl | assumption);assumption) | fail))
   | ((with_reducible apply XK);(focus (first | exact JW rfl | (apply Zz;(focus (repeat (first | with_reducible exact fh | ((with_reducible apply Ya);exact rfl) | ((with_reducible apply Yb);exact rfl) | ((with_reducible apply ZR);exact rfl) | ((with_reducible apply Zi);exact rfl) | with_reducible assumption));done);(first | exact ia rfl | assumption)) | (apply ZaJ;(focus (repeat (first | with_reducible exact fh | ((with_reducible apply Ya);exact rfl) | ((with_reducible apply Yb);exact rfl) | ((with_reducible apply ZR);exact rfl) | ((with_reducible apply Zi);exact rfl) | with_reducible assumption));done);(first | exact ia rfl | assumption);assumption) | fail);done);(focus (apply Zcw;(focus (repeat (first | with_reducible exact fh | ((with_reducible apply Ya);exact rfl) | ((with_reducible apply Yb);exact rfl) | ((with_reducible apply ZR);exact rfl) | ((with_reducible apply Zi);exact rfl) | with_reducible assumption));done));done);(first | exact JW rfl | (apply Zz;(focus (repeat (first | with_reducible exact fh | ((with_reducible apply Ya);exact rfl) | ((with_reducible apply Yb);exact rfl) | ((with_reducible apply ZR);exact rfl) | ((with_reducible apply Zi);exact rfl) | with_reducible assumption));done);(first | exact ia rfl | assumption)) | (apply ZaJ;(focus (repeat (first | with_reducible exact fh | ((with_reducible apply Ya);exact rfl) | ((with_reducible apply Yb);exact rfl) | ((with_reducible apply ZR);exact rfl) | ((with_reducible apply Zi);exact rfl) | with_reducible assumption));done);(first | exact ia rfl | assumption);assumption) | fail))
   | ((with_reducible apply Zz9);(focus (first | exact JW rfl | (apply Zz;(focus (repeat (first | with_reducible exact fh | ((with_reducible apply Ya);exact rfl) | ((with_reducible apply Yb);exact rfl) | ((with_reducible apply ZR);exact rfl) | ((with_reducible apply Zi);exact rfl) | with_reducible assumption));done);(first | exact ia rfl | assumption)) | (apply ZaJ;(focus (repeat (first | with_reducible exact fh | ((with_reducible apply Ya);exact rfl) | ((with_reducible apply Yb);exact rfl) | ((with_reducible apply ZR);exact rfl) | ((with_reducible apply Zi);exact rfl) | with_reducible assumption));done);(first | exact ia rfl | assumption);assumption) | fail);done);(focus (first | exact JW rfl | (apply Zz;(focus (repeat (first | with_reducible exact fh | ((with_reducible apply Ya);exact rfl) | ((with_reducible apply Yb);exact rfl) | ((with_reducible apply ZR);exact rfl) | ((with_reducible apply Zi);exact rfl) | with_reducible assumption));done);(first | exact ia rfl | assumption)) | (apply ZaJ;(focus (repeat (first | with_reducible exact fh | ((with_reducible apply Ya);exact rfl) | ((with_reducible apply Yb);exact rfl) | ((with_reducible apply ZR);exact rfl) | ((with_reducible apply Zi);exact rfl) | with_reducible assumption));done);(first | exact ia rfl | assumption);assumption) | fail);done);(apply Zcw;(focus (repeat (first | with_reducible exact fh | ((with_reducible apply Ya);exact rfl) | ((with_reducible apply Yb);exact rfl) | ((with_reducible apply ZR);exact rfl) | ((with_reducible apply Zi);exact rfl) | with_reducible assumption));done)))
   | fail)))
 | (apply WO.hu gN;(focus (first | (((with_reducible apply ZKd));(focus (first | exact JW rfl | (apply Zz;(focus (repeat (first | with_reducible exact fh | ((with_reducible apply Ya);exact rfl) | ((with_reducible apply Yb);exact rfl) | ((with_reducible apply ZR);exact rfl) | ((with_reducible apply Zi);exact rfl) | with_reducible assumption));done);(first | exact ia rfl | assumption)) | (apply ZaJ;(focus (repeat (first | with_reducible exact fh | ((with_reducible apply Ya);exact rfl) | ((with_reducible apply Yb);exact rfl) | ((with_reducible apply ZR);exact rfl) | ((with_reducible apply Zi);exact rfl) | with_reducible assumption));done);(first | exact ia rfl | assumption);assumption) | fail);done);assumption;(focus (first | exact k0 | exact k1 | exact k2 | exact k3 | exact k4 | exact k5 | exact k6 | exact k7 | (repeat (first | exact k7 | apply Pk.s)));done);(focus (first | exact JW rfl | (apply Zz;(focus (repeat (first | with_reducible exact fh | ((with_reducible apply Ya);exact rfl) | ((with_reducible apply Yb);exact rfl) | ((with_reducible apply ZR);exact rfl) | ((with_reducible apply Zi);exact rfl) | with_reducible assumption));done);(first | exact ia rfl | assumption)) | (apply ZaJ;(focus (repeat (first | with_reducible exact fh | ((with_reducible apply Ya);exact rfl) | ((with_reducible apply Yb);exact rfl) | ((with_reducible apply ZR);exact rfl) | ((with_reducible apply Zi);exact rfl) | with_reducible assumption));done);(first | exact ia rfl | assumption);assumption) | fail);done);(focus (first | (simp only [Zgg,ZdX,Zcz,Zge,Zgf,Zgi,ZbB,cells_func,ZaK,Zab,ZcA];exact rfl) | exact rfl));exact rfl;exact rfl;exact rfl;(focus simp only [splice,List.take_succ_cons,List.take_zero,List.drop_succ_cons,List.drop_zero,List.cons_append,List.nil_append,List.append_nil,List.length_cons,List.length_nil,Nat.reduceAdd,Nat.zero_add,List.take_nil,List.drop_nil];exact rfl)) | fail)))
 | (apply WO.hn gN rfl;(focus (first | (((with_reducible apply ZGS));(focus (first | exact JW rfl | (apply Zz;(focus (repeat (first | with_reducible exact fh | ((with_reducible apply Ya);exact rfl) | ((with_reducible apply Yb);exact rfl) | ((with_reducible apply ZR);exact rfl) | ((with_reducible apply Zi);exact rfl) | with_reducible assumption));done);(first | exact ia rfl | assumption)) | (apply ZaJ;(focus (repeat (first | with_reducible exact fh | ((with_reducible apply Ya);exact rfl) | ((with_reducible apply Yb);exact rfl) | ((with_reducible apply ZR);exact rfl) | ((with_reducible apply Zi);exact rfl) | with_reducible assumption));done);(first | exact ia rfl | assumption);assumption) | fail);done);assumption;(focus (first | (simp only [Zgg,ZdX,Zcz,Zge,Zgf,Zgi,ZbB,cells_func,ZaK,Zab,ZcA];exact rfl) | exact rfl))) | (((with_reducible apply ZGT));assumption;(focus (first | (simp only [Zgg,ZdX,Zcz,Zge,Zgf,Zgi,ZbB,cells_func,ZaK,Zab,ZcA];exact rfl) | exact rfl))) | fail)))
 | refine WC.skip ?_
 | refine WC.ret ?_
 | refine WC.block ?_
 | refine WC.exit ?_
 | refine QD.ret ?_
 | refine QD.exit ?_
 | refine Wx.ret ?_
 | refine Wx.Yo ?_
 | refine Wx.here ?_
 | refine Yg.exit ?_
 | refine Yg.ret ?_
 | refine WX.nil ?_
 | fail
 exact k.out):p:=h ⟨k⟩
theorem r2 {p q:Prop} (k:q) (h:Kp q ->p:=by
 intro k
 iterate 2 (refine r1 ?_)
 exact k.out):p:=h ⟨k⟩
theorem r3 {p q:Prop} (k:q) (h:Kp q ->p:=by
 intro k
 iterate 3 (refine r1 ?_)
 exact k.out):p:=h ⟨k⟩
theorem r4 {p q:Prop} (k:q) (h:Kp q ->p:=by
 intro k
 iterate 4 (refine r1 ?_)
 exact k.out):p:=h ⟨k⟩
theorem r6 {p q:Prop} (k:q) (h:Kp q ->p:=by
 intro k
 iterate 6 (refine r1 ?_)
 exact k.out):p:=h ⟨k⟩
theorem r8 {p q:Prop} (k:q) (h:Kp q ->p:=by
 intro k
 iterate 8 (refine r1 ?_)
 exact k.out):p:=h ⟨k⟩
theorem QW {p q:Prop} (k:q) (h:Kp q ->p:=by
 intro k
 iterate 12 (refine r1 ?_)
 exact k.out):p:=h ⟨k⟩
theorem r16 {p q:Prop} (k:q) (h:Kp q ->p:=by
 intro k
 iterate 16 (refine r1 ?_)
 exact k.out):p:=h ⟨k⟩
end Go.Yy
end
end
section
noncomputable section
namespace Go.Proofs.Ytekpjgmhkkjhgaa
open Go.Yy Go.Lf
instance:Zea XX.P 3:= ⟨YS⟩
instance:Zea XX.P 4:= ⟨ZyU⟩
instance:Zea XX.P 5:= ⟨ZKp⟩
instance:Zea XX.P 22:= ⟨Zv7⟩
instance:Zea XX.P 23:= ⟨ZnZ⟩
instance:Zea XX.P 24:= ⟨Zv6⟩
instance:ZjI XX.P 26:= ⟨X7⟩
instance:Zea XX.P 27:= ⟨Zv5⟩
instance:ZjI XX.P 29:= ⟨ZG3⟩
instance:Zea XX.P 32:= ⟨Zv4⟩
instance:Zea XX.P 56:= ⟨ZG2⟩
instance:ZjI XX.P 58:= ⟨ZbJ⟩
instance:Zea XX.P 59:= ⟨Xl⟩
instance:ZjI XX.P 61:= ⟨Zax⟩
instance:Zea XX.P 63:= ⟨ZG1⟩
instance:ZjI XX.P 65:= ⟨ZG0⟩
instance:ZjI XX.P 73:= ⟨ZGZ⟩
instance:ZjI XX.P 80:= ⟨ZGY⟩
instance:ZjI XX.P 91:= ⟨ZGX⟩
instance:Zea XX.P 94:= ⟨Zv3⟩
instance:Zea XX.P 95:= ⟨ZgP⟩
instance:Zea XX.P 110:= ⟨ZlW⟩
instance:ZjI XX.P 113:= ⟨ZC0⟩
instance:SzF XX.P 3 1:= ⟨Yx⟩
instance:SzF XX.P 4 1:= ⟨Zp0⟩
instance:SzF XX.P 5 1:= ⟨ZDJ⟩
instance:SzF XX.P 22 1:= ⟨ZAF⟩
instance:SzF XX.P 23 1:= ⟨Zoi⟩
instance:SzF XX.P 24 1:= ⟨ZAE⟩
instance:SzF XX.P 26 4:= ⟨Y4⟩
instance:SzF XX.P 29 4:= ⟨ZAD⟩
instance:SzF XX.P 32 1:= ⟨ZAC⟩
instance:SzF XX.P 58 5:= ⟨YV⟩
instance:SzF XX.P 59 1:= ⟨Z9⟩
instance:SzF XX.P 61 6:= ⟨ZW⟩
instance:SzF XX.P 63 1:= ⟨ZAB⟩
instance:SzF XX.P 65 2:= ⟨ZAA⟩
instance:SzF XX.P 73 2:= ⟨ZAz⟩
instance:SzF XX.P 80 4:= ⟨ZAy⟩
instance:SzF XX.P 91 4:= ⟨ZAx⟩
instance:SzF XX.P 94 1:= ⟨ZAw⟩
instance:SzF XX.P 110 1:= ⟨ZkF⟩
instance:SzF XX.P 113 2:= ⟨ZwH⟩
instance:JU XX.P 26 0 0:= ⟨Zya⟩
instance:JU XX.P 26 1 1:= ⟨Zx9⟩
instance:JU XX.P 26 2 2:= ⟨Zx8⟩
instance:JU XX.P 26 3 3:= ⟨Zx7⟩
instance:JU XX.P 29 0 0:= ⟨Zlf⟩
instance:JU XX.P 29 1 1:= ⟨Zby⟩
instance:JU XX.P 29 2 2:= ⟨ZcX⟩
instance:JU XX.P 29 3 3:= ⟨Zbx⟩
instance:JU XX.P 58 0 0:= ⟨Zx6⟩
instance:JU XX.P 58 1 1:= ⟨Zx5⟩
instance:JU XX.P 58 2 2:= ⟨Zx4⟩
instance:JU XX.P 58 3 3:= ⟨Zx3⟩
instance:JU XX.P 58 4 4:= ⟨Zqw⟩
instance:JU XX.P 61 0 0:= ⟨Zx2⟩
instance:JU XX.P 61 1 1:= ⟨Zx1⟩
instance:JU XX.P 61 2 2:= ⟨Zqv⟩
instance:JU XX.P 61 3 3:= ⟨Zle⟩
instance:JU XX.P 61 4 4:= ⟨Zx0⟩
instance:JU XX.P 61 5 5:= ⟨ZxZ⟩
instance:JU XX.P 65 0 0:= ⟨ZxY⟩
instance:JU XX.P 65 1 1:= ⟨ZxX⟩
instance:JU XX.P 73 0 0:= ⟨ZxW⟩
instance:JU XX.P 73 1 1:= ⟨ZxV⟩
instance:JU XX.P 80 0 0:= ⟨ZxU⟩
instance:JU XX.P 80 1 1:= ⟨ZxT⟩
instance:JU XX.P 80 2 2:= ⟨ZxS⟩
instance:JU XX.P 80 3 3:= ⟨ZxR⟩
instance:JU XX.P 91 2 2:= ⟨ZxQ⟩
instance:JU XX.P 91 3 3:= ⟨ZxP⟩
instance:JU XX.P 97 0 0:= ⟨ZxO⟩
instance:JU XX.P 97 1 1:= ⟨ZxN⟩
instance:JU XX.P 97 2 2:= ⟨ZxM⟩
instance:JU XX.P 97 3 3:= ⟨Zld⟩
instance:JU XX.P 97 4 4:= ⟨ZxL⟩
instance:ZjF XX.P 22 59:= ⟨YT⟩
instance:ZjF XX.P 23 58:= ⟨QV⟩
instance:ZjF XX.P 24 3:= ⟨Xp⟩
instance:ZjF XX.P 38 29:= ⟨ZDD⟩
instance:ZjF XX.P 43 91:= ⟨ZDC⟩
instance:ZjF XX.P 59 61:= ⟨Xg⟩
instance:ZjF XX.P 62 80:= ⟨ZDB⟩
instance:ZjF XX.P 63 73:= ⟨ZDA⟩
instance:ZjF XX.P 69 5:= ⟨ZDz⟩
instance:ZDb XX.P 4:= ⟨ZHJ⟩
instance:ZcI XX.P 3 (.int .i64 0):= ⟨Ud⟩
instance:ZcI XX.P 24 (.slice none 0 0):= ⟨ZAl⟩
instance:ZcI XX.P 26 (.agg #[.slice none 0 0,.slice none 0 0,.int .i64 0,.slice none 0 0]):= ⟨ZkC⟩
instance:ZcI XX.P 29 (.agg #[.int .i64 0,.int .i64 0,.int .i64 0,.int .i64 0]):= ⟨ZAk⟩
instance:ZcI XX.P 32 (.int .i64 0):= ⟨ZAj⟩
instance:ZcI XX.P 58 (.agg #[.int .i64 0,.int .i64 0,.int .i64 0,.int .i64 0,.int .i64 0]):= ⟨KT⟩
instance:ZcI XX.P 59 (.slice none 0 0):= ⟨ZkB⟩
instance:ZcI XX.P 61 (.agg #[.int .i64 0,.bool false,.int .i64 0,.int .i64 0,.int .i64 0,.bool false]):= ⟨QF⟩
instance:ZcI XX.P 65 (.agg #[.slice none 0 0,.slice none 0 0]):= ⟨ZAi⟩
instance:ZcI XX.P 73 (.agg #[.int .i64 0,.int .i64 0]):= ⟨ZAh⟩
instance:ZcI XX.P 80 (.agg #[.int .u8 0,.int .u8 0,.int .u8 0,.int .u8 0]):= ⟨ZAg⟩
instance:ZcI XX.P 91 (.agg #[.int .i64 0,.int .i64 0,.int .i64 0,.int .i64 0]):= ⟨ZAf⟩
instance:ZcI XX.P 94 (.pointer none):= ⟨ZAe⟩
instance:ZcI XX.P 97 (.agg #[.int .i64 0,.int .i64 0,.map none,.slice none 0 0,.slice none 0 0]):= ⟨Zsr⟩
instance:ZcI XX.P 110 (.map none):= ⟨Zwv⟩
instance:ZcI XX.P 113 (.agg #[.int .i64 0,.int .i64 0]):= ⟨ZpT⟩
end Go.Proofs.Ytekpjgmhkkjhgaa
end
end
section
namespace Go.Proofs.Ytekpjgmhkkjhgaa
open Go.Lf
def ZiI (p0:Za):Int ->(Int ->Option Bool) ->Option Bool:=fun v6 Zdo=>
 (bif decide (v6 < (p0.cells.length:Int)) then(ZL p0.cells v6).bind fun x9=>(bif decide ((x9.length:Int) > 30) then some true else Zdo (ZQ (v6 + 1))) else some false)
def Zvp (F:Nat) (p0:Za):Option Bool:=
 (bif(((decide ((p0.cells.length:Int) > 10)) || (decide ((p0.notes.length:Int) > 100))) || (decide ((p0.freed.length:Int) > 30))) then some true else loop F (ZiI p0) 0)
def ZiE (p0:(List Int)) (p1:(List Int)):Int ->(Int ->Option Bool) ->Option Bool:=fun v5 Zmu=>
 (bif decide (v5 < (p0.length:Int)) then(ZL p0 v5).bind fun x8=>(ZL p1 v5).bind fun UU=>(bif(x8 !=UU) then some false else Zmu (ZQ (v5 + 1))) else some true)
def ZrK (F:Nat) (p0:(List Int)) (p1:(List Int)):Option Bool:=
 (bif((p0.length:Int) != (p1.length:Int)) then some false else loop F (ZiE p0 p1) 0)
end Go.Proofs.Ytekpjgmhkkjhgaa
end
section
set_option maxRecDepth 20000
noncomputable section
namespace Go.Proofs.Ytekpjgmhkkjhgaa
open Go.Yy Go.Lf
theorem ZCB {F wm:Nat} {h:H} {p0:Za} {Zr:Option Addr} {Zq:Nat} {Zp:Option Addr} {Zo:Nat} {Zn:Option Addr} {Zm:Nat} {r:Bool} (ZJ:wm <=h.size) (Zw:Sl (rSl Zd) wm h Zr Zq p0.cells) (ZF:Sl Ze wm h Zp Zo p0.notes) (ZC:Sl (ZA .i64) wm h Zn Zm p0.freed) (hL:Zvp F p0=some r):
 WR XX 13 #[.agg [.slice Zr p0.cells.length Zq,.slice Zp p0.notes.length Zo,.int .i64 p0.names,.slice Zn p0.freed.length Zm].toArray] wm h (CP (fun(v:Value) (Gb:List (Ast wm))=>v= .bool r∧Gb= []) [] h):=by
 refine bg Try.ntmps13 ZJ ZO.nil ?_;intro T hT hS;unfold Zvp at hL;refine r3 ?_;rintro _ h2 ⟨b1,eb1,rfl,hS⟩;refine r16 ?_;refine r8 ?_;refine cn hL ?_ ?_
 ·intro hc hL;refine r6 ?_;refine r1 ?_;exact rt hL hT hS
 ·intro hc hL;refine r8 ?_;refine r1 ?_;refine WC.loop (WL.lift hL (fun(v6:Int) (s:Fs)=>∃ (Uy:Fr) (h3:H),s= ⟨Uy,[],h3,none⟩∧Sp wm T h [bx wm b1 [.slice Zr p0.cells.length Zq,.slice Zp p0.notes.length Zo,.int .i64 p0.names,.slice Zn p0.freed.length Zm]] h3∧Uy.at 1= .pointer (some ⟨b1,0,none⟩)∧Uy.at 3= .int .i64 v6) ⟨_,_,rfl,hS.only (.c k0 .n),YK⟩ ?_);clear hL hS;rintro Zdo v6 s Zh4 hL ⟨Uy,h3,rfl,hS,e5,e7⟩;dsimp only [ZiI] at hL;refine r8 ?_;refine r2 ?_;refine cn hL ?_ ?_
  ·intro hc hL;refine r8 ?_;refine r1 ?_;obtain⟨x9,hx9,hL⟩:=bind_some hL;obtain⟨b10,o11,⟨a12,c13⟩,ZmP,Zm2,ZmT,Zqs⟩:=Sl.at_ Zw hx9;refine WO.w gN rfl (Zx YT Z9 lk lk rfl ZmP hx9) ?_;have Zzs:Sl Zd wm h a12 c13 x9:=Zqs;refine WO.w gN rfl (Zy Xl (Zz fh rfl) (At.fz hS.fz ZmT Zm2) (j:=0) rfl (v:= .slice a12 x9.length c13) rfl) ?_;refine r4 ?_;refine cn hL ?_ ?_
   ·intro hc hL;refine r8 ?_;refine r3 ?_;exact rt hL hT hS
   ·intro hc hL;refine r8 ?_;exact Yg.Yo (Zh4 _ _ hL ⟨_,_,rfl,hS.only (.c k0 .n),YK⟩)
  ·intro hc hL;refine r8 ?_;refine r3 ?_;exact rt hL hT hS
theorem ZCt {F wm:Nat} {h:H} {p0 p1:(List Int)} {Zr:Option Addr} {Zq:Nat} {QB:Option Addr} {QA:Nat} {r:Bool} (ZJ:wm <=h.size) (Zw:Sl (ZA .i64) wm h Zr Zq p0) (Ua:Sl (ZA .i64) wm h QB QA p1) (hL:ZrK F p0 p1=some r):
 WR XX 30 #[.slice Zr p0.length Zq,.slice QB p1.length QA] wm h (CP (fun(v:Value) (Gb:List (Ast wm))=>v= .bool r∧Gb= []) [] h):=by
 refine bg Try.ntmps30 ZJ ZO.nil ?_;intro T hT hS;unfold ZrK at hL;refine QW ?_;refine r3 ?_;refine cn hL ?_ ?_
 ·intro hc hL;refine r6 ?_;refine r1 ?_;exact rt hL hT hS
 ·intro hc hL;refine r8 ?_;refine r1 ?_;refine WC.loop (WL.lift hL (fun(v5:Int) (s:Fs)=>∃ (Jb:Fr) (h1:H),s= ⟨Jb,[],h1,none⟩∧Sp wm T h [] h1∧Jb.at 0= .slice Zr p0.length Zq∧Jb.at 1= .slice QB p1.length QA∧Jb.at 5= .int .i64 v5) ⟨_,_,rfl,hS.only .n,YK⟩ ?_);clear hL hS;rintro Zmu v5 s ZoO hL ⟨Jb,h1,rfl,hS,e3,e4,e6⟩;dsimp only [ZiE] at hL;refine r8 ?_;refine r1 ?_;refine cn hL ?_ ?_
  ·intro hc hL;refine r4 ?_;refine r1 ?_;refine WC.Yn mixed (by kernel_rfl) ?_;refine r2 ?_;obtain⟨x8,hx8,hL⟩:=bind_some hL;obtain⟨b9,o10,_,Zt1,Zux,ZBK,ZJl⟩:=Sl.at_ Zw hx8;refine WX.w gN rfl (Zx Xp Yx lk lk rfl Zt1 hx8) ?_ rfl;refine WX.w gN rfl (Zy YS (Zz fh rfl) (At.fz hS.fz ZBK Zux) (j:=0) rfl (v:= .int .i64 x8) rfl) ?_ rfl;refine r2 ?_;obtain⟨UU,Kl,hL⟩:=bind_some hL;obtain⟨b12,o13,_,ZaY,Zcp,Zez,ZmR⟩:=Sl.at_ Ua Kl;refine WX.w gN rfl (Zx Xp Yx lk lk rfl ZaY Kl) ?_ rfl;refine WX.w gN rfl (Zy YS (Zz fh rfl) (At.fz hS.fz Zez Zcp) (j:=0) rfl (v:= .int .i64 UU) rfl) ?_ rfl;refine r3 ?_;refine cn hL ?_ ?_
   ·intro hc hL;refine r8 ?_;refine r3 ?_;exact rt hL hT hS
   ·intro hc hL;refine r8 ?_;exact Yg.Yo (ZoO _ _ hL ⟨_,_,rfl,hS.only .n,YK⟩)
  ·intro hc hL;refine r8 ?_;refine r3 ?_;exact rt hL hT hS
theorem ZCu {F:Nat} {h:H} {p0 p1:(List Int)} {Zr:Option Addr} {Zq:Nat} {QB:Option Addr} {QA:Nat} {r:Bool} (Zw:Sl (ZA .i64) h.size h Zr Zq p0) (Ua:Sl (ZA .i64) h.size h QB QA p1) (hL:ZrK F p0 p1=some r):Pure XX 30 #[.slice Zr p0.length Zq,.slice QB p1.length QA] h (.bool r):=
 WR.YP rfl (ZCt (Nat.le_refl _) Zw Ua hL)
end Go.Proofs.Ytekpjgmhkkjhgaa
end
end
section
namespace Go.Proofs.Ytekpjgmhkkjhgaa
open Go.Lf
def ZaZ (p0:Int) (p1:Int) (p2:Int):Option Bool:=
 some ((decide (p0 >=p1)) && (decide (p0 <=p2)))
def Ziz (p0:Zv) (p1:Int):Bool ->Option Bool:=fun v10=>
 (bif v10 then(bif((decide (p0.at_ >=0)) && (decide (p0.at_ < p1))) then some ((((decide (p0.ZH >=0)) && (decide (p0.ZH < p1))) && (p0.at_ !=p0.ZH)) && (decide (p0.name >=0))) else some ((false && (p0.at_ !=p0.ZH)) && (decide (p0.name >=0)))) else(bif(p0.Xf==3) then some ((((decide (p0.at_ >=0)) && (decide (p0.at_ < p1))) && (decide (p0.name >=0))) && (p0.ZH==0)) else some ((((p0.Xf==5) && (decide (p0.at_ >=0))) && (p0.name==0)) && (p0.ZH==0))))
def ZrJ (p0:Zv) (p1:Int):Option Bool:=
 (bif(p0.Xf==1) then some ((((decide (p0.at_ >=0)) && (decide (p0.at_ < p1))) && (p0.name==0)) && (p0.ZH==0)) else(bif(p0.Xf==2) then(Ziz p0 p1) (p0.Xf==2) else(Ziz p0 p1) (p0.Xf==4)))
end Go.Proofs.Ytekpjgmhkkjhgaa
end
section
set_option maxRecDepth 20000
noncomputable section
namespace Go.Proofs.Ytekpjgmhkkjhgaa
open Go.Yy Go.Lf
theorem ZCs {wm:Nat} {h:H} {p0 p1 p2:Int} {r:Bool} (ZJ:wm <=h.size) (hL:ZaZ p0 p1 p2=some r):
 WR XX 53 #[.int .i64 p0,.int .i64 p1,.int .i64 p2] wm h (CP (fun(v:Value) (Gb:List (Ast wm))=>v= .bool r∧Gb= []) [] h):=by
 refine bg Try.ntmps53 ZJ ZO.nil ?_;intro T hT hS;unfold ZaZ at hL;refine r16 ?_;refine r3 ?_;exact rt hL hT hS
theorem Wi {h:H} {p0 p1 p2:Int} {r:Bool} (hL:ZaZ p0 p1 p2=some r):Pure XX 53 #[.int .i64 p0,.int .i64 p1,.int .i64 p2] h (.bool r):=
 WR.YP rfl (ZCs (Nat.le_refl _) hL)
theorem ZCp {wm:Nat} {h:H} {p0:Zv} {p1:Int} {r:Bool} (ZJ:wm <=h.size) (hL:ZrJ p0 p1=some r):
 WR XX 55 #[.agg [.int .i64 p0.Xf,.int .i64 p0.at_,.int .i64 p0.name,.int .i64 p0.ZH].toArray,.int .i64 p1] wm h (CP (fun(v:Value) (Gb:List (Ast wm))=>v= .bool r∧Gb= []) [] h):=by
 refine WF.begin (args:= [_,_]) (fn:=Try.f55) (by kernel_rfl) (by exact rfl) Try.ntmps55 (by simp) ?_;simp only [ZT,Z4,Nat.reduceAdd];obtain⟨T,hT,hS⟩:∃ T,T=XG (wm:=wm) []∧Sp wm T h [] h:= ⟨_,rfl,Sp.start ZJ ZO.nil⟩
 unfold ZrJ at hL;refine WC.seq ?_;refine WC.region ?_;refine WO.hn gN rfl (Zp3 hS (Zz (Zi rfl fh) rfl) (vs:= [.int .i64 p0.Xf,.int .i64 p0.at_,.int .i64 p0.name,.int .i64 p0.ZH]) rfl) ?_;rintro _ h2 ⟨b1,eb1,rfl,hS⟩;refine WO.hn gN rfl (Zp3 hS (Zz (Zi rfl fh) rfl) (vs:= [.int .i64 p1]) rfl) ?_;rintro _ h4 ⟨b3,eb3,rfl,hS⟩;refine WO.w gN rfl (YG (JW rfl)) ?_;refine WO.nil ?_;refine QD.Yo ?_;refine WC.seq ?_;refine WC.region ?_;refine WO.w gN rfl (Zgl (Zc (Zz (Zi rfl fh) rfl) Zj)) ?_;refine WO.w gN rfl (YG (Zz fh rfl)) ?_;refine WO.nil ?_;refine QD.Yo ?_;refine WC.seq ?_;refine WC.seq ?_;refine WC.region ?_;refine WO.w gN rfl (XJ Zlf (Zz (Yb rfl fh) rfl)) ?_;refine WO.w gN rfl (Zy Zv5 (Zz fh rfl) (hS.Qw k1) (j:=0) rfl (v:= .int .i64 p0.Xf) rfl) ?_;refine WO.nil ?_;refine QD.Yo ?_;refine WC.block ?_;refine WC.seq ?_;refine WC.region ?_;refine WO.w gN rfl (Y3 (Zz fh rfl) (JW rfl) JS) ?_;refine WO.w gN rfl (YG (Zz fh rfl)) ?_;refine WO.nil ?_;refine QD.Yo ?_;refine WC.ZnG (Zz fh rfl) (fun hc=>?_) (fun hc=>?_)
 ·replace hL:=WY hc hL;refine WC.seq ?_;refine WC.region ?_;refine WO.w gN rfl (YR (Zz (Yb rfl fh) rfl)) ?_;refine WO.w gN rfl (XJ Zby (Zz (Ya rfl (Zi rfl fh)) rfl)) ?_;refine WO.w gN rfl (Zy YS (Zz fh rfl) (hS.Qw k1) (j:=1) rfl (v:= .int .i64 p0.at_) rfl) ?_;refine WO.inl gN rfl (YF.clo (first:= []) (cap:= [.pointer (some ⟨b3,0,none⟩)]) (Zz (ZR rfl fh) rfl) Zqo (Zc (Zz fh rfl) Zj) rfl) (WF.begin (args:= [_,_]) (fn:=Try.f92) (by kernel_rfl) (by exact rfl) Try.ntmps92 (by simp) ?_);simp only [ZT,Z4,Nat.reduceAdd];refine WC.seq ?_;refine WC.region ?_;refine WO.w gN rfl (YG (JW rfl)) ?_;refine WO.nil ?_;refine QD.Yo ?_;refine WC.seq ?_;refine WC.region ?_;refine WO.w gN rfl (YR (Zz (ZR rfl fh) rfl)) ?_;refine WO.w gN rfl (Y3 (Zz fh rfl) (JW rfl) Wt) ?_;refine WO.w gN rfl (YR (Zz fh rfl)) ?_;refine WO.gv (Zh.yes rfl rfl rfl fh) rfl (fun hg=>(YR (Zz (Yb rfl (Zi rfl fh)) rfl))) ?_;refine WO.gv (Zh.yes rfl rfl rfl (Zi rfl fh)) rfl (fun hg=>(Zy YS (Zz (Yb rfl (Zi rfl fh)) rfl) (hS.Qw k0) (j:=0) rfl (v:= .int .i64 p1) rfl)) ?_;refine WO.gv (Zh.yes rfl rfl rfl (ZR rfl fh)) rfl (fun hg=>(Y3 (Yw (Zi rfl fh) rfl hg) (Yw fh rfl hg) ZcH)) ?_;refine WO.w gN rfl (XK (Zz (ZR rfl (Zi rfl fh)) rfl) (Zcw fh) (JW rfl)) ?_;refine WO.w gN rfl (YG (Zz fh rfl)) ?_;refine WO.nil ?_;refine QD.Yo ?_;refine WC.ret ?_;refine ZX.QU rfl (Z5 (Zz fh rfl) Zu) ?_;refine WO.w gN rfl (YR (Zz fh rfl)) ?_;refine WO.gv (Zh.yes rfl rfl rfl fh) rfl (fun hg=>(XJ ZcX (Zz (Ya rfl (Yb rfl (Zi rfl fh))) rfl))) ?_;refine WO.gv (Zh.yes rfl rfl rfl (Zi rfl fh)) rfl (fun hg=>(Zy YS (Yw fh rfl hg) (hS.Qw k1) (j:=2) rfl (v:= .int .i64 p0.name) rfl)) ?_;refine WO.gv (Zh.yes rfl rfl rfl (ZR rfl fh)) rfl (fun hg=>(Y3 (Yw fh rfl hg) (JW rfl) JS)) ?_;refine WO.w gN rfl (XK (Zz (ZR rfl (Zi rfl fh)) rfl) (Zcw fh) (JW rfl)) ?_;refine WO.w gN rfl (YR (Zz fh rfl)) ?_;refine WO.gv (Zh.yes rfl rfl rfl fh) rfl (fun hg=>(XJ Zbx (Zz (Ya rfl (Ya rfl (ZR rfl fh))) rfl))) ?_;refine WO.gv (Zh.yes rfl rfl rfl (Zi rfl fh)) rfl (fun hg=>(Zy YS (Yw fh rfl hg) (hS.Qw k1) (j:=3) rfl (v:= .int .i64 p0.ZH) rfl)) ?_;refine WO.gv (Zh.yes rfl rfl rfl (ZR rfl fh)) rfl (fun hg=>(Y3 (Yw fh rfl hg) (JW rfl) JS)) ?_;refine WO.w gN rfl (XK (Zz (ZR rfl (Zi rfl fh)) rfl) (Zcw fh) (JW rfl)) ?_;refine WO.w gN rfl (YG (Zz fh rfl)) ?_;refine WO.nil ?_;refine QD.Yo ?_;refine WC.ret ?_;refine Wx.ret ?_;refine QD.ret ?_;have hr:=Option.some.inj hL;subst hr;exact ZX.QU rfl (Z5 (Zz fh rfl) Zu) ⟨_,⟨rfl,rfl⟩,hT ▸ hS.only .n⟩
 ·replace hL:=WZ hc hL;refine WC.Ke (r:=r) (fun(v10:Bool) (s:Fs)=>∃ (fr6:Fr) (h5:H),s= ⟨fr6,[],h5,none⟩∧Sp wm T h [bx wm b1 [.int .i64 p0.Xf,.int .i64 p0.at_,.int .i64 p0.name,.int .i64 p0.ZH],bx wm b3 [.int .i64 p1]] h5∧fr6.at 2= .pointer (some ⟨b1,0,none⟩)∧fr6.at 5= .func (.func 92) #[] [.pointer (some ⟨b3,0,none⟩)].toArray∧fr6.at 8= .int .i64 p0.Xf∧fr6.at 25= .bool v10) (Ziz p0 p1) ?_ ?_
  ·clear hL hS;rintro v10 s hL ⟨fr6,h5,rfl,hS,e7,e8,e9,e11⟩;dsimp only [Ziz] at hL;refine WC.ZnG (Zz e11 rfl) (fun hc=>?_) (fun hc=>?_)
   ·replace hL:=WY hc hL;refine WC.seq ?_;refine WC.region ?_;refine WO.w gN rfl (YR (Zz e8 rfl)) ?_;refine WO.w gN rfl (XJ Zby (Zz (Zi rfl e7) rfl)) ?_;refine WO.w gN rfl (Zy YS (Zz fh rfl) (hS.Qw k0) (j:=1) rfl (v:= .int .i64 p0.at_) rfl) ?_;refine WO.inl gN rfl (YF.clo (first:= []) (cap:= [.pointer (some ⟨b3,0,none⟩)]) (Zz (ZR rfl fh) rfl) Zqo (Zc (Zz fh rfl) Zj) rfl) (WF.begin (args:= [_,_]) (fn:=Try.f92) (by kernel_rfl) (by exact rfl) Try.ntmps92 (by simp) ?_);simp only [ZT,Z4,Nat.reduceAdd];refine WC.seq ?_;refine WC.region ?_;refine WO.w gN rfl (YG (JW rfl)) ?_;refine WO.nil ?_;refine QD.Yo ?_;refine WC.seq ?_;refine WC.region ?_;refine WO.w gN rfl (YR (Zz (ZR rfl fh) rfl)) ?_;refine WO.w gN rfl (Y3 (Zz fh rfl) (JW rfl) Wt) ?_;refine WO.w gN rfl (YR (Zz fh rfl)) ?_;refine WO.gv (Zh.yes rfl rfl rfl fh) rfl (fun hg=>(YR (Zz (Yb rfl (Zi rfl fh)) rfl))) ?_;refine WO.gv (Zh.yes rfl rfl rfl (Zi rfl fh)) rfl (fun hg=>(Zy YS (Zz (Yb rfl (Zi rfl fh)) rfl) (hS.Qw k1) (j:=0) rfl (v:= .int .i64 p1) rfl)) ?_;refine WO.gv (Zh.yes rfl rfl rfl (ZR rfl fh)) rfl (fun hg=>(Y3 (Yw (Zi rfl fh) rfl hg) (Yw fh rfl hg) ZcH)) ?_;refine WO.w gN rfl (XK (Zz (ZR rfl (Zi rfl fh)) rfl) (Zcw fh) (JW rfl)) ?_;refine WO.w gN rfl (YG (Zz fh rfl)) ?_;refine WO.nil ?_;refine QD.Yo ?_;refine WC.ret ?_;refine ZX.QU rfl (Z5 (Zz fh rfl) Zu) ?_;refine WO.w gN rfl (YR (Zz fh rfl)) ?_;refine WO.gv (Zh.yes rfl rfl rfl fh) rfl (fun hg=>(YR (Zz (Yb rfl (Zi rfl e8)) rfl))) ?_;refine WO.gv (Zh.yes rfl rfl rfl (Zi rfl fh)) rfl (fun hg=>(XJ Zbx (Zz (Yb rfl (ZR rfl e7)) rfl))) ?_;refine WO.gv (Zh.yes rfl rfl rfl (ZR rfl fh)) rfl (fun hg=>(Zy YS (Yw fh rfl hg) (hS.Qw k0) (j:=3) rfl (v:= .int .i64 p0.ZH) rfl)) ?_;refine WO.Zla (Zh.yes rfl rfl rfl (ZR rfl (Zi rfl fh))) (fun Zk7=>?_) (fun Zk7=>?_)
    ·replace hL:=WY Zk7 hL;refine WO.inl (Zh.on (Zh.yes rfl rfl rfl (ZR rfl (Zi rfl fh))) Zk7) rfl (YF.clo (first:= []) (cap:= [.pointer (some ⟨b3,0,none⟩)]) (Yw (ZR rfl fh) rfl Zk7) Zqo (Zc (Yw fh rfl Zk7) Zj) rfl) (WF.begin (args:= [_,_]) (fn:=Try.f92) (by kernel_rfl) (by exact rfl) Try.ntmps92 (by simp) ?_);simp only [ZT,Z4,Nat.reduceAdd];refine WC.seq ?_;refine WC.region ?_;refine WO.w gN rfl (YG (JW rfl)) ?_;refine WO.nil ?_;refine QD.Yo ?_;refine WC.seq ?_;refine WC.region ?_;refine WO.w gN rfl (YR (Zz (ZR rfl fh) rfl)) ?_;refine WO.w gN rfl (Y3 (Zz fh rfl) (JW rfl) Wt) ?_;refine WO.w gN rfl (YR (Zz fh rfl)) ?_;refine WO.gv (Zh.yes rfl rfl rfl fh) rfl (fun hg=>(YR (Zz (Yb rfl (Zi rfl fh)) rfl))) ?_;refine WO.gv (Zh.yes rfl rfl rfl (Zi rfl fh)) rfl (fun hg=>(Zy YS (Zz (Yb rfl (Zi rfl fh)) rfl) (hS.Qw k1) (j:=0) rfl (v:= .int .i64 p1) rfl)) ?_;refine WO.gv (Zh.yes rfl rfl rfl (ZR rfl fh)) rfl (fun hg=>(Y3 (Yw (Zi rfl fh) rfl hg) (Yw fh rfl hg) ZcH)) ?_;refine WO.w gN rfl (XK (Zz (ZR rfl (Zi rfl fh)) rfl) (Zcw fh) (JW rfl)) ?_;refine WO.w gN rfl (YG (Zz fh rfl)) ?_;refine WO.nil ?_;refine QD.Yo ?_;refine WC.ret ?_;refine ZX.QU rfl (Z5 (Zz fh rfl) Zu) ?_;refine WO.w gN rfl (ZlM (Zz (Yb rfl fh) rfl) Zk7 (Zz fh rfl)) ?_;refine WO.w gN rfl (YR (Zz fh rfl)) ?_;refine WO.gv (Zh.yes rfl rfl rfl fh) rfl (fun hg=>(XJ Zby (Zz (Ya rfl (ZR rfl (Zi rfl e7))) rfl))) ?_;refine WO.gv (Zh.yes rfl rfl rfl (Zi rfl fh)) rfl (fun hg=>(Zy YS (Yw fh rfl hg) (hS.Qw k0) (j:=1) rfl (v:= .int .i64 p0.at_) rfl)) ?_;refine WO.gv (Zh.yes rfl rfl rfl (ZR rfl fh)) rfl (fun hg=>(XJ Zbx (Zz (Ya rfl (Yb rfl (Zi rfl e7))) rfl))) ?_;refine WO.gv (Zh.yes rfl rfl rfl (ZR rfl (Zi rfl fh))) rfl (fun hg=>(Zy YS (Yw fh rfl hg) (hS.Qw k0) (j:=3) rfl (v:= .int .i64 p0.ZH) rfl)) ?_;refine WO.gv (Zh.yes rfl rfl rfl (Yb rfl fh)) rfl (fun hg=>(Y3 (Yw (ZR rfl fh) rfl hg) (Yw fh rfl hg) Zi4)) ?_;refine WO.w gN rfl (XK (Zz (Yb rfl (Zi rfl fh)) rfl) (Zcw fh) (JW rfl)) ?_;refine WO.w gN rfl (YR (Zz fh rfl)) ?_;refine WO.gv (Zh.yes rfl rfl rfl fh) rfl (fun hg=>(XJ ZcX (Zz (Ya rfl (Ya rfl (ZR rfl e7))) rfl))) ?_;refine WO.gv (Zh.yes rfl rfl rfl (Zi rfl fh)) rfl (fun hg=>(Zy YS (Yw fh rfl hg) (hS.Qw k0) (j:=2) rfl (v:= .int .i64 p0.name) rfl)) ?_;refine WO.gv (Zh.yes rfl rfl rfl (ZR rfl fh)) rfl (fun hg=>(Y3 (Yw fh rfl hg) (JW rfl) Wt)) ?_;refine WO.w gN rfl (XK (Zz (ZR rfl (Zi rfl fh)) rfl) (Zcw fh) (JW rfl)) ?_;refine WO.w gN rfl (YG (Zz fh rfl)) ?_;refine WO.nil ?_;refine QD.Yo ?_;refine WC.ret ?_;refine Wx.ret ?_;refine QD.ret ?_;have hr:=Option.some.inj hL;subst hr;exact ZX.QU rfl (Z5 (Zz fh rfl) Zu) ⟨_,⟨rfl,rfl⟩,hT ▸ hS.only .n⟩
    ·replace hL:=WZ Zk7 hL;refine WO.Zmt (Zh.yes rfl rfl rfl (ZR rfl (Zi rfl fh))) Zk7 rfl ?_;refine WO.w gN rfl (ZlN (Zz (Yb rfl fh) rfl) Zk7 (JW rfl)) ?_;refine WO.w gN rfl (YR (Zz fh rfl)) ?_;refine WO.gv (Zh.yes rfl rfl rfl fh) rfl (fun hg=>(XJ Zby (Zz (Ya rfl (ZR rfl (Zi rfl e7))) rfl))) ?_;refine WO.gv (Zh.yes rfl rfl rfl (Zi rfl fh)) rfl (fun hg=>(Zy YS (Yw fh rfl hg) (hS.Qw k0) (j:=1) rfl (v:= .int .i64 p0.at_) rfl)) ?_;refine WO.gv (Zh.yes rfl rfl rfl (ZR rfl fh)) rfl (fun hg=>(XJ Zbx (Zz (Ya rfl (Yb rfl (Zi rfl e7))) rfl))) ?_;refine WO.gv (Zh.yes rfl rfl rfl (ZR rfl (Zi rfl fh))) rfl (fun hg=>(Zy YS (Yw fh rfl hg) (hS.Qw k0) (j:=3) rfl (v:= .int .i64 p0.ZH) rfl)) ?_;refine WO.gv (Zh.yes rfl rfl rfl (Yb rfl fh)) rfl (fun hg=>(Y3 (Yw (ZR rfl fh) rfl hg) (Yw fh rfl hg) Zi4)) ?_;refine WO.w gN rfl (XK (Zz (Yb rfl (Zi rfl fh)) rfl) (Zcw fh) (JW rfl)) ?_;refine WO.w gN rfl (YR (Zz fh rfl)) ?_;refine WO.gv (Zh.yes rfl rfl rfl fh) rfl (fun hg=>(XJ ZcX (Zz (Ya rfl (Ya rfl (ZR rfl e7))) rfl))) ?_;refine WO.gv (Zh.yes rfl rfl rfl (Zi rfl fh)) rfl (fun hg=>(Zy YS (Yw fh rfl hg) (hS.Qw k0) (j:=2) rfl (v:= .int .i64 p0.name) rfl)) ?_;refine WO.gv (Zh.yes rfl rfl rfl (ZR rfl fh)) rfl (fun hg=>(Y3 (Yw fh rfl hg) (JW rfl) Wt)) ?_;refine WO.w gN rfl (XK (Zz (ZR rfl (Zi rfl fh)) rfl) (Zcw fh) (JW rfl)) ?_;refine WO.w gN rfl (YG (Zz fh rfl)) ?_;refine WO.nil ?_;refine QD.Yo ?_;refine WC.ret ?_;refine Wx.ret ?_;refine QD.ret ?_;have hr:=Option.some.inj hL;subst hr;exact ZX.QU rfl (Z5 (Zz fh rfl) Zu) ⟨_,⟨rfl,rfl⟩,hT ▸ hS.only .n⟩
   ·replace hL:=WZ hc hL;refine WC.seq ?_;refine WC.region ?_;refine WO.w gN rfl (Y3 (Zz e9 rfl) (JW rfl) JS) ?_;refine WO.w gN rfl (YG (Zz fh rfl)) ?_;refine WO.nil ?_;refine QD.Yo ?_;refine WC.ZnG (Zz fh rfl) (fun hc=>?_) (fun hc=>?_)
    ·replace hL:=WY hc hL;refine WC.seq ?_;refine WC.region ?_;refine WO.w gN rfl (YR (Zz (ZR rfl e8) rfl)) ?_;refine WO.w gN rfl (XJ Zby (Zz (ZR rfl (Zi rfl e7)) rfl)) ?_;refine WO.w gN rfl (Zy YS (Zz fh rfl) (hS.Qw k0) (j:=1) rfl (v:= .int .i64 p0.at_) rfl) ?_;refine WO.inl gN rfl (YF.clo (first:= []) (cap:= [.pointer (some ⟨b3,0,none⟩)]) (Zz (ZR rfl fh) rfl) Zqo (Zc (Zz fh rfl) Zj) rfl) (WF.begin (args:= [_,_]) (fn:=Try.f92) (by kernel_rfl) (by exact rfl) Try.ntmps92 (by simp) ?_);simp only [ZT,Z4,Nat.reduceAdd];refine WC.seq ?_;refine WC.region ?_;refine WO.w gN rfl (YG (JW rfl)) ?_;refine WO.nil ?_;refine QD.Yo ?_;refine WC.seq ?_;refine WC.region ?_;refine WO.w gN rfl (YR (Zz (ZR rfl fh) rfl)) ?_;refine WO.w gN rfl (Y3 (Zz fh rfl) (JW rfl) Wt) ?_;refine WO.w gN rfl (YR (Zz fh rfl)) ?_;refine WO.gv (Zh.yes rfl rfl rfl fh) rfl (fun hg=>(YR (Zz (Yb rfl (Zi rfl fh)) rfl))) ?_;refine WO.gv (Zh.yes rfl rfl rfl (Zi rfl fh)) rfl (fun hg=>(Zy YS (Zz (Yb rfl (Zi rfl fh)) rfl) (hS.Qw k1) (j:=0) rfl (v:= .int .i64 p1) rfl)) ?_;refine WO.gv (Zh.yes rfl rfl rfl (ZR rfl fh)) rfl (fun hg=>(Y3 (Yw (Zi rfl fh) rfl hg) (Yw fh rfl hg) ZcH)) ?_;refine WO.w gN rfl (XK (Zz (ZR rfl (Zi rfl fh)) rfl) (Zcw fh) (JW rfl)) ?_;refine WO.w gN rfl (YG (Zz fh rfl)) ?_;refine WO.nil ?_;refine QD.Yo ?_;refine WC.ret ?_;refine ZX.QU rfl (Z5 (Zz fh rfl) Zu) ?_;refine WO.w gN rfl (YR (Zz fh rfl)) ?_;refine WO.gv (Zh.yes rfl rfl rfl fh) rfl (fun hg=>(XJ ZcX (Zz (Yb rfl (ZR rfl (Zi rfl e7))) rfl))) ?_;refine WO.gv (Zh.yes rfl rfl rfl (Zi rfl fh)) rfl (fun hg=>(Zy YS (Yw fh rfl hg) (hS.Qw k0) (j:=2) rfl (v:= .int .i64 p0.name) rfl)) ?_;refine WO.gv (Zh.yes rfl rfl rfl (ZR rfl fh)) rfl (fun hg=>(Y3 (Yw fh rfl hg) (JW rfl) Wt)) ?_;refine WO.w gN rfl (XK (Zz (ZR rfl (Zi rfl fh)) rfl) (Zcw fh) (JW rfl)) ?_;refine WO.w gN rfl (YR (Zz fh rfl)) ?_;refine WO.gv (Zh.yes rfl rfl rfl fh) rfl (fun hg=>(XJ Zbx (Zz (Ya rfl (Yb rfl e7)) rfl))) ?_;refine WO.gv (Zh.yes rfl rfl rfl (Zi rfl fh)) rfl (fun hg=>(Zy YS (Yw fh rfl hg) (hS.Qw k0) (j:=3) rfl (v:= .int .i64 p0.ZH) rfl)) ?_;refine WO.gv (Zh.yes rfl rfl rfl (ZR rfl fh)) rfl (fun hg=>(Y3 (Yw fh rfl hg) (JW rfl) JS)) ?_;refine WO.w gN rfl (XK (Zz (ZR rfl (Zi rfl fh)) rfl) (Zcw fh) (JW rfl)) ?_;refine WO.w gN rfl (YG (Zz fh rfl)) ?_;refine WO.nil ?_;refine QD.Yo ?_;refine WC.ret ?_;refine Wx.ret ?_;refine QD.ret ?_;have hr:=Option.some.inj hL;subst hr;exact ZX.QU rfl (Z5 (Zz fh rfl) Zu) ⟨_,⟨rfl,rfl⟩,hT ▸ hS.only .n⟩
    ·replace hL:=WZ hc hL;refine WC.skip ?_;refine Wx.Yo ?_;refine QD.Yo ?_;refine WC.seq ?_;refine WC.region ?_;refine WO.w gN rfl (XJ Zlf (Zz (ZR rfl e7) rfl)) ?_;refine WO.w gN rfl (Zy Zv5 (Zz fh rfl) (hS.Qw k0) (j:=0) rfl (v:= .int .i64 p0.Xf) rfl) ?_;refine WO.w gN rfl (Y3 (Zz fh rfl) (JW rfl) JS) ?_;refine WO.w gN rfl (YR (Zz fh rfl)) ?_;refine WO.gv (Zh.yes rfl rfl rfl fh) rfl (fun hg=>(XJ Zby (Zz (Yb rfl (ZR rfl e7)) rfl))) ?_;refine WO.gv (Zh.yes rfl rfl rfl (Zi rfl fh)) rfl (fun hg=>(Zy YS (Yw fh rfl hg) (hS.Qw k0) (j:=1) rfl (v:= .int .i64 p0.at_) rfl)) ?_;refine WO.gv (Zh.yes rfl rfl rfl (ZR rfl fh)) rfl (fun hg=>(Y3 (Yw fh rfl hg) (JW rfl) Wt)) ?_;refine WO.w gN rfl (XK (Zz (ZR rfl (Zi rfl fh)) rfl) (Zcw fh) (JW rfl)) ?_;refine WO.w gN rfl (YR (Zz fh rfl)) ?_;refine WO.gv (Zh.yes rfl rfl rfl fh) rfl (fun hg=>(XJ ZcX (Zz (Ya rfl (ZR rfl (Zi rfl e7))) rfl))) ?_;refine WO.gv (Zh.yes rfl rfl rfl (Zi rfl fh)) rfl (fun hg=>(Zy YS (Yw fh rfl hg) (hS.Qw k0) (j:=2) rfl (v:= .int .i64 p0.name) rfl)) ?_;refine WO.gv (Zh.yes rfl rfl rfl (ZR rfl fh)) rfl (fun hg=>(Y3 (Yw fh rfl hg) (JW rfl) JS)) ?_;refine WO.w gN rfl (XK (Zz (ZR rfl (Zi rfl fh)) rfl) (Zcw fh) (JW rfl)) ?_;refine WO.w gN rfl (YR (Zz fh rfl)) ?_;refine WO.gv (Zh.yes rfl rfl rfl fh) rfl (fun hg=>(XJ Zbx (Zz (Ya rfl (Ya rfl e7)) rfl))) ?_;refine WO.gv (Zh.yes rfl rfl rfl (Zi rfl fh)) rfl (fun hg=>(Zy YS (Yw fh rfl hg) (hS.Qw k0) (j:=3) rfl (v:= .int .i64 p0.ZH) rfl)) ?_;refine WO.gv (Zh.yes rfl rfl rfl (ZR rfl fh)) rfl (fun hg=>(Y3 (Yw fh rfl hg) (JW rfl) JS)) ?_;refine WO.w gN rfl (XK (Zz (ZR rfl (Zi rfl fh)) rfl) (Zcw fh) (JW rfl)) ?_;refine WO.w gN rfl (YG (Zz fh rfl)) ?_;refine WO.nil ?_;refine QD.Yo ?_;refine WC.ret ?_;have hr:=Option.some.inj hL;subst hr;exact ZX.QU rfl (Z5 (Zz fh rfl) Zu) ⟨_,⟨rfl,rfl⟩,hT ▸ hS.only .n⟩
  ·skip;refine WC.seq ?_;refine WC.region ?_;refine WO.w gN rfl (Y3 (Zz (ZR rfl fh) rfl) (JW rfl) JS) ?_;refine WO.w gN rfl (YG (Zz fh rfl)) ?_;refine WO.nil ?_;refine QD.Yo ?_;refine WC.ZnG (Zz fh rfl) (fun hc=>?_) (fun hc=>?_)
   ·replace hL:=WY hc hL;refine WC.skip ?_;exact Y7.Yo _ hL ⟨_,_,rfl,hS.only (.c k1 (.c k0 .n)),(Ya rfl (ZR rfl fh)),(Yb rfl (ZR rfl fh)),(Yb rfl fh),fh⟩
   ·replace hL:=WZ hc hL;refine WC.region ?_;refine WO.w gN rfl (Y3 (Zz (Yb rfl fh) rfl) (JW rfl) JS) ?_;refine WO.w gN rfl (YG (Zz fh rfl)) ?_;refine WO.nil ?_;exact Y7.Yo _ hL ⟨_,_,rfl,hS.only (.c k1 (.c k0 .n)),(Ya rfl (Yb rfl fh)),(Ya rfl fh),(Yb rfl (ZR rfl fh)),fh⟩
theorem ZCq {h:H} {p0:Zv} {p1:Int} {r:Bool} (hL:ZrJ p0 p1=some r):Pure XX 55 #[.agg [.int .i64 p0.Xf,.int .i64 p0.at_,.int .i64 p0.name,.int .i64 p0.ZH].toArray,.int .i64 p1] h (.bool r):=
 WR.YP rfl (ZCp (Nat.le_refl _) hL)
end Go.Proofs.Ytekpjgmhkkjhgaa
end
end
section
namespace Go.Proofs.Ytekpjgmhkkjhgaa
open Go.Lf
def Ziy (p0:Zv) (p1:Int) (x3:Bool):Bool ->Option Bool:=fun v10=>
 (bif v10 then(gd (x3 && (decide (p0.name >=0))) (ZaZ p0.ZH 0 (ZQ (p1 - 1))) default).bind fun Kt=>some (((x3 && (decide (p0.name >=0))) && Kt) && (p0.ZH !=p0.at_)) else(bif(p0.Xf==3) then some ((x3 && (decide (p0.name >=0))) && (p0.ZH==0)) else(bif(p0.Xf==5) then some (((decide (p0.at_ >=0)) && (p0.name==0)) && (p0.ZH==0)) else some false)))
def ZrH (p0:Zv) (p1:Int):Option Bool:=
 (ZaZ p0.at_ 0 (ZQ (p1 - 1))).bind fun x3=>(bif(p0.Xf==1) then some ((x3 && (p0.name==0)) && (p0.ZH==0)) else(bif(p0.Xf==2) then(Ziy p0 p1 x3) (p0.Xf==2) else(Ziy p0 p1 x3) (p0.Xf==4)))
def Ziw (p0:(List Int)) (p1:Int):Int ->(Int ->Option Bool) ->Option Bool:=fun v5 Zmu=>
 (bif decide (v5 < (p0.length:Int)) then(ZL p0 v5).bind fun x8=>(bif(x8==p1) then some true else Zmu (ZQ (v5 + 1))) else some false)
def Znd (F:Nat) (p0:(List Int)) (p1:Int):Option Bool:=
 loop F (Ziw p0 p1) 0
def Ziu (p0:Za):(List (List Zb))×Int ->((List (List Zb))×Int ->Option Za) ->Option Za:=fun(v9,v15) Zs9=>
 (bif decide (v15 < (p0.cells.length:Int)) then(ZL p0.cells v15).bind fun x18=>(app 48 ([]:List Zb) x18).bind fun z23=>(app 24 v9 [z23]).bind fun z29=>Zs9 (z29,ZQ (v15 + 1)) else(app 40 ([]:List Zf) p0.notes).bind fun z35=>(app 8 ([]:List Int) p0.freed).bind fun z40=>some (Za.mk v9 z35 p0.names z40))
def Zvc (F:Nat) (p0:Za):Option Za:=
 loop F (Ziu p0) ([],0)
def ZfU (v29:Int) (ZdK:(Int×(List (Zg×Int))×(List (Zg×Int)) ->Option ((List (Zg×Int))×(List (Zg×Int))))):(List (Zg×Int))×(List (Zg×Int)) ->Option ((List (Zg×Int))×(List (Zg×Int))):=fun(v41,v42)=>
 ZdK (ZQ (v29 + 1),v41,v42)
def Zis (p0:Store):Int×(List (Zg×Int))×(List (Zg×Int)) ->(Int×(List (Zg×Int))×(List (Zg×Int)) ->Option ((List (Zg×Int))×(List (Zg×Int)))) ->Option ((List (Zg×Int))×(List (Zg×Int))):=fun(v29,v31,v32) ZdK=>
 (bif decide (v29 < (p0.notes.length:Int)) then(ZL p0.notes v29).bind fun x43=>(bif(x43.kind==1) then(ZaB v32 (Zg.mk x43.via x43.name) 0).bind fun x49=>(ZfU v29 ZdK) (v31,Xh (Kj v32 (Zg.mk x43.via x43.name) 0) (Zg.mk x43.via x43.name) (ZQ (x49 + x43.w))) else(bif(x43.kind==2) then(ZaB v32 (Zg.mk x43.ZH x43.name) 0).bind fun x53=>(ZfU v29 ZdK) (v31,Xh (Kj v32 (Zg.mk x43.ZH x43.name) 0) (Zg.mk x43.ZH x43.name) (ZQ (x53 + x43.w))) else(ZaB v31 (Zg.mk x43.ZH x43.name) 0).bind fun x57=>(ZfU v29 ZdK) (Xh (Kj v31 (Zg.mk x43.ZH x43.name) 0) (Zg.mk x43.ZH x43.name) (ZQ (x57 + 16)),v32))) else some (v31,v32))
def ZfV (F:Nat) (p0:Store):(List (Zg×Int))×(List (Zg×Int)) ->Option ((List (Zg×Int))×(List (Zg×Int))):=fun(v20,v21)=>
 loop F (Zis p0) (0,v20,v21)
def Zll (F:Nat) (p0:Store) (v80:Int) (ZdH:(Int×(List (Zg×Int))×(List (Zg×Int)) ->Option ((List (Zg×Int))×(List (Zg×Int))))):(List (Zg×Int))×(List (Zg×Int)) ->Option ((List (Zg×Int))×(List (Zg×Int))):=fun(v96,v97)=>
 (bif(!true) then(ZfV F p0) (v96,v97) else ZdH (ZQ (v80 + 1),v96,v97))
def Zpd (F:Nat) (p0:Store) (v70:Int) (ZdJ:(Int×(List (Zg×Int))×(List (Zg×Int)) ->Option ((List (Zg×Int))×(List (Zg×Int))))):Int×(List (Zg×Int))×(List (Zg×Int)) ->(Int×(List (Zg×Int))×(List (Zg×Int)) ->Option ((List (Zg×Int))×(List (Zg×Int)))) ->Option ((List (Zg×Int))×(List (Zg×Int))):=fun(v80,v82,v83) ZdH=>
 (bif decide (v80 < p0.names) then(Zan p0.cells (Zg.mk v70 v80) (Zb.mk 0 false 0 0 0 false)).bind fun x85=>(bif x85.2 then(ZaB v82 (Zg.mk v70 x85.1.name) 0).bind fun x99=>(bif decide (x85.1.from_ >=0) then(ZaB v83 (Zg.mk x85.1.from_ x85.1.name) 0).bind fun x103=>(Zll F p0 v80 ZdH) (Xh (Kj v82 (Zg.mk v70 x85.1.name) 0) (Zg.mk v70 x85.1.name) (ZQ (x99 + x85.1.out)),Xh (Kj v83 (Zg.mk x85.1.from_ x85.1.name) 0) (Zg.mk x85.1.from_ x85.1.name) (ZQ (x103 + x85.1.has))) else(Zll F p0 v80 ZdH) (Xh (Kj v82 (Zg.mk v70 x85.1.name) 0) (Zg.mk v70 x85.1.name) (ZQ (x99 + x85.1.out)),v83)) else ZdH (ZQ (v80 + 1),v82,v83)) else ZdJ (ZQ (v70 + 1),v82,v83))
def Zpe (F:Nat) (p0:Store):Int×(List (Zg×Int))×(List (Zg×Int)) ->(Int×(List (Zg×Int))×(List (Zg×Int)) ->Option ((List (Zg×Int))×(List (Zg×Int)))) ->Option ((List (Zg×Int))×(List (Zg×Int))):=fun(v70,v72,v73) ZdJ=>
 (bif decide (v70 < p0.machines) then loop F (Zpd F p0 v70 ZdJ) (0,v72,v73) else(ZfV F p0) (v72,v73))
def ZrF (F:Nat) (p0:Store):Option ((List (Zg×Int))×(List (Zg×Int))):=
 loop F (Zpe F p0) (0,[],[])
def Ziq (p0:Za) (p1:Int) (p2:Int):Int ->(Int ->Option Int) ->Option Int:=fun v8 Zcb=>
 (ZL p0.cells p1).bind fun UU=>(bif decide (v8 < (UU.length:Int)) then(ZL p0.cells p1).bind fun x16=>(ZL x16 v8).bind fun x21=>(bif(x21.name==p2) then some v8 else Zcb (ZQ (v8 + 1))) else some (-1))
def Zdh (F:Nat) (p0:Za) (p1:Int) (p2:Int):Option Int:=
 loop F (Ziq p0 p1 p2) 0
end Go.Proofs.Ytekpjgmhkkjhgaa
end
section
set_option maxRecDepth 20000
noncomputable section
namespace Go.Proofs.Ytekpjgmhkkjhgaa
open Go.Yy Go.Lf
theorem ZCn {wm:Nat} {h:H} {p0:Zv} {p1:Int} {r:Bool} (ZJ:wm <=h.size) (hL:ZrH p0 p1=some r):
 WR XX 58 #[.agg [.int .i64 p0.Xf,.int .i64 p0.at_,.int .i64 p0.name,.int .i64 p0.ZH].toArray,.int .i64 p1] wm h (CP (fun(v:Value) (Gb:List (Ast wm))=>v= .bool r∧Gb= []) [] h):=by
 refine bg Try.ntmps58 ZJ ZO.nil ?_;intro T hT hS;unfold ZrH at hL;refine r3 ?_;rintro _ h2 ⟨b1,eb1,rfl,hS⟩;refine r8 ?_;refine r1 ?_;obtain⟨x3,hx3,hL⟩:=bind_some hL;refine WO.cp gN rfl (YF.fn Zap (Zc lk (Zc lk (Zc lk Zj)))) (Wi hx3) ?_;refine r16 ?_;refine r1 ?_;refine cn hL ?_ ?_
 ·intro hc hL;refine r16 ?_;refine r3 ?_;exact rt hL hT hS
 ·intro hc hL;refine WC.Ke (r:=r) (fun(v10:Bool) (s:Fs)=>∃ (fr5:Fr) (h4:H),s= ⟨fr5,[],h4,none⟩∧Sp wm T h [bx wm b1 [.int .i64 p0.Xf,.int .i64 p0.at_,.int .i64 p0.name,.int .i64 p0.ZH]] h4∧fr5.at 1= .int .i64 p1∧fr5.at 2= .pointer (some ⟨b1,0,none⟩)∧fr5.at 5= .bool x3∧fr5.at 12= .int .i64 p0.Xf∧fr5.at 26= .bool v10) (Ziy p0 p1 x3) ?_ ?_
  ·clear hL hS;rintro v10 s hL ⟨fr5,h4,rfl,hS,e6,e7,e8,e9,e11⟩;dsimp only [Ziy] at hL;refine cn hL ?_ ?_
   ·intro hc hL;refine QW ?_;refine r1 ?_;obtain⟨Kt,Zk0,hL⟩:=Z0 hL;refine WO.gcp (Zh.yes rfl rfl rfl (Yb rfl fh)) rfl (fun hg=>(YF.fn Zap (Zc (Yw (ZR rfl fh) rfl hg) (Zc lk (Zc (Yw fh rfl hg) Zj))))) (fun hg=>Wi (Zk0 hg)) ?_;refine QW ?_;refine r2 ?_;exact rt hL hT hS
   ·intro hc hL;refine r6 ?_;refine cn hL ?_ ?_
    ·intro hc hL;refine r16 ?_;refine r3 ?_;exact rt hL hT hS
    ·intro hc hL;refine r6 ?_;refine cn hL ?_ ?_
     ·intro hc hL;refine r16 ?_;refine r4 ?_;refine r1 ?_;exact rt hL hT hS
     ·intro hc hL;refine r8 ?_;refine r1 ?_;exact rt hL hT hS
  ·skip;refine r6 ?_;refine cn hL ?_ ?_
   ·intro hc hL;refine r1 ?_;exact Y7.Yo _ hL ⟨_,_,rfl,hS.only (.c k0 .n),YK⟩
   ·intro hc hL;refine r4 ?_;exact Y7.Yo _ hL ⟨_,_,rfl,hS.only (.c k0 .n),YK⟩
theorem ZCo {h:H} {p0:Zv} {p1:Int} {r:Bool} (hL:ZrH p0 p1=some r):Pure XX 58 #[.agg [.int .i64 p0.Xf,.int .i64 p0.at_,.int .i64 p0.name,.int .i64 p0.ZH].toArray,.int .i64 p1] h (.bool r):=
 WR.YP rfl (ZCn (Nat.le_refl _) hL)
theorem ZCk {F wm:Nat} {h:H} {p0:(List Int)} {p1:Int} {Zr:Option Addr} {Zq:Nat} {r:Bool} (ZJ:wm <=h.size) (Zw:Sl (ZA .i64) wm h Zr Zq p0) (hL:Znd F p0 p1=some r):
 WR XX 61 #[.slice Zr p0.length Zq,.int .i64 p1] wm h (CP (fun(v:Value) (Gb:List (Ast wm))=>v= .bool r∧Gb= []) [] h):=by
 refine bg Try.ntmps61 ZJ ZO.nil ?_;intro T hT hS;unfold Znd at hL;refine QW ?_;refine WC.loop (WL.lift hL (fun(v5:Int) (s:Fs)=>∃ (Jb:Fr) (h1:H),s= ⟨Jb,[],h1,none⟩∧Sp wm T h [] h1∧Jb.at 0= .slice Zr p0.length Zq∧Jb.at 1= .int .i64 p1∧Jb.at 5= .int .i64 v5) ⟨_,_,rfl,hS.only .n,YK⟩ ?_);clear hL hS;rintro Zmu v5 s ZoO hL ⟨Jb,h1,rfl,hS,e3,e4,e6⟩;dsimp only [Ziw] at hL;refine r8 ?_;refine r1 ?_;refine cn hL ?_ ?_
 ·intro hc hL;refine r8 ?_;obtain⟨x8,hx8,hL⟩:=bind_some hL;obtain⟨b9,o10,_,Zt1,Zux,ZBK,ZJl⟩:=Sl.at_ Zw hx8;refine WO.w gN rfl (Zx Xp Yx lk lk rfl Zt1 hx8) ?_;refine WO.w gN rfl (Zy YS (Zz fh rfl) (At.fz hS.fz ZBK Zux) (j:=0) rfl (v:= .int .i64 x8) rfl) ?_;refine r4 ?_;refine cn hL ?_ ?_
  ·intro hc hL;refine r8 ?_;refine r3 ?_;exact rt hL hT hS
  ·intro hc hL;refine r8 ?_;exact Yg.Yo (ZoO _ _ hL ⟨_,_,rfl,hS.only .n,YK⟩)
 ·intro hc hL;refine r8 ?_;refine r3 ?_;exact rt hL hT hS
theorem Zpf {F:Nat} {h:H} {p0:(List Int)} {p1:Int} {Zr:Option Addr} {Zq:Nat} {r:Bool} (Zw:Sl (ZA .i64) h.size h Zr Zq p0) (hL:Znd F p0 p1=some r):Pure XX 61 #[.slice Zr p0.length Zq,.int .i64 p1] h (.bool r):=
 WR.YP rfl (ZCk (Nat.le_refl _) Zw hL)
theorem ZCh {F wm:Nat} {h:H} {p0:Za} {Zr:Option Addr} {Zq:Nat} {Zp:Option Addr} {Zo:Nat} {Zn:Option Addr} {Zm:Nat} {r:Za} (ZJ:wm <=h.size) (Zw:Sl (rSl Zd) wm h Zr Zq p0.cells) (ZF:Sl Ze wm h Zp Zo p0.notes) (ZC:Sl (ZA .i64) wm h Zn Zm p0.freed) (hL:Zvc F p0=some r):
 WR XX 65 #[.agg [.slice Zr p0.cells.length Zq,.slice Zp p0.notes.length Zo,.int .i64 p0.names,.slice Zn p0.freed.length Zm].toArray] wm h (CP (fun(v:Value) (Gb:List (Ast wm))=>∃ (YC:Option Addr) (YA:Nat) (YB:Nat) (Xc:Nat ->Option Addr×Nat×Nat) (Y2:Option Addr) (YX:Nat) (Y0:Nat) (Y1:Option Addr) (YW:Nat) (YZ:Nat),v= .agg [.slice YC YA YB,.slice Y2 YX Y0,.int .i64 r.names,.slice Y1 YW YZ].toArray∧Gb= [JV wm (Ye Zd) YC YA YB Xc r.cells,ow wm Ze Y2 YX Y0 r.notes,ow wm (ZA .i64) Y1 YW YZ r.freed]) [] h):=by
 refine bg Try.ntmps65 ZJ ZO.nil ?_;intro T hT hS;unfold Zvc at hL;refine r3 ?_;rintro _ h2 ⟨b1,eb1,rfl,hS⟩;refine r1 ?_;rintro _ h4 ⟨b3,eb3,rfl,hS⟩;refine QW ?_;refine r2 ?_;have hS:=hS.Zjj (e:= (Ye Zd)) (ps:=fun _=>(Ye Zd).dflt);refine WC.loop (WL.lift hL (fun(p:(List (List Zb))×Int) (s:Fs)=>match p with | (v9,v15)=>∃ (fr6:Fr) (h5:H) (a10:Option Addr) (c11:Nat) (n12:Nat) (ZAR:Nat ->Option Addr×Nat×Nat),s= ⟨fr6,[],h5,none⟩∧Sp wm T h [JV wm (Ye Zd) a10 n12 c11 ZAR v9,bx wm b1 [.slice Zr p0.cells.length Zq,.slice Zp p0.notes.length Zo,.int .i64 p0.names,.slice Zn p0.freed.length Zm],bx wm b3 [.slice none 0 0,.slice none 0 0,.int .i64 0,.slice none 0 0]] h5∧fr6.at 1= .pointer (some ⟨b1,0,none⟩)∧fr6.at 2= .pointer (some ⟨b3,0,none⟩)∧fr6.at 3= .slice a10 n12 c11∧fr6.at 4= .int .i64 v15) ⟨_,_,none,0,0,(fun _=>(Ye Zd).dflt),rfl,hS.only (.c k0 (.c k1 (.c k0 .n))),YK⟩ ?_);clear hL hS;rintro Zs9 ⟨v9,v15⟩ s Zxx hL ⟨fr6,h5,a10,c11,n12,ZAR,rfl,hS,e7,e8,e14,e16⟩;obtain rfl:=hS.Uv k0;dsimp only [Ziu] at hL;refine r8 ?_;refine r2 ?_;refine cn hL ?_ ?_
 ·intro hc hL;refine r8 ?_;refine r1 ?_;obtain⟨x18,ZdQ,hL⟩:=bind_some hL;obtain⟨b19,o20,⟨a21,c22⟩,Zh8,Zic,ZmS,ZmQ⟩:=Sl.at_ Zw ZdQ;refine WO.w gN rfl (Zx YT Z9 lk lk rfl Zh8 ZdQ) ?_;have Zzq:Sl Zd wm h a21 c22 x18:=ZmQ;refine WO.w gN rfl (Zy Xl (Zz fh rfl) (At.fz hS.fz ZmS Zic) (j:=0) rfl (v:= .slice a21 x18.length c22) rfl) ?_;obtain⟨z23,ZIt,hL⟩:=bind_some hL;have hS:=hS.nil (e:=Zd);refine WO.hv gN rfl (KF (e:=Zd) hS k0 Zaf lk lk (Sl.src (hS.sl Zzq)) rfl ZIt) ?_;rintro _ h26 ⟨a24,c25,rfl,hS⟩;refine WO.hn gN rfl (Zzb (e:=Zd) (x:=z23) hS k0 YT Z9 ZkB rfl rfl (Zk lk ZG) rfl rfl) ?_;rintro _ h28 ⟨b27,ZOD,rfl,hS⟩;obtain⟨z29,ZIs,hL⟩:=bind_some hL;refine WO.hv gN rfl (Zzc (e:= (Ye Zd)) hS (.c k1 (.c k0 .n)) ZnV lk lk ZIs) ?_;rintro _ h33 ⟨a30,c31,ZsM,rfl,hS⟩;refine r8 ?_;refine r1 ?_;exact Yg.Yo (Zxx _ _ hL ⟨_,_,a30,c31,z29.length,ZsM,rfl,hS.only (.c k0 (.c k0 (.c k0 .n))),YK⟩)
 ·intro hc hL;refine r8 ?_;refine r2 ?_;rintro h34 hS;refine r6 ?_;obtain⟨z35,ZIr,hL⟩:=bind_some hL;have hS:=hS.nil (e:=Ze);refine WO.hv gN rfl (KF (e:=Ze) hS k0 Wo lk lk (Sl.src (hS.sl ZF)) rfl ZIr) ?_;rintro _ h38 ⟨a36,c37,rfl,hS⟩;refine r2 ?_;rintro h39 hS;refine r6 ?_;obtain⟨z40,ZIq,hL⟩:=bind_some hL;have hS:=hS.nil (e:= (ZA .i64));refine WO.hv gN rfl (KF (e:= (ZA .i64)) hS k0 Kq lk lk (Sl.src (hS.sl ZC)) rfl ZIq) ?_;rintro _ h43 ⟨a41,c42,rfl,hS⟩;refine r2 ?_;rintro h44 hS;refine r6 ?_;rintro h45 hS;refine r3 ?_;have hr:=Option.some.inj hL;subst hr;exact ZX.QU rfl (ZP (Ya rfl (Ya rfl e8)) (ZV X7 Y4 (hS.Qw k0) (j:=0) rfl rfl (ws:= [.slice a10 v9.length c11,.slice a36 z35.length c37,.int .i64 p0.names,.slice a41 z40.length c42]) rfl) Zu) ⟨_,⟨a10,v9.length,c11,ZAR,a36,z35.length,c37,a41,z40.length,c42,rfl,rfl⟩,hT ▸ hS.only (.c k4 (.c k3 (.c k2 .n)))⟩
theorem Zva {F wm:Nat} {h:H} {p0:Store} {ZM:Option Nat} {Zp:Option Addr} {Zo:Nat} {Zn:Option Addr} {Zm XA UW:Nat} {r:((List (Zg×Int))×(List (Zg×Int)))} (ZJ:wm <=h.size) (Xe:At h XA UW [.int .i64 p0.machines,.int .i64 p0.names,.map ZM,.slice Zp p0.notes.length Zo,.slice Zn p0.freed.length Zm]) (Xd:Stb wm h XA) (Zw:UC Zl Zt wm h ZM p0.cells) (ZF:Sl Ze wm h Zp Zo p0.notes) (ZC:Sl (ZA .i64) wm h Zn Zm p0.freed) (hL:ZrF F p0=some r):
 WR XX 68 #[.pointer (some ⟨XA,UW,none⟩)] wm h (CP (fun(v:Value) (Gb:List (Ast wm))=>∃ (Zb0:Nat) (Zzd:Nat),v= .tuple [.map (some Zb0),.map (some Zzd)].toArray∧Gb= [mp wm Zl (Value.int .i64) (some Zb0) r.1,mp wm Zl (Value.int .i64) (some Zzd) r.2]) [] h):=by
 refine WF.Zgj (args:= [_]) (fn:=Try.f68) (by kernel_rfl) (by exact rfl) Try.ntmps68 (by simp) ?_;simp only [ZT,Z4,Nat.reduceAdd];obtain⟨T,hT,hS⟩:∃ T,T=XG (wm:=wm) []∧Sp wm T h [] h:= ⟨_,rfl,Sp.start ZJ ZO.nil⟩
 unfold ZrF at hL;refine r3 ?_;rintro _ h2 ⟨b1,eb1,rfl,hS⟩;refine r1 ?_;rintro _ h4 ⟨b3,eb3,rfl,hS⟩;refine r4 ?_;refine WO.hn gN rfl (ZsH Zl (Value.int .i64) hS) ?_;rintro _ h5 ⟨b6,eb6,rfl,hS⟩;refine WO.hn gN rfl (ZsH Zl (Value.int .i64) hS) ?_;rintro _ h7 ⟨b8,eb8,rfl,hS⟩;refine r1 ?_;rintro h9 hS;refine r1 ?_;rintro h10 hS;refine r6 ?_;refine WO.inl gN rfl (YF.fn ZtO (Zc lk Zj)) (WF.begin (args:= [_]) (fn:=Try.f71) (by kernel_rfl) (by exact rfl) Try.ntmps71 (by simp) ?_);simp only [ZT,Z4,Nat.reduceAdd];refine r3 ?_;rintro _ h12 ⟨b11,ZOJ,rfl,hS⟩;refine r4 ?_;refine r1 ?_;refine WO.w gN rfl (Zgl (Zc lk Zj)) ?_;refine r4 ?_;refine ZX.QU rfl (Z5 lk Zu) ?_;refine r3 ?_;refine WC.Zol (first:= []) (cap:= [.pointer (some ⟨b11,0,none⟩)]) hS lk ZoW ?_;intro h13 l14 ZnD Zy2 Zqq hS;refine WR.ZAZ (r:=r) (fun(p:(List (Zg×Int))×(List (Zg×Int))) (v:Value) (h18:H)=>match p with | (v20,v21)=>v= .tuple [].toArray∧Sp wm T h [bx wm b1 [.map (some b6)],bx wm b3 [.map (some b8)],bx wm b11 [.pointer (some ⟨XA,UW,none⟩)],mp wm Zl (Value.int .i64) (some b6) v20,mp wm Zl (Value.int .i64) (some b8) v21,ob wm l14 Zy2,ob wm ZnD .deferred] h18) (ZfV F p0) ?_ (WF.begin (args:= [_,_]) (fn:=Try.f110) (by kernel_rfl) (by exact rfl) Try.ntmps110 (by simp) ?_)
 ·clear hL hS;rintro⟨v20,v21⟩ v h18 hL ⟨rfl,hS⟩;dsimp only [ZfV] at hL;refine RgE.sp Zqq hS k5 ?_;rintro h22 hS;refine r8 ?_;refine WO.w gN rfl (Zy ZnZ (Zz fh rfl) (At.fz hS.fz Xd Xe) (j:=3) rfl (v:= .slice Zp p0.notes.length Zo) rfl) ?_;refine r4 ?_;refine r1 ?_;refine WC.loop (WL.lift hL (fun(p:Int×(List (Zg×Int))×(List (Zg×Int))) (s:Fs)=>match p with | (v29,v31,v32)=>∃ (K8:Fr) (h23:H),s= ⟨K8,[⟨.collected ZnD,#[]⟩],h23,none⟩∧Sp wm T h [bx wm b1 [.map (some b6)],bx wm b3 [.map (some b8)],mp wm Zl (Value.int .i64) (some b6) v31,mp wm Zl (Value.int .i64) (some b8) v32,ob wm ZnD .deferred] h23∧K8.at 2= .pointer (some ⟨b1,0,none⟩)∧K8.at 3= .pointer (some ⟨b3,0,none⟩)∧K8.at 43= .slice Zp p0.notes.length Zo∧K8.at 44= .int .i64 (p0.notes.length:Int)∧K8.at 45= .int .i64 v29) ⟨_,_,rfl,hS.only (.c k0 (.c k0 (.c k1 (.c k1 (.c k1 .n))))),YK⟩ ?_);clear hL hS;rintro ZdK ⟨v29,v31,v32⟩ s Zxr hL ⟨K8,h23,rfl,hS,e25,e26,e27,e28,e30⟩;dsimp only [Zis] at hL;refine r6 ?_;refine cn hL ?_ ?_
  ·intro hc hL;refine r2 ?_;refine WC.Ke (r:=r) (fun(p:(List (Zg×Int))×(List (Zg×Int))) (s:Fs)=>match p with | (v41,v42)=>∃ (Zo3:Fr) (h34:H),s= ⟨Zo3,[⟨.collected ZnD,#[]⟩],h34,none⟩∧Sp wm T h [bx wm b1 [.map (some b6)],bx wm b3 [.map (some b8)],mp wm Zl (Value.int .i64) (some b6) v41,mp wm Zl (Value.int .i64) (some b8) v42,ob wm ZnD .deferred] h34∧Zo3.at 2= .pointer (some ⟨b1,0,none⟩)∧Zo3.at 3= .pointer (some ⟨b3,0,none⟩)∧Zo3.at 43= .slice Zp p0.notes.length Zo∧Zo3.at 44= .int .i64 (p0.notes.length:Int)∧Zo3.at 45= .int .i64 v29) (ZfU v29 ZdK) ?_ ?_
   ·clear hL hS;rintro⟨v41,v42⟩ s hL ⟨Zo3,h34,rfl,hS,e36,e37,e38,e39,e40⟩;dsimp only [ZfU] at hL;refine r4 ?_;exact Yg.Yo (Zxr _ _ hL ⟨_,_,rfl,hS.only (.c k0 (.c k0 (.c k0 (.c k0 (.c k0 .n))))),YK⟩)
   ·skip;refine r3 ?_;obtain⟨x43,ZgS,hL⟩:=bind_some hL;obtain⟨b44,o45,_,ZmN,ZmW,Zur,ZzS⟩:=Sl.at_ ZF ZgS;refine WO.w gN rfl (Zx QV YV lk lk rfl ZmN ZgS) ?_;refine WO.w gN rfl (Ql ZbJ YV (Zz fh rfl) (At.fz hS.fz Zur ZmW) (j:=0) rfl rfl (ws:= [.int .i64 x43.kind,.int .i64 x43.ZH,.int .i64 x43.name,.int .i64 x43.via,.int .i64 x43.w]) rfl) ?_;refine r1 ?_;rintro _ h47 ⟨b46,ZGw,rfl,hS⟩;refine r1 ?_;rintro h48 hS;refine QW ?_;refine r3 ?_;refine cn hL ?_ ?_
    ·intro hc hL;refine WC.Yn mixed (by kernel_rfl) ?_;refine r4 ?_;refine r1 ?_;refine WX.w gN rfl (Xn XY (Zk lk (Zk lk ZG)) rfl (cs':= [.int .i64 x43.via,.int .i64 x43.name]) rfl) ?_ rfl;obtain⟨x49,ZoB,hL⟩:=bind_some hL;refine WX.Ztl (kv:=Zl) (vv:= (Value.int .i64)) (k:= (Zg.mk x43.via x43.name)) (z:=0) gN rfl Y5 U0 Ud (Zz (Yb rfl (Zi rfl fh)) rfl) (Zz fh rfl) (hS.get k4).at_ ZoB 10 (w:= .int .i64 x49) rfl (fun _=>rfl) ?_ rfl;refine r3 ?_;refine WX.Zvv (kv:=Zl) (vv:= (Value.int .i64)) (k:= (Zg.mk x43.via x43.name)) (z:=0) gN rfl hS k4 Y5 U0 Ud (Zz (Ya rfl (Zi rfl fh)) rfl) (Zz (Yb rfl fh) rfl) ?_ rfl 6 (by kernel_rfl) (by kernel_rfl) (by simp);rintro _ h50 ⟨b51,rfl,hS⟩;refine WX.w gN rfl (WQ lk (v:= .int .i64 (b51:Nat)) rfl) ?_ (by kernel_rfl);refine WX.hu gN (Zml (kv:=Zl) (vv:= (Value.int .i64)) (v:=ZQ (x49 + x43.w)) hS k0 (Zz (Ya rfl (ZR rfl (Zi rfl fh))) rfl) (Zz fh rfl) (Zz (ZR rfl fh) rfl)) ?_ rfl (by kernel_rfl) [] (by kernel_rfl) Yh.e;rintro h52 hS;refine r3 ?_;exact Y7.Yo _ hL ⟨_,_,rfl,hS.only (.c k2 (.c k2 (.c k2 (.c k0 (.c k1 .n))))),YK⟩
    ·intro hc hL;refine r6 ?_;refine cn hL ?_ ?_
     ·intro hc hL;refine WC.Yn mixed (by kernel_rfl) ?_;refine r4 ?_;refine r1 ?_;refine WX.w gN rfl (Xn XY (Zk lk (Zk lk ZG)) rfl (cs':= [.int .i64 x43.ZH,.int .i64 x43.name]) rfl) ?_ rfl;obtain⟨x53,Ztq,hL⟩:=bind_some hL;refine WX.Ztl (kv:=Zl) (vv:= (Value.int .i64)) (k:= (Zg.mk x43.ZH x43.name)) (z:=0) gN rfl Y5 U0 Ud (Zz (Yb rfl (Zi rfl fh)) rfl) (Zz fh rfl) (hS.get k4).at_ Ztq 10 (w:= .int .i64 x53) rfl (fun _=>rfl) ?_ rfl;refine r3 ?_;refine WX.Zvv (kv:=Zl) (vv:= (Value.int .i64)) (k:= (Zg.mk x43.ZH x43.name)) (z:=0) gN rfl hS k4 Y5 U0 Ud (Zz (Ya rfl (Zi rfl fh)) rfl) (Zz (Yb rfl fh) rfl) ?_ rfl 6 (by kernel_rfl) (by kernel_rfl) (by simp);rintro _ h54 ⟨b55,rfl,hS⟩;refine WX.w gN rfl (WQ lk (v:= .int .i64 (b55:Nat)) rfl) ?_ (by kernel_rfl);refine WX.hu gN (Zml (kv:=Zl) (vv:= (Value.int .i64)) (v:=ZQ (x53 + x43.w)) hS k0 (Zz (Ya rfl (ZR rfl (Zi rfl fh))) rfl) (Zz fh rfl) (Zz (ZR rfl fh) rfl)) ?_ rfl (by kernel_rfl) [] (by kernel_rfl) Yh.e;rintro h56 hS;refine r3 ?_;exact Y7.Yo _ hL ⟨_,_,rfl,hS.only (.c k2 (.c k2 (.c k2 (.c k0 (.c k1 .n))))),YK⟩
     ·intro hc hL;refine WC.Yn mixed (by kernel_rfl) ?_;refine r4 ?_;refine r1 ?_;refine WX.w gN rfl (Xn XY (Zk lk (Zk lk ZG)) rfl (cs':= [.int .i64 x43.ZH,.int .i64 x43.name]) rfl) ?_ rfl;obtain⟨x57,ZA6,hL⟩:=bind_some hL;refine WX.Ztl (kv:=Zl) (vv:= (Value.int .i64)) (k:= (Zg.mk x43.ZH x43.name)) (z:=0) gN rfl Y5 U0 Ud (Zz (Yb rfl (Zi rfl fh)) rfl) (Zz fh rfl) (hS.get k3).at_ ZA6 8 (w:= .int .i64 x57) rfl (fun _=>rfl) ?_ rfl;refine r1 ?_;refine WX.Zvv (kv:=Zl) (vv:= (Value.int .i64)) (k:= (Zg.mk x43.ZH x43.name)) (z:=0) gN rfl hS k3 Y5 U0 Ud (Zz (Yb rfl (ZR rfl (Zi rfl fh))) rfl) (Zz (ZR rfl fh) rfl) ?_ rfl 6 (by kernel_rfl) (by kernel_rfl) (by simp);rintro _ h58 ⟨b59,rfl,hS⟩;refine WX.w gN rfl (WQ lk (v:= .int .i64 (b59:Nat)) rfl) ?_ (by kernel_rfl);refine WX.hu gN (Zml (kv:=Zl) (vv:= (Value.int .i64)) (v:=ZQ (x57 + 16)) hS k0 (Zz (Ya rfl (Zi rfl fh)) rfl) (Zz fh rfl) (Zz (ZR rfl fh) rfl)) ?_ rfl (by kernel_rfl) [] (by kernel_rfl) Yh.e;rintro h60 hS;refine r3 ?_;exact Y7.Yo _ hL ⟨_,_,rfl,hS.only (.c k2 (.c k2 (.c k0 (.c k1 (.c k1 .n))))),YK⟩
  ·intro hc hL;refine r6 ?_;refine WC.Yn mixed (by kernel_rfl) ?_;refine r1 ?_;refine WX.wr (fun x=>x=b3) hS gN rfl (fun _ _ hR=>Zy ZlW (Zz (ZR rfl e26) rfl) (At.eqv (hR b3 rfl) (hS.Qw k1)) (j:=0) rfl (v:= .map (some b8)) rfl) ?_ rfl rfl;rintro h61 e62 hS;refine WX.hu gN (ZbK hS k0 ZkF lk lk (vs:= [.map (some b6)]) rfl rfl rfl rfl (cs':= [.map (some b6)]) rfl) ?_ rfl rfl [1] (by kernel_rfl) (.c .z (hS.dj (.c k0 (.c k0 .n))) Yh.e);rintro h63 hS;refine WX.hu gN (ZbK hS k1 ZkF lk lk (vs:= [.map (some b8)]) rfl rfl rfl rfl (cs':= [.map (some b8)]) rfl) ?_ rfl (by kernel_rfl) [] (by kernel_rfl) Yh.e;rintro h64 hS;refine r3 ?_;refine X0.ZCJ hS k4 ?_;rintro h65 hS;have hr:=Option.some.inj hL;subst hr;exact X0.gen rfl (ZP (ZR rfl (Zi rfl e25)) (KR ZlW (hS.Qw k1) (j:=0) rfl (v:= .map (some b6)) rfl) (ZP (ZR rfl (Zi rfl e26)) (KR ZlW (hS.Qw k0) (j:=0) rfl (v:= .map (some b8)) rfl) Zu)) rfl ⟨_,⟨b6,b8,rfl,rfl⟩,hT ▸ hS.only (.c k2 (.c k2 .n))⟩
 ·skip;simp only [ZT,Z4,Nat.reduceAdd];refine r6 ?_;refine WC.loop (WL.lift hL (fun(p:Int×(List (Zg×Int))×(List (Zg×Int))) (s:Fs)=>match p with | (v70,v72,v73)=>∃ (ZuR:Fr) (h66:H),s= ⟨ZuR,[],h66,none⟩∧Sp wm T h [bx wm b11 [.pointer (some ⟨XA,UW,none⟩)],bx wm b1 [.map (some b6)],bx wm b3 [.map (some b8)],mp wm Zl (Value.int .i64) (some b6) v72,mp wm Zl (Value.int .i64) (some b8) v73,ob wm l14 Zy2,ob wm ZnD .deferred] h66∧ZuR.at 0= .func (.yield l14) #[] #[]∧ZuR.at 1= .pointer (some ⟨b11,0,none⟩)∧ZuR.at 3= .int .i64 v70) ⟨_,_,rfl,hS.only (.c k2 (.c k3 (.c k2 (.c k3 (.c k2 (.c k0 (.c k0 .n))))))),YK⟩ ?_);clear hL hS;rintro ZdJ ⟨v70,v72,v73⟩ s Zk2 hL ⟨ZuR,h66,rfl,hS,e68,e69,e71⟩;dsimp only [Zpe] at hL;refine r6 ?_;refine r1 ?_;refine WO.w gN rfl (Zy YS (Zz fh rfl) (At.fz hS.fz Xd Xe) (j:=0) rfl (v:= .int .i64 p0.machines) rfl) ?_;refine r3 ?_;refine cn hL ?_ ?_
  ·intro hc hL;refine r8 ?_;refine r2 ?_;refine WC.loop (WL.lift hL (fun(p:Int×(List (Zg×Int))×(List (Zg×Int))) (s:Fs)=>match p with | (v80,v82,v83)=>∃ (Zrz:Fr) (h75:H),s= ⟨Zrz,[],h75,none⟩∧Sp wm T h [bx wm b11 [.pointer (some ⟨XA,UW,none⟩)],bx wm b1 [.map (some b6)],bx wm b3 [.map (some b8)],mp wm Zl (Value.int .i64) (some b6) v82,mp wm Zl (Value.int .i64) (some b8) v83,ob wm l14 Zy2,ob wm ZnD .deferred] h75∧Zrz.at 0= .func (.yield l14) #[] #[]∧Zrz.at 1= .pointer (some ⟨b11,0,none⟩)∧Zrz.at 3= .int .i64 v70∧Zrz.at 4= .int .i64 v80) ⟨_,_,rfl,hS.only (.c k0 (.c k0 (.c k0 (.c k0 (.c k0 (.c k0 (.c k0 .n))))))),YK⟩ ?_);clear hL hS;rintro ZdH ⟨v80,v82,v83⟩ s Zqk hL ⟨Zrz,h75,rfl,hS,e77,e78,e79,e81⟩;dsimp only [Zpd] at hL;refine r6 ?_;refine r1 ?_;refine WO.w gN rfl (Zy YS (Zz fh rfl) (At.fz hS.fz Xd Xe) (j:=1) rfl (v:= .int .i64 p0.names) rfl) ?_;refine r3 ?_;refine cn hL ?_ ?_
   ·intro hc hL;refine r8 ?_;refine r1 ?_;refine WO.w gN rfl (Zy ZgP (Zz fh rfl) (At.fz hS.fz Xd Xe) (j:=2) rfl (v:= .map ZM) rfl) ?_;refine r2 ?_;refine WO.w gN rfl (Xn XY (Zk lk (Zk lk ZG)) rfl (cs':= [.int .i64 v70,.int .i64 v80]) rfl) ?_;obtain⟨x85,Zjl,hL⟩:=bind_some hL;refine WO.w gN rfl (Zae (kv:=Zl) (vv:=Zt) (k:= (Zg.mk v70 v80)) (z:= (Zb.mk 0 false 0 0 0 false)) Y5 Uf QF (Zz (ZR rfl (Zi rfl fh)) rfl) (Zz fh rfl) (hS.ms Zw).at_ Zjl (w:= .agg [.int .i64 x85.1.name,.bool x85.1.root,.int .i64 x85.1.from_,.int .i64 x85.1.has,.int .i64 x85.1.out,.bool x85.1.use].toArray) rfl) ?_;refine r4 ?_;rintro _ h87 ⟨b86,ZOn,rfl,hS⟩;refine r1 ?_;rintro h88 hS;refine r8 ?_;refine r2 ?_;refine WO.Zla (Zh.yes rfl rfl rfl (ZR rfl (Zi rfl fh))) (fun ZgU=>?_) (fun ZgU=>?_)
    ·replace hL:=WY ZgU hL;refine WO.ZAn (Zh.on (Zh.yes rfl rfl rfl (ZR rfl (Zi rfl fh))) ZgU) rfl (Yw (ZR rfl fh) rfl ZgU) (Zc (Yw (Zi rfl fh) rfl ZgU) (Zc (Yw fh rfl ZgU) Zj)) hS k6 Zqq rfl rfl ?_;refine r6 ?_;refine r1 ?_;rintro _ h91 ⟨b90,ZJQ,rfl,hS⟩;refine r1 ?_;rintro h92 hS;refine r1 ?_;refine AsK.sp Zqq hS k7 ?_;rintro h93 hS;refine WC.jn (r:=r) (fun(p:(List (Zg×Int))×(List (Zg×Int))) (s:Fs)=>match p with | (v96,v97)=>∃ (ZGm:Fr) (h94:H),s= ⟨ZGm,[],h94,none⟩∧Sp wm T h [bx wm b1 [.map (some b6)],bx wm b3 [.map (some b8)],bx wm b11 [.pointer (some ⟨XA,UW,none⟩)],bx wm b86 [.int .i64 x85.1.name,.bool x85.1.root,.int .i64 x85.1.from_,.int .i64 x85.1.has,.int .i64 x85.1.out,.bool x85.1.use],mp wm Zl (Value.int .i64) (some b6) v96,mp wm Zl (Value.int .i64) (some b8) v97,ob wm l14 (bsy Zy2),ob wm ZnD .deferred] h94) (Zll F p0 v80 ZdH) ?_ ?_
     ·clear hL hS;rintro⟨v96,v97⟩ s hL ⟨ZGm,h94,rfl,hS⟩;dsimp only [Zll] at hL;refine BdK.sp Zqq hS k6 ?_;rintro h98 hS;refine WO.w (Zh.on (Zh.yes rfl rfl rfl (Yb rfl fh)) ZgU) rfl (ZlO lk) ?_;refine WO.w gN rfl (ZlM lk ZgU lk) ?_;refine r2 ?_;refine cn hL ?_ ?_
      ·intro hc hL;refine r8 ?_;refine r1 ?_;exact ZX.gen (vs:= []) rfl Zu rfl ⟨_,hL,⟨rfl,hS.only (.c k1 (.c k1 (.c k1 (.c k2 (.c k2 (.c k0 (.c k1 .n)))))))⟩⟩
      ·intro hc hL;refine r8 ?_;exact Yg.Yo (Zqk _ _ hL ⟨_,_,rfl,hS.only (.c k3 (.c k1 (.c k1 (.c k2 (.c k2 (.c k0 (.c k1 .n))))))),YK⟩)
     ·skip;refine r2 ?_;refine WC.Yn mixed (by kernel_rfl) ?_;refine r4 ?_;refine WX.w gN rfl (Xn XY (Zk lk (Zk lk ZG)) rfl (cs':= [.int .i64 v70,.int .i64 x85.1.name]) rfl) ?_ rfl;obtain⟨x99,hx99,hL⟩:=bind_some hL;refine WX.Ztl (kv:=Zl) (vv:= (Value.int .i64)) (k:= (Zg.mk v70 x85.1.name)) (z:=0) gN rfl Y5 U0 Ud (Zz (Yb rfl fh) rfl) (Zz fh rfl) (hS.get k6).at_ hx99 9 (w:= .int .i64 x99) rfl (fun _=>rfl) ?_ rfl;refine r3 ?_;refine WX.Zvv (kv:=Zl) (vv:= (Value.int .i64)) (k:= (Zg.mk v70 x85.1.name)) (z:=0) gN rfl hS k6 Y5 U0 Ud (Zz (Ya rfl fh) rfl) (Zz (Yb rfl fh) rfl) ?_ rfl 5 (by kernel_rfl) (by kernel_rfl) (by simp);rintro _ ZJK ⟨ZKn,rfl,hS⟩;refine WX.w gN rfl (WQ lk (v:= .int .i64 (ZKn:Nat)) rfl) ?_ (by kernel_rfl);refine WX.hu gN (Zml (kv:=Zl) (vv:= (Value.int .i64)) (v:=ZQ (x99 + x85.1.out)) hS k0 (Zz (Ya rfl (ZR rfl fh)) rfl) (Zz fh rfl) (Zz (ZR rfl fh) rfl)) ?_ rfl (by kernel_rfl) [] (by kernel_rfl) Yh.e;rintro ZGk hS;refine r8 ?_;refine r1 ?_;refine cn hL ?_ ?_
      ·intro hc hL;refine WC.Yn mixed (by kernel_rfl) ?_;refine r4 ?_;refine r1 ?_;refine WX.w gN rfl (Xn XY (Zk lk (Zk lk ZG)) rfl (cs':= [.int .i64 x85.1.from_,.int .i64 x85.1.name]) rfl) ?_ rfl;obtain⟨x103,Ztw,hL⟩:=bind_some hL;refine WX.Ztl (kv:=Zl) (vv:= (Value.int .i64)) (k:= (Zg.mk x85.1.from_ x85.1.name)) (z:=0) gN rfl Y5 U0 Ud (Zz (Yb rfl (Zi rfl fh)) rfl) (Zz fh rfl) (hS.get k7).at_ Ztw 10 (w:= .int .i64 x103) rfl (fun _=>rfl) ?_ rfl;refine r3 ?_;refine WX.Zvv (kv:=Zl) (vv:= (Value.int .i64)) (k:= (Zg.mk x85.1.from_ x85.1.name)) (z:=0) gN rfl hS k7 Y5 U0 Ud (Zz (Ya rfl (Zi rfl fh)) rfl) (Zz (Yb rfl fh) rfl) ?_ rfl 6 (by kernel_rfl) (by kernel_rfl) (by simp);rintro _ ZJI ⟨ZKm,rfl,hS⟩;refine WX.w gN rfl (WQ lk (v:= .int .i64 (ZKm:Nat)) rfl) ?_ (by kernel_rfl);refine WX.hu gN (Zml (kv:=Zl) (vv:= (Value.int .i64)) (v:=ZQ (x103 + x85.1.has)) hS k0 (Zz (Ya rfl (ZR rfl (Zi rfl fh))) rfl) (Zz fh rfl) (Zz (ZR rfl fh) rfl)) ?_ rfl (by kernel_rfl) [] (by kernel_rfl) Yh.e;rintro ZOd hS;refine r2 ?_;exact JnK.Yo _ hL ⟨_,_,rfl,hS.only (.c k6 (.c k6 (.c k5 (.c k4 (.c k1 (.c k0 (.c k0 (.c k1 .n))))))))⟩
      ·intro hc hL;refine r2 ?_;exact JnK.Yo _ hL ⟨_,_,rfl,hS.only (.c k5 (.c k5 (.c k4 (.c k3 (.c k0 (.c k2 (.c k0 (.c k1 .n))))))))⟩
    ·replace hL:=WZ ZgU hL;refine WO.Zmt (Zh.yes rfl rfl rfl (ZR rfl (Zi rfl fh))) ZgU rfl ?_;refine WO.Zmt (Zh.yes rfl rfl rfl (Yb rfl fh)) ZgU rfl ?_;refine WO.w gN rfl (ZlN lk ZgU lk) ?_;refine r2 ?_;refine WC.Zgc lk rfl ?_;refine r8 ?_;exact Yg.Yo (Zqk _ _ hL ⟨_,_,rfl,hS.only (.c k1 (.c k1 (.c k1 (.c k1 (.c k1 (.c k1 (.c k1 .n))))))),YK⟩)
   ·intro hc hL;refine r8 ?_;refine r3 ?_;exact Yg.Yo (Zk2 _ _ hL ⟨_,_,rfl,hS.only (.c k0 (.c k0 (.c k0 (.c k0 (.c k0 (.c k0 (.c k0 .n))))))),YK⟩)
  ·intro hc hL;refine r4 ?_;refine ZX.Yo ?_;exact ZX.gen (vs:= []) rfl Zu rfl ⟨_,hL,⟨rfl,hS.only (.c k1 (.c k1 (.c k0 (.c k0 (.c k0 (.c k0 (.c k0 .n)))))))⟩⟩
theorem ZaG {F wm:Nat} {h:H} {p0:Za} {p1 p2:Int} {Zr:Option Addr} {Zq:Nat} {Zp:Option Addr} {Zo:Nat} {Zn:Option Addr} {Zm:Nat} {r:Int} (ZJ:wm <=h.size) (Zw:Sl (rSl Zd) wm h Zr Zq p0.cells) (ZF:Sl Ze wm h Zp Zo p0.notes) (ZC:Sl (ZA .i64) wm h Zn Zm p0.freed) (hL:Zdh F p0 p1 p2=some r):
 WR XX 72 #[.agg [.slice Zr p0.cells.length Zq,.slice Zp p0.notes.length Zo,.int .i64 p0.names,.slice Zn p0.freed.length Zm].toArray,.int .i64 p1,.int .i64 p2] wm h (CP (fun(v:Value) (Gb:List (Ast wm))=>v= .int .i64 r∧Gb= []) [] h):=by
 refine bg Try.ntmps72 ZJ ZO.nil ?_;intro T hT hS;unfold Zdh at hL;refine r3 ?_;rintro _ h2 ⟨b1,eb1,rfl,hS⟩;refine r8 ?_;refine r2 ?_;refine WC.loop (WL.lift hL (fun(v8:Int) (s:Fs)=>∃ (Uy:Fr) (h3:H),s= ⟨Uy,[],h3,none⟩∧Sp wm T h [bx wm b1 [.slice Zr p0.cells.length Zq,.slice Zp p0.notes.length Zo,.int .i64 p0.names,.slice Zn p0.freed.length Zm]] h3∧Uy.at 1= .int .i64 p1∧Uy.at 2= .int .i64 p2∧Uy.at 3= .pointer (some ⟨b1,0,none⟩)∧Uy.at 7= .int .i64 v8) ⟨_,_,rfl,hS.only (.c k0 .n),YK⟩ ?_);clear hL hS;rintro Zcb v8 s Zet hL ⟨Uy,h3,rfl,hS,e5,e6,e7,e9⟩;dsimp only [Ziq] at hL;refine r6 ?_;refine r1 ?_;obtain⟨UU,Kl,hL⟩:=bind_some hL;obtain⟨b12,o13,⟨a14,c15⟩,ZaY,Zcp,Zez,ZmR⟩:=Sl.at_ Zw Kl;refine WO.w gN rfl (Zx YT Z9 lk lk rfl ZaY Kl) ?_;have ZK7:Sl Zd wm h a14 c15 UU:=ZmR;refine WO.w gN rfl (Zy Xl (Zz fh rfl) (At.fz hS.fz Zez Zcp) (j:=0) rfl (v:= .slice a14 UU.length c15) rfl) ?_;refine r4 ?_;refine cn hL ?_ ?_
 ·intro hc hL;refine r8 ?_;refine r1 ?_;obtain⟨x16,hx16,hL⟩:=bind_some hL;obtain⟨b17,o18,⟨a19,c20⟩,ZFs,ZGd,ZFR,ZFD⟩:=Sl.at_ Zw hx16;refine WO.w gN rfl (Zx YT Z9 lk lk rfl ZFs hx16) ?_;have ZEw:Sl Zd wm h a19 c20 x16:=ZFD;refine WO.w gN rfl (Zy Xl (Zz fh rfl) (At.fz hS.fz ZFR ZGd) (j:=0) rfl (v:= .slice a19 x16.length c20) rfl) ?_;refine r1 ?_;obtain⟨x21,Zcj,hL⟩:=bind_some hL;obtain⟨b22,o23,_,ZmO,Zm1,Zuv,ZzW⟩:=Sl.at_ ZEw Zcj;refine WO.w gN rfl (Zx Xg ZW lk lk rfl ZmO Zcj) ?_;refine r1 ?_;refine WO.w gN rfl (Zy YS (Zz fh rfl) (At.fz hS.fz Zuv Zm1) (j:=0) rfl (v:= .int .i64 x21.name) rfl) ?_;refine r4 ?_;refine cn hL ?_ ?_
  ·intro hc hL;refine QW ?_;exact rt hL hT hS
  ·intro hc hL;refine r8 ?_;exact Yg.Yo (Zet _ _ hL ⟨_,_,rfl,hS.only (.c k0 .n),YK⟩)
 ·intro hc hL;refine r8 ?_;refine r3 ?_;exact rt hL hT hS
end Go.Proofs.Ytekpjgmhkkjhgaa
end
end
section
namespace Go.Proofs.Ytekpjgmhkkjhgaa
open Go.Lf
def Zpb (p0:(List Zf)):Option (List Zf):=
 (app 40 ([]:List Zf) p0).bind fun z3=>some z3
def Zpa (p0:(List Int)):Option (List Int):=
 (app 8 ([]:List Int) p0).bind fun z3=>some z3
def Zim (v25:Int) (Zfy:(Int×(List Int) ->Option (List Int))):(List Int) ->Option (List Int):=fun v39=>
 Zfy (ZQ (v25 + 1),v39)
def Zin (p0:Store) (p1:Int):Int×(List Int) ->(Int×(List Int) ->Option (List Int)) ->Option (List Int):=fun(v25,v27) Zfy=>
 (bif decide (v25 < (p0.notes.length:Int)) then(ZL p0.notes v25).bind fun x43=>(bif((x43.kind==3) && (x43.name==p1)) then(app 8 v27 [x43.ZH]).bind fun z51=>(Zim v25 Zfy) z51 else(Zim v25 Zfy) v27) else some v27)
def ZfN (F:Nat) (p0:Store) (p1:Int):(List Int) ->Option (List Int):=fun v14=>
 loop F (Zin p0 p1) (0,v14)
def Zlk (F:Nat) (p0:Store) (p1:Int) (v73:Int) (ZdI:(Int×(List Int) ->Option (List Int))):(List Int) ->Option (List Int):=fun v91=>
 (bif(!true) then(ZfN F p0 p1) v91 else ZdI (ZQ (v73 + 1),v91))
def Zo7 (F:Nat) (p0:Store) (p1:Int) (v61:Int) (ZkM:(Int×(List Int) ->Option (List Int))):Int×(List Int) ->(Int×(List Int) ->Option (List Int)) ->Option (List Int):=fun(v73,v75) ZdI=>
 (bif decide (v73 < p0.names) then(Zan p0.cells (Zg.mk v61 v73) (Zb.mk 0 false 0 0 0 false)).bind fun x80=>(bif x80.2 then(bif((x80.1.name==p1) && x80.1.root) then(app 8 v75 [v61]).bind fun z98=>(Zlk F p0 p1 v73 ZdI) z98 else(Zlk F p0 p1 v73 ZdI) v75) else ZdI (ZQ (v73 + 1),v75)) else ZkM (ZQ (v61 + 1),v75))
def Zo8 (F:Nat) (p0:Store) (p1:Int):Int×(List Int) ->(Int×(List Int) ->Option (List Int)) ->Option (List Int):=fun(v61,v63) ZkM=>
 (bif decide (v61 < p0.machines) then loop F (Zo7 F p0 p1 v61 ZkM) (0,v63) else(ZfN F p0 p1) v63)
def Zu5 (F:Nat) (p0:Store) (p1:Int):Option (List Int):=
 loop F (Zo8 F p0 p1) (0,[])
def Zij (v7:Int) (Ju:(Int ->Option Bool)):Unit ->Option Bool:=fun _=>
 Ju (ZQ (v7 + 1))
def Zik (p0:Store) (p1:Int) (p2:Int) (v7:Int) (Ju:(Int ->Option Bool)):Int×Bool×Int×Int×Bool×Int×Int×Int×Bool ->(Int×Bool×Int×Int×Bool×Int×Int×Int×Bool ->Option Bool) ->Option Bool:=fun(v26,v29,v34,v36,v37,v38,v39,v40,v41) Zs6=>
 (bif decide (v34 < p0.machines) then(bif(v26==p2) then(Zij v7 Ju) () else(bif((!v29) || (decide (v38 < 0))) then some false else(Zan p0.cells (Zg.mk v38 p1) (Zb.mk 0 false 0 0 0 false)).bind fun x43=>Zs6 (v38,x43.2,ZQ (v34 + 1),x43.1.name,x43.1.root,x43.1.from_,x43.1.has,x43.1.out,x43.1.use))) else(bif(v26 !=p2) then some false else(Zij v7 Ju) ()))
def Zil (F:Nat) (p0:Store) (p1:Int) (p2:Int):Int ->(Int ->Option Bool) ->Option Bool:=fun v7 Ju=>
 (bif decide (v7 < p0.machines) then(Zan p0.cells (Zg.mk v7 p1) (Zb.mk 0 false 0 0 0 false)).bind fun x17=>(bif(!x17.2) then(Zij v7 Ju) () else loop F (Zik p0 p1 p2 v7 Ju) (v7,x17.2,0,x17.1.name,x17.1.root,x17.1.from_,x17.1.has,x17.1.out,x17.1.use)) else some true)
def ZrD (F:Nat) (p0:Store) (p1:Int) (p2:Int):Option Bool:=
 loop F (Zil F p0 p1 p2) 0
end Go.Proofs.Ytekpjgmhkkjhgaa
end
section
set_option maxRecDepth 20000
noncomputable section
namespace Go.Proofs.Ytekpjgmhkkjhgaa
open Go.Yy Go.Lf
theorem Zu8 {wm:Nat} {h:H} {p0:(List Zf)} {Zr:Option Addr} {Zq:Nat} {r:(List Zf)} (ZJ:wm <=h.size) (Zw:Sl Ze wm h Zr Zq p0) (hL:Zpb p0=some r):
 WR XX 86 #[.slice Zr p0.length Zq] wm h (CP (fun(v:Value) (Gb:List (Ast wm))=>∃ (YC:Option Addr) (YA:Nat) (YB:Nat),v= .slice YC YA YB∧Gb= [ow wm Ze YC YA YB r]) [] h):=by
 refine bg Try.ntmps86 ZJ ZO.nil ?_;intro T hT hS;unfold Zpb at hL;refine r8 ?_;rcases Sl.cases Zw with⟨rfl,rfl,rfl⟩ | ⟨qa,rfl⟩
 ·
  refine r1 ?_;refine WO.w gN rfl (Y3 (Zz fh rfl) (JW rfl) (Zkw QV)) ?_;refine r2 ?_;refine WC.Zpt lk rfl ?_;rw [ZvV _ (by decide)] at hL;replace hL:some []=some r:=hL;refine r6 ?_;refine r1 ?_;have hS:=hS.nil (e:=Ze);have hr:=Option.some.inj hL;subst hr;exact ZX.QU rfl (Z5 lk Zu) ⟨_,⟨none,0,0,rfl,rfl⟩,hT ▸ hS.only (.c k0 .n)⟩
 ·
  refine r1 ?_;refine WO.w gN rfl (Y3 (Zz fh rfl) (JW rfl) (Zkx QV)) ?_;refine r2 ?_;refine WC.Zgc lk rfl ?_;refine r4 ?_;refine WO.hn gN rfl (ZaO (e:=Ze) hS QV YV KT rfl rfl rfl ZG rfl [] rfl (xs:= ([]:List Zf)) rfl (by intro q hq;cases hq) rfl) ?_;rintro _ h2 ⟨b1,eb1,rfl,hS⟩;refine r1 ?_;obtain⟨z3,hz3,hL⟩:=bind_some hL;refine WO.hv gN rfl (KF (e:=Ze) hS k0 Wo lk lk (Sl.src (hS.sl Zw)) rfl hz3) ?_;rintro _ h6 ⟨a4,c5,rfl,hS⟩;refine r4 ?_;have hr:=Option.some.inj hL;subst hr;exact ZX.QU rfl (Z5 lk Zu) ⟨_,⟨a4,z3.length,c5,rfl,rfl⟩,hT ▸ hS.only (.c k0 .n)⟩
theorem Zu7 {wm:Nat} {h:H} {p0:(List Int)} {Zr:Option Addr} {Zq:Nat} {r:(List Int)} (ZJ:wm <=h.size) (Zw:Sl (ZA .i64) wm h Zr Zq p0) (hL:Zpa p0=some r):
 WR XX 87 #[.slice Zr p0.length Zq] wm h (CP (fun(v:Value) (Gb:List (Ast wm))=>∃ (YC:Option Addr) (YA:Nat) (YB:Nat),v= .slice YC YA YB∧Gb= [ow wm (ZA .i64) YC YA YB r]) [] h):=by
 refine bg Try.ntmps87 ZJ ZO.nil ?_;intro T hT hS;unfold Zpa at hL;refine r8 ?_;rcases Sl.cases Zw with⟨rfl,rfl,rfl⟩ | ⟨qa,rfl⟩
 ·
  refine r1 ?_;refine WO.w gN rfl (Y3 (Zz fh rfl) (JW rfl) (Zkw Xp)) ?_;refine r2 ?_;refine WC.Zpt lk rfl ?_;rw [ZvV _ (by decide)] at hL;replace hL:some []=some r:=hL;refine r6 ?_;refine r1 ?_;have hS:=hS.nil (e:= (ZA .i64));have hr:=Option.some.inj hL;subst hr;exact ZX.QU rfl (Z5 lk Zu) ⟨_,⟨none,0,0,rfl,rfl⟩,hT ▸ hS.only (.c k0 .n)⟩
 ·
  refine r1 ?_;refine WO.w gN rfl (Y3 (Zz fh rfl) (JW rfl) (Zkx Xp)) ?_;refine r2 ?_;refine WC.Zgc lk rfl ?_;refine r4 ?_;refine WO.hn gN rfl (ZaO (e:= (ZA .i64)) hS Xp Yx Ud rfl rfl rfl ZG rfl [] rfl (xs:= ([]:List Int)) rfl (by intro q hq;cases hq) rfl) ?_;rintro _ h2 ⟨b1,eb1,rfl,hS⟩;refine r1 ?_;obtain⟨z3,hz3,hL⟩:=bind_some hL;refine WO.hv gN rfl (KF (e:= (ZA .i64)) hS k0 Kq lk lk (Sl.src (hS.sl Zw)) rfl hz3) ?_;rintro _ h6 ⟨a4,c5,rfl,hS⟩;refine r4 ?_;have hr:=Option.some.inj hL;subst hr;exact ZX.QU rfl (Z5 lk Zu) ⟨_,⟨a4,z3.length,c5,rfl,rfl⟩,hT ▸ hS.only (.c k0 .n)⟩
theorem ZB8 {F wm:Nat} {h:H} {p0:Store} {p1:Int} {ZM:Option Nat} {Zp:Option Addr} {Zo:Nat} {Zn:Option Addr} {Zm XA UW:Nat} {r:(List Int)} (ZJ:wm <=h.size) (Xe:At h XA UW [.int .i64 p0.machines,.int .i64 p0.names,.map ZM,.slice Zp p0.notes.length Zo,.slice Zn p0.freed.length Zm]) (Xd:Stb wm h XA) (Zw:UC Zl Zt wm h ZM p0.cells) (ZF:Sl Ze wm h Zp Zo p0.notes) (ZC:Sl (ZA .i64) wm h Zn Zm p0.freed) (hL:Zu5 F p0 p1=some r):
 WR XX 90 #[.pointer (some ⟨XA,UW,none⟩),.int .i64 p1] wm h (CP (fun(v:Value) (Gb:List (Ast wm))=>∃ (YC:Option Addr) (YA:Nat) (YB:Nat),v= .slice YC YA YB∧Gb= [ow wm (ZA .i64) YC YA YB r]) [] h):=by
 refine WF.Zgj (args:= [_,_]) (fn:=Try.f90) (by kernel_rfl) (by exact rfl) Try.ntmps90 (by simp) ?_;simp only [ZT,Z4,Nat.reduceAdd];obtain⟨T,hT,hS⟩:∃ T,T=XG (wm:=wm) []∧Sp wm T h [] h:= ⟨_,rfl,Sp.start ZJ ZO.nil⟩
 unfold Zu5 at hL;refine r3 ?_;rintro _ h2 ⟨b1,eb1,rfl,hS⟩;refine r6 ?_;rintro _ h4 ⟨b3,eb3,rfl,hS⟩;refine r6 ?_;refine WO.inl gN rfl (YF.fn ZtO (Zc lk Zj)) (WF.begin (args:= [_]) (fn:=Try.f71) (by kernel_rfl) (by exact rfl) Try.ntmps71 (by simp) ?_);simp only [ZT,Z4,Nat.reduceAdd];refine r3 ?_;rintro _ h6 ⟨b5,eb5,rfl,hS⟩;refine r4 ?_;refine r1 ?_;refine WO.w gN rfl (Zgl (Zc lk Zj)) ?_;refine r4 ?_;refine ZX.QU rfl (Z5 lk Zu) ?_;refine r3 ?_;refine WC.Zol (first:= []) (cap:= [.pointer (some ⟨b5,0,none⟩)]) hS lk ZoW ?_;intro h7 l8 df9 Zy3 Zqr hS;refine WR.ZAZ (r:=r) (fun(v14:(List Int)) (v:Value) (h12:H)=>∃ (a15:Option Addr) (c16:Nat) (n17:Nat),v= .tuple [].toArray∧Sp wm T h [bx wm b1 [.int .i64 p1],ow wm (ZA .i64) a15 n17 c16 v14,bx wm b3 [.slice a15 n17 c16],bx wm b5 [.pointer (some ⟨XA,UW,none⟩)],ob wm l8 Zy3,ob wm df9 .deferred] h12) (ZfN F p0 p1) ?_ (WF.begin (args:= [_,_]) (fn:=Try.f110) (by kernel_rfl) (by exact rfl) Try.ntmps110 (by simp) ?_)
 ·clear hL hS;rintro v14 v h12 hL ⟨a15,c16,n17,rfl,hS⟩;obtain rfl:=hS.on k1;dsimp only [ZfN] at hL;refine RgE.sp Zqr hS k4 ?_;rintro h18 hS;refine r8 ?_;refine WO.w gN rfl (Zy ZnZ (Zz fh rfl) (At.fz hS.fz Xd Xe) (j:=3) rfl (v:= .slice Zp p0.notes.length Zo) rfl) ?_;refine r4 ?_;refine r1 ?_;refine WC.loop (WL.lift hL (fun(p:Int×(List Int)) (s:Fs)=>match p with | (v25,v27)=>∃ (Kv:Fr) (h19:H) (a28:Option Addr) (c29:Nat) (n30:Nat),s= ⟨Kv,[⟨.collected df9,#[]⟩],h19,none⟩∧Sp wm T h [bx wm b1 [.int .i64 p1],ow wm (ZA .i64) a28 n30 c29 v27,bx wm b3 [.slice a28 n30 c29],ob wm df9 .deferred] h19∧Kv.at 3= .pointer (some ⟨b1,0,none⟩)∧Kv.at 5= .pointer (some ⟨b3,0,none⟩)∧Kv.at 29= .slice Zp p0.notes.length Zo∧Kv.at 30= .int .i64 (p0.notes.length:Int)∧Kv.at 31= .int .i64 v25) ⟨_,_,a15,c16,v14.length,rfl,hS.only (.c k0 (.c k0 (.c k0 (.c k1 .n)))),YK⟩ ?_);clear hL hS;rintro Zfy ⟨v25,v27⟩ s Zxs hL ⟨Kv,h19,a28,c29,n30,rfl,hS,e21,e22,e23,e24,e26⟩;obtain rfl:=hS.on k1;dsimp only [Zin] at hL;refine r6 ?_;refine cn hL ?_ ?_
  ·intro hc hL;refine r2 ?_;refine WC.Ke (r:=r) (fun(v39:(List Int)) (s:Fs)=>∃ (ZeE:Fr) (h32:H) (a40:Option Addr) (c41:Nat) (n42:Nat),s= ⟨ZeE,[⟨.collected df9,#[]⟩],h32,none⟩∧Sp wm T h [bx wm b1 [.int .i64 p1],ow wm (ZA .i64) a40 n42 c41 v39,bx wm b3 [.slice a40 n42 c41],ob wm df9 .deferred] h32∧ZeE.at 3= .pointer (some ⟨b1,0,none⟩)∧ZeE.at 5= .pointer (some ⟨b3,0,none⟩)∧ZeE.at 29= .slice Zp p0.notes.length Zo∧ZeE.at 30= .int .i64 (p0.notes.length:Int)∧ZeE.at 31= .int .i64 v25) (Zim v25 Zfy) ?_ ?_
   ·clear hL hS;rintro v39 s hL ⟨ZeE,h32,a40,c41,n42,rfl,hS,e34,e35,e36,e37,e38⟩;obtain rfl:=hS.on k1;dsimp only [Zim] at hL;refine r4 ?_;exact Yg.Yo (Zxs _ _ hL ⟨_,_,a40,c41,v39.length,rfl,hS.only (.c k0 (.c k0 (.c k0 (.c k0 .n)))),YK⟩)
   ·skip;refine r3 ?_;obtain⟨x43,ZgS,hL⟩:=bind_some hL;obtain⟨b44,o45,_,ZmN,ZmW,Zur,ZzS⟩:=Sl.at_ ZF ZgS;refine WO.w gN rfl (Zx QV YV lk lk rfl ZmN ZgS) ?_;refine WO.w gN rfl (Ql ZbJ YV (Zz fh rfl) (At.fz hS.fz Zur ZmW) (j:=0) rfl rfl (ws:= [.int .i64 x43.kind,.int .i64 x43.ZH,.int .i64 x43.name,.int .i64 x43.via,.int .i64 x43.w]) rfl) ?_;refine r1 ?_;rintro _ h47 ⟨b46,ZGw,rfl,hS⟩;refine r1 ?_;rintro h48 hS;refine QW ?_;refine r3 ?_;refine cn hL ?_ ?_
    ·intro hc hL;refine r4 ?_;refine WO.hn gN rfl (ZaO (e:= (ZA .i64)) hS Xp Yx Ud rfl rfl rfl (Zk lk ZG) rfl [((),x43.ZH)] rfl (xs:= [x43.ZH]) rfl (by intro q hq;simp only [List.mem_cons,List.not_mem_nil,or_false] at hq;subst hq;exact trivial) rfl) ?_;rintro _ h50 ⟨b49,ZGv,rfl,hS⟩;obtain⟨z51,ZIn,hL⟩:=bind_some hL;refine WO.hv gN rfl (KF (e:= (ZA .i64)) hS k3 Kq lk lk (hS.QI k0) (hS.on k0) ZIn) ?_;rintro _ h54 ⟨a52,c53,rfl,hS⟩;refine r1 ?_;rintro h55 hS;refine r2 ?_;exact Y7.Yo _ hL ⟨_,_,a52,c53,z51.length,rfl,hS.only (.c k4 (.c k1 (.c k0 (.c k2 .n)))),YK⟩
    ·intro hc hL;refine r2 ?_;exact Y7.Yo _ hL ⟨_,_,a28,c29,v27.length,rfl,hS.only (.c k1 (.c k1 (.c k1 (.c k1 .n)))),YK⟩
  ·intro hc hL;refine QW ?_;refine X0.ZCJ hS k3 ?_;rintro h56 hS;have hr:=Option.some.inj hL;subst hr;exact X0.gen rfl (Z5 lk Zu) rfl ⟨_,⟨a28,v27.length,c29,rfl,rfl⟩,hT ▸ hS.only (.c k1 .n)⟩
 ·skip;simp only [ZT,Z4,Nat.reduceAdd];refine r6 ?_;have hS:=hS.nil (e:= (ZA .i64));refine WC.loop (WL.lift hL (fun(p:Int×(List Int)) (s:Fs)=>match p with | (v61,v63)=>∃ (ZuS:Fr) (h57:H) (a64:Option Addr) (c65:Nat) (n66:Nat),s= ⟨ZuS,[],h57,none⟩∧Sp wm T h [bx wm b5 [.pointer (some ⟨XA,UW,none⟩)],bx wm b1 [.int .i64 p1],ow wm (ZA .i64) a64 n66 c65 v63,bx wm b3 [.slice a64 n66 c65],ob wm l8 Zy3,ob wm df9 .deferred] h57∧ZuS.at 0= .func (.yield l8) #[] #[]∧ZuS.at 1= .pointer (some ⟨b5,0,none⟩)∧ZuS.at 3= .int .i64 v61) ⟨_,_,none,0,0,rfl,hS.only (.c k3 (.c k4 (.c k0 (.c k2 (.c k0 (.c k0 .n)))))),YK⟩ ?_);clear hL hS;rintro ZkM ⟨v61,v63⟩ s Zxg hL ⟨ZuS,h57,a64,c65,n66,rfl,hS,e59,e60,e62⟩;obtain rfl:=hS.on k2;dsimp only [Zo8] at hL;refine r6 ?_;refine r1 ?_;refine WO.w gN rfl (Zy YS (Zz fh rfl) (At.fz hS.fz Xd Xe) (j:=0) rfl (v:= .int .i64 p0.machines) rfl) ?_;refine r3 ?_;refine cn hL ?_ ?_
  ·intro hc hL;refine r8 ?_;refine r2 ?_;refine WC.loop (WL.lift hL (fun(p:Int×(List Int)) (s:Fs)=>match p with | (v73,v75)=>∃ (ZeD:Fr) (h68:H) (a76:Option Addr) (c77:Nat) (n78:Nat),s= ⟨ZeD,[],h68,none⟩∧Sp wm T h [bx wm b5 [.pointer (some ⟨XA,UW,none⟩)],bx wm b1 [.int .i64 p1],ow wm (ZA .i64) a76 n78 c77 v75,bx wm b3 [.slice a76 n78 c77],ob wm l8 Zy3,ob wm df9 .deferred] h68∧ZeD.at 0= .func (.yield l8) #[] #[]∧ZeD.at 1= .pointer (some ⟨b5,0,none⟩)∧ZeD.at 3= .int .i64 v61∧ZeD.at 4= .int .i64 v73) ⟨_,_,a64,c65,v63.length,rfl,hS.only (.c k0 (.c k0 (.c k0 (.c k0 (.c k0 (.c k0 .n)))))),YK⟩ ?_);clear hL hS;rintro ZdI ⟨v73,v75⟩ s Zql hL ⟨ZeD,h68,a76,c77,n78,rfl,hS,e70,e71,e72,e74⟩;obtain rfl:=hS.on k2;dsimp only [Zo7] at hL;refine r6 ?_;refine r1 ?_;refine WO.w gN rfl (Zy YS (Zz fh rfl) (At.fz hS.fz Xd Xe) (j:=1) rfl (v:= .int .i64 p0.names) rfl) ?_;refine r3 ?_;refine cn hL ?_ ?_
   ·intro hc hL;refine r8 ?_;refine r1 ?_;refine WO.w gN rfl (Zy ZgP (Zz fh rfl) (At.fz hS.fz Xd Xe) (j:=2) rfl (v:= .map ZM) rfl) ?_;refine r2 ?_;refine WO.w gN rfl (Xn XY (Zk lk (Zk lk ZG)) rfl (cs':= [.int .i64 v61,.int .i64 v73]) rfl) ?_;obtain⟨x80,ZkX,hL⟩:=bind_some hL;refine WO.w gN rfl (Zae (kv:=Zl) (vv:=Zt) (k:= (Zg.mk v61 v73)) (z:= (Zb.mk 0 false 0 0 0 false)) Y5 Uf QF (Zz (ZR rfl (Zi rfl fh)) rfl) (Zz fh rfl) (hS.ms Zw).at_ ZkX (w:= .agg [.int .i64 x80.1.name,.bool x80.1.root,.int .i64 x80.1.from_,.int .i64 x80.1.has,.int .i64 x80.1.out,.bool x80.1.use].toArray) rfl) ?_;refine r4 ?_;rintro _ h82 ⟨b81,ZOp,rfl,hS⟩;refine r1 ?_;rintro h83 hS;refine r8 ?_;refine r2 ?_;refine WO.Zla (Zh.yes rfl rfl rfl (ZR rfl (Zi rfl fh))) (fun ZgV=>?_) (fun ZgV=>?_)
    ·replace hL:=WY ZgV hL;refine WO.ZAn (Zh.on (Zh.yes rfl rfl rfl (ZR rfl (Zi rfl fh))) ZgV) rfl (Yw (ZR rfl fh) rfl ZgV) (Zc (Yw (Zi rfl fh) rfl ZgV) (Zc (Yw fh rfl ZgV) Zj)) hS k5 Zqr rfl rfl ?_;refine r6 ?_;refine r1 ?_;rintro _ h86 ⟨b85,ZOo,rfl,hS⟩;refine r1 ?_;rintro h87 hS;refine r1 ?_;refine AsK.sp Zqr hS k6 ?_;rintro h88 hS;refine WC.jn (r:=r) (fun(v91:(List Int)) (s:Fs)=>∃ (ZGn:Fr) (h89:H) (a92:Option Addr) (c93:Nat) (n94:Nat),s= ⟨ZGn,[],h89,none⟩∧Sp wm T h [bx wm b1 [.int .i64 p1],ow wm (ZA .i64) a92 n94 c93 v91,bx wm b3 [.slice a92 n94 c93],bx wm b5 [.pointer (some ⟨XA,UW,none⟩)],bx wm b81 [.int .i64 x80.1.name,.bool x80.1.root,.int .i64 x80.1.from_,.int .i64 x80.1.has,.int .i64 x80.1.out,.bool x80.1.use],ob wm l8 (bsy Zy3),ob wm df9 .deferred] h89) (Zlk F p0 p1 v73 ZdI) ?_ ?_
     ·clear hL hS;rintro v91 s hL ⟨ZGn,h89,a92,c93,n94,rfl,hS⟩;obtain rfl:=hS.on k1;dsimp only [Zlk] at hL;refine BdK.sp Zqr hS k5 ?_;rintro h95 hS;refine WO.w (Zh.on (Zh.yes rfl rfl rfl (Yb rfl fh)) ZgV) rfl (ZlO lk) ?_;refine WO.w gN rfl (ZlM lk ZgV lk) ?_;refine r2 ?_;refine cn hL ?_ ?_
      ·intro hc hL;refine r8 ?_;refine r1 ?_;exact ZX.gen (vs:= []) rfl Zu rfl ⟨_,hL,⟨a92,c93,v91.length,rfl,hS.only (.c k1 (.c k1 (.c k1 (.c k1 (.c k0 (.c k1 .n))))))⟩⟩
      ·intro hc hL;refine r8 ?_;exact Yg.Yo (Zql _ _ hL ⟨_,_,a92,c93,v91.length,rfl,hS.only (.c k4 (.c k1 (.c k1 (.c k1 (.c k0 (.c k1 .n)))))),YK⟩)
     ·skip;refine QW ?_;refine r1 ?_;refine cn hL ?_ ?_
      ·intro hc hL;refine r3 ?_;refine WO.hn gN rfl (ZaO (e:= (ZA .i64)) hS Xp Yx Ud rfl rfl rfl (Zk lk ZG) rfl [((),v61)] rfl (xs:= [v61]) rfl (by intro q hq;simp only [List.mem_cons,List.not_mem_nil,or_false] at hq;subst hq;exact trivial) rfl) ?_;rintro _ h97 ⟨b96,ZOm,rfl,hS⟩;obtain⟨z98,ZIg,hL⟩:=bind_some hL;refine WO.hv gN rfl (KF (e:= (ZA .i64)) hS k6 Kq lk lk (hS.QI k0) (hS.on k0) ZIg) ?_;rintro _ ZJJ ⟨a99,ZKc,rfl,hS⟩;refine r1 ?_;rintro ZGk hS;refine r2 ?_;exact JnK.Yo _ hL ⟨_,_,a99,ZKc,z98.length,rfl,hS.only (.c k7 (.c k1 (.c k0 (.c k4 (.c k3 (.c k1 (.c k2 .n)))))))⟩
      ·intro hc hL;refine r2 ?_;exact JnK.Yo _ hL ⟨_,_,a76,c77,v75.length,rfl,hS.only (.c k4 (.c k4 (.c k4 (.c k3 (.c k2 (.c k0 (.c k1 .n)))))))⟩
    ·replace hL:=WZ ZgV hL;refine WO.Zmt (Zh.yes rfl rfl rfl (ZR rfl (Zi rfl fh))) ZgV rfl ?_;refine WO.Zmt (Zh.yes rfl rfl rfl (Yb rfl fh)) ZgV rfl ?_;refine WO.w gN rfl (ZlN lk ZgV lk) ?_;refine r2 ?_;refine WC.Zgc lk rfl ?_;refine r8 ?_;exact Yg.Yo (Zql _ _ hL ⟨_,_,a76,c77,v75.length,rfl,hS.only (.c k1 (.c k1 (.c k1 (.c k1 (.c k1 (.c k1 .n)))))),YK⟩)
   ·intro hc hL;refine r8 ?_;refine r3 ?_;exact Yg.Yo (Zxg _ _ hL ⟨_,_,a76,c77,v75.length,rfl,hS.only (.c k0 (.c k0 (.c k0 (.c k0 (.c k0 (.c k0 .n)))))),YK⟩)
  ·intro hc hL;refine r4 ?_;refine ZX.Yo ?_;exact ZX.gen (vs:= []) rfl Zu rfl ⟨_,hL,⟨a64,c65,v63.length,rfl,hS.only (.c k1 (.c k1 (.c k1 (.c k0 (.c k0 (.c k0 .n))))))⟩⟩
theorem ZB6 {F wm:Nat} {h:H} {p0:Store} {p1 p2:Int} {ZM:Option Nat} {Zp:Option Addr} {Zo:Nat} {Zn:Option Addr} {Zm XA UW:Nat} {r:Bool} (ZJ:wm <=h.size) (Xe:At h XA UW [.int .i64 p0.machines,.int .i64 p0.names,.map ZM,.slice Zp p0.notes.length Zo,.slice Zn p0.freed.length Zm]) (Xd:Stb wm h XA) (Zw:UC Zl Zt wm h ZM p0.cells) (ZF:Sl Ze wm h Zp Zo p0.notes) (ZC:Sl (ZA .i64) wm h Zn Zm p0.freed) (hL:ZrD F p0 p1 p2=some r):
 WR XX 91 #[.pointer (some ⟨XA,UW,none⟩),.int .i64 p1,.int .i64 p2] wm h (CP (fun(v:Value) (Gb:List (Ast wm))=>v= .bool r∧Gb= []) [] h):=by
 refine bg Try.ntmps91 ZJ ZO.nil ?_;intro T hT hS;unfold ZrD at hL;refine r4 ?_;refine r1 ?_;refine WC.scope ?_;refine r1 ?_;refine WC.label ?_;refine r6 ?_;refine r1 ?_;refine WO.w gN rfl (Zy YS (Zz fh rfl) (At.fz hS.fz Xd Xe) (j:=0) rfl (v:= .int .i64 p0.machines) rfl) ?_;refine r4 ?_;refine WC.loop (WL.lift hL (fun(v7:Int) (s:Fs)=>∃ (Jb:Fr) (h1:H),s= ⟨Jb,[],h1,none⟩∧Sp wm T h [] h1∧Jb.at 0= .pointer (some ⟨XA,UW,none⟩)∧Jb.at 1= .int .i64 p1∧Jb.at 2= .int .i64 p2∧Jb.at 13= .int .i64 p0.machines∧Jb.at 14= .int .i64 v7) ⟨_,_,rfl,hS.only .n,YK⟩ ?_);clear hL hS;rintro Ju v7 s ZdT hL ⟨Jb,h1,rfl,hS,e3,e4,e5,e6,e8⟩;dsimp only [Zil] at hL;refine r6 ?_;refine cn hL ?_ ?_
 ·intro hc hL;refine r2 ?_;refine WC.Ke (r:=r) (fun(_:Unit) (s:Fs)=>∃ (UY:Fr) (h10:H),s= ⟨UY,[],h10,none⟩∧Sp wm T h [] h10∧UY.at 0= .pointer (some ⟨XA,UW,none⟩)∧UY.at 1= .int .i64 p1∧UY.at 2= .int .i64 p2∧UY.at 13= .int .i64 p0.machines∧UY.at 14= .int .i64 v7) (Zij v7 Ju) ?_ ?_
  ·clear hL hS;rintro _ s hL ⟨UY,h10,rfl,hS,e12,e13,e14,e15,e16⟩;dsimp only [Zij] at hL;refine r4 ?_;exact Yg.Yo (ZdT _ _ hL ⟨_,_,rfl,hS.only .n,YK⟩)
  ·skip;refine QW ?_;refine WO.w gN rfl (Zy ZgP (Zz fh rfl) (At.fz hS.fz Xd Xe) (j:=2) rfl (v:= .map ZM) rfl) ?_;refine r2 ?_;refine WO.w gN rfl (Xn XY (Zk lk (Zk lk ZG)) rfl (cs':= [.int .i64 v7,.int .i64 p1]) rfl) ?_;obtain⟨x17,ZA9,hL⟩:=bind_some hL;refine WO.w gN rfl (Zae (kv:=Zl) (vv:=Zt) (k:= (Zg.mk v7 p1)) (z:= (Zb.mk 0 false 0 0 0 false)) Y5 Uf QF (Zz (ZR rfl (Zi rfl fh)) rfl) (Zz fh rfl) (hS.ms Zw).at_ ZA9 (w:= .agg [.int .i64 x17.1.name,.bool x17.1.root,.int .i64 x17.1.from_,.int .i64 x17.1.has,.int .i64 x17.1.out,.bool x17.1.use].toArray) rfl) ?_;refine r4 ?_;rintro _ h19 ⟨b18,ZOG,rfl,hS⟩;refine r1 ?_;rintro h20 hS;refine r8 ?_;refine r2 ?_;refine cn hL ?_ ?_
   ·intro hc hL;refine r3 ?_;exact Y7.Yo _ hL ⟨_,_,rfl,hS.only .n,YK⟩
   ·intro hc hL;refine r8 ?_;refine WO.w gN rfl (Zy YS (Zz fh rfl) (At.fz hS.fz Xd Xe) (j:=0) rfl (v:= .int .i64 p0.machines) rfl) ?_;refine r4 ?_;refine WC.loop (WL.lift hL (fun(p:Int×Bool×Int×Int×Bool×Int×Int×Int×Bool) (s:Fs)=>match p with | (v26,v29,v34,v36,v37,v38,v39,v40,v41)=>∃ (Zcq:Fr) (h21:H),s= ⟨Zcq,[],h21,none⟩∧Sp wm T h [bx wm b18 [.int .i64 v36,.bool v37,.int .i64 v38,.int .i64 v39,.int .i64 v40,.bool v41]] h21∧Zcq.at 0= .pointer (some ⟨XA,UW,none⟩)∧Zcq.at 1= .int .i64 p1∧Zcq.at 2= .int .i64 p2∧Zcq.at 7= .int .i64 v26∧Zcq.at 8= .pointer (some ⟨b18,0,none⟩)∧Zcq.at 9= .bool v29∧Zcq.at 13= .int .i64 p0.machines∧Zcq.at 14= .int .i64 v7∧Zcq.at 33= .int .i64 p0.machines∧Zcq.at 34= .int .i64 v34) ⟨_,_,rfl,hS.only (.c k0 .n),YK⟩ ?_);clear hL hS;rintro Zs6 ⟨v26,v29,v34,v36,v37,v38,v39,v40,v41⟩ s Zxo hL ⟨Zcq,h21,rfl,hS,e23,e24,e25,e27,e28,e30,e31,e32,e33,e35⟩;dsimp only [Zik] at hL;refine r6 ?_;refine cn hL ?_ ?_
    ·intro hc hL;refine QW ?_;refine cn hL ?_ ?_
     ·intro hc hL;refine r2 ?_;refine Wx.other rfl ?_;refine r2 ?_;refine Wx.other rfl ?_;refine r2 ?_;exact Y7.Yo _ hL ⟨_,_,rfl,hS.only .n,YK⟩
     ·intro hc hL;refine QW ?_;refine r2 ?_;refine cn hL ?_ ?_
      ·intro hc hL;refine QW ?_;refine r1 ?_;refine Y7.ret ?_;refine r3 ?_;refine Zse.ret ?_;exact rt hL hT hS
      ·intro hc hL;refine QW ?_;refine r1 ?_;refine WO.w gN rfl (Zy ZgP (Zz fh rfl) (At.fz hS.fz Xd Xe) (j:=2) rfl (v:= .map ZM) rfl) ?_;refine r2 ?_;refine WO.w gN rfl (Xn XY (Zk lk (Zk lk ZG)) rfl (cs':= [.int .i64 v38,.int .i64 p1]) rfl) ?_;obtain⟨x43,ZgS,hL⟩:=bind_some hL;refine WO.w gN rfl (Zae (kv:=Zl) (vv:=Zt) (k:= (Zg.mk v38 p1)) (z:= (Zb.mk 0 false 0 0 0 false)) Y5 Uf QF (Zz (ZR rfl (Zi rfl fh)) rfl) (Zz fh rfl) (hS.ms Zw).at_ ZgS (w:= .agg [.int .i64 x43.1.name,.bool x43.1.root,.int .i64 x43.1.from_,.int .i64 x43.1.has,.int .i64 x43.1.out,.bool x43.1.use].toArray) rfl) ?_;refine r4 ?_;rintro h44 hS;refine r8 ?_;exact Yg.Yo (Zxo _ _ hL ⟨_,_,rfl,hS.only (.c k0 .n),YK⟩)
    ·intro hc hL;refine QW ?_;refine cn hL ?_ ?_
     ·intro hc hL;refine r6 ?_;refine r1 ?_;refine Y7.ret ?_;refine r3 ?_;refine Zse.ret ?_;exact rt hL hT hS
     ·intro hc hL;refine r2 ?_;exact Y7.Yo _ hL ⟨_,_,rfl,hS.only .n,YK⟩
 ·intro hc hL;refine r8 ?_;refine r3 ?_;refine Zse.ret ?_;exact rt hL hT hS
theorem ZB7 {F:Nat} {h:H} {p0:Store} {p1 p2:Int} {ZM:Option Nat} {Zp:Option Addr} {Zo:Nat} {Zn:Option Addr} {Zm XA UW:Nat} {r:Bool} (Xe:At h XA UW [.int .i64 p0.machines,.int .i64 p0.names,.map ZM,.slice Zp p0.notes.length Zo,.slice Zn p0.freed.length Zm]) (Xd:Stb h.size h XA) (Zw:UC Zl Zt h.size h ZM p0.cells) (ZF:Sl Ze h.size h Zp Zo p0.notes) (ZC:Sl (ZA .i64) h.size h Zn Zm p0.freed) (hL:ZrD F p0 p1 p2=some r):Pure XX 91 #[.pointer (some ⟨XA,UW,none⟩),.int .i64 p1,.int .i64 p2] h (.bool r):=
 WR.YP rfl (ZB6 (Nat.le_refl _) Xe Xd Zw ZF ZC hL)
end Go.Proofs.Ytekpjgmhkkjhgaa
end
end
section
namespace Go.Proofs.Ytekpjgmhkkjhgaa
open Go.Lf
def Zu1 (F:Nat) (p0:Za) (p1:Zv):Option Int:=
 (bif(p1.Xf==1) then(bif decide (p0.names >=12) then some 3 else some 0) else(bif(p1.Xf==5) then(bif decide (p1.at_ >= (p0.notes.length:Int)) then some 5 else some 0) else(Zdh F p0 p1.at_ p1.name).bind fun x5=>(gd ((!(decide (x5 < 0))) && (p1.Xf==4)) (ZL p0.cells p1.at_) default).bind fun x6=>(gd ((!(decide (x5 < 0))) && (p1.Xf==4)) (ZL x6 x5) default).bind fun UU=>(gd ((!((decide (x5 < 0)) || ((p1.Xf==4) && (!UU.root)))) && (p1.Xf !=4)) (ZL p0.cells p1.at_) default).bind fun J7=>(gd ((!((decide (x5 < 0)) || ((p1.Xf==4) && (!UU.root)))) && (p1.Xf !=4)) (ZL J7 x5) default).bind fun x19=>(bif(((decide (x5 < 0)) || ((p1.Xf==4) && (!UU.root))) || ((p1.Xf !=4) && (!x19.use))) then some 7 else some 0)))
def ZuZ (F:Nat) (p0:Za) (p1:Int) (p2:Zb):Option Bool:=
 (ZaZ p2.name 0 (ZQ (p0.names - 1))).bind fun x5=>(gd (!(!x5)) (ZaZ p2.out (-16) 1000000) default).bind fun x6=>(gd (!(((!x5) || (!x6)) || ((!p2.use) && (p2.out==0)))) (Znd F p0.freed p2.name) default).bind fun x7=>(bif((((!x5) || (!x6)) || ((!p2.use) && (p2.out==0))) || x7) then some false else(bif(p2.root || (p2.from_== (-1))) then some ((p2.from_== (-1)) && (p2.has==0)) else(ZaZ p2.from_ 0 (ZQ ((p0.cells.length:Int) - 1))).bind fun x8=>(gd (x8 && (p2.from_ !=p1)) (ZaZ p2.has 1 1000000) default).bind fun x9=>some ((x8 && (p2.from_ !=p1)) && x9)))
def ZuY (F:Nat) (p0:Za) (p1:Zf):Option Bool:=
 (ZaZ p1.ZH 0 (ZQ ((p0.cells.length:Int) - 1))).bind fun x5=>(gd (!(!x5)) (ZaZ p1.name 0 (ZQ (p0.names - 1))) default).bind fun x6=>(gd (!((!x5) || (!x6))) (Znd F p0.freed p1.name) default).bind fun x7=>(gd (!(((!x5) || (!x6)) || x7)) (ZaZ p1.w 1 1000000) default).bind fun x8=>(bif((((!x5) || (!x6)) || x7) || (!x8)) then some false else(bif(p1.kind==1) then(ZaZ p1.via 0 (ZQ ((p0.cells.length:Int) - 1))).bind fun x9=>some x9 else(bif(p1.kind==2) then some (p1.via==0) else(bif(p1.kind==3) then some ((p1.via==0) && (p1.w==16)) else some false))))
def ZeQ (v10:Int) (Qy:(Int×Int ->Option Int)):Int ->Option Int:=fun v18=>
 Qy (v18,ZQ (v10 + 1))
def ZeR (p0:Za) (p1:Int) (p2:Int):Int×Int ->(Int×Int ->Option Int) ->Option Int:=fun(v8,v10) Qy=>
 (bif decide (v10 < (p0.notes.length:Int)) then(ZL p0.notes v10).bind fun x21=>(bif(((x21.kind==3) && (x21.ZH==p1)) && (x21.name==p2)) then(ZeQ v10 Qy) (ZQ (v8 + 1)) else(ZeQ v10 Qy) v8) else some v8)
def Zkj (F:Nat) (p0:Za) (p1:Int) (p2:Int):Option Int:=
 loop F (ZeR p0 p1 p2) (0,0)
def Zc5 (F:Nat) (p0:Za) (p2:Int) (p3:Int):Int×Int ->(Int×Int ->Option Bool) ->Option Bool:=fun(v5,v10) Qy=>
 (bif decide (v10 <= (p0.cells.length:Int)) then(bif(v5==p2) then some true else(Zdh F p0 v5 p3).bind fun Uq=>(gd (!(decide (Uq < 0))) (ZL p0.cells v5) default).bind fun J7=>(gd (!(decide (Uq < 0))) (ZL J7 Uq) default).bind fun x19=>(bif((decide (Uq < 0)) || (decide (x19.from_ < 0))) then some false else(ZL p0.cells v5).bind fun x22=>(ZL x22 Uq).bind fun x27=>Qy (x27.from_,ZQ (v10 + 1)))) else some false)
def Znn (F:Nat) (p0:Za) (p1:Int) (p2:Int) (p3:Int):Option Bool:=
 loop F (Zc5 F p0 p2 p3) (p1,0)
def Zc4 (p0:Za) (p1:Zv) (x7:Int) (J7:Zb):Int×Int×Int×Int ->Option Za:=fun(v31,v32,v33,v34)=>
 (ZL p0.cells p1.at_).bind fun x35=>(ZL x35 x7).bind fun x41=>(app 40 p0.notes [(Zf.mk 1 p1.ZH p1.name v33 v34)]).bind fun z50=>some (Za.mk (YH p0.cells p1.at_ (YH x35 x7 (Zb.mk J7.name J7.root J7.from_ v31 v32 J7.use))) z50 p0.names p0.freed)
def Znm (F:Nat) (p0:Za) (p1:Zv):Option Za:=
 (Zdh F p0 p1.at_ p1.name).bind fun x7=>(ZL p0.cells p1.at_).bind fun x8=>(ZL x8 x7).bind fun J7=>(bif(((!J7.root) && (decide (J7.from_ >=0))) && (decide (J7.has >=2))) then(Zon J7.has 2).bind fun x57=>(Zc4 p0 p1 x7 J7) (ZQ (J7.has - x57),J7.out,J7.from_,x57) else(Zc4 p0 p1 x7 J7) (J7.has,ZQ (J7.out + 16),p1.at_,16))
def Zc1 (p0:(List Int)) (p1:Int):Int ->(Int ->Option Int) ->Option Int:=fun v6 Zdo=>
 (bif decide (v6 < (p0.length:Int)) then(ZL p0 v6).bind fun x9=>(bif(p1==x9) then some v6 else Zdo (ZQ (v6 + 1))) else some (-1))
def ZqJ (F:Nat) (p0:(List Int)) (p1:Int):Option Int:=
 loop F (Zc1 p0 p1) 0
end Go.Proofs.Ytekpjgmhkkjhgaa
end
section
set_option maxRecDepth 20000
noncomputable section
namespace Go.Proofs.Ytekpjgmhkkjhgaa
open Go.Yy Go.Lf
theorem ZB4 {F wm:Nat} {h:H} {p0:Za} {p1:Zv} {Zr:Option Addr} {Zq:Nat} {Zp:Option Addr} {Zo:Nat} {Zn:Option Addr} {Zm:Nat} {r:Int} (ZJ:wm <=h.size) (Zw:Sl (rSl Zd) wm h Zr Zq p0.cells) (ZF:Sl Ze wm h Zp Zo p0.notes) (ZC:Sl (ZA .i64) wm h Zn Zm p0.freed) (hL:Zu1 F p0 p1=some r):
 WR XX 96 #[.agg [.slice Zr p0.cells.length Zq,.slice Zp p0.notes.length Zo,.int .i64 p0.names,.slice Zn p0.freed.length Zm].toArray,.agg [.int .i64 p1.Xf,.int .i64 p1.at_,.int .i64 p1.name,.int .i64 p1.ZH].toArray] wm h (CP (fun(v:Value) (Gb:List (Ast wm))=>v= .int .i64 r∧Gb= []) [] h):=by
 refine bg Try.ntmps96 ZJ ZO.nil ?_;intro T hT hS;unfold Zu1 at hL;refine r3 ?_;rintro _ h2 ⟨b1,eb1,rfl,hS⟩;refine r1 ?_;rintro _ h4 ⟨b3,eb3,rfl,hS⟩;refine r8 ?_;refine r3 ?_;refine cn hL ?_ ?_
 ·intro hc hL;refine r8 ?_;refine cn hL ?_ ?_
  ·intro hc hL;refine r8 ?_;exact rt hL hT hS
  ·intro hc hL;refine r8 ?_;refine r1 ?_;exact rt hL hT hS
 ·intro hc hL;refine r8 ?_;refine r2 ?_;refine cn hL ?_ ?_
  ·intro hc hL;refine r8 ?_;refine r3 ?_;refine cn hL ?_ ?_
   ·intro hc hL;refine r8 ?_;exact rt hL hT hS
   ·intro hc hL;refine r8 ?_;refine r1 ?_;exact rt hL hT hS
  ·intro hc hL;refine r8 ?_;refine r1 ?_;obtain⟨x5,hx5,hL⟩:=bind_some hL;refine WO.cp gN rfl (YF.fn Zdq (Zc lk (Zc lk (Zc lk Zj)))) (WR.YP rfl (ZaG (Nat.le_refl _) (hS.Qv Zw) (hS.Qv ZF) (hS.Qv ZC) hx5)) ?_;refine r16 ?_;refine r1 ?_;obtain⟨x6,hx6,hL⟩:=Z0 hL;obtain⟨b7,o8,⟨a9,c10⟩,hQ⟩:=Sl.atG (fun hg=>Zw) hx6;have ZBD:=fun hg=>(hQ hg).1
   have ZBL:=fun hg=>(hQ hg).2.1
   have ZJu:=fun hg=>(hQ hg).2.2.1
   have ZJm:=fun hg=>(hQ hg).2.2.2
   refine WO.gv (Zh.Zah rfl rfl rfl (Yb rfl fh)) rfl (fun hg=>(Zx YT Z9 (Yw (ZR rfl fh) rfl hg) (Yw fh rfl hg) rfl (ZBD hg) (hx6 hg))) ?_;have ZIL:((!(decide (x5 < 0))) && (p1.Xf==4))=true ->Sl Zd wm h a9 c10 x6:=fun hg=>(ZJm hg)
   refine WO.gv (Zh.Zah rfl rfl rfl (Yb rfl (Zi rfl fh))) rfl (fun hg=>(Zy Xl (Yw fh rfl hg) (At.fz hS.fz (ZJu hg) (ZBL hg)) (j:=0) rfl (v:= .slice a9 x6.length c10) rfl)) ?_;refine r1 ?_;obtain⟨UU,Kl,hL⟩:=Z0 hL;obtain⟨b12,o13,_,hQ⟩:=Sl.atG (fun hg=>(ZIL hg)) Kl;have ZaY:=fun hg=>(hQ hg).1
   have Zcp:=fun hg=>(hQ hg).2.1
   have Zez:=fun hg=>(hQ hg).2.2.1
   have ZmR:=fun hg=>(hQ hg).2.2.2
   refine WO.gv (Zh.Zah rfl rfl rfl (Yb rfl (ZR rfl (Zi rfl fh)))) rfl (fun hg=>(Zx Xg ZW (Yw (Zi rfl fh) rfl hg) (Yw fh rfl hg) rfl (ZaY hg) (Kl hg))) ?_;refine r1 ?_;refine WO.gv (Zh.Zah rfl rfl rfl (Ya rfl (Zi rfl fh))) rfl (fun hg=>(Zy ZyU (Yw fh rfl hg) (At.fz hS.fz (Zez hg) (Zcp hg)) (j:=1) rfl (v:= .bool UU.root) rfl)) ?_;refine r1 ?_;refine WO.gv (Zh.no rfl rfl rfl (Ya rfl (Yb rfl (ZR rfl (Zi rfl fh))))) rfl (fun hg=>(XK (Yw (Ya rfl (ZR rfl (Zi rfl fh))) rfl hg) (Zcv fh hg) lk)) ?_;refine r8 ?_;refine r2 ?_;obtain⟨J7,ZbM,hL⟩:=Z0 hL;obtain⟨b15,o16,⟨a17,c18⟩,hQ⟩:=Sl.atG (fun hg=>Zw) ZbM;have Zey:=fun hg=>(hQ hg).1
   have ZeB:=fun hg=>(hQ hg).2.1
   have Zia:=fun hg=>(hQ hg).2.2.1
   have Zkb:=fun hg=>(hQ hg).2.2.2
   refine WO.gv (Zh.Zah rfl rfl rfl (Yb rfl fh)) rfl (fun hg=>(Zx YT Z9 (Yw (ZR rfl fh) rfl hg) (Yw fh rfl hg) rfl (Zey hg) (ZbM hg))) ?_;have ZtC:((!((decide (x5 < 0)) || ((p1.Xf==4) && (!UU.root)))) && (p1.Xf !=4))=true ->Sl Zd wm h a17 c18 J7:=fun hg=>(Zkb hg)
   refine WO.gv (Zh.Zah rfl rfl rfl (Yb rfl (Zi rfl fh))) rfl (fun hg=>(Zy Xl (Yw fh rfl hg) (At.fz hS.fz (Zia hg) (ZeB hg)) (j:=0) rfl (v:= .slice a17 J7.length c18) rfl)) ?_;refine r1 ?_;obtain⟨x19,Zjn,hL⟩:=Z0 hL;obtain⟨b20,o21,_,hQ⟩:=Sl.atG (fun hg=>(ZtC hg)) Zjn;have Zub:=fun hg=>(hQ hg).1
   have ZuG:=fun hg=>(hQ hg).2.1
   have Zuw:=fun hg=>(hQ hg).2.2.1
   have ZFB:=fun hg=>(hQ hg).2.2.2
   refine WO.gv (Zh.Zah rfl rfl rfl (Yb rfl (ZR rfl (Zi rfl fh)))) rfl (fun hg=>(Zx Xg ZW (Yw (Zi rfl fh) rfl hg) (Yw fh rfl hg) rfl (Zub hg) (Zjn hg))) ?_;refine r1 ?_;refine WO.gv (Zh.Zah rfl rfl rfl (Ya rfl (Zi rfl fh))) rfl (fun hg=>(Zy ZyU (Yw fh rfl hg) (At.fz hS.fz (Zuw hg) (ZuG hg)) (j:=5) rfl (v:= .bool x19.use) rfl)) ?_;refine r1 ?_;refine WO.gv (Zh.no rfl rfl rfl (Ya rfl (Yb rfl (ZR rfl (Zi rfl fh))))) rfl (fun hg=>(XK (Yw (Ya rfl (ZR rfl (Zi rfl fh))) rfl hg) (Zcv fh hg) lk)) ?_;refine r3 ?_;refine cn hL ?_ ?_
   ·intro hc hL;refine r6 ?_;refine r1 ?_;exact rt hL hT hS
   ·intro hc hL;refine r8 ?_;exact rt hL hT hS
theorem ZB2 {F wm:Nat} {h:H} {p0:Za} {p1:Int} {p2:Zb} {Zr:Option Addr} {Zq:Nat} {Zp:Option Addr} {Zo:Nat} {Zn:Option Addr} {Zm:Nat} {r:Bool} (ZJ:wm <=h.size) (Zw:Sl (rSl Zd) wm h Zr Zq p0.cells) (ZF:Sl Ze wm h Zp Zo p0.notes) (ZC:Sl (ZA .i64) wm h Zn Zm p0.freed) (hL:ZuZ F p0 p1 p2=some r):
 WR XX 98 #[.agg [.slice Zr p0.cells.length Zq,.slice Zp p0.notes.length Zo,.int .i64 p0.names,.slice Zn p0.freed.length Zm].toArray,.int .i64 p1,.agg [.int .i64 p2.name,.bool p2.root,.int .i64 p2.from_,.int .i64 p2.has,.int .i64 p2.out,.bool p2.use].toArray] wm h (CP (fun(v:Value) (Gb:List (Ast wm))=>v= .bool r∧Gb= []) [] h):=by
 refine bg Try.ntmps98 ZJ ZO.nil ?_;intro T hT hS;unfold ZuZ at hL;refine r3 ?_;rintro _ h2 ⟨b1,eb1,rfl,hS⟩;refine r1 ?_;rintro _ h4 ⟨b3,eb3,rfl,hS⟩;refine r8 ?_;refine r3 ?_;obtain⟨x5,hx5,hL⟩:=bind_some hL;refine WO.cp gN rfl (YF.fn Zap (Zc lk (Zc lk (Zc lk Zj)))) (Wi hx5) ?_;refine r4 ?_;obtain⟨x6,hx6,hL⟩:=Z0 hL;refine WO.gcp (Zh.no rfl rfl rfl (ZR rfl fh)) rfl (fun hg=>(YF.fn Zap (Zc (Yw fh rfl hg) (Zc lk (Zc lk Zj))))) (fun hg=>Wi (hx6 hg)) ?_;refine r8 ?_;refine r2 ?_;refine WO.gv (Zh.no rfl rfl rfl (Yb rfl (ZR rfl (Zi rfl fh)))) rfl (fun hg=>(XK (Yw (ZR rfl (Zi rfl fh)) rfl hg) (Zcv fh hg) lk)) ?_;refine r6 ?_;obtain⟨x7,hx7,hL⟩:=Z0 hL;refine WO.gcp (Zh.no rfl rfl rfl (Yb rfl fh)) rfl (fun hg=>(YF.fn ZtQ (Zc (Yw (ZR rfl fh) rfl hg) (Zc (Yw fh rfl hg) Zj)))) (fun hg=>Zpf (hS.Qv ZC) (hx7 hg)) ?_;refine r3 ?_;refine cn hL ?_ ?_
 ·intro hc hL;refine r6 ?_;refine r1 ?_;exact rt hL hT hS
 ·intro hc hL;refine QW ?_;refine r2 ?_;refine cn hL ?_ ?_
  ·intro hc hL;refine QW ?_;refine r3 ?_;exact rt hL hT hS
  ·intro hc hL;refine r8 ?_;refine r2 ?_;obtain⟨x8,hx8,hL⟩:=bind_some hL;refine WO.cp gN rfl (YF.fn Zap (Zc lk (Zc lk (Zc lk Zj)))) (Wi hx8) ?_;refine r8 ?_;refine r1 ?_;obtain⟨x9,hx9,hL⟩:=Z0 hL;refine WO.gcp (Zh.yes rfl rfl rfl (ZR rfl fh)) rfl (fun hg=>(YF.fn Zap (Zc (Yw fh rfl hg) (Zc lk (Zc lk Zj))))) (fun hg=>Wi (hx9 hg)) ?_;refine r4 ?_;refine r1 ?_;exact rt hL hT hS
theorem ZB1 {F wm:Nat} {h:H} {p0:Za} {p1:Zf} {Zr:Option Addr} {Zq:Nat} {Zp:Option Addr} {Zo:Nat} {Zn:Option Addr} {Zm:Nat} {r:Bool} (ZJ:wm <=h.size) (Zw:Sl (rSl Zd) wm h Zr Zq p0.cells) (ZF:Sl Ze wm h Zp Zo p0.notes) (ZC:Sl (ZA .i64) wm h Zn Zm p0.freed) (hL:ZuY F p0 p1=some r):
 WR XX 99 #[.agg [.slice Zr p0.cells.length Zq,.slice Zp p0.notes.length Zo,.int .i64 p0.names,.slice Zn p0.freed.length Zm].toArray,.agg [.int .i64 p1.kind,.int .i64 p1.ZH,.int .i64 p1.name,.int .i64 p1.via,.int .i64 p1.w].toArray] wm h (CP (fun(v:Value) (Gb:List (Ast wm))=>v= .bool r∧Gb= []) [] h):=by
 refine bg Try.ntmps99 ZJ ZO.nil ?_;intro T hT hS;unfold ZuY at hL;refine r3 ?_;rintro _ h2 ⟨b1,eb1,rfl,hS⟩;refine r1 ?_;rintro _ h4 ⟨b3,eb3,rfl,hS⟩;refine QW ?_;obtain⟨x5,hx5,hL⟩:=bind_some hL;refine WO.cp gN rfl (YF.fn Zap (Zc lk (Zc lk (Zc lk Zj)))) (Wi hx5) ?_;refine r6 ?_;refine r1 ?_;obtain⟨x6,hx6,hL⟩:=Z0 hL;refine WO.gcp (Zh.no rfl rfl rfl (Yb rfl (Zi rfl fh))) rfl (fun hg=>(YF.fn Zap (Zc (Yw (ZR rfl (Zi rfl fh)) rfl hg) (Zc lk (Zc (Yw fh rfl hg) Zj))))) (fun hg=>Wi (hx6 hg)) ?_;refine r6 ?_;refine r1 ?_;obtain⟨x7,hx7,hL⟩:=Z0 hL;refine WO.gcp (Zh.no rfl rfl rfl (Yb rfl fh)) rfl (fun hg=>(YF.fn ZtQ (Zc (Yw (ZR rfl fh) rfl hg) (Zc (Yw fh rfl hg) Zj)))) (fun hg=>Zpf (hS.Qv ZC) (hx7 hg)) ?_;refine r4 ?_;obtain⟨x8,hx8,hL⟩:=Z0 hL;refine WO.gcp (Zh.no rfl rfl rfl (ZR rfl fh)) rfl (fun hg=>(YF.fn Zap (Zc (Yw fh rfl hg) (Zc lk (Zc lk Zj))))) (fun hg=>Wi (hx8 hg)) ?_;refine r4 ?_;refine cn hL ?_ ?_
 ·intro hc hL;refine r6 ?_;refine r1 ?_;exact rt hL hT hS
 ·intro hc hL;refine r16 ?_;refine cn hL ?_ ?_
  ·intro hc hL;refine r8 ?_;obtain⟨x9,hx9,hL⟩:=bind_some hL;refine WO.cp gN rfl (YF.fn Zap (Zc lk (Zc lk (Zc lk Zj)))) (Wi hx9) ?_;refine r6 ?_;exact rt hL hT hS
  ·intro hc hL;refine r6 ?_;refine cn hL ?_ ?_
   ·intro hc hL;refine r8 ?_;refine r3 ?_;exact rt hL hT hS
   ·intro hc hL;refine r6 ?_;refine cn hL ?_ ?_
    ·intro hc hL;refine r16 ?_;exact rt hL hT hS
    ·intro hc hL;refine r8 ?_;refine r1 ?_;exact rt hL hT hS
theorem ZqL {F wm:Nat} {h:H} {p0:Za} {p1 p2:Int} {Zr:Option Addr} {Zq:Nat} {Zp:Option Addr} {Zo:Nat} {Zn:Option Addr} {Zm:Nat} {r:Int} (ZJ:wm <=h.size) (Zw:Sl (rSl Zd) wm h Zr Zq p0.cells) (ZF:Sl Ze wm h Zp Zo p0.notes) (ZC:Sl (ZA .i64) wm h Zn Zm p0.freed) (hL:Zkj F p0 p1 p2=some r):
 WR XX 100 #[.agg [.slice Zr p0.cells.length Zq,.slice Zp p0.notes.length Zo,.int .i64 p0.names,.slice Zn p0.freed.length Zm].toArray,.int .i64 p1,.int .i64 p2] wm h (CP (fun(v:Value) (Gb:List (Ast wm))=>v= .int .i64 r∧Gb= []) [] h):=by
 refine bg Try.ntmps100 ZJ ZO.nil ?_;intro T hT hS;unfold Zkj at hL;refine r3 ?_;rintro _ h2 ⟨b1,eb1,rfl,hS⟩;refine QW ?_;refine r3 ?_;refine WC.loop (WL.lift hL (fun(p:Int×Int) (s:Fs)=>match p with | (v8,v10)=>∃ (Uy:Fr) (h3:H),s= ⟨Uy,[],h3,none⟩∧Sp wm T h [bx wm b1 [.slice Zr p0.cells.length Zq,.slice Zp p0.notes.length Zo,.int .i64 p0.names,.slice Zn p0.freed.length Zm]] h3∧Uy.at 1= .int .i64 p1∧Uy.at 2= .int .i64 p2∧Uy.at 3= .pointer (some ⟨b1,0,none⟩)∧Uy.at 7= .int .i64 v8∧Uy.at 8= .int .i64 v10) ⟨_,_,rfl,hS.only (.c k0 .n),YK⟩ ?_);clear hL hS;rintro Qy ⟨v8,v10⟩ s Zbu hL ⟨Uy,h3,rfl,hS,e5,e6,e7,e9,e11⟩;dsimp only [ZeR] at hL;refine r8 ?_;refine r2 ?_;refine cn hL ?_ ?_
 ·intro hc hL;refine r2 ?_;refine WC.Ke (r:=r) (fun(v18:Int) (s:Fs)=>∃ (ZdU:Fr) (h13:H),s= ⟨ZdU,[],h13,none⟩∧Sp wm T h [bx wm b1 [.slice Zr p0.cells.length Zq,.slice Zp p0.notes.length Zo,.int .i64 p0.names,.slice Zn p0.freed.length Zm]] h13∧ZdU.at 1= .int .i64 p1∧ZdU.at 2= .int .i64 p2∧ZdU.at 3= .pointer (some ⟨b1,0,none⟩)∧ZdU.at 7= .int .i64 v18∧ZdU.at 8= .int .i64 v10) (ZeQ v10 Qy) ?_ ?_
  ·clear hL hS;rintro v18 s hL ⟨ZdU,h13,rfl,hS,e15,e16,e17,e19,e20⟩;dsimp only [ZeQ] at hL;refine r4 ?_;refine r1 ?_;exact Yg.Yo (Zbu _ _ hL ⟨_,_,rfl,hS.only (.c k0 .n),YK⟩)
  ·skip;refine r6 ?_;obtain⟨x21,Zcj,hL⟩:=bind_some hL;obtain⟨b22,o23,_,ZmO,Zm1,Zuv,ZzW⟩:=Sl.at_ ZF Zcj;refine WO.w gN rfl (Zx QV YV lk lk rfl ZmO Zcj) ?_;refine WO.w gN rfl (Ql ZbJ YV (Zz fh rfl) (At.fz hS.fz Zuv Zm1) (j:=0) rfl rfl (ws:= [.int .i64 x21.kind,.int .i64 x21.ZH,.int .i64 x21.name,.int .i64 x21.via,.int .i64 x21.w]) rfl) ?_;refine r1 ?_;rintro _ h25 ⟨b24,ZOE,rfl,hS⟩;refine r1 ?_;rintro h26 hS;refine r16 ?_;refine r4 ?_;refine r1 ?_;refine cn hL ?_ ?_
   ·intro hc hL;refine r6 ?_;exact Y7.Yo _ hL ⟨_,_,rfl,hS.only (.c k1 .n),YK⟩
   ·intro hc hL;refine r2 ?_;exact Y7.Yo _ hL ⟨_,_,rfl,hS.only (.c k1 .n),YK⟩
 ·intro hc hL;refine QW ?_;exact rt hL hT hS
theorem Zys {F wm:Nat} {h:H} {p0:Za} {p1 p2 p3:Int} {Zr:Option Addr} {Zq:Nat} {Zp:Option Addr} {Zo:Nat} {Zn:Option Addr} {Zm:Nat} {r:Bool} (ZJ:wm <=h.size) (Zw:Sl (rSl Zd) wm h Zr Zq p0.cells) (ZF:Sl Ze wm h Zp Zo p0.notes) (ZC:Sl (ZA .i64) wm h Zn Zm p0.freed) (hL:Znn F p0 p1 p2 p3=some r):
 WR XX 101 #[.agg [.slice Zr p0.cells.length Zq,.slice Zp p0.notes.length Zo,.int .i64 p0.names,.slice Zn p0.freed.length Zm].toArray,.int .i64 p1,.int .i64 p2,.int .i64 p3] wm h (CP (fun(v:Value) (Gb:List (Ast wm))=>v= .bool r∧Gb= []) [] h):=by
 refine bg Try.ntmps101 ZJ ZO.nil ?_;intro T hT hS;unfold Znn at hL;refine r3 ?_;rintro _ h2 ⟨b1,eb1,rfl,hS⟩;refine r8 ?_;refine r2 ?_;refine WC.loop (WL.lift hL (fun(p:Int×Int) (s:Fs)=>match p with | (v5,v10)=>∃ (Uy:Fr) (h3:H),s= ⟨Uy,[],h3,none⟩∧Sp wm T h [bx wm b1 [.slice Zr p0.cells.length Zq,.slice Zp p0.notes.length Zo,.int .i64 p0.names,.slice Zn p0.freed.length Zm]] h3∧Uy.at 1= .int .i64 v5∧Uy.at 2= .int .i64 p2∧Uy.at 3= .int .i64 p3∧Uy.at 4= .pointer (some ⟨b1,0,none⟩)∧Uy.at 9= .int .i64 v10) ⟨_,_,rfl,hS.only (.c k0 .n),YK⟩ ?_);clear hL hS;rintro Qy ⟨v5,v10⟩ s Zbu hL ⟨Uy,h3,rfl,hS,e6,e7,e8,e9,e11⟩;dsimp only [Zc5] at hL;refine r8 ?_;refine r2 ?_;refine cn hL ?_ ?_
 ·intro hc hL;refine QW ?_;refine cn hL ?_ ?_
  ·intro hc hL;refine QW ?_;exact rt hL hT hS
  ·intro hc hL;refine r6 ?_;refine r1 ?_;obtain⟨Uq,ZgT,hL⟩:=bind_some hL;refine WO.cp gN rfl (YF.fn Zdq (Zc lk (Zc lk (Zc lk Zj)))) (WR.YP rfl (ZaG (Nat.le_refl _) (hS.Qv Zw) (hS.Qv ZF) (hS.Qv ZC) ZgT)) ?_;refine QW ?_;obtain⟨J7,ZbM,hL⟩:=Z0 hL;obtain⟨b15,o16,⟨a17,c18⟩,hQ⟩:=Sl.atG (fun hg=>Zw) ZbM;have Zey:=fun hg=>(hQ hg).1
   have ZeB:=fun hg=>(hQ hg).2.1
   have Zia:=fun hg=>(hQ hg).2.2.1
   have Zkb:=fun hg=>(hQ hg).2.2.2
   refine WO.gv (Zh.no rfl rfl rfl (ZR rfl (Zi rfl fh))) rfl (fun hg=>(Zx YT Z9 (Yw (Zi rfl fh) rfl hg) (Yw fh rfl hg) rfl (Zey hg) (ZbM hg))) ?_;have ZtC:(!(decide (Uq < 0)))=true ->Sl Zd wm h a17 c18 J7:=fun hg=>(Zkb hg)
   refine WO.gv (Zh.no rfl rfl rfl (Yb rfl fh)) rfl (fun hg=>(Zy Xl (Yw fh rfl hg) (At.fz hS.fz (Zia hg) (ZeB hg)) (j:=0) rfl (v:= .slice a17 J7.length c18) rfl)) ?_;refine r1 ?_;obtain⟨x19,Zjn,hL⟩:=Z0 hL;obtain⟨b20,o21,_,hQ⟩:=Sl.atG (fun hg=>(ZtC hg)) Zjn;have Zub:=fun hg=>(hQ hg).1
   have ZuG:=fun hg=>(hQ hg).2.1
   have Zuw:=fun hg=>(hQ hg).2.2.1
   have ZFB:=fun hg=>(hQ hg).2.2.2
   refine WO.gv (Zh.no rfl rfl rfl (Yb rfl (ZR rfl fh))) rfl (fun hg=>(Zx Xg ZW (Yw (Zi rfl fh) rfl hg) (Yw fh rfl hg) rfl (Zub hg) (Zjn hg))) ?_;refine r1 ?_;refine WO.gv (Zh.no rfl rfl rfl (Ya rfl fh)) rfl (fun hg=>(Zy YS (Yw fh rfl hg) (At.fz hS.fz (Zuw hg) (ZuG hg)) (j:=2) rfl (v:= .int .i64 x19.from_) rfl)) ?_;refine r4 ?_;refine cn hL ?_ ?_
   ·intro hc hL;refine QW ?_;exact rt hL hT hS
   ·intro hc hL;refine r6 ?_;obtain⟨x22,ZoC,hL⟩:=bind_some hL;obtain⟨b23,o24,⟨a25,c26⟩,Zt9,ZuE,Zuu,Zun⟩:=Sl.at_ Zw ZoC;refine WO.w gN rfl (Zx YT Z9 lk lk rfl Zt9 ZoC) ?_;have ZtB:Sl Zd wm h a25 c26 x22:=Zun;refine WO.w gN rfl (Zy Xl (Zz fh rfl) (At.fz hS.fz Zuu ZuE) (j:=0) rfl (v:= .slice a25 x22.length c26) rfl) ?_;refine r1 ?_;obtain⟨x27,hx27,hL⟩:=bind_some hL;obtain⟨b28,o29,_,Zcn,Zco,Zh9,Zka⟩:=Sl.at_ ZtB hx27;refine WO.w gN rfl (Zx Xg ZW lk lk rfl Zcn hx27) ?_;refine r1 ?_;refine WO.w gN rfl (Zy YS (Zz fh rfl) (At.fz hS.fz Zh9 Zco) (j:=2) rfl (v:= .int .i64 x27.from_) rfl) ?_;refine r8 ?_;refine r1 ?_;exact Yg.Yo (Zbu _ _ hL ⟨_,_,rfl,hS.only (.c k0 .n),YK⟩)
 ·intro hc hL;refine r8 ?_;refine r3 ?_;exact rt hL hT hS
theorem Zyt {F:Nat} {h:H} {p0:Za} {p1 p2 p3:Int} {Zr:Option Addr} {Zq:Nat} {Zp:Option Addr} {Zo:Nat} {Zn:Option Addr} {Zm:Nat} {r:Bool} (Zw:Sl (rSl Zd) h.size h Zr Zq p0.cells) (ZF:Sl Ze h.size h Zp Zo p0.notes) (ZC:Sl (ZA .i64) h.size h Zn Zm p0.freed) (hL:Znn F p0 p1 p2 p3=some r):Pure XX 101 #[.agg [.slice Zr p0.cells.length Zq,.slice Zp p0.notes.length Zo,.int .i64 p0.names,.slice Zn p0.freed.length Zm].toArray,.int .i64 p1,.int .i64 p2,.int .i64 p3] h (.bool r):=
 WR.YP rfl (Zys (Nat.le_refl _) Zw ZF ZC hL)
theorem Zyr {F wm:Nat} {h:H} {p0:Za} {p1:Zv} {Zr:Option Addr} {Zq YJ:Nat} {YU:Nat ->Option Addr×Nat×Nat} {Zp:Option Addr} {Zo Yr:Nat} {Zn:Option Addr} {Zm Yq:Nat} {r:Za} (ZJ:wm <=h.size) (hO:ZO (wm:=wm) [JV wm (Ye Zd) Zr YJ Zq YU p0.cells,ow wm Ze Zp Yr Zo p0.notes,ow wm (ZA .i64) Zn Yq Zm p0.freed] h) (hL:Znm F p0 p1=some r):
 WR XX 107 #[.agg [.slice Zr YJ Zq,.slice Zp Yr Zo,.int .i64 p0.names,.slice Zn Yq Zm].toArray,.agg [.int .i64 p1.Xf,.int .i64 p1.at_,.int .i64 p1.name,.int .i64 p1.ZH].toArray] wm h (CP (fun(v:Value) (Gb:List (Ast wm))=>∃ (YC:Option Addr) (YA:Nat) (YB:Nat) (Xc:Nat ->Option Addr×Nat×Nat) (Y2:Option Addr) (YX:Nat) (Y0:Nat) (Y1:Option Addr) (YW:Nat) (YZ:Nat),v= .agg [.slice YC YA YB,.slice Y2 YX Y0,.int .i64 r.names,.slice Y1 YW YZ].toArray∧Gb= [JV wm (Ye Zd) YC YA YB Xc r.cells,ow wm Ze Y2 YX Y0 r.notes,ow wm (ZA .i64) Y1 YW YZ r.freed]) [JV wm (Ye Zd) Zr YJ Zq YU p0.cells,ow wm Ze Zp Yr Zo p0.notes,ow wm (ZA .i64) Zn Yq Zm p0.freed] h):=by
 refine bg Try.ntmps107 ZJ hO ?_;intro T hT hS;unfold Znm at hL;obtain rfl:=hS.Uv k0;obtain rfl:=hS.on k1;obtain rfl:=hS.on k2;refine r3 ?_;rintro _ h2 ⟨b1,eb1,rfl,hS⟩;refine r1 ?_;rintro _ h4 ⟨b3,eb3,rfl,hS⟩;refine r1 ?_;rintro _ h6 ⟨b5,eb5,rfl,hS⟩;refine r8 ?_;refine r1 ?_;obtain⟨x7,hx7,hL⟩:=bind_some hL;refine WO.cp gN rfl (YF.fn Zdq (Zc lk (Zc lk (Zc lk Zj)))) (WR.YP rfl (ZaG (Nat.le_refl _) (hS.nrd k3 KZ) (hS.ord k4) (hS.ord k5) hx7)) ?_;refine r8 ?_;refine r1 ?_;obtain⟨x8,hx8,hL⟩:=bind_some hL;obtain⟨b9,o10,a11,n12,c13,ZEy,Zt1,Zux⟩:=hS.atS k3 hx8;refine WO.w gN rfl (Zx YT Z9 lk lk rfl Zt1 hx8) ?_;refine WO.w gN rfl (Zy Xl (Zz fh rfl) Zux (j:=0) rfl (v:= .slice a11 n12 c13) rfl) ?_;refine r1 ?_;obtain⟨J7,ZbM,hL⟩:=bind_some hL;obtain⟨b15,o16,_,Zey,ZeB,Zkb⟩:=Src.at_ (hS.inS k3 hx8 ZEy).2.1 ZbM;refine WO.w gN rfl (Zx Xg ZW lk lk (hS.inS k3 hx8 ZEy).1 Zey ZbM) ?_;refine WO.w gN rfl (Ql Zax ZW (Zz fh rfl) ZeB (j:=0) rfl rfl (ws:= [.int .i64 J7.name,.bool J7.root,.int .i64 J7.from_,.int .i64 J7.has,.int .i64 J7.out,.bool J7.use]) rfl) ?_;refine r1 ?_;rintro _ h18 ⟨b17,ZCF,rfl,hS⟩;refine r1 ?_;rintro h19 hS;refine r8 ?_;refine r2 ?_;refine WO.w gN rfl (XQ ZgN (Zk lk (Zk lk (Zk lk (Zk lk (Zk lk ZG))))) rfl (cs':= [.int .i64 1,.int .i64 p1.ZH,.int .i64 p1.name,.int .i64 p1.at_,.int .i64 16]) rfl) ?_;refine r1 ?_;rintro _ h21 ⟨b20,ZJV,rfl,hS⟩;refine r1 ?_;rintro h22 hS;refine r2 ?_;refine WC.Ke (r:=r) (fun(p:Int×Int×Int×Int) (s:Fs)=>match p with | (v31,v32,v33,v34)=>∃ (K8:Fr) (h23:H),s= ⟨K8,[],h23,none⟩∧Sp wm T h [bx wm b1 [.slice Zr p0.cells.length Zq,.slice Zp p0.notes.length Zo,.int .i64 p0.names,.slice Zn p0.freed.length Zm],bx wm b3 [.int .i64 p1.Xf,.int .i64 p1.at_,.int .i64 p1.name,.int .i64 p1.ZH],bx wm b5 [.slice none 0 0,.slice none 0 0,.int .i64 0,.slice none 0 0],bx wm b17 [.int .i64 J7.name,.bool J7.root,.int .i64 J7.from_,.int .i64 v31,.int .i64 v32,.bool J7.use],bx wm b20 [.int .i64 1,.int .i64 p1.ZH,.int .i64 p1.name,.int .i64 v33,.int .i64 v34],JV wm (Ye Zd) Zr p0.cells.length Zq YU p0.cells,ow wm Ze Zp p0.notes.length Zo p0.notes,ow wm (ZA .i64) Zn p0.freed.length Zm p0.freed] h23∧K8.at 2= .pointer (some ⟨b1,0,none⟩)∧K8.at 3= .pointer (some ⟨b3,0,none⟩)∧K8.at 4= .pointer (some ⟨b5,0,none⟩)∧K8.at 5= .int .i64 x7∧K8.at 6= .pointer (some ⟨b17,0,none⟩)∧K8.at 7= .pointer (some ⟨b20,0,none⟩)) (Zc4 p0 p1 x7 J7) ?_ ?_
 ·clear hL hS;rintro⟨v31,v32,v33,v34⟩ s hL ⟨K8,h23,rfl,hS,e25,e26,e27,e28,e29,e30⟩;dsimp only [Zc4] at hL;refine r1 ?_;refine WC.Yn mixed (by kernel_rfl) ?_;refine r4 ?_;obtain⟨x35,Zaj,hL⟩:=bind_some hL;obtain⟨b36,o37,a38,n39,c40,ZmF,Zdr,ZeA⟩:=hS.atS k5 Zaj;refine WX.w gN rfl (Zx YT Z9 lk lk rfl Zdr Zaj) ?_ rfl;refine WX.w gN rfl (Zy Xl (Zz fh rfl) ZeA (j:=0) rfl (v:= .slice a38 n39 c40) rfl) ?_ rfl;refine r2 ?_;obtain⟨x41,ZfF,hL⟩:=bind_some hL;obtain⟨b42,o43,_,Zex,Zib,Zuj⟩:=Src.at_ (hS.inS k5 Zaj ZmF).2.1 ZfF;refine WX.w gN rfl (Zx Xg ZW lk lk (hS.inS k5 Zaj ZmF).1 Zex ZfF) ?_ rfl;have hS:=hS.Zak k5 Zaj ZmF;refine WX.hu gN (Ky (e:=Zd) (Zb.mk J7.name J7.root J7.from_ v31 v32 J7.use) () hS k1 ZW (Zz fh rfl) (Zz (Zi rfl fh) rfl) Zex ZfF Zib (j:=0) rfl (vs:= [.int .i64 J7.name,.bool J7.root,.int .i64 J7.from_,.int .i64 v31,.int .i64 v32,.bool J7.use]) rfl rfl rfl rfl rfl (cs':= [.int .i64 J7.name,.bool J7.root,.int .i64 J7.from_,.int .i64 v31,.int .i64 v32,.bool J7.use]) rfl rfl trivial) ?_ rfl rfl [] (by kernel_rfl) Yh.e;rintro h44 ⟨hS,ZJv⟩;obtain⟨ZAP,ZIR,hS⟩:=hS.Zar (.c k1 (.c k0 .n)) Zaj;refine r6 ?_;refine r1 ?_;refine WO.hn gN rfl (ZaO (e:=Ze) hS QV YV KT rfl rfl rfl (Zk lk ZG) rfl [((),(Zf.mk 1 p1.ZH p1.name v33 v34))] rfl (xs:= [(Zf.mk 1 p1.ZH p1.name v33 v34)]) rfl (by intro q hq;simp only [List.mem_cons,List.not_mem_nil,or_false] at hq;subst hq;exact trivial) rfl) ?_;rintro _ h49 ⟨b48,ZOx,rfl,hS⟩;obtain⟨z50,ZIo,hL⟩:=bind_some hL;refine WO.hv gN rfl (KF (e:=Ze) hS k7 Wo lk lk (hS.QI k0) (hS.on k0) ZIo) ?_;rintro _ h53 ⟨a51,c52,rfl,hS⟩;refine r2 ?_;rintro h54 hS;refine r6 ?_;rintro h55 hS;refine r3 ?_;have hr:=Option.some.inj hL;subst hr;exact ZX.QU rfl (ZP (Ya rfl (Ya rfl e27)) (ZV X7 Y4 (hS.Qw k0) (j:=0) rfl rfl (ws:= [.slice Zr p0.cells.length Zq,.slice a51 z50.length c52,.int .i64 p0.names,.slice Zn p0.freed.length Zm]) rfl) Zu) ⟨_,⟨Zr,p0.cells.length,Zq,ZAP,a51,z50.length,c52,Zn,p0.freed.length,Zm,rfl,rfl⟩,hT ▸ hS.only (.c k4 (.c k2 (.c k6 .n)))⟩
 ·skip;refine r16 ?_;refine r1 ?_;refine cn hL ?_ ?_
  ·intro hc hL;refine r6 ?_;rintro h56 hS;refine r6 ?_;obtain⟨x57,ZA6,hL⟩:=bind_some hL;refine WO.w gN rfl (Y3 (Zz fh rfl) (JW rfl) (Zgr ZA6)) ?_;refine r2 ?_;rintro h58 hS;refine r8 ?_;refine r2 ?_;rintro h59 hS;refine r1 ?_;exact Y7.Yo _ hL ⟨_,_,rfl,hS.only (.c k4 (.c k3 (.c k2 (.c k0 (.c k0 (.c k0 (.c k0 (.c k0 .n)))))))),YK⟩
  ·intro hc hL;refine r6 ?_;rintro h60 hS;refine r1 ?_;exact Y7.Yo _ hL ⟨_,_,rfl,hS.only (.c k4 (.c k3 (.c k2 (.c k0 (.c k0 (.c k0 (.c k0 (.c k0 .n)))))))),YK⟩
theorem Zyp {F wm:Nat} {h:H} {p0:(List Int)} {p1:Int} {Zr:Option Addr} {Zq:Nat} {r:Int} (ZJ:wm <=h.size) (Zw:Sl (ZA .i64) wm h Zr Zq p0) (hL:ZqJ F p0 p1=some r):
 WR XX 112 #[.slice Zr p0.length Zq,.int .i64 p1] wm h (CP (fun(v:Value) (Gb:List (Ast wm))=>v= .int .i64 r∧Gb= []) [] h):=by
 refine bg Try.ntmps112 ZJ ZO.nil ?_;intro T hT hS;unfold ZqJ at hL;refine QW ?_;refine r2 ?_;refine WC.loop (WL.lift hL (fun(v6:Int) (s:Fs)=>∃ (Jb:Fr) (h1:H),s= ⟨Jb,[],h1,none⟩∧Sp wm T h [] h1∧Jb.at 0= .slice Zr p0.length Zq∧Jb.at 1= .int .i64 p1∧Jb.at 7= .int .i64 (p0.length:Int)∧Jb.at 8= .int .i64 v6) ⟨_,_,rfl,hS.only .n,YK⟩ ?_);clear hL hS;rintro Zdo v6 s Zh4 hL ⟨Jb,h1,rfl,hS,e3,e4,e5,e7⟩;dsimp only [Zc1] at hL;refine r6 ?_;refine cn hL ?_ ?_
 ·intro hc hL;refine QW ?_;refine r3 ?_;obtain⟨x9,hx9,hL⟩:=bind_some hL;obtain⟨b10,o11,_,ZmP,Zm2,ZmT,Zqs⟩:=Sl.at_ Zw hx9;refine WO.w gN rfl (Zx Xp Yx lk lk rfl ZmP hx9) ?_;refine WO.w gN rfl (Zy YS (Zz fh rfl) (At.fz hS.fz ZmT Zm2) (j:=0) rfl (v:= .int .i64 x9) rfl) ?_;refine r3 ?_;refine cn hL ?_ ?_
  ·intro hc hL;refine QW ?_;exact rt hL hT hS
  ·intro hc hL;refine r6 ?_;refine r1 ?_;exact Yg.Yo (Zh4 _ _ hL ⟨_,_,rfl,hS.only .n,YK⟩)
 ·intro hc hL;refine r8 ?_;refine r3 ?_;exact rt hL hT hS
end Go.Proofs.Ytekpjgmhkkjhgaa
end
end
section
namespace Go.Proofs.Ytekpjgmhkkjhgaa
open Go.Lf
def Znj (p0:Store) (p1:Zv):Option (PR Unit):=
 (Zan p0.cells (Zg.mk p1.at_ p1.name) (Zb.mk 0 false 0 0 0 false)).bind fun x3=>(bif(p1.Xf==1) then(bif decide (p0.names >=12) then some (.Jr 3) else some (.ok ())) else(bif(p1.Xf==5) then(bif decide (p1.at_ >= (p0.notes.length:Int)) then some (.Jr 5) else some (.ok ())) else(bif(p1.Xf==4) then(bif((!x3.2) || (!x3.1.root)) then some (.Jr 7) else some (.ok ())) else(bif((!x3.2) || (!x3.1.use)) then some (.Jr 7) else some (.ok ())))))
def Zat (p0:Store) (p1:Zf):Option Store:=
 (app 40 p0.notes [p1]).bind fun z5=>some (Store.mk p0.machines p0.names p0.cells z5 p0.freed)
def Znh (p0:(List Zf)) (p1:Int) (p2:Int):Option (List Zf):=
 (slL p0 p1 p2).bind fun z1=>(bif(p1==p2) then some p0 else(slL p0 0 p1).bind fun z4=>(slL p0 p2 (p0.length:Int)).bind fun z13=>(app 40 z4 z13).bind fun z17=>some z17)
def Zng (p0:Int):Option Zb:=
 some (Zb.mk p0 false (-1) 0 0 false)
def ZeL (v20:Int) (Zfz:(Int×(List Zb)×Int ->Option (Za×Int))) (x35:Zb):Int×(List Zb) ->Option (Za×Int):=fun(v47,v49)=>
 (app 48 v49 [x35]).bind fun z58=>Zfz (v47,z58,ZQ (v20 + 1))
def ZeK (p0:Za) (p1:Int):Int×(List Zb) ->Option (Za×Int):=fun(v73,v75)=>
 (ZL p0.cells p1).bind fun x80=>some ((Za.mk (YH p0.cells p1 v75) p0.notes p0.names p0.freed),v73)
def ZeM (p0:Za) (p1:Int) (p2:Int):Int×(List Zb)×Int ->(Int×(List Zb)×Int ->Option (Za×Int)) ->Option (Za×Int):=fun(v13,v15,v20) Zfz=>
 (ZL p0.cells p1).bind fun x23=>(bif decide (v20 < (x23.length:Int)) then(ZL p0.cells p1).bind fun x29=>(ZL x29 v20).bind fun x35=>(bif((decide (v13 < 0)) && (decide (x35.name > p2))) then(app 48 v15 [(Zb.mk p2 false (-1) 0 0 false)]).bind fun z64=>(ZeL v20 Zfz x35) ((v15.length:Int),z64) else(ZeL v20 Zfz x35) (v13,v15)) else(bif decide (v13 < 0) then(app 48 v15 [(Zb.mk p2 false (-1) 0 0 false)]).bind fun z92=>(ZeK p0 p1) ((v15.length:Int),z92) else(ZeK p0 p1) (v13,v15)))
def ZiL (F:Nat) (p0:Za) (p1:Int) (p2:Int):Option (Za×Int):=
 (Zdh F p0 p1 p2).bind fun x5=>(bif decide (x5 >=0) then some (p0,x5) else loop F (ZeM p0 p1 p2) ((-1),[],0))
def ZiK (F:Nat) (p0:Za) (p1:Int) (p2:Int) (p3:Int) (p4:Int):Option Za:=
 (bif(p3 !=p1) then(app 40 p0.notes [(Zf.mk 2 p3 p2 0 p4)]).bind fun z7=>some (Za.mk p0.cells z7 p0.names p0.freed) else(ZiL F p0 p1 p2).bind fun Uq=>(ZL Uq.1.cells p1).bind fun QC=>(ZL Uq.1.cells p1).bind fun x32=>(ZL x32 Uq.2).bind fun x38=>(ZL QC Uq.2).bind fun x41=>some (Za.mk (YH Uq.1.cells p1 (YH QC Uq.2 (Zb.mk x41.name x41.root x41.from_ x41.has (ZQ (x38.out - p4)) x41.use))) Uq.1.notes Uq.1.names Uq.1.freed))
def ZeI (p0:(List Int)) (v12:Int) (Zca:((List Int)×Bool×Int ->Option (List Int))):(List Int)×Bool ->Option (List Int):=fun(v19,v24)=>
 (ZL p0 v12).bind fun x27=>(app 8 v19 [x27]).bind fun z32=>Zca (z32,v24,ZQ (v12 + 1))
def ZeH:(List Int) ->Option (List Int):=fun v47=>
 some v47
def ZeJ (p0:(List Int)) (p1:Int):(List Int)×Bool×Int ->((List Int)×Bool×Int ->Option (List Int)) ->Option (List Int):=fun(v5,v10,v12) Zca=>
 (bif decide (v12 < (p0.length:Int)) then(gd (!v10) (ZL p0 v12) default).bind fun x36=>(bif((!v10) && (decide (x36 > p1))) then(app 8 v5 [p1]).bind fun z41=>(ZeI p0 v12 Zca) (z41,true) else(ZeI p0 v12 Zca) (v5,v10)) else(bif(!v10) then(app 8 v5 [p1]).bind fun z54=>(ZeH) z54 else(ZeH) v5))
def Zki (F:Nat) (p0:(List Int)) (p1:Int):Option (List Int):=
 loop F (ZeJ p0 p1) ([],false,0)
end Go.Proofs.Ytekpjgmhkkjhgaa
end
