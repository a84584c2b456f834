/- Parts Part 9 of the proof. -/
import Derived.Test.YtekpjgmhkkjhgaaRa8
set_option linter.all false
section
noncomputable section
namespace Go.Yq
open Go.Lf
variable {X:Ctx} {n wm:Nat} {rd:Option Nat} {ops:Array Oper} {l:List Oper} {fr:Fr} {ds:List Deferred} {h h1 h2 h0:H} {ty:TypeId} {p:String} {af:Array Edge} {g:Option (Nat×Bool)} {m:Nat} {T:Nat ->Prop} {G Gr Ga Gb:List (Ast wm)} {d:Nat} {sf:ST}
def HW (X:Ctx) (wm:Nat) (o:Oper) (fr:Fr) (h:H) (K:H ->Prop):Prop:=∃ v E h1,Xb X h (ZX fr) o=some (.val v,E)∧E.apply wm h=some h1∧K h1
theorem WO.hw {Q:XX ->Fs ->Prop} {op:Op} {K:H ->Prop} (hg:ZO ops ⟨none,op,ty,p,af,g⟩ fr) (s:HW X wm ⟨none,op,ty,p,af,g⟩ fr h K) (k:∀ h',K h' ->WO X n wm rd ops l ⟨fr,ds,h',none⟩ Q):
 WO X n wm rd ops (⟨none,op,ty,p,af,g⟩::l) ⟨fr,ds,h,none⟩ Q:=let⟨_,_,h1,ha,hE,hk⟩:=s;WO.val hg rfl ha hE (k h1 hk)
theorem Qf {t:TypeId} {x:Operand} {lo hi mx:Option Operand} {a:Option Addr} {nn c:Nat} {vlo vhi vmx:Option Value} {v:Value} (hx:ZX fr x=some (.slice a nn c)) (el1:evo (ZX fr) lo=some vlo) (eh1:evo (ZX fr) hi=some vhi) (em1:evo (ZX fr) mx=some vmx) (hv:aslice X.P h t (.slice a nn c) vlo vhi vmx=some v):
 Xb X h (ZX fr) ⟨some d,.slice t x lo hi mx,ty,p,af,g⟩=some (.val v,.none):=by
 show(match ZX fr x,evo (ZX fr) lo,evo (ZX fr) hi,evo (ZX fr) mx with
  | some x,some lo,some hi,some mx=>bif plain x && not (ZlX x) then(match lo,hi,mx with
     | lo,hi,mx=>bif Ql (lo.toList ++ hi.toList ++ mx.toList) then pN (Zab X.P (Instr.sliceAt t x lo hi mx)) else none)
    else vN (aslice X.P h t x lo hi mx)
  | _,_,_,_=>none)=_
 rw [hx,el1,eh1,em1];show(bif plain (.slice a nn c) && not (ZlX (.slice a nn c)) then _ else vN (aslice X.P h t (.slice a nn c) vlo vhi vmx))=_;have:ZlX (.slice a nn c)=true:=rfl;rw [this,Bool.not_true,Bool.and_false,cond_false,hv];rfl
section
variable {α:Type} {e:JW α} {t el:TypeId} {x:Operand} {a:Option Addr} {nn c:Nat} {xs zs ws us:List α} {a1 a2 a3:Int}
theorem ZwI {lo hi mx:Operand} (so:Xu e wm wm h a c xs) (hn:nn=xs.length) (hu:X.P.underlying t=some (.slice el)) (hs:Z5 X.P el=some e.sz) (hx:ZX fr x=some (.slice a nn c))
 (hlo:ZX fr lo=some (.int .i64 a1)) (hhi:ZX fr hi=some (.int .i64 a2)) (hmx:ZX fr mx=some (.int .i64 (xs.length:Nat))) (hz:slL xs a1 a2=some zs):
 ∃ v,Xb X h (ZX fr) ⟨some d,.slice t x (some lo) (some hi) (some mx),ty,p,af,g⟩=some (.val v,.none):=by
 obtain⟨l,k,rfl,rfl,hlk,hkx,rfl⟩:=UD hz;subst hn;have e1:obN (some (.int .i64 (l:Int))) 0=some l:=rfl;have e2:∀ q,obN (some (.int .i64 (k:Int))) q=some k:=fun q=>rfl
 have e3:ZbJ (.int .i64 ((xs.length:Nat):Int))=some xs.length:=rfl;rcases so.mem with⟨rfl,rfl,rfl⟩ | ⟨i,o,cs,rfl,q2,q3,q4,q5,q6⟩
 ·have hk0:k=0:=by simpa using hkx
  have hl0:l=0:=by omega
  subst hk0 hl0;refine⟨.slice none 0 0,Qf hx (Yu hlo) (Yu hhi) (Yu hmx) ?_⟩
  have:aslice X.P h t (.slice none 0 0) (some (.int .i64 ((0:Nat):Int))) (some (.int .i64 ((0:Nat):Int))) (some (.int .i64 ((0:Nat):Int)))=some (.slice none 0 0):=by
   unfold aslice;simp only [hu,hs]
   rfl
  exact this
 ·refine⟨.slice (some ⟨i,bif Nat.beq xs.length l then o else o + l * e.sz,none⟩) (k - l) (2 * (xs.length - l)),Qf hx (Yu hlo) (Yu hhi) (Yu hmx) ?_⟩;unfold aslice;simp only [hu,hs,e1,e2,e3];rw [Nat.ble_eq_true_of_le hlk,Nat.ble_eq_true_of_le hkx,Nat.ble_eq_true_of_le q4]
  rfl
theorem ZwH {hi:Operand} (so:Xu e wm wm h a c xs) (hn:nn=xs.length) (hu:X.P.underlying t=some (.slice el)) (hs:Z5 X.P el=some e.sz) (hx:ZX fr x=some (.slice a nn c))
 (hhi:ZX fr hi=some (.int .i64 a2)) (hz:slL xs 0 a2=some zs):
 ∃ a' c',a'=a∧c'=c∧Xb X h (ZX fr) ⟨some d,.slice t x none (some hi) none,ty,p,af,g⟩=some (.val (.slice a' zs.length c'),.none)∧ZiO e a c xs a' c' zs:=by
 obtain⟨l,k,hl0,rfl,hlk,hkx,rfl⟩:=UD hz;have hl0:l=0:=by omega
 subst hl0 hn;have hlen:((xs.take k).drop 0).length=k:=by rw [List.drop_zero,List.length_take];omega
 have e2:∀ q,obN (some (.int .i64 (k:Int))) q=some k:=fun q=>rfl
 have e1:obN none 0=some 0:=rfl;refine⟨a,c,rfl,rfl,?_⟩;rcases so.mem with⟨rfl,rfl,rfl⟩ | ⟨i,o,cs,rfl,q2,q3,q4,q5,q6⟩
 ·have hk0:k=0:=by simpa using hkx
  subst hk0;refine⟨Qf hx rfl (Yu hhi) rfl ?_,ZoO rfl⟩
  have:aslice X.P h t (.slice none 0 0) none (some (.int .i64 ((0:Nat):Int))) none=some (.slice none 0 0):=by
   unfold aslice;simp only [hu,hs]
   rfl
  exact this
 ·refine⟨Qf hx rfl (Yu hhi) rfl ?_,ZjI hlk hkx (.inl ⟨by omega,by omega⟩)⟩;rw [hlen];unfold aslice;simp only [hu,hs,e1,e2];rw [Nat.ble_eq_true_of_le (Nat.zero_le k),Nat.ble_eq_true_of_le (Nat.le_trans hkx q4)];simp only [Bool.and_self,cond_true];cases hev:Nat.beq (c % 2) 0 with
  | true=>
    have:=Nat.eq_of_beq_eq_true hev;have hc:2 * (c / 2 - 0)=c:=by omega
    simp only [cond_true,Nat.zero_mul,Nat.add_zero,Nat.sub_zero];cases Nat.beq (c / 2) 0 <;> simp only [cond_true,cond_false] <;> congr 2 <;> omega
  | false=>
    simp only [cond_false]
    rfl
structure Tl (e:JW α) (a:Option Addr) (c k n3:Nat) (a3:Option Addr):Prop where
 out:n3=0∨∃ i o,a=some ⟨i,o,none⟩∧a3=some ⟨i,o + k * e.sz,none⟩∧k + n3 <=c / 2
theorem ZwG {lo hi:Operand} {mm:Nat} (so:Xu e wm wm h a c zs) (hu:X.P.underlying t=some (.slice el)) (hs:Z5 X.P el=some e.sz) (hx:ZX fr x=some (.slice a zs.length c))
 (hlo:ZX fr lo=some (.int .i64 (zs.length:Nat))) (hhi:ZX fr hi=some (.int .i64 (mm:Nat))) (hm:zs.length <=mm) (hc:mm <=c / 2):
 ∃ a' c',Xb X h (ZX fr) ⟨some d,.slice t x (some lo) (some hi) none,ty,p,af,g⟩=some (.val (.slice a' (mm - zs.length) c'),.none)∧Tl e a c zs.length (mm - zs.length) a':=by
 have e1:obN (some (.int .i64 ((zs.length:Nat):Int))) 0=some zs.length:=rfl;have e2:∀ q,obN (some (.int .i64 (mm:Int))) q=some mm:=fun q=>rfl
 rcases so.mem with⟨rfl,rfl,rfl⟩ | ⟨i,o,cs,rfl,q2,q3,q4,q5,q6⟩
 ·have hk0:mm=0:=by omega
  subst hk0;refine⟨none,0,Qf hx (Yu hlo) (Yu hhi) rfl ?_,⟨.inl rfl⟩⟩
  have:aslice X.P h t (.slice none 0 0) (some (.int .i64 ((0:Nat):Int))) (some (.int .i64 ((0:Nat):Int))) none=some (.slice none 0 0):=by
   unfold aslice;simp only [hu,hs]
   rfl
  exact this
 ·have hmain:∀ v,(bif Nat.beq (c % 2) 0 then some (Value.slice (some ⟨i,bif Nat.beq (c / 2) zs.length then o else o + zs.length * e.sz,none⟩) (mm - zs.length) (2 * (c / 2 - zs.length)))
   else bif Nat.beq zs.length 0 then some (.slice (some ⟨i,o,none⟩) mm c)
   else some (.slice (some ⟨i,o + zs.length * e.sz,none⟩) (mm - zs.length) (2 * (c / 2 - zs.length) + 1)))=some v ->aslice X.P h t (.slice (some ⟨i,o,none⟩) zs.length c) (some (.int .i64 ((zs.length:Nat):Int))) (some (.int .i64 (mm:Int))) none=some v:=fun v hv=>by
   unfold aslice;simp only [hu,hs,e1,e2];rw [Nat.ble_eq_true_of_le hm,Nat.ble_eq_true_of_le hc,q3];have b2:(Nat.beq e.sz e.sz && Nat.ble 1 e.sz)=true:=by rw [Nat.beq_refl,Nat.ble_eq_true_of_le (show 1 <=e.sz from e.pos)];rfl
   simp only [b2,Bool.and_self,cond_true];exact hv
  cases hev:Nat.beq (c % 2) 0 with
  | true=>
    rw [hev] at hmain;refine⟨_,_,Qf hx (Yu hlo) (Yu hhi) rfl (hmain _ rfl),⟨?_⟩⟩;cases hcl:Nat.beq (c / 2) zs.length with
    | true=>have:=Nat.eq_of_beq_eq_true hcl;left;omega
    | false=>right;exact⟨i,o,rfl,rfl,by omega⟩
  | false=>
    rw [hev] at hmain;cases hl0:Nat.beq zs.length 0 with
    | true=>
      have h00:=Nat.eq_of_beq_eq_true hl0;rw [hl0] at hmain;refine⟨some ⟨i,o,none⟩,c,Qf hx (Yu hlo) (Yu hhi) rfl (hmain _ ?_),⟨.inr ⟨i,o,rfl,by rw [h00];simp,by omega⟩⟩⟩;rw [h00];rfl
    | false=>
      rw [hl0] at hmain;exact⟨_,_,Qf hx (Yu hlo) (Yu hhi) rfl (hmain _ rfl),⟨.inr ⟨i,o,rfl,rfl,by omega⟩⟩⟩
theorem Zlo (z:List Value) (k:Nat):(JX z k).length=k * z.length:=by unfold JX;simp
theorem Zw8 {ts:Array TypeId} {rest:List TypeId} {n3 c3:Nat} {z:Value} {a3':Option Addr} (hS:Sp wm T h0 G h) (pk:Pk G (ow wm e a nn c zs) Gr) (tl:Tl e a c zs.length n3 a3') (hts:ts.toList=t::rest) (hu:X.P.underlying t=some (.slice el)) (hz:Yy X.P el=some z) (hzl:z.cells.toList.length=e.sz) (hx:ZX fr x=some (.slice a3' n3 c3)):
 HW X wm ⟨none,.call {callee:= .builtin .clear,args:=#[x],argTypes:=ts},ty,p,af,g⟩ fr h (fun h'=>Sp wm T h0 (ow wm e a nn c zs::Gr) h'):=by
 have key:∀ E,KI X.P h t (.slice a3' n3 c3)=some E ->Xb X h (ZX fr) ⟨none,.call {callee:= .builtin .clear,args:=#[x],argTypes:=ts},ty,p,af,g⟩=some (.val (.tuple #[]),E):=fun E hE=>by
  have hev:evs (ZX fr) (#[x]:Array Operand).toList=some [.slice a3' n3 c3]:=Zc hx Zk;rw [QK,hev];show(match ts.toList with | t::_=>(match KI X.P h t (.slice a3' n3 c3) with | some E=>some (AN.val (.tuple #[]),E) | none=>none) | []=>none)=_;rw [hts];dsimp only;rw [hE]
 obtain⟨h1,so⟩:=hS.get pk;by_cases h0':n3=0
 ·refine⟨_,.none,h,key _ ?_,rfl,hS.perm pk.perm⟩;unfold KI;simp only [hu,h0',Nat.beq_refl,cond_true]
 ·rcases tl.out with q | ⟨i,o,rfl,rfl,hcap⟩
  ·exact absurd q h0'
  ·rcases so.mem with⟨q,_⟩ | ⟨i',o',cs,q,q2,q3,q4,q5,q6⟩
   ·cases q
   ·cases q;have hb:Nat.beq n3 0=false:=by rw [Bool.eq_false_iff];intro q;exact h0' (Nat.eq_of_beq_eq_true q)
    have hfit:o + zs.length * e.sz + n3 * e.sz <=cs.length:=by
     have:(zs.length + n3) * e.sz <=c / 2 * e.sz:=Nat.mul_le_mul_right _ hcap;rw [Nat.add_mul] at this;omega
    have hzr:(JX z.cells.toList n3).length=n3 * e.sz:=by rw [Zlo,hzl]
    have hl2:o + zs.length * e.sz + (JX z.cells.toList n3).length <=cs.length:=by rw [hzr];exact hfit
    have hu':Up wm (fun j=>j=i) h (h.put i (.row (splice cs (o + zs.length * e.sz) (JX z.cells.toList n3)) true e.sz)):=Up.put q2 (by rw [q3];rfl);refine⟨_,.upd i (.row (splice cs (o + zs.length * e.sz) (JX z.cells.toList n3)) true e.sz),_,key _ ?_,?_,hS.one pk hu' (fun j q=>⟨o,by rw [q]⟩) ⟨h1,so.max,.inr ⟨i,o,_,rfl,q2,Z9 (Xy q3 rfl) _,q4,by rw [QO _ _ _ hl2];exact q5,?_⟩⟩ fun j q=>.inl q⟩
    ·unfold KI;simp only [hu,hb,cond_false,hz,q3,hzl];rw [Nat.ble_eq_true_of_le hfit];rfl
    ·show(bif Nat.ble wm i && (h.at i).own then some (h.put i _) else none)=_;rw [q3,Nat.ble_eq_true_of_le q2];rfl
    ·refine⟨by rw [QO _ _ _ hl2];exact q6.len,fun k x hk=>?_⟩;obtain⟨q,g1,g2⟩:=q6.get k x hk;refine⟨q,?_,e.mono (hu'.fz (Nat.le_refl _)) g2⟩;have hkl:= (List.getElem?_eq_some_iff.1 hk).1;have:(k + 1) * e.sz <=zs.length * e.sz:=Nat.mul_le_mul_right _ hkl;rw [Nat.succ_mul] at this;rw [Zda hl2 (.inl (by omega)),g1]
theorem ZwN {ts:Array TypeId} {x y:Operand} {JQ:Nat} {b2:Option Addr} {c2:Nat} {ys:List α} (hi:ZeE X.P ts e.sz JQ) (hx:ZX fr x=some (.slice a xs.length c)) (hy:ZX fr y=some (.slice b2 ys.length c2)) (so:Xu e wm wm h a c xs) (sr:Src e wm h b2 c2 ys) (hr:xs.length + ys.length <=c / 2):
 ∃ E,Xb X h (ZX fr) ⟨some d,.call {callee:= .builtin .append,args:=#[x,y],argTypes:=ts},ty,p,af,g⟩=some (.val (.slice a (xs ++ ys).length c),E):=by
 obtain⟨el,z,hi⟩:=hi;obtain⟨new,n1,n2,n3⟩:=sr.reads;have n4:=n3.one n2;have hev:evs (ZX fr) (#[x,y]:Array Operand).toList=some [.slice a xs.length c,.slice b2 ys.length c2]:=Zc hx (Zc hy Zk);have hls:XZ (.slice b2 ys.length c2)=ys.length:=rfl
 have key:∀ (v:Value) (E:Eff),XL X.P h ts (.slice a xs.length c) (.slice b2 ys.length c2)=some (v,E) ->Xb X h (ZX fr) ⟨some d,.call {callee:= .builtin .append,args:=#[x,y],argTypes:=ts},ty,p,af,g⟩=some (.val v,E):=by
  intro v E hE;rw [QK,hev];show vE (XL X.P h ts (.slice a xs.length c) (.slice b2 ys.length c2))=_;rw [hE];rfl
 have hle2:(xs ++ ys).length=xs.length + ys.length:=List.length_append;by_cases hy0:ys= []
 ·subst hy0;refine⟨.none,key _ _ ?_⟩;unfold XL;rw [hi];dsimp only;rw [n1];dsimp only;rw [hls,Nat.ble_eq_true_of_le hr,hle2];rfl
 ·have hyl:0 < ys.length:=List.length_pos_iff.2 hy0;rcases so.mem with⟨rfl,rfl,rfl⟩ | ⟨i,o,cs,rfl,hlo2,hrow,hc1,hc2,hel⟩
  ·exfalso;simp at hr;exact hy0 hr
  ·refine⟨.upd i (.row (splice cs (o + xs.length * e.sz) new) true e.sz),key _ _ ?_⟩
   have hfit:o + xs.length * e.sz + new.length <=cs.length:=by
    rw [n2];have:(xs.length + ys.length) * e.sz <=c / 2 * e.sz:=Nat.mul_le_mul_right _ hr;rw [Nat.add_mul] at this;omega
   unfold XL;rw [hi];dsimp only;rw [n1];dsimp only;rw [hls,Nat.ble_eq_true_of_le hr];have b1:Nat.beq ys.length 0=false:=by rw [Bool.eq_false_iff];intro q;have:=Nat.eq_of_beq_eq_true q;omega
   rw [b1,hrow];simp only [cond_true,cond_false];rw [Nat.ble_eq_true_of_le hfit,n4,hle2];rfl
theorem Zw9 {ts:Array TypeId} {x y:Operand} {JQ:Nat} {b2:Option Addr} {n2 c2:Nat} {ys:List α} (hS:Sp wm T h0 G h) (pk:Pk G (ow wm e a nn c xs) Gr) (hi:ZeE X.P ts e.sz JQ) (hx:ZX fr x=some (.slice a nn c)) (hy:ZX fr y=some (.slice b2 n2 c2)) (sr:Src e wm h b2 c2 ys) (hn:n2=ys.length) (ha:app JQ xs ys=some zs) (hr:zs.length <=c / 2):
 HV X wm ⟨some d,.call {callee:= .builtin .append,args:=#[x,y],argTypes:=ts},ty,p,af,g⟩ fr h (XF a) (fun v h'=>v= .slice a zs.length c∧Sp wm T h0 (ow wm e a zs.length c zs::Gr) h'):=by
 obtain⟨v,E,h1,e1,e2,e3,e4,a',c',rfl,hS'⟩:=Zbv (d:=d) (ty:=ty) (p:=p) (af:=af) (g:=g) hS pk hi hx hy sr hn ha;obtain⟨h1',so⟩:=hS.get pk;obtain⟨rfl,_⟩:=Zh9 ha;subst h1' hn;obtain⟨E',e5⟩:=ZwN (d:=d) (ty:=ty) (p:=p) (af:=af) (g:=g) hi hx hy so sr (by rw [List.length_append] at hr;exact hr);rw [e5] at e1;cases e1;exact⟨_,_,h1,e5,e2,e3,e4,rfl,hS'⟩
theorem ZgG {b:Nat} {i j:Int} {u v:List α} (h3:slL xs i j=some ws) (h1:slL xs 0 i=some u) (h2:slL xs j xs.length=some v) (ha:app b u v=some zs):zs.length <=xs.length:=by
 obtain⟨l,k,rfl,rfl,hlk,hkx,rfl⟩:=UD h3;obtain⟨l1,k1,hl1,hk1,_,_,rfl⟩:=UD h1;obtain⟨l2,k2,hl2,hk2,_,_,rfl⟩:=UD h2;obtain⟨rfl,_⟩:=Zh9 ha;simp only [List.length_append,List.length_drop,List.length_take];omega
end
section
variable {κ ν:Type} [DecidableEq κ] {kt vt:TypeId} {kv:κ ->Value} {vv:ν ->Value} {i:Nat} {ll:List (κ×ν)}
theorem Zyy {ts:Array TypeId} {t:TypeId} {rest:List TypeId} {x y:Operand} {k:κ} (hS:Sp wm T h0 G h) (pk:Pk G (mp wm kv vv (some i) ll) Gr) (K:Zbk X.P kt kv) (hts:ts.toList=t::rest) (hu:X.P.underlying t=some (.map kt vt)) (hx:ZX fr x=some (.map (some i))) (hy:ZX fr y=some (kv k)):
 HW X wm ⟨none,.call {callee:= .builtin .delete,args:=#[x,y],argTypes:=ts},ty,p,af,g⟩ fr h (fun h'=>Sp wm T h0 (mp wm kv vv (some i) (Zas ll k)::Gr) h'):=by
 obtain⟨h',⟨E,ha,hE,_⟩,u,ho⟩:=ZAy (d:=none) (ty:=ty) (p:=p) (af:=af) (g:=g) K hts hu (Nat.le_refl wm) hx rfl hy (hS.get pk);exact⟨_,E,h',ha,hE,hS.one pk u (fun j e=>by cases e;rfl) ho fun j e=>.inl e⟩
end
end Go.Yq
end
end
section
noncomputable section
namespace Go.Yq
open Go.Lf
variable {X:Ctx} {n wm:Nat} {rd:Option Nat} {ops:Array Oper} {l:List Oper} {fr:Fr} {ds:List Deferred} {h h1 h2 h0:H} {ty:TypeId} {p:String} {af:Array Edge} {g:Option (Nat×Bool)} {m:Nat} {T:Nat ->Prop} {G Gr Ga Gb:List (Ast wm)} {d:Nat} {sf:ST}
def HE (X:Ctx) (o:Oper) (fr:Fr) (h:H) (K:Value ->Prop):Prop:=∃ v,Xb X h (ZX fr) o=some (.val v,.none)∧K v
theorem WO.he {Q:XX ->Fs ->Prop} {op:Op} {K:Value ->Prop} (hg:ZO ops ⟨some d,op,ty,p,af,g⟩ fr) (hd:Nat.blt d n=true) (s:HE X ⟨some d,op,ty,p,af,g⟩ fr h K) (k:∀ v,K v ->WO X n wm rd ops l ⟨Tr.set fr d v,ds,h,none⟩ Q):
 WO X n wm rd ops (⟨some d,op,ty,p,af,g⟩::l) ⟨fr,ds,h,none⟩ Q:=let⟨v,ha,hk⟩:=s;WO.w hg hd ha (k v hk)
theorem WX.he {Q:Fr ->H ->Prop} {op:Op} {K:Value ->Prop} (hg:ZO ops ⟨some d,op,ty,p,af,g⟩ fr) (hd:Nat.blt d n=true) (s:HE X ⟨some d,op,ty,p,af,g⟩ fr h K) (k:∀ v,K v ->WX X n wm rd ops sf (m + 1) h l (Tr.set fr d v) Q) (hM:okM ops sf m ⟨some d,op,ty,p,af,g⟩=true):
 WX X n wm rd ops sf m h (⟨some d,op,ty,p,af,g⟩::l) fr Q:=let⟨v,ha,hk⟩:=s;WX.w hg hd ha (k v hk) hM
section
variable {α:Type} {e:JW α} {t el:TypeId} {x:Operand} {a:Option Addr} {nn c:Nat} {xs zs ws us:List α} {a1 a2 a3:Int}
theorem ZlH {lo hi:Option Operand} (so:Xu e wm wm h a c xs) (hn:nn=xs.length) (hu:X.P.underlying t=some (.slice el)) (hs:Z5 X.P el=some e.sz) (hx:ZX fr x=some (.slice a nn c))
 (hlo:evo (ZX fr) lo=some none∧a1=0∨∃ k,evo (ZX fr) lo=some (some (.int k a1))) (hhi:evo (ZX fr) hi=some none∧a2=xs.length∨∃ k,evo (ZX fr) hi=some (some (.int k a2))) (hz:slL xs a1 a2=some zs):
 HE X ⟨some d,.slice t x lo hi none,ty,p,af,g⟩ fr h (fun v=>∃ a' c',v= .slice a' zs.length c'∧ZiO e a c xs a' c' zs):=
 let⟨a',c',h1,h2⟩:=ZtY (d:=d) (ty:=ty) (p:=p) (af:=af) (g:=g) so hn hu hs hx hlo hhi hz;⟨_,h1,a',c',rfl,h2⟩
theorem ZrJ {lo hi mx:Operand} (so:Xu e wm wm h a c xs) (hn:nn=xs.length) (hu:X.P.underlying t=some (.slice el)) (hs:Z5 X.P el=some e.sz) (hx:ZX fr x=some (.slice a nn c))
 (hlo:ZX fr lo=some (.int .i64 a1)) (hhi:ZX fr hi=some (.int .i64 a2)) (hmx:ZX fr mx=some (.int .i64 (xs.length:Nat))) (hz:slL xs a1 a2=some zs):
 HE X ⟨some d,.slice t x (some lo) (some hi) (some mx),ty,p,af,g⟩ fr h (fun _=>True):=let⟨v,hv⟩:=ZwI (d:=d) (ty:=ty) (p:=p) (af:=af) (g:=g) so hn hu hs hx hlo hhi hmx hz;⟨v,hv,trivial⟩
theorem ZrI {hi:Operand} (so:Xu e wm wm h a c xs) (hn:nn=xs.length) (hu:X.P.underlying t=some (.slice el)) (hs:Z5 X.P el=some e.sz) (hx:ZX fr x=some (.slice a nn c))
 (hhi:ZX fr hi=some (.int .i64 a2)) (hz:slL xs 0 a2=some zs):
 HE X ⟨some d,.slice t x none (some hi) none,ty,p,af,g⟩ fr h (fun v=>∃ a' c',a'=a∧c'=c∧v= .slice a' zs.length c'∧ZiO e a c xs a' c' zs):=
 let⟨a',c',h1,h2,h3,h4⟩:=ZwH (d:=d) (ty:=ty) (p:=p) (af:=af) (g:=g) so hn hu hs hx hhi hz;⟨_,h3,a',c',h1,h2,rfl,h4⟩
theorem ZrH {lo hi:Operand} {mm:Nat} (so:Xu e wm wm h a c zs) (hu:X.P.underlying t=some (.slice el)) (hs:Z5 X.P el=some e.sz) (hx:ZX fr x=some (.slice a zs.length c))
 (hlo:ZX fr lo=some (.int .i64 (zs.length:Nat))) (hhi:ZX fr hi=some (.int .i64 (mm:Nat))) (hm:zs.length <=mm) (hc:mm <=c / 2):
 HE X ⟨some d,.slice t x (some lo) (some hi) none,ty,p,af,g⟩ fr h (fun v=>∃ a' c',v= .slice a' (mm - zs.length) c'∧Tl e a c zs.length (mm - zs.length) a'):=
 let⟨a',c',h1,h2⟩:=ZwG (d:=d) (ty:=ty) (p:=p) (af:=af) (g:=g) so hu hs hx hlo hhi hm hc;⟨_,h1,a',c',rfl,h2⟩
theorem Zyx {lo:Operand} {kk:IntKind} (so:Xu e wm wm h a c xs) (hn:nn=xs.length) (hu:X.P.underlying t=some (.slice el)) (hs:Z5 X.P el=some e.sz) (hx:ZX fr x=some (.slice a nn c))
 (hlo:ZX fr lo=some (.int kk a1)) (hz:slL xs a1 xs.length=some zs):
 HE X ⟨some d,.slice t x (some lo) none none,ty,p,af,g⟩ fr h (fun v=>∃ a' c',v= .slice a' zs.length c'∧ZiO e a c xs a' c' zs∧Tl e a c a1.toNat zs.length a'):=by
 obtain⟨a',c',h1,h2⟩:=ZtY (lo:=some lo) (hi:=none) (d:=d) (ty:=ty) (p:=p) (af:=af) (g:=g) so hn hu hs hx (.inr ⟨_,Yu hlo⟩) (.inl ⟨rfl,rfl⟩) hz;refine⟨_,h1,a',c',rfl,h2,⟨?_⟩⟩;obtain⟨l,k,rfl,hk,hlk,hkx,rfl⟩:=UD hz;have hk:k=xs.length:=by omega
 subst hk;have hlen:((xs.take xs.length).drop l).length=xs.length - l:=by rw [List.length_drop,List.length_take];omega
 rw [hlen] at h1 ⊢;by_cases h00:xs.length - l=0
 ·exact .inl h00
 ·right;subst hn;have e1:obN (some (.int kk (l:Int))) 0=some l:=rfl;have e2:obN none xs.length=some xs.length:=rfl;rcases so.mem with⟨rfl,rfl,rfl⟩ | ⟨i,o,cs,rfl,q2,q3,q4,q5,q6⟩
  ·simp at h00
  ·refine⟨i,o,rfl,?_,by show l + _ <=_;omega⟩
   have key:∀ v,aslice X.P h t (.slice (some ⟨i,o,none⟩) xs.length c) (some (.int kk (l:Int))) none none=some v ->v= .slice a' (xs.length - l) c':=fun v hv=>by
    have:=Qf (lo:=some lo) (hi:=none) (mx:=none) (d:=d) (ty:=ty) (p:=p) (af:=af) (g:=g) hx (Yu hlo) rfl rfl hv;rw [h1] at this;cases this;rfl
   unfold aslice at key;simp only [hu,hs,e1,e2] at key;rw [Nat.ble_eq_true_of_le hlk,Nat.ble_eq_true_of_le q4,q3] at key;have b2:(Nat.beq e.sz e.sz && Nat.ble 1 e.sz)=true:=by rw [Nat.beq_refl,Nat.ble_eq_true_of_le (show 1 <=e.sz from e.pos)];rfl
   simp only [b2,Bool.and_self,cond_true] at key;show a'=some ⟨i,o + l * e.sz,none⟩;cases hev:Nat.beq (c % 2) 0 with
   | true=>
     rw [hev] at key;have hcl:Nat.beq (c / 2) l=false:=by rw [Bool.eq_false_iff];intro q;have:=Nat.eq_of_beq_eq_true q;omega
     rw [hcl] at key;have:=key _ rfl;cases this;rfl
   | false=>
     rw [hev] at key;cases hl0:Nat.beq l 0 with
     | true=>
       have ZH9:=Nat.eq_of_beq_eq_true hl0;subst ZH9;rw [hl0] at key;have:=key _ rfl;cases this;simp
     | false=>
       rw [hl0] at key;have:=key _ rfl;cases this;rfl
theorem ZlD {cs vs:List Value} {q j k:Nat} (hl:q + vs.length <=cs.length) (hj:j + k <=vs.length):((splice cs q vs).drop (q + j)).take k= (vs.drop j).take k:=by
 apply List.ext_getElem?;intro t;by_cases ht:t < k
 ·rw [List.getElem?_take_of_lt ht,List.getElem?_take_of_lt ht,List.getElem?_drop,List.getElem?_drop,ZaM _ _ _ _ hl,if_pos (by omega)];congr 1;omega
 ·rw [List.getElem?_eq_none (by rw [List.length_take];omega),List.getElem?_eq_none (by rw [List.length_take];omega)]
theorem Zyz {ts:Array TypeId} {rest:List TypeId} {k n3 c3:Nat} {z:Value} {a3':Option Addr} {q0:e.Par} {x0:α} (hS:Sp wm T h0 G h) (pk:Pk G (ow wm e a nn c xs) Gr) (tl:Tl e a c k n3 a3') (hk:k + n3=xs.length) (hts:ts.toList=t::rest) (hu:X.P.underlying t=some (.slice el)) (hz:Yy X.P el=some z) (hsh:z.cells.toList=e.sh q0 x0) (hF:∀ h',e.F wm h' q0 x0) (hx:ZX fr x=some (.slice a3' n3 c3)):
 HW X wm ⟨none,.call {callee:= .builtin .clear,args:=#[x],argTypes:=ts},ty,p,af,g⟩ fr h (fun h'=>Sp wm T h0 (ow wm e a nn c (xs.take k ++ List.replicate n3 x0)::Gr) h'):=by
 have hzl:z.cells.toList.length=e.sz:=by rw [hsh,e.len]
 have key:∀ E,KI X.P h t (.slice a3' n3 c3)=some E ->Xb X h (ZX fr) ⟨none,.call {callee:= .builtin .clear,args:=#[x],argTypes:=ts},ty,p,af,g⟩=some (.val (.tuple #[]),E):=fun E hE=>by
  have hev:evs (ZX fr) (#[x]:Array Operand).toList=some [.slice a3' n3 c3]:=Zc hx Zk;rw [QK,hev];show(match ts.toList with | t::_=>(match KI X.P h t (.slice a3' n3 c3) with | some E=>some (AN.val (.tuple #[]),E) | none=>none) | []=>none)=_;rw [hts];dsimp only;rw [hE]
 obtain⟨h1,so⟩:=hS.get pk;by_cases h0':n3=0
 ·refine⟨_,.none,h,key _ ?_,rfl,?_⟩
  ·unfold KI;simp only [hu,h0',Nat.beq_refl,cond_true]
  ·have:xs.take k ++ List.replicate n3 x0=xs:=by rw [h0',List.take_of_length_le (by omega)];simp
   rw [this];exact hS.perm pk.perm
 ·rcases tl.out with q | ⟨i,o,rfl,rfl,hcap⟩
  ·exact absurd q h0'
  ·rcases so.mem with⟨q,_⟩ | ⟨i',o',cs,q,q2,q3,q4,q5,q6⟩
   ·cases q
   ·cases q;have hb:Nat.beq n3 0=false:=by rw [Bool.eq_false_iff];intro q;exact h0' (Nat.eq_of_beq_eq_true q)
    have hle:=q6.len;have hkn:k * e.sz + n3 * e.sz=xs.length * e.sz:=by rw [← Nat.add_mul,hk]
    have hfit:o + k * e.sz + n3 * e.sz <=cs.length:=by omega
    have hzr:(JX z.cells.toList n3).length=n3 * e.sz:=by rw [Zlo,hzl]
    have hl2:o + k * e.sz + (JX z.cells.toList n3).length <=cs.length:=by rw [hzr];exact hfit
    have hlen:(xs.take k ++ List.replicate n3 x0).length=xs.length:=by rw [List.length_append,List.length_take,List.length_replicate];omega
    have hu':Up wm (fun j=>j=i) h (h.put i (.row (splice cs (o + k * e.sz) (JX z.cells.toList n3)) true e.sz)):=Up.put q2 (by rw [q3];rfl);refine⟨_,.upd i (.row (splice cs (o + k * e.sz) (JX z.cells.toList n3)) true e.sz),_,key _ ?_,?_,hS.one pk hu' (fun j q=>⟨o,by rw [q]⟩) ⟨h1.trans hlen.symm,by rw [hlen];exact so.max,.inr ⟨i,o,_,rfl,q2,Z9 (Xy q3 rfl) _,by rw [hlen];exact q4,by rw [QO _ _ _ hl2];exact q5,?_⟩⟩ fun j q=>.inl q⟩
    ·unfold KI;simp only [hu,hb,cond_false,hz,q3,hzl];rw [Nat.ble_eq_true_of_le hfit];rfl
    ·show(bif Nat.ble wm i && (h.at i).own then some (h.put i _) else none)=_;rw [q3,Nat.ble_eq_true_of_le q2];rfl
    ·refine⟨by rw [hlen,QO _ _ _ hl2];exact q6.len,fun j x hj=>?_⟩;by_cases hjk:j < k
     ·rw [List.getElem?_append_left (by rw [List.length_take];omega),List.getElem?_take_of_lt hjk] at hj;obtain⟨q,g1,g2⟩:=q6.get j x hj;refine⟨q,?_,e.mono (hu'.fz (Nat.le_refl _)) g2⟩;have:(j + 1) * e.sz <=k * e.sz:=Nat.mul_le_mul_right _ hjk;rw [Nat.succ_mul] at this;rw [Zda hl2 (.inl (by omega)),g1]
     ·have hjl:j < xs.length:=by have:= (List.getElem?_eq_some_iff.1 hj).1;rwa [hlen] at this
      have hx0:x=x0:=by
       rw [List.getElem?_append_right (by rw [List.length_take];omega),List.getElem?_replicate] at hj;split at hj
       ·exact(Option.some.inj hj).symm
       ·cases hj
      refine⟨q0,?_,by rw [hx0];exact hF _⟩
      have e0:o + j * e.sz=o + k * e.sz + (j - k) * e.sz:=by
       have:k * e.sz + (j - k) * e.sz=j * e.sz:=by rw [← Nat.add_mul];congr 1;omega
       omega
      have e1:(j - k) * e.sz + e.sz <= (JX z.cells.toList n3).length:=by
       rw [hzr];have:(j - k + 1) * e.sz <=n3 * e.sz:=Nat.mul_le_mul_right _ (by omega);rw [Nat.succ_mul] at this;exact this
      rw [e0,ZlD hl2 e1];have:=ZiS z.cells.toList n3 (j - k) (by omega);rw [hzl] at this;rw [this,hsh,hx0]
end
theorem ZuP {α:Type} {xs zs:List α} {a1:Int} (hz:slL xs a1 xs.length=some zs):a1.toNat + zs.length=xs.length:=by
 obtain⟨l,k,rfl,hk,hlk,hkx,rfl⟩:=UD hz;rw [List.length_drop,List.length_take];have:(l:Int).toNat=l:=rfl;omega
end Go.Yq
end
end
section
noncomputable section
namespace Go.Yq
open Go.Lf
variable {X:Ctx} {n wm Uz:Nat} {fr:Fr} {h:H} {ty:TypeId} {p:String} {af:Array Edge} {g:Option (Nat×Bool)} {d:Nat}
section
variable {α:Type} {e:JW α} {t el:TypeId} {x:Operand} {a:Option Addr} {nn c:Nat} {xs zs:List α} {a2:Int}
theorem Sl.pre {k:Nat} (s:Sl e wm h a c xs) (hk:k <=xs.length):Sl e wm h a c (xs.take k):=by
 have hlen:(xs.take k).length=k:=by rw [List.length_take];omega
 refine⟨by rw [hlen];exact Nat.le_trans hk s.max,by rw [hlen];exact Nat.le_trans hk s.cap,s.nl,?_⟩;rcases s.mem with q | ⟨i,o,cs,own,z,q1,q2,q3,q4⟩
 ·left;subst q;simp
 ·refine .inr ⟨i,o,cs,own,z,q1,q2,q3,?_⟩;have:=q4.piece (Nat.zero_le k) hk
  simpa using this
theorem Xu.pre {k:Nat} (s:Xu e wm wm h a c xs) (hk:k <=xs.length):Xu e wm wm h a c (xs.take k):=by
 have hlen:(xs.take k).length=k:=by rw [List.length_take];omega
 refine⟨by rw [hlen];exact Nat.le_trans hk s.max,?_⟩;rcases s.mem with⟨q1,q2,q3⟩ | ⟨i,o,cs,q1,q2,q3,q4,q5,q6⟩
 ·left;subst q3;exact⟨q1,q2,by simp⟩
 ·refine .inr ⟨i,o,cs,q1,q2,q3,by rw [hlen];omega,q5,?_⟩;have:=q6.piece (Nat.zero_le k) hk
  simpa using this
theorem Znl {hi:Operand} {kk:IntKind} (so:Sl e Uz h a c xs) (hn:nn=xs.length) (hu:X.P.underlying t=some (.slice el)) (hs:Z5 X.P el=some e.sz) (hx:ZX fr x=some (.slice a nn c))
 (hhi:ZX fr hi=some (.int kk a2)) (hz:slL xs 0 a2=some zs):
 HE X ⟨some d,.slice t x none (some hi) none,ty,p,af,g⟩ fr h (fun v=>∃ a' c',v= .slice a' zs.length c'∧ZiO e a c xs a' c' zs):=by
 obtain⟨l,k,hl0,rfl,hlk,hkx,rfl⟩:=UD hz;have hl0:l=0:=by omega
 subst hl0 hn;have hlen:((xs.take k).drop 0).length=k:=by rw [List.drop_zero,List.length_take];omega
 have e2:∀ q,obN (some (.int kk (k:Int))) q=some k:=fun q=>rfl
 have e1:obN none 0=some 0:=rfl
 have sub:ZiO e a c xs a c ((xs.take k).drop 0):=by
  rw [List.drop_zero];exact⟨fun s=>s.pre hkx,fun s=>s.pre hkx,fun i q=>q⟩
 refine⟨.slice a k c,?_,a,c,by rw [hlen],sub⟩;have hcap:=so.cap;rcases so.nl with⟨rfl,rfl⟩ | ⟨rfl,rfl⟩ | ⟨i,o,rfl⟩
 ·have hx0:xs= []:=List.length_eq_zero_iff.1 (by omega);subst hx0;have hk0:k=0:=by simpa using hkx
  subst hk0;refine Qf hx rfl (Yu hhi) rfl ?_
  have:aslice X.P h t (.slice none 0 0) none (some (.int kk ((0:Nat):Int))) none=some (.slice none 0 0):=by
   unfold aslice;simp only [hu,hs]
   rfl
  exact this
 ·have hx0:xs= []:=List.length_eq_zero_iff.1 (by omega);subst hx0;have hk0:k=0:=by simpa using hkx
  subst hk0;refine Qf hx rfl (Yu hhi) rfl ?_
  have:aslice X.P h t (.slice (some ⟨0,0,some 0⟩) 0 0) none (some (.int kk ((0:Nat):Int))) none=some (.slice (some ⟨0,0,some 0⟩) 0 0):=by
   unfold aslice;simp only [hu,hs]
   rfl
  exact this
 ·refine Qf hx rfl (Yu hhi) rfl ?_;unfold aslice;simp only [hu,hs,e1,e2];rw [Nat.ble_eq_true_of_le (Nat.zero_le k),Nat.ble_eq_true_of_le (Nat.le_trans hkx hcap)];simp only [Bool.and_self,cond_true];cases hev:Nat.beq (c % 2) 0 with
  | true=>
    have:=Nat.eq_of_beq_eq_true hev;simp only [cond_true,Nat.zero_mul,Nat.add_zero,Nat.sub_zero];have hc:2 * (c / 2)=c:=by omega
    rw [hc];cases Nat.beq (c / 2) 0 <;> rfl
  | false=>
    simp only [cond_false]
    rfl
end
end Go.Yq
end
end
section
noncomputable section
namespace Go.Yq
open Go.Lf
variable {X:Ctx} {n wm:Nat} {rd:Option Nat} {ops:Array Oper} {l:List Oper} {fr:Fr} {ds:List Deferred} {h h1 h2 h0:H} {ty:TypeId} {p:String} {af:Array Edge} {g:Option (Nat×Bool)} {T:Nat ->Prop} {G Gr Ga Gb:List (Ast wm)} {d:Nat}
theorem ZrS {α β:Type} {y:α} {p:Int ->Option β} {k:α ->Option β} {r:β} (h:prC (.ok y) p k=some r):k y=some r:=h
theorem ZoS {α β:Type} {e:Int} {p:Int ->Option β} {k:α ->Option β} {r:β} (h:prC (.Jc e) p k=some r):p e=some r:=h
theorem ZlQ {α β:Type} {y:α} {p:Option β} {k:α ->Option β} {r:β} (h:opt (some y) p k=some r):k y=some r:=h
theorem ZlR {α β:Type} {p:Option β} {k:α ->Option β} {r:β} (h:opt none p k=some r):p=some r:=h
def pv (t:TypeId) (k:Int):Value:= .iface t (.int .i64 k)
def PQ {β:Type} {wm:Nat} (t:TypeId) (K:β ->Value ->List (Ast wm) ->Prop) (Ga:List (Ast wm)) (h:H) (r:PR β):WI ->H ->Prop:=fun e h'=>match r with
 | .ok b=>∃ v,e= .ret v∧CP (K b) Ga h v h'
 | .Jc k=>e= .Jc (pv t k)∧Sp wm (Xv Ga) h [] h'
section
variable {β:Type} {t:TypeId} {K:β ->Value ->List (Ast wm) ->Prop} {f:FuncId} {args:Array Value}
theorem PQ.ok {b:β} (k:WF X f args wm h (PQ t K Ga h (.ok b))):WR X f args wm h (CP (K b) Ga h):=k
theorem PQ.Jc {k:Int} (w:WF X f args wm h (PQ t K Ga h (.Jc k))):∃ h',Sp wm (Xv Ga) h [] h'∧Yn X (.call f args wm h) (.fin (.Jc (pv t k)) h'):=
 let⟨_,h',hq,hj⟩:=w;⟨h',hq.2,by have:=hq.1;subst this;exact hj⟩
theorem WO.clX {Q:XX ->Fs ->Prop} {op:Op} {k:Int} (hg:ZO ops ⟨some d,op,ty,p,af,g⟩ fr) (he:YE X fr ⟨some d,op,ty,p,af,g⟩ f args) (hS:Sp wm T h0 G h) (pk:Sel G Ga Gr)
 (hc:∀ g':H,g'.size=h.size ->Fz wm h g' ->ZQ Ga g' ->WF X f args wm g' (PQ t K Ga g' (.Jc k))) (kk:∀ h',Sp wm T h0 Gr h' ->Q (.panic (pv t k)) ⟨fr,ds,h',none⟩):
 WO X n wm rd ops (⟨some d,op,ty,p,af,g⟩::l) ⟨fr,ds,h,none⟩ Q:=by
 obtain⟨h',hs,hj⟩:=PQ.Jc (hc h rfl (Fz.refl _ _) (hS.Zgy pk));exact WO.Zh1 hg (he h) rfl hj (kk h' (hS.call pk hs))
theorem WO.ZIw {Q:XX ->Fs ->Prop} {op:Op} {k:Int} {K:β ->Value ->List (Ast h.size) ->Prop} (hg:ZO ops ⟨some d,op,ty,p,af,g⟩ fr) (he:YE X fr ⟨some d,op,ty,p,af,g⟩ f args) (hw:wm <=h.size) (hS:Sp wm T h0 G h)
 (hc:WF X f args h.size h (PQ t K [] h (.Jc k))) (kk:∀ h',Sp wm T h0 G h' ->Q (.panic (pv t k)) ⟨fr,ds,h',none⟩):
 WO X n wm rd ops (⟨some d,op,ty,p,af,g⟩::l) ⟨fr,ds,h,none⟩ Q:=by
 obtain⟨h',hs,hj⟩:=PQ.Jc hc;exact WO.Zh1 hg (he h) rfl (hj.weaken hw (Nat.le_refl _)) (kk h' (Sp.clR (Gb:= []) hS hs .n))
theorem XM.Zs6 {fn:Func} {rs:List ResultVar} {vs:List Value} {v:Value} {b:β} {h0:H} (hr:fn.results.toList=rs) (hv:ZcT X.P fr h rs=some vs) (hl:(match vs with | [v]=>v | vs=>.tuple vs.toArray)=v) (k:CP (K b) Ga h0 v h):XM X fn wm (PQ t K Ga h0 (.ok b)) .ret ⟨fr,[],h,none⟩:=
 XM.gen (R:=fun v h'=>CP (K b) Ga h0 v h') hr hv hl k
end
def ZaI (X:Ctx) (fn:Func) (wm:Nat) (Q:WI ->H ->Prop) (pm:PM) (s:Fs):Prop:=∃ E h',Q E h'∧Yn X (.leave fn wm pm s) (.fin E h')
section
variable {fn:Func} {R:WI ->H ->Prop} {s:Fs} {v:Value} {pm:PM}
theorem XM.ofP (k:ZaI X fn wm R .ret s):XM X fn wm R .ret s:=let⟨E,h',h1,h2⟩:=k;⟨⟨.ret,E,h',rfl,h1,h2⟩⟩
theorem XM.ofX (k:ZaI X fn wm R (.Jc v) s):XM X fn wm R (.panic v) s:=let⟨E,h',h1,h2⟩:=k;⟨⟨.Jc v,E,h',rfl,h1,h2⟩⟩
theorem ZaI.ofL (k:XM X fn wm R .ret s) (hp:pm= .ret):ZaI X fn wm R pm s:=by
 obtain⟨WW,E,h',e,h1,h2⟩:=k.out;cases e;subst hp;exact⟨E,h',h1,h2⟩
theorem ZaI.Jc (k:R (.Jc v) h):ZaI X fn wm R (.Jc v) ⟨fr,[],h,none⟩:=by
 refine⟨.Jc v,h,k,Q8 (C:=cfg X fun _=>false) (ih:=fun _=>none) (fun _ _ h=>by cases h) ?_⟩;unfold Uc
 rfl
def DC (X:Ctx) (n wm:Nat) (c:Code) (pm:PM) (s:Fs) (Q:XX ->PM ->Fs ->Prop):Prop:=∃ e WW s',Q e WW s'∧Yn X (.Y6 c n wm pm s) (.Y6 e WW s')
structure DSq (X:Ctx) (n wm:Nat) (b:Code) (Q:XX ->PM ->Fs ->Prop) (e:XX) (pm:PM) (s:Fs):Prop where
 Yp:e= .normal
 k:DC X n wm b pm s Q
theorem DC.seq {a b:Code} {Q:XX ->PM ->Fs ->Prop} (k:DC X n wm a pm s (DSq X n wm b Q)):DC X n wm (.seq a b) pm s Q:=by
 obtain⟨e,pm1,s1,⟨rfl,e2,pm2,s2,hq,j2⟩,j1⟩:=k;obtain⟨_,_,_,q1,ka⟩:=XB.1 j1;cases q1;obtain⟨_,_,_,q2,kb⟩:=XB.1 j2;cases q2;refine⟨_,_,_,hq,XB.2 ⟨_,_,_,rfl,fun ρ a c0 cs w ZF hi hpm=>wpSIn_seq (QM (ka ρ a c0 cs w ZF hi hpm) ?_)⟩⟩;rintro e' a' cs' w' ⟨ρ',u',rfl,hp',he,hi',hst⟩;cases he;refine QM (kb ρ' a' {c0 with mode:=u'} cs w' (Nat.le_trans ZF hst.size) hi' hp') ?_;rintro e3 a3 cs3 w3 ⟨ρ3,u3,rfl,q1,q2,q3,q4⟩;exact⟨ρ3,u3,rfl,q1,q2,q3,hst.trans hi.rel.lt q4⟩
theorem DC.rgn {id:Nat} {ops:Array Oper} {dr:Bool} {Q:XX ->PM ->Fs ->Prop} (hn:(!dr && ops.toList.any isRecover)=false) (k:WC X n wm none (.region id ops dr) s (fun e s'=>Q e pm s')):DC X n wm (.region id ops dr) pm s Q:=by
 obtain⟨e,s',hq,j⟩:=k;refine⟨e,pm,s',hq,XB.2 (Q9 (C:=cfg X fun _=>false) (ih:=WK (.code (.region id ops dr) n wm none s) (.code e s')) (Qx (Y7.2 ⟨_,_,rfl,j⟩)) ?_)⟩;unfold W9;dsimp only;rw [hn];unfold Zax;rw [Qy];rfl
theorem DC.skip {Q:XX ->PM ->Fs ->Prop} (k:Q .normal pm s):DC X n wm .skip pm s Q:=by
 obtain⟨e,s',hq,j⟩:WC X n wm none .skip s (fun e s'=>Q e pm s'):=WC.skip k;refine⟨e,pm,s',hq,XB.2 (Q9 (C:=cfg X fun _=>false) (ih:=WK (.code .skip n wm none s) (.code e s')) (Qx (Y7.2 ⟨_,_,rfl,j⟩)) ?_)⟩;unfold W9 Zax;dsimp only;rw [Qy];rfl
theorem DC.ZtM {c:Operand} {a b:Code} {t:Bool} {Q:XX ->PM ->Fs ->Prop} {fr:Fr} (hc:ZX fr c=some (.bool t)) (ht:t=true) (k:DC X n wm a pm ⟨fr,ds,h,none⟩ Q):DC X n wm (.cond c a b) pm ⟨fr,ds,h,none⟩ Q:=by
 subst ht;obtain⟨e,WW,s',hq,j⟩:=k;refine⟨e,WW,s',hq,XB.2 (Q9 (C:=cfg X fun _=>false) (ih:=WK (.Y6 a n wm pm ⟨fr,ds,h,none⟩) (.Y6 e WW s')) (Qx j) ?_)⟩;unfold W9;dsimp only;rw [hc];exact Qy _ _
theorem DC.ZtN {c:Operand} {a b:Code} {t:Bool} {Q:XX ->PM ->Fs ->Prop} {fr:Fr} (hc:ZX fr c=some (.bool t)) (ht:t=false) (k:DC X n wm b pm ⟨fr,ds,h,none⟩ Q):DC X n wm (.cond c a b) pm ⟨fr,ds,h,none⟩ Q:=by
 subst ht;obtain⟨e,WW,s',hq,j⟩:=k;refine⟨e,WW,s',hq,XB.2 (Q9 (C:=cfg X fun _=>false) (ih:=WK (.Y6 b n wm pm ⟨fr,ds,h,none⟩) (.Y6 e WW s')) (Qx j) ?_)⟩;unfold W9;dsimp only;rw [hc];exact Qy _ _
theorem DC.rec {id:Nat} {ops:Array Oper} {Q:XX ->PM ->Fs ->Prop} (WW:PM) (fr':Fr) (hd:ZmE X n wm ops.toList ops.toList pm ⟨fr,ds,h,none⟩=some (WW,⟨fr',ds,h,none⟩)) (hn:ops.toList.any isRecover=true) (k:Q .normal WW ⟨fr',ds,h,none⟩):DC X n wm (.region id ops false) pm ⟨fr,ds,h,none⟩ Q:=by
 refine⟨.normal,WW,_,k,XB.2 (Q9 (C:=cfg X fun _=>false) (ih:=fun _=>none) (fun _ _ h=>by cases h) ?_)⟩;unfold W9;dsimp only;rw [hn];have hd':ZmE (cfg X fun _=>false).X n wm ops.toList ops.toList pm ⟨fr,ds,h,none⟩=some (WW,⟨fr',ds,h,none⟩):=hd;rw [hd'];rfl
structure DEn (X:Ctx) (fn:Func) (wm:Nat) (R:WI ->H ->Prop) (fr:Fr) (ds:List Deferred) (e:XX) (pm:PM) (s:Fs):Prop where
 Yp:e= .normal
 no:s.ds= []
 k:ZaI X fn wm R (Zgp pm) ⟨fr,ds,s.h,none⟩
theorem ZaI.dfn {f:FuncId} {fn2:Func} {c:Code} {cap:List Value} {n2:Nat} (hf:X.fns.get f=some fn2) (hb:fn2.body=some c) (hnt:fn2.ntmps=n2) (hn:cap.length <=n2) (hr:fn2.results.toList= [])
 (k:DC X n2 wm c pm ⟨Xz cap 0 .nil,[],h,none⟩ (DEn X fn wm R fr ds)):ZaI X fn wm R pm ⟨fr,⟨.fn (.func f) cap.toArray,#[]⟩::ds,h,none⟩:=by
 subst hnt;obtain⟨e,WW,s',⟨rfl,hno,E,h',hR,jl⟩,jd⟩:=k;obtain⟨fr',ds',h2,wr'⟩:=s';dsimp only at hno jl;subst hno
 have jc:Yn X (.dcall f (([]:List Value) ++ cap).toArray pm wm h) (.ZcS WW h2):=by
  refine Zc3 (C:=cfg X fun _=>false) (ih:=WK (.Y6 c fn2.ntmps wm pm ⟨Xz cap 0 .nil,[],h,none⟩) (.Y6 .normal WW ⟨fr',[],h2,wr'⟩)) (Qx jd) ?_;unfold Zei;have hf':(cfg X fun _=>false).X.fns.get f=some fn2:=hf;rw [hf'];dsimp only;rw [hb];dsimp only;have e1:Nat.ble (([]:List Value) ++ cap).toArray.toList.length fn2.ntmps=true:=Nat.ble_eq_true_of_le hn;rw [e1,cond_true];rw [List.nil_append,Qy];unfold ZtL;dsimp only;have e3:Qs (cfg X fun _=>false).X.P fn2 fr' h2=some (.tuple #[]):=by unfold Qs;rw [hr];rfl
  rw [e3]
 refine⟨E,h',hR,?_⟩
 classical
 let ih:QW ->Option Yz:=fun j=>if j= .dcall f (([]:List Value) ++ cap).toArray pm wm h then some (.ZcS WW h2) else if j= .leave fn wm (Zgp WW) ⟨fr,ds,h2,none⟩ then some (.fin E h') else none
 refine Q8 (C:=cfg X fun _=>false) (ih:=ih) ?_ ?_
 ·intro j r e;dsimp only [ih] at e;split at e
  ·rename_i hj;cases e;rw [hj];exact jc
  ·split at e
   ·rename_i hj;cases e;rw [hj];exact jl
   ·cases e
 ·unfold Uc;dsimp only;have hf':(cfg X fun _=>false).X.fns.get f=some fn2:=hf;rw [hf'];dsimp only;have i1:ih (.dcall f ((#[]:Array Value).toList ++ cap.toArray.toList).toArray pm wm h)=some (.ZcS WW h2):=by dsimp only [ih];rw [if_pos rfl]
  rw [i1];dsimp only [ih];rw [if_neg (by intro q;cases q),if_pos rfl]
end
section
theorem WO.dfr {Q:XX ->Fs ->Prop} {fo:Operand} {ts:Array TypeId} {f:FuncId} {cap:Array Value} (hg:ZO ops ⟨none,.defer {callee:= .value fo,args:=#[],argTypes:=ts},ty,p,af,g⟩ fr) (hf:ZX fr fo=some (.func (.func f) #[] cap))
 (k:WO X n wm none ops l ⟨fr,⟨.fn (.func f) cap,#[]⟩::ds,h,none⟩ Q):WO X n wm none ops (⟨none,.defer {callee:= .value fo,args:=#[],argTypes:=ts},ty,p,af,g⟩::l) ⟨fr,ds,h,none⟩ Q:=by
 refine WO.cons (ZaW X) (s1:= ⟨fr,⟨.fn (.func f) cap,#[]⟩::ds,h,none⟩) ?_ k
 have ha:Xb X h (ZX fr) ⟨none,.defer {callee:= .value fo,args:=#[],argTypes:=ts},ty,p,af,g⟩=some (.dfr ⟨.fn (.func f) cap,#[]⟩,.none):=by
  show(match evs (ZX fr) [] with
   | some args=>(match ZX fr fo with
     | some (.func (.func g) first cap)=>some (AN.dfr {target:= .fn (.func g) cap,args:=first ++ args.toArray},Eff.none)
     | _=>none)
   | none=>none)=_
  rw [hf];rfl
 unfold WH;rw [hg.1,hg.2];dsimp only [Bool.not_true,cond_false,cond_true];rw [ha]
 rfl
theorem WO.pnc {Q:XX ->Fs ->Prop} {x:Operand} {t:TypeId} {v:Value} (hg:ZO ops ⟨none,.panic x,ty,p,af,g⟩ fr) (hx:ZX fr x=some (.iface t v)) (k:Q (.panic (.iface t v)) ⟨fr,ds,h,none⟩):WO X n wm rd ops (⟨none,.panic x,ty,p,af,g⟩::l) ⟨fr,ds,h,none⟩ Q:=by
 refine WO.panic (E:= .none) (h1:=h) hg ?_ rfl k
 show(match ZX fr x with
  | some (.iface t v)=>some (AN.panic (.iface t v),Eff.none)
  | _=>none)=_
 rw [hx]
theorem ZfB {x:Operand} {t:TypeId} {v:Value} (hx:ZX fr x=some v) (ht:(match X.P.underlying t with | some (.interface _)=>false | some _=>true | none=>false)=true):Xb X h (ZX fr) ⟨some d,.makeInterface t x,ty,p,af,g⟩=some (.val (.iface t v),.none):=by
 show(match ZX fr x,X.P.underlying t with
  | some _,some (.interface _)=>none
  | some v,some _=>some (AN.val (.iface t v),Eff.none)
  | _,_=>none)=_
 rw [hx];cases hh:X.P.underlying t with
 | none=>rw [hh] at ht;cases ht
 | some u=>
   rw [hh] at ht;cases u
   case interface=>cases ht
   all_goals rfl
end
end Go.Yq
end
end
section
noncomputable section
namespace Go.Yq
open Go.Lf
variable {X:Ctx} {n wm:Nat} {rd:Option Nat} {ops:Array Oper} {l:List Oper} {rest:Code}
theorem WO.body {s:Fs} {Q:XX ->Fs ->Prop} (k:WO X n wm rd ops l s (Qq X n wm rd rest Q)):∃ e s',Q e s'∧∀ {ρ:Ren} {F:Fence} {a:Act} {w:World},Inv ρ n s a w ->wm <=s.h.size ->FR' ρ rd F ->∀ Q':Exit ->Act ->World ->Prop,(∀ e' a' w',Xp wm n ρ s.h w e s' e' a' w' ->Q' e' a' w') ->
 wpListIn F 0 X.P ops (Exit.then (rest.wpIn F 0 X.P Q') Q') l a w:=by
 obtain⟨e1,s1,hk,ho⟩:=k.out;have hk:=hk.out;cases e1 with
 | normal=>
   obtain⟨e,s',hq,hj⟩:=hk;obtain⟨_,_,q0,kb⟩:=Y7.1 hj;cases q0;refine⟨e,s',hq,fun{ρ F a w} hi hw hF Q' hQ=>ho _ hi hw hF fun e' a' w' hp=>?_⟩;obtain⟨ρ',he,hi',hst⟩:=hp;cases he;exact wpIn_mono (kb ρ' a' w' F (Nat.le_trans hw hst.size) hi' (hF.mono hst.ext)) fun e2 a2 w2 hp2=>hQ _ _ _ (Xp.trans hi.rel.lt hst hp2)
 | exit id=>
   refine⟨_,s1,hk,fun{ρ F a w} hi hw hF Q' hQ=>ho _ hi hw hF fun e' a' w' hp=>?_⟩;obtain⟨ρ',he,hi',hst⟩:=hp;cases he;exact hQ _ _ _ ⟨ρ',.exit id,hi',hst⟩
 | goto id=>
   refine⟨_,s1,hk,fun{ρ F a w} hi hw hF Q' hQ=>ho _ hi hw hF fun e' a' w' hp=>?_⟩;obtain⟨ρ',he,hi',hst⟩:=hp;cases he;exact hQ _ _ _ ⟨ρ',.goto id,hi',hst⟩
 | ret=>
   refine⟨_,s1,hk,fun{ρ F a w} hi hw hF Q' hQ=>ho _ hi hw hF fun e' a' w' hp=>?_⟩;obtain⟨ρ',he,hi',hst⟩:=hp;cases he;exact hQ _ _ _ ⟨ρ',.ret,hi',hst⟩
 | panic v=>
   refine⟨_,s1,hk,fun{ρ F a w} hi hw hF Q' hQ=>ho _ hi hw hF fun e' a' w' hp=>?_⟩;obtain⟨ρ',he,hi',hst⟩:=hp;cases he with
   | panic hv=>exact hQ _ _ _ ⟨ρ',.panic hv,hi',hst⟩
theorem EL.mem' {ρ:Ren} {es es':List MapEntry} (e:EL ρ es es') {x:MapEntry} (hx:x ∈ es):∃ x' ∈ es',x'.born=x.born:=by
 induction e with
 | nil=>cases hx
 | cons hk hp hb hv _ ih=>
   rcases List.mem_cons.1 hx with rfl | h
   ·exact⟨_,by simp,hb⟩
   ·obtain⟨x',h1,h2⟩:=ih h;exact⟨x',List.mem_cons_of_mem _ h1,h2⟩
theorem Zsf {s:Fs} {id:Nat} {o:Oper} {t it m Y1 clock d:Nat} {es:List MapEntry} {T:List Nat} {v:Value} {e:XX} {s2:Fs} (Jc:Nat ->Bool)
 (hops:ops.toList=o::l) (hop:o.op= .next (.tmp t) false) (hgu:o.guard=none) (hfr:s.fr.at t= .pointer (some ⟨it,0,none⟩)) (hit:s.h.at it= .iter m clock Y1 none) (hm:s.h.at m= .map es clock) (hck:clock <=Y1) (hborn:Wp clock es=true) (ZnH:wm <=it) (htT:t ∉ T) (hd:o.dst=some d) (hdn:d < n) (hdT:d ∈ T) (hv:plain v=true)
 (Zht:∀ x ∈ es,∃ ex s3,(s3.ds=s.ds∧(∀ t,t ∉ T ->s3.fr.at t=s.fr.at t)∧(ex= .normal∧Jc x.born=false∨ex= .panic v∧Jc x.born=true))∧∀ {ρ:Ren} {F:Fence} {a:Act} {w:World},Inv ρ n {fr:=JU (Yd T s.fr) o.dst (.tuple #[.bool true,x.key,x.val]),ds:=s.ds,h:=s.h.put it (.iter m clock clock (some x.born)),wr:=s.wr} a w ->s.h.size <= (s.h.put it (.iter m clock clock (some x.born))).size ->FR' ρ rd F ->∀ Q':Exit ->Act ->World ->Prop,
   (∀ e' a' w',Xp s.h.size n ρ (s.h.put it (.iter m clock clock (some x.born))) w ex s3 e' a' w' ->Q' e' a' w') ->wpListIn F 0 X.P ops (Exit.then (rest.wpIn F 0 X.P Q') Q') l a w)
 (hover:(∀ x ∈ es,Jc x.born=false) ->e ≠ .normal∧∀ {ρ:Ren} {F:Fence} {a:Act} {w:World},Inv ρ n {s with fr:=JU (Yd T s.fr) o.dst UZ,h:=s.h.put it .dead} a w ->wm <= (s.h.put it .dead).size ->FR' ρ rd F ->∀ Q':Exit ->Act ->World ->Prop,
   (∀ e' a' w',Xp wm n ρ (s.h.put it .dead) w e s2 e' a' w' ->Q' e' a' w') ->wpListIn F 0 X.P ops (Exit.then (rest.wpIn F 0 X.P Q') Q') l a w)
 (ZG7:(∃ x ∈ es,Jc x.born=true) ->e= .panic v∧s2= {s with fr:=Yd T s.fr,h:=s.h.put it .dead}):Yn X (.loop (.seq (.region id ops false) rest) n wm rd s) (.code e s2):=by
 refine ZbM.2 ⟨e,s2,rfl,fun ρ a0 w0 F ZF hi0 hF=>?_⟩;obtain⟨dd,hdr⟩:∃ d,d=it:= ⟨_,rfl⟩
 have ZnI:=hi0.fr.val t (by rw [hfr];rfl);rw [hfr] at ZnI;generalize hpx:a0.tmps.getD t undef=px at ZnI;cases ZnI with
 | @ptr _ bi di _ Zdt=>
 have hoi:=hi0.rel.obj _ _ _ Zdt;rw [hit] at hoi;obtain⟨rfl,bm,ZBP,Zhp,Zsx,_,Zdu⟩:=hoi;have Zdu:=Zdu rfl;subst Zdu;have hom:=hi0.rel.obj _ _ _ Zhp;rw [hm] at hom;obtain⟨_,es',Zsv,hes⟩:=hom;have hilt:=hi0.rel.dom _ _ _ Zdt;have ZG9:=hi0.rel.dom _ _ _ Zhp;have ZnM:m ≠ it:=fun z=>by rw [z,hit] at hm;cases hm
 have hold:∀ x ∈ es'.toList,x.born < clock:=by
  intro x hx;obtain⟨y,hy,_,_,hyb,_⟩:=hes.mem hx;rw [hyb];exact Zh2 hborn y hy
 have Zl4:∀ j b d,ρ j=some (b,d) ->b=bi ->j ≠ it ->((s.h.at j).live=true ->False):=by
  intro j b d hj hbb hne' hl;subst hbb;exact hne' (hi0.rel.inj it j b 0 d Zdt hj (by rw [hit];rfl) hl).symm
 have hbne:bm ≠ bi:=fun z=>Zl4 m bm 0 Zhp z ZnM (by rw [hm];rfl)
 have ZCT:s.h.size= (s.h.put it .dead).size:=rfl
 have Zhq:∀ {a:Act} {w:World} {K:Act ->World ->Prop} {Q:Exit ->Act ->World ->Prop} {v:Value} {w1:World},a.tmps.getD t undef= .pointer (some ⟨bi,0,none⟩) ->(Instr.next (.pointer (some ⟨bi,0,none⟩)) false o.type).run X.P w= .ok v w1 ->
  K (a.put o.dst v) w1 ->(if Region.wanted o (yielded ops a.tmps) then o.wpIn F 0 X.P a w K Q else(∀ f,o.about X.P w a.eval=some f ->F.fn f)∧K (a.put o.dst undef) w):=by
  intro a w K Q v w1 ht hrun hK;have hw:Region.wanted o (yielded ops a.tmps)=true:=by unfold Region.wanted;rw [hgu]
  rw [if_pos hw];refine⟨fun f _=>WB hF f,?_⟩;have Zj3:o.semAt F.round a.eval=execOp a.eval o:=Oper.semAt_eq _ _ _ fun c hc=>by rw [hop] at hc;cases hc
  have he:a.eval (.tmp t)= .pointer (some ⟨bi,0,none⟩):=ht
  have hx:(execOp a.eval o).run X.P w= .ok (.value v) w1:=by
   unfold execOp;rw [hop];simp [he,hrun]
  rw [Zj3,hx];exact hK
 have ZCQ:∀ t,t ∉ T ->t ≠ d:=fun t ht z=>by rw [z] at ht;exact ht hdT
 have Zl2:∀ (a:Act) (w:World),Inv ρ n {s with fr:=Yd T s.fr,h:=s.h.put it .dead} a w ->a.tmps.getD t undef= .pointer (some ⟨bi,0,none⟩):=by
  intro a w hi;have h0:VR ρ ((Yd T s.fr).at t) (a.tmps.getD t undef):=hi.fr.val t (by show QA ((Yd T s.fr).at t)=false;rw [Y9,if_neg htT,hfr];rfl);rw [Y9,if_neg htT,hfr] at h0;generalize a.tmps.getD t undef=y at h0;cases h0 with
  | ptr _ h1=>rw [Zdt] at h1;cases h1;rfl
 have Zsq:(∀ x ∈ es,Jc x.born=false) ->∀ (a:Act) (w:World),Inv ρ n {s with fr:=Yd T s.fr,h:=s.h.put it .dead} a w ->Stp wm ρ s.h w0 ρ (s.h.put it .dead) w ->a.tmps.getD t undef= .pointer (some ⟨bi,0,none⟩) ->
  (Instr.next (.pointer (some ⟨bi,0,none⟩)) false o.type).run X.P w= .ok UZ w ->LoopIn F 0 X.P (.seq (.region id ops false) rest) (Xp wm n ρ s.h w0 e s2) a w:=by
  intro hall a w hi hst ht hrun;obtain⟨hne,hover⟩:=hover hall;refine Xr (wpIn_seq (wpIn_region_list ?_));rw [hops];refine Zhq ht hrun ?_
  have hio:Inv ρ n {s with fr:=JU (Yd T s.fr) o.dst UZ,h:=s.h.put it .dead} (a.put o.dst UZ) w:=by
   refine⟨hi.rel,?_,?_⟩
   ·rw [hd];exact hi.fr.set hdn (VR.ZJ rfl)
   ·rw [hd];exact hi.ds
  refine hover hio ZF hF _ fun e3 a3 w3 hp=>?_
  have hp2:=Xp.trans hi0.rel.lt hst hp;obtain⟨ρ3,hx3,hi3,U9⟩:=hp2;cases hx3 with
  | normal=>exact(hne rfl).elim
  | exit id=>exact⟨ρ3,.exit id,hi3,U9⟩
  | goto id=>exact⟨ρ3,.goto id,hi3,U9⟩
  | ret=>exact⟨ρ3,.ret,hi3,U9⟩
  | panic hv=>exact⟨ρ3,.panic hv,hi3,U9⟩
 have ZxK:∀ seen:Array Nat,(∀ b,seen.contains b=true ->Jc b=false) ->(leftOf es' seen).size=0 ->∀ x ∈ es,Jc x.born=false:=by
  intro seen Zi9 h00 x hx;obtain⟨y,hy,hyb⟩:=hes.mem' hx;refine Zi9 _ ?_;cases hc:seen.contains x.born with
  | true=>rfl
  | false=>
    exfalso;have:y ∈ leftOf es' seen:=Array.mem_filter.2 ⟨Array.mem_toList_iff.1 hy,by rw [hyb,hc];rfl⟩;rw [Array.eq_empty_of_size_eq_zero h00] at this;simp at this
 have head:∀ (k:Nat) (seen:Array Nat) (last:Nat) (a:Act) (w:World),(∀ b,seen.contains b=true ->Jc b=false) ->(leftOf es' seen).size <=k ->clock <=last ->w.heap[bi]? =some (.mapIter (some bm) clock seen last) ->w.heap[bm]? =some (.map es' clock) ->
  Inv ρ n {s with fr:=Yd T s.fr,h:=s.h.put it .dead} a w ->
  Stp wm ρ s.h w0 ρ (s.h.put it .dead) w ->LoopIn F 0 X.P (.seq (.region id ops false) rest) (Xp wm n ρ s.h w0 e s2) a w:=by
  intro k
  induction k with
  | zero=>
    intro seen last a w Zi9 hk hlast hblk Zd0 hi hst;have ht:=Zl2 a w hi;rcases Zgt (P:=X.P) o.type hblk Zd0 hold (hlast) with⟨h00,hrun⟩ | ⟨e',he',_⟩
    ·exact Zsq (ZxK seen Zi9 h00) a w hi hst ht hrun
    ·have:=Array.length_toList ▸ List.length_pos_of_mem he';omega
  | succ k ihk=>
    intro seen last a w Zi9 hk hlast hblk Zd0 hi hst;have ht:=Zl2 a w hi;rcases Zgt (P:=X.P) o.type hblk Zd0 hold (hlast) with⟨h00,hrun⟩ | ⟨e',he',w1,hw1,hsame,hrun⟩
    ·exact Zsq (ZxK seen Zi9 h00) a w hi hst ht hrun
    ·have hmem:= (mem_left he').1;obtain⟨x,hx,hkey,hkp,hbn,hval⟩:=hes.mem hmem;obtain⟨ex,s3,⟨Zza,hwr,hpn⟩,hbody⟩:=Zht x hx;have Zsw:bi < w.heap.size:= (hi.rel.dom _ _ _ Zdt).2;have ZCS:bm < w.heap.size:= (hi.rel.dom _ _ _ Zhp).2;obtain⟨w2,hw2⟩:∃ w2,w2=w1.putObj bi (.mapIter (some bm) clock (seen.push e'.born) clock):= ⟨_,rfl⟩
     rw [← hw2] at hrun;have hsz2:w2.heap.size=w.heap.size:=by rw [hw2,World.putObj_size,hw1]
     have hother:∀ k,k ≠ bi ->w2.heap[k]? =w.heap[k]?:=fun k hk=>by rw [hw2,World.putObj_heap_other hk,hw1]
     have Zsy:w2.heap[bi]? =some (.mapIter (some bm) clock (seen.push e'.born) clock):=by rw [hw2];exact World.putObj_heap_same (by rw [hw1];exact Zsw)
     have Zdv:Same w w2:=by rw [hw2];exact⟨hsame.os,hsame.tape,hsame.output⟩
     have hrel:Rel ρ (s.h.put it (.iter m clock clock (some x.born))) w2:=by
      refine Zg1 hi.rel Zdt Zl4 hother hsz2 ⟨rfl,bm,seen.push e'.born,Zhp,Zsy,fun z hz=>?_,fun z=>by cases z⟩;cases hz;rw [← hbn];simp
     have hie:Inv ρ n {fr:=JU (Yd T s.fr) o.dst (.tuple #[.bool true,x.key,x.val]),ds:=s.ds,h:=s.h.put it (.iter m clock clock (some x.born)),wr:=s.wr} (a.put o.dst (.tuple #[.bool true,e'.key,e'.val])) w2:=by
      refine⟨hrel,?_,?_⟩
      ·rw [hd];refine hi.fr.set hdn (.tuple _ _ rfl fun j y y' p q=>?_)
       match j,p,q with
       | 0,p,q=>simp at p q;subst p q;exact .bool true
       | 1,p,q=>simp at p q;subst p q;rw [hkey];exact VR.ZJ hkp
       | 2,p,q=>simp at p q;subst p q;exact hval
       | j + 3,p,q=>simp at p
      ·rw [hd];exact hi.ds
     refine Xr (wpIn_seq (wpIn_region_list ?_));rw [hops];refine Zhq ht hrun ?_;refine hbody hie (Nat.le_refl _) hF _ fun e3 a3 w3 hp=>?_
     obtain⟨ρ3,hx3,hi3,U9⟩:=hp;obtain⟨q1,q2⟩:=Zay hrel U9;have ZnN:∀ b,b < w2.heap.size ->w3.heap[b]? =w2.heap[b]?:=fun b hb=>U9.frame b hb fun i d hi' e _=>by have:=hrel.lt i _ e;simp at this hi';omega
     have hinv:Inv ρ n {s with fr:=Yd T s.fr,h:=s.h.put it .dead} a3 w3:=by
      refine⟨?_,⟨hi3.fr.size,fun t hany=>?_⟩,?_⟩
      ·refine(Zby (i:=it) q1).congr rfl fun i=>?_
       rw [H.Xn,H.Xn];by_cases hii:i=it∧i < s.h.size
       ·rw [if_pos hii,if_pos (by simpa using hii)]
       ·rw [if_neg hii,if_neg (by simpa using hii),H.Xn,if_neg hii]
      ·change QA ((Yd T s.fr).at t)=false at hany
       show VR ρ ((Yd T s.fr).at t) _;rw [Y9] at hany ⊢;by_cases ZbP:t ∈ T
       ·rw [if_pos ZbP] at hany;cases hany
       ·rw [if_neg ZbP] at hany ⊢;have h0:=hi.fr.val t (by show QA ((Yd T s.fr).at t)=false;rw [Y9,if_neg ZbP];exact hany);have h0:VR ρ ((Yd T s.fr).at t) _:=h0;rw [Y9,if_neg ZbP] at h0;have h1:=hi3.fr.val t (by rw [hwr t ZbP];exact hany);rw [hwr t ZbP] at h1;exact VR.back U9.ext h0 h1
      ·have h0:DsR ρ s.ds a.defers:=hi.ds;have h1:=hi3.ds;rw [Zza] at h1;exact DsR.back U9.ext h0 h1
     have hstp:Stp wm ρ s.h w0 ρ (s.h.put it .dead) w3:=by
      refine⟨Ren.le_refl _,hst.size,hst.keep,hst.own,hst.live,U9.os.trans (Zdv.os.trans hst.os),U9.tape.trans (Zdv.tape.trans hst.tape),U9.output.trans (Zdv.output.trans hst.output),
       Nat.le_trans hst.YQ (by rw [← hsz2];exact U9.YQ),fun b hb hno=>?_,fun i b d p q=>by rw [p] at q;cases q⟩
      have hbb:b ≠ bi:=fun z=>by subst z;exact hno it 0 ZnH Zdt (by rw [hit];rfl)
      have:=hst.YQ;rw [ZnN b (by omega),hother b hbb,hst.frame b hb hno]
     rcases hpn with⟨rfl,hpf⟩ | ⟨rfl,hpt⟩
     ·cases hx3;show LoopIn F 0 X.P _ _ a3 w3
      exact ihk (seen.push e'.born) clock a3 w3 (fun b hb=>by
       rw [contains_push] at hb;rcases Bool.or_eq_true_iff.1 hb with z | z
       ·exact Zi9 b z
       ·have:b=e'.born:=by simpa using z
        rw [this,hbn];exact hpf) (by have:=left_shrinks es' seen e' he';omega) (Nat.le_refl _) (by rw [ZnN bi (by omega)];exact Zsy) (by rw [ZnN bm (by omega),hother bm hbne];exact Zd0) hinv hstp
     ·obtain⟨he,ZG3⟩:=ZG7 ⟨x,hx,hpt⟩;cases hx3 with
      | panic hv3=>
        show Xp wm n ρ s.h w0 e s2 _ a3 w3;rw [he,ZG3];have:=VR.YA hv hv3;subst this;exact⟨ρ,.panic (VR.ZJ hv),hinv,hstp⟩
 have Zy1:Stp wm ρ s.h w0 ρ (s.h.put it .dead) w0:=by
  have kk:=J7 (h:=s.h) (A:= .dead) ZnH (by rw [hit];rfl);exact⟨Ren.le_refl _,Nat.le_refl _,kk.keep,kk.own,kk.live,rfl,rfl,rfl,Nat.le_refl _,fun _ _ _=>rfl,fun i b d e e'=>by rw [e] at e';cases e'⟩
 refine head _ #[] Y1 a0 w0 (fun b hb=>by simp at hb) (Nat.le_refl _) hck Zsx Zsv ⟨Zby hi0.rel,⟨hi0.fr.size,fun t hany=>?_⟩,hi0.ds⟩ Zy1
 change QA ((Yd T s.fr).at t)=false at hany
 show VR ρ ((Yd T s.fr).at t) _;rw [Y9] at hany ⊢;by_cases ht:t ∈ T
 ·rw [if_pos ht] at hany;cases hany
 ·rw [if_neg ht] at hany ⊢;exact hi0.fr.val t hany
def Agr (T:List Nat) (fr fr':Fr):Prop:=∀ t v,T.contains t=false ->fr.at t=v ->fr'.at t=v
theorem Agr.at {T:List Nat} {fr fr':Fr} (a:Agr T fr fr') {t:Nat} {v:Value} (ht:T.contains t=false) (h:fr.at t=v):fr'.at t=v:=a t v ht h
def MFr (T:List Nat) (fr f:Fr):Prop:=∀ t,t ∉ T ->f.at t=fr.at t
theorem MFr.z {T:List Nat} {fr:Fr}:MFr T fr fr:=fun _ _=>rfl
theorem MFr.s {T:List Nat} {fr f:Fr} {i:Nat} {v:Value} (hi:T.contains i=true) (h:MFr T fr f):MFr T fr (Tr.set f i v):=fun t ht=>by
 have hne:t ≠ i:=fun z=>ht (by subst z;rwa [List.contains_iff_mem] at hi)
 have:=Zcn (fr:=f) (d:=some i) (v:=v) (t:=t);rw [show JU f (some i) v=Tr.set f i v from rfl] at this;rw [this,if_neg (fun z=>hne (Option.some.inj z).symm)];exact h t ht
structure ZoJ (T:List Nat) (fr:Fr) (ds:List Deferred) (v:Value) (p:Bool) (e:XX) (s:Fs):Prop where
 ds:s.ds=ds
 fr:MFr T fr s.fr
 e:e= .normal∧p=false∨e= .panic v∧p=true
theorem ZoJ.Yp {T:List Nat} {fr f:Fr} {ds:List Deferred} {v:Value} {h:H} (k:MFr T fr f):ZoJ T fr ds v false .normal ⟨f,ds,h,none⟩:= ⟨rfl,k,.inl ⟨rfl,rfl⟩⟩
theorem ZoJ.panic {T:List Nat} {fr f:Fr} {ds:List Deferred} {v:Value} {h:H} (k:MFr T fr f):ZoJ T fr ds v true (.panic v) ⟨f,ds,h,none⟩:= ⟨rfl,k,.inr ⟨rfl,rfl⟩⟩
structure ZwY (Q:XX ->Fs ->Prop) (e:XX) (s:Fs):Prop where
 nn:e ≠ .normal
 k:Q e s
theorem ZwY.exit {Q:XX ->Fs ->Prop} {s:Fs} {id:Nat} (k:Q (.exit id) s):ZwY Q (.exit id) s:= ⟨(fun z=>by cases z),k⟩
def Zw2 {κ ν:Type} (kv:κ ->Value) (vv:ν ->Value) (h:H) (it:Nat) (x:κ×ν):Prop:=ZdE h (.pointer (some ⟨it,0,none⟩))=some (.tuple #[kv x.1,vv x.2])
section
variable {κ ν:Type} {kv:κ ->Value} {vv:ν ->Value} {ll:List (κ×ν)} {bs:List Nat}
theorem ZlS:∀ {ll:List (κ×ν)} {bs:List Nat} {x:MapEntry},x ∈ Yl kv vv ll bs ->∃ (j:Nat) (y:κ×ν) (b:Nat),ll[j]? =some y∧bs[j]? =some b∧x= ⟨kv y.1,vv y.2,b⟩:=by
 intro ll bs x hx;obtain⟨j,hj⟩:=List.mem_iff_getElem?.1 hx;unfold Yl at hj;rw [List.getElem?_zipWith] at hj;cases h1:ll[j]? with
 | none=>rw [h1] at hj;simp at hj
 | some y=>
   cases h2:bs[j]? with
   | none=>rw [h1,h2] at hj;simp at hj
   | some b=>rw [h1,h2] at hj;simp at hj;exact⟨j,y,b,h1,h2,hj.symm⟩
theorem Zu7 {j:Nat} {y:κ×ν} {b:Nat} (h1:ll[j]? =some y) (h2:bs[j]? =some b):(⟨kv y.1,vv y.2,b⟩:MapEntry) ∈ Yl kv vv ll bs:=by
 refine List.mem_iff_getElem?.2 ⟨j,?_⟩;unfold Yl;rw [List.getElem?_zipWith,h1,h2]
theorem ZfS {b:Nat}:∀ {ll:List (κ×ν)} {bs:List Nat},b ∉ bs ->Zdj b (Yl kv vv ll bs)=true
 | [],_,_=>by unfold Yl;simp [Zdj]
 | _::_,[],_=>by unfold Yl;simp [Zdj]
 | x::ll,b'::bs,h=>by
   have ih:=ZfS (ll:=ll) (bs:=bs) (b:=b) (fun z=>h (by simp [z]));unfold Yl at ih ⊢;rw [List.zipWith_cons_cons];unfold Zdj;have:Nat.beq b' b=false:=by rw [Bool.eq_false_iff];intro q;exact h (by simp [Nat.eq_of_beq_eq_true q])
   dsimp only;rw [this];exact ih
theorem Zhf {Y1:Nat}:∀ {ll:List (κ×ν)} {bs:List Nat},bs.Nodup ->(∀ b ∈ bs,b < Y1) ->Wp Y1 (Yl kv vv ll bs)=true
 | [],_,_,_=>by unfold Yl;simp [Wp]
 | _::_,[],_,_=>by unfold Yl;simp [Wp]
 | x::ll,b::bs,hn,hl=>by
   rw [List.nodup_cons] at hn;have ih:=Zhf (ll:=ll) (bs:=bs) hn.2 (fun b hb=>hl b (by simp [hb]));have hno:Zdj b (Yl kv vv ll bs)=true:=ZfS (ll:=ll) hn.1;unfold Yl at ih hno ⊢;rw [List.zipWith_cons_cons];unfold Wp;dsimp only;rw [hno,ih];have:Nat.blt b Y1=true:=by rw [Nat.blt_eq];exact hl b (by simp)
   rw [this];rfl
theorem Zi1:∀ {ll:List (κ×ν)} {bs:List Nat} {j:Nat} {y:κ×ν} {b:Nat},bs.Nodup ->ll[j]? =some y ->bs[j]? =some b ->Zjo b (Yl kv vv ll bs)=some ⟨kv y.1,vv y.2,b⟩
 | [],_,_,_,_,_,h,_=>by simp at h
 | _::_,[],_,_,_,_,_,h=>by simp at h
 | x::ll,b'::bs,j,y,b,hn,h1,h2=>by
   rw [List.nodup_cons] at hn;unfold Yl;rw [List.zipWith_cons_cons];unfold Zjo;dsimp only;cases j with
   | zero=>
     simp at h1 h2;subst h1 h2;rw [Nat.beq_refl];rfl
   | succ j=>
     simp at h1 h2
     have:Nat.beq b' b=false:=by
      rw [Bool.eq_false_iff];intro q;have:=Nat.eq_of_beq_eq_true q;subst this;exact hn.1 (List.mem_iff_getElem?.2 ⟨j,h2⟩)
     rw [this];exact Zi1 hn.2 h1 h2
end
section
variable {wm:Nat} {G Gr:List (Ast wm)} {h h0:H} {T0:Nat ->Prop} {fr:Fr} {ds:List Deferred} {ty:TypeId} {p:String} {af:Array Edge} {g:Option (Nat×Bool)} {κ ν:Type} {kv:κ ->Value} {vv:ν ->Value} {ll:List (κ×ν)} {d:Nat}
theorem WO.rng {Q:XX ->Fs ->Prop} {t kt vt:TypeId} {x:Operand} {i:Nat} (hg:ZO ops ⟨some d,.range t x,ty,p,af,g⟩ fr) (hd:Nat.blt d n=true) (hS:Sp wm T0 h0 G h) (hu:X.P.underlying t=some (.map kt vt)) (hx:ZX fr x=some (.map (some i))) (s:MapAt kv vv h (some i) ll)
 (k:∀ h' b bs Y1,Sp wm T0 h0 (ob wm b (.iter i Y1 Y1 none)::G) h' ->h'.at i= .map (Yl kv vv ll bs) Y1 ->bs.length=ll.length∧bs.Nodup∧(∀ x ∈ bs,x < Y1) ->WO X n wm rd ops l ⟨Tr.set fr d (.pointer (some ⟨b,0,none⟩)),ds,h',none⟩ Q):
 WO X n wm rd ops (⟨some d,.range t x,ty,p,af,g⟩::l) ⟨fr,ds,h,none⟩ Q:=by
 rcases s.mem with⟨q,_⟩ | ⟨i',bs,Y1,q,h1,h2,h3,h4⟩
 ·cases q
 ·cases q;refine WO.v (v:=Q0 h) (E:= .new (.iter i Y1 Y1 none)) (h1:=h.push (.iter i Y1 Y1 none)) hg hd ?_ (ZkV h rfl) (k (h.push (.iter i Y1 Y1 none)) h.size bs Y1 (Znq rfl hS) ?_ ⟨h2,h3,h4⟩)
  ·show(match ZX fr x with
    | some x=>vE (Zh8 X.P h t x)
    | none=>none)=_
   rw [hx];dsimp only;unfold Zh8;simp only [hu,h1]
   rfl
  ·rw [K4 (Xy h1 rfl),h1]
theorem Zt2 {x:Operand} {it:Nat} {y:κ×ν} (hx:ZX fr x=some (.pointer (some ⟨it,0,none⟩))) (he:Zw2 kv vv h it y):Xb X h (ZX fr) ⟨some d,.entry x,ty,p,af,g⟩=some (.val (.tuple #[kv y.1,vv y.2]),.none):=by
 show(match ZX fr x with
  | some it=>vN (ZdE h it)
  | none=>none)=_
 rw [hx];dsimp only;rw [show ZdE h (.pointer (some ⟨it,0,none⟩))=_ from he];rfl
theorem WL.ZGr {Q:XX ->Fs ->Prop} {id:Nat} {o:Oper} {t it m Y1:Nat} {bs:List Nat} {b:κ ->ν ->Option Bool} {q:Bool} (T:List Nat) (v:Value) (hq:Zi0 b ll=some q) (hS:Sp wm T0 h0 G h) (pi:Pk G (ob wm it (.iter m Y1 Y1 none)) Gr) (hat:fr.at t= .pointer (some ⟨it,0,none⟩)) (hm:h.at m= .map (Yl kv vv ll bs) Y1) (hb:bs.length=ll.length∧bs.Nodup∧∀ x ∈ bs,x < Y1)
 (hops:ops.toList=o::l) (hop:o.op= .next (.tmp t) false) (hgu:o.guard=none) (hd:o.dst=some d) (hdn:Nat.blt d n=true) (hT:T.contains t=false) (hdT:T.contains d=true) (hv:plain v=true)
 (body:∀ (x:κ×ν) (p:Bool),b x.1 x.2=some p ->∀ h2 fr',Agr T fr fr' ->Sp h.size (Xv ([]:List (Ast h.size))) h2 [] h2 ->Zw2 kv vv h2 it x ->WO X n h.size rd ops l ⟨Tr.set fr' d (.tuple #[.bool true,kv x.1,vv x.2]),ds,h2,none⟩ (Qq X n h.size rd rest (ZoJ T fr' ds v p)))
 (over:q=false ->∀ h' fr',Agr T fr fr' ->Sp wm T0 h0 Gr h' ->WO X n wm rd ops l ⟨Tr.set fr' d (.tuple #[.bool false]),ds,h',none⟩ (Qq X n wm rd rest (ZwY Q)))
 (Jc:q=true ->∀ h' fr',Agr T fr fr' ->Sp wm T0 h0 Gr h' ->Q (.panic v) ⟨fr',ds,h',none⟩):WL X n wm rd (.seq (.region id ops false) rest) ⟨fr,ds,h,none⟩ Q:=by
 obtain⟨hb1,hb2,hb3⟩:=hb;obtain⟨o1,o2,o3⟩:=hS.get pi;obtain⟨m1,m2⟩:=Zdq hq
 have Zzr:Agr T fr (Yd T fr):=fun t' v' ht' hv'=>by
  rw [Y9,if_neg (fun z=>by rw [← List.contains_iff_mem] at z;rw [z] at ht';cases ht'),hv']
 have htT:t ∉ T:=fun z=>by rw [← List.contains_iff_mem] at z;rw [z] at hT;cases hT
 have ZHl:d ∈ T:=List.contains_iff_mem.1 hdT;have ZG8:m ≠ it:=fun z=>by rw [z,o1] at hm;cases hm
 classical
 let pn:Nat ->Bool:=fun bn=>decide (∃ (j:Nat) (y:κ×ν),ll[j]? =some y∧bs[j]? =some bn∧b y.1 y.2=some true)
 have ZjO:∀ (j:Nat) (y:κ×ν) (bn:Nat),ll[j]? =some y ->bs[j]? =some bn ->∀ p,b y.1 y.2=some p ->pn bn=p:=by
  intro j y bn h1 h2 p hp;cases p with
  | true=>exact decide_eq_true ⟨j,y,h1,h2,hp⟩
  | false=>
    refine decide_eq_false ?_;rintro⟨j',y',h1',h2',hp'⟩
    have hj:j'=j:=by
     obtain⟨q1,e1⟩:=List.getElem?_eq_some_iff.1 h2';obtain⟨q2,e2⟩:=List.getElem?_eq_some_iff.1 h2;exact(List.getElem_inj hb2).1 (e1.trans e2.symm)
    subst hj;rw [h1] at h1';cases h1';rw [hp] at hp';cases hp'
 have Zxx:Sp wm T0 h0 Gr (h.put it .dead):=
  Sp.step (Ga:= [ob wm it (.iter m Y1 Y1 none)]) (Gb:= []) (hS.perm pi.perm) (Up.put o2 (by rw [o1];rfl)) (fun i e=>⟨_,List.mem_singleton.2 rfl,e⟩) ZQ.nil fun i ⟨A,mm,f⟩=>by simp at mm
 have Zht:∀ x ∈ Yl kv vv ll bs,∃ ex s3,(s3.ds=ds∧(∀ t,t ∉ T ->s3.fr.at t=fr.at t)∧(ex= .normal∧pn x.born=false∨ex= .panic v∧pn x.born=true))∧∀ {ρ:Ren} {F:Fence} {a:Act} {w:World},Inv ρ n {fr:=JU (Yd T fr) o.dst (.tuple #[.bool true,x.key,x.val]),ds:=ds,h:=h.put it (.iter m Y1 Y1 (some x.born)),wr:=none} a w ->h.size <= (h.put it (.iter m Y1 Y1 (some x.born))).size ->FR' ρ rd F ->∀ Q':Exit ->Act ->World ->Prop,
  (∀ e' a' w',Xp h.size n ρ (h.put it (.iter m Y1 Y1 (some x.born))) w ex s3 e' a' w' ->Q' e' a' w') ->wpListIn F 0 X.P ops (Exit.then (rest.wpIn F 0 X.P Q') Q') l a w:=by
  intro x hx;obtain⟨j,y,bn,h1,h2,rfl⟩:=ZlS hx;obtain⟨p,hp⟩:=m1 y (List.mem_iff_getElem?.2 ⟨j,h1⟩);have hpn:=ZjO j y bn h1 h2 p hp;have hsz:(h.put it (.iter m Y1 Y1 (some bn))).size=h.size:=H.size_put _ _ _;have e1:(h.put it (.iter m Y1 Y1 (some bn))).at it= .iter m Y1 Y1 (some bn):=Z9 (Xy o1 rfl) _;have e2:(h.put it (.iter m Y1 Y1 (some bn))).at m= .map (Yl kv vv ll bs) Y1:=by rw [XK ZG8,hm]
  have hent:Zw2 kv vv (h.put it (.iter m Y1 Y1 (some bn))) it y:=by
   unfold Zw2 ZdE;simp only [e1,e2,Nat.beq_refl,cond_true,Zi1 hb2 h1 h2]
  obtain⟨ex,s3,⟨q1,q2,q3⟩,q4⟩:=WO.body (body y p hp (h.put it (.iter m Y1 Y1 (some bn))) (Yd T fr) Zzr (Sp.start (Nat.le_of_eq hsz.symm) ZQ.nil) hent);refine⟨ex,s3,⟨q1,fun t' ht'=>?_,?_⟩,?_⟩
  ·rw [q2 t' ht',Y9,if_neg ht']
  ·dsimp only;rw [hpn];exact q3
  ·rw [hd];intro ρ F a w i1 i2 i3 Q' i4;exact q4 i1 i2 i3 Q' i4
 have key:=fun(e:XX) (s2:Fs)=>Zsf (X:=X) (n:=n) (wm:=wm) (rd:=rd) (rest:=rest) (id:=id) (s:= ⟨fr,ds,h,none⟩) (e:=e) (s2:=s2) (T:=T) (v:=v) pn hops hop hgu hat o1 hm (Nat.le_refl _) (Zhf hb2 hb3) o2 htT hd (by rwa [Nat.blt_eq] at hdn) ZHl hv Zht
 cases q with
 | true=>
   refine⟨.panic v,⟨Yd T fr,ds,h.put it .dead,none⟩,Jc rfl _ _ Zzr Zxx,key _ _ (fun hall=>?_) fun _=>⟨rfl,rfl⟩⟩;exfalso;obtain⟨y,hy,hyb⟩:=m2.1 rfl;obtain⟨j,hj⟩:=List.mem_iff_getElem?.1 hy;have hjl:= (List.getElem?_eq_some_iff.1 hj).1;have h2:bs[j]? =some (bs[j]'(by omega)):=List.getElem?_eq_getElem _;have:=hall _ (Zu7 hj h2);rw [ZjO j y _ hj h2 true hyb] at this;cases this
 | false=>
   obtain⟨e,s2,⟨q1,q2⟩,q3⟩:=WO.body (over rfl _ _ Zzr Zxx);refine⟨e,s2,q2,key e s2 (fun _=>⟨q1,?_⟩) fun⟨x,hx,hp⟩=>?_⟩
   ·rw [hd];intro ρ F a w i1 i2 i3 Q' i4;exact q3 i1 i2 i3 Q' i4
   ·exfalso;obtain⟨j,y,bn,h1,h2,rfl⟩:=ZlS hx;obtain⟨p,hp'⟩:=m1 y (List.mem_iff_getElem?.2 ⟨j,h1⟩);have hpn:=ZjO j y bn h1 h2 p hp';rw [show pn bn=true from hp] at hpn;subst hpn;exact absurd (m2.2 ⟨y,List.mem_iff_getElem?.2 ⟨j,h1⟩,hp'⟩) (by simp)
end
end Go.Yq
end
end
section
noncomputable section
namespace Go.Yq
open Go.Lf
variable {X:Ctx} {n wm:Nat} {rd:Option Nat} {ops:Array Oper} {l:List Oper} {fr:Fr} {ds:List Deferred} {h h1 h2 h0:H} {T:Nat ->Prop} {G Gr Ga Gb:List (Ast wm)}
inductive FzS (wm:Nat):H ->H ->Prop
 | refl (h:H):FzS wm h h
 | step {h h':H} {i:Nat} {cs:List Value} {z:Nat} (hw:wm <=i) (hr:h.at i= .row cs true z) (k:FzS wm (h.put i (.row cs false 0)) h'):FzS wm h h'
theorem FzS.trans {h h1 h2:H} (a:FzS wm h h1) (b:FzS wm h1 h2):FzS wm h h2:=by
 induction a with
 | refl _=>exact b
 | step hw hr _ ih=>exact .step hw hr (ih b)
theorem WO.fzS {Q:XX ->Fs ->Prop} {h h':H} (a:FzS wm h h') (k:WO X n wm rd ops l ⟨fr,ds,h',none⟩ Q):WO X n wm rd ops l ⟨fr,ds,h,none⟩ Q:=by
 induction a with
 | refl _=>exact k
 | step hw hr _ ih=>exact WO.Zjf hw hr (ih k)
theorem Xu.fzs {α:Type} {e:JW α} {a:Option Addr} {c:Nat} {xs:List α} (so:Xu e wm wm h a c xs):∃ h',FzS wm h h'∧Up wm (XF a) h h'∧Sl e wm h' a c xs:=by
 rcases so.mem with⟨rfl,rfl,rfl⟩ | ⟨i,o,cs,rfl,h1,h2,h3,h4,h5⟩
 ·exact⟨h,.refl h,⟨Nat.le_refl _,fun _ _ _=>rfl,fun i hb=>by obtain⟨o,hb⟩:=hb;cases hb⟩,Sl.nil⟩
 ·have hown:(h.at i).own=true:=by rw [h2];rfl
  have hu:Up wm (XF (some ⟨i,o,none⟩)) h (h.put i (.row cs false 0)):=
   ⟨Nat.le_refl _,fun j _ hn=>XK (fun q=>hn ⟨o,by rw [q]⟩) _,fun j hb=>by obtain⟨o',hb⟩:=hb;cases hb;exact⟨h1,hown⟩⟩
  exact⟨_,.step h1 h2 (.refl _),hu,⟨so.max,so.cap,so.nl,.inr ⟨i,o,cs,false,0,rfl,Z9 (Xy h2 rfl) _,.inr rfl,h5.mono (hu.fz (Nat.le_refl _))⟩⟩⟩
theorem Zmb {α:Type} {e:JW α} (ps:Nat ->Option Addr×Nat×Nat):∀ (xs:List (List α)) (k:Nat) (h:H) (Gr:List (Ast wm)),Sp wm T h0 (Yi (fun k x=>(YM e).YC wm (ps k) x) k xs ++ Gr) h ->
 ∃ h',FzS wm h h'∧Fz wm h h'∧Sp wm T h0 Gr h'∧∀ j x,xs[j]? =some x ->(ps (k + j)).2.1=x.length∧Sl e wm h' (ps (k + j)).1 (ps (k + j)).2.2 x
 | [],k,h,Gr,hS=>⟨h,.refl h,Fz.refl _ _,hS,fun j x hj=>by simp at hj⟩
 | x::xs,k,h,Gr,hS=>by
   have hS:Sp wm T h0 (ow wm e (ps k).1 (ps k).2.1 (ps k).2.2 x::(Yi (fun k x=>(YM e).YC wm (ps k) x) (k + 1) xs ++ Gr)) h:=hS;have hg:=hS.get k0;obtain⟨h1,f1,u1,s1⟩:=hg.2.fzs;have hS1:= (ZxV hS k0 u1 s1).2.drop k0;obtain⟨h2,f2,z2,hS2,hall⟩:=Zmb ps xs (k + 1) h1 Gr hS1;refine⟨h2,f1.trans f2,(u1.fz (Nat.le_refl _)).trans z2,hS2,fun j y hj=>?_⟩;cases j with
   | zero=>simp at hj;subst hj;exact⟨hg.1,s1.mono z2⟩
   | succ j=>
     have:=hall j y (by simpa using hj);have e1:k + 1 + j=k + (j + 1):=by omega
     rwa [e1] at this
theorem ZzR {α:Type} {e:JW α} {a:Option Addr} {nn c:Nat} {ps:Nat ->Option Addr×Nat×Nat} {xs:List (List α)} (hS:Sp wm T h0 G h) (pk:Pk G (nst wm (YM e) a nn c ps xs) Gr):∃ h',FzS wm h h'∧nn=xs.length∧Sp wm T h0 (fzA wm (rSl (rSl e)) (a,c) xs::Gr) h':=by
 obtain⟨g1,g2,g3,g4⟩:=hS.get pk
 let O:Ast wm:=ow wm (ZrO (YM e).sz (YM e).pos) a ((YM e).rows ps xs).length c ((YM e).rows ps xs)
 have hS1:Sp wm T h0 ((YM e).parts wm ps xs ++ (O::Gr)) h:=by
  have h1:Sp wm T h0 ((O::(YM e).parts wm ps xs) ++ Gr) h:=by
   refine Sp.say (Ga:= [nst wm (YM e) a nn c ps xs]) (Gr:=Gr) (hS.perm pk.perm) (ZQ.cons ⟨rfl,g2⟩ g3 fun i f=>g4 i f) fun i f=>?_
   rcases Xv.cons.1 f with f | f
   ·exact⟨_,List.mem_singleton.2 rfl,.inl f⟩
   ·exact⟨_,List.mem_singleton.2 rfl,.inr f⟩
  exact h1.perm (by
   rw [List.cons_append];exact(List.perm_middle).symm)
 obtain⟨h1,f1,z1,hS2,hall⟩:=Zmb ps xs 0 h (O::Gr) hS1;obtain⟨h2,f2,u2,s2⟩:= (hS2.get k0).2.fzs;refine⟨h2,f1.trans f2,g1,hS2.one k0 u2 (fun _ q=>q) ?_ fun _ z=>z.elim⟩;show Sl (rSl e) wm h2 a c xs;have hlen:((YM e).rows ps xs).length=xs.length:=Zal _ _ _;refine⟨by rw [← hlen];exact s2.max,by rw [← hlen];exact s2.cap,s2.nl,?_⟩;rcases s2.mem with q | ⟨i,o,cs,own,z,q1,q2,q3,q4⟩
 ·left;apply List.eq_nil_of_length_eq_zero;rw [← hlen,q];rfl
 ·refine .inr ⟨i,o,cs,own,z,q1,q2,q3,⟨by have:=q4.len;rw [hlen] at this;exact this,fun k x hk=>?_⟩⟩;obtain⟨n1,n2⟩:=hall k x hk;rw [Nat.zero_add] at n1 n2
  have hrow:((YM e).rows ps xs)[k]? =some ((YM e).raw (ps k) x):=by
   unfold Ne.rows;rw [Un,hk,Nat.zero_add];rfl
  obtain⟨_,w1,_⟩:=q4.get k _ hrow;refine⟨((ps k).1,(ps k).2.2),?_,n2.mono (u2.fz (Nat.le_refl _))⟩;have w2:(cs.drop (o + k * 1)).take 1= [Value.slice (ps k).1 (ps k).2.1 (ps k).2.2]:=w1;rw [n1] at w2;exact w2
theorem WO.ZzQ {Q:XX ->Fs ->Prop} {α:Type} {e:JW α} {a:Option Addr} {nn c:Nat} {ps:Nat ->Option Addr×Nat×Nat} {xs:List (List α)} (hS:Sp wm T h0 G h) (pk:Pk G (nst wm (YM e) a nn c ps xs) Gr) (k:∀ h',nn=xs.length∧Sp wm T h0 (fzA wm (rSl (rSl e)) (a,c) xs::Gr) h' ->WO X n wm rd ops l ⟨fr,ds,h',none⟩ Q):WO X n wm rd ops l ⟨fr,ds,h,none⟩ Q:=
 let⟨h',f,hh⟩:=ZzR hS pk;WO.fzS f (k h' hh)
end Go.Yq
end
end
section
end
section
namespace Go.Proofs.Ytekpjgmhkkjhgaa
structure Zb where
 name:Int
 root:Bool
 from_:Int
 has:Int
 out:Int
 use:Bool
 deriving DecidableEq,Inhabited
structure Zd where
 kind:Int
 ZG:Int
 name:Int
 via:Int
 w:Int
 deriving DecidableEq,Inhabited
structure Za where
 cells:(List (List Zb))
 notes:(List Zd)
 names:Int
 freed:(List Int)
 deriving DecidableEq,Inhabited
structure Zm where
 Xa:Int
 at_:Int
 name:Int
 ZG:Int
 deriving DecidableEq,Inhabited
structure Qm where
 at_:Int
 name:Int
 deriving DecidableEq,Inhabited
structure Zah where
 Xa:Int
 at_:Int
 name:Int
 ZG:Int
 deriving DecidableEq,Inhabited
structure Ze where
 e0:Int
 e1:Int
 deriving DecidableEq,Inhabited
structure Store where
 machines:Int
 names:Int
 cells:(List (Ze×Zb))
 notes:(List Zd)
 freed:(List Int)
 deriving DecidableEq,Inhabited
structure Model where
 uses:(List Qm)
 ways:(List Qm)
 deriving DecidableEq,Inhabited
def JC (x y:Zb):Bool:= [x.name==y.name,x.root==y.root,x.from_==y.from_,x.has==y.has,x.out==y.out,x.use==y.use].all id
def K3 (x y:Zd):Bool:= [x.kind==y.kind,x.ZG==y.ZG,x.name==y.name,x.via==y.via,x.w==y.w].all id
def Zmv (x y:Qm):Bool:= [x.at_==y.at_,x.name==y.name].all id
def ZAr:Option Bool:=some true
def ZtE (x:Int):Option Int:=Go.Lf.XZ x
end Go.Proofs.Ytekpjgmhkkjhgaa
end
section
set_option maxRecDepth 100000
noncomputable section
namespace Go.Proofs.Ytekpjgmhkkjhgaa
open Go.Yq Go.Lf
def Zq:JW Zb where
 sz:=6
 pos:=by decide
 Par:=Unit
 dflt:= ()
 sh:=fun _ x=>[.int .i64 x.name,.bool x.root,.int .i64 x.from_,.int .i64 x.has,.int .i64 x.out,.bool x.use]
 len:=fun _ _=>rfl
 one:=fun _ _=>rfl
 F:=fun _ _ _ _=>True
 mono:=fun _ x=>x
 up:=fun _ x=>x
def Zh:JW Zd where
 sz:=5
 pos:=by decide
 Par:=Unit
 dflt:= ()
 sh:=fun _ x=>[.int .i64 x.kind,.int .i64 x.ZG,.int .i64 x.name,.int .i64 x.via,.int .i64 x.w]
 len:=fun _ _=>rfl
 one:=fun _ _=>rfl
 F:=fun _ _ _ _=>True
 mono:=fun _ x=>x
 up:=fun _ x=>x
def Xk:JW Zm where
 sz:=4
 pos:=by decide
 Par:=Unit
 dflt:= ()
 sh:=fun _ x=>[.int .i64 x.Xa,.int .i64 x.at_,.int .i64 x.name,.int .i64 x.ZG]
 len:=fun _ _=>rfl
 one:=fun _ _=>rfl
 F:=fun _ _ _ _=>True
 mono:=fun _ x=>x
 up:=fun _ x=>x
def YB:JW Qm where
 sz:=2
 pos:=by decide
 Par:=Unit
 dflt:= ()
 sh:=fun _ x=>[.int .i64 x.at_,.int .i64 x.name]
 len:=fun _ _=>rfl
 one:=fun _ _=>rfl
 F:=fun _ _ _ _=>True
 mono:=fun _ x=>x
 up:=fun _ x=>x
def ZrP:JW Zah where
 sz:=4
 pos:=by decide
 Par:=Unit
 dflt:= ()
 sh:=fun _ x=>[.int .u8 x.Xa,.int .u8 x.at_,.int .u8 x.name,.int .u8 x.ZG]
 len:=fun _ _=>rfl
 one:=fun _ _=>rfl
 F:=fun _ _ _ _=>True
 mono:=fun _ x=>x
 up:=fun _ x=>x
def Zi (x:Ze):Value:= .agg [.int .i64 x.e0,.int .i64 x.e1].toArray
def Zn (x:Zb):Value:= .agg [.int .i64 x.name,.bool x.root,.int .i64 x.from_,.int .i64 x.has,.int .i64 x.out,.bool x.use].toArray
theorem Zlz:XX.P.underlying 3=some (.int .i64):=by kernel_rfl
theorem ZF9:XX.P.underlying 4=some .bool:=by kernel_rfl
theorem Znd:XX.P.underlying 5=some (.int .u8):=by kernel_rfl
theorem ZdL:XX.P.underlying 22=some (.slice 59):=by kernel_rfl
theorem J2:XX.P.underlying 23=some (.slice 58):=by kernel_rfl
theorem XU:XX.P.underlying 24=some (.slice 3):=by kernel_rfl
theorem ZcW:XX.P.underlying 38=some (.slice 29):=by kernel_rfl
theorem ZBI:XX.P.underlying 43=some (.slice 91):=by kernel_rfl
theorem ZfI:XX.P.underlying 59=some (.slice 61):=by kernel_rfl
theorem Zly:XX.P.underlying 62=some (.slice 80):=by kernel_rfl
theorem Qu:XX.P.underlying 63=some (.slice 73):=by kernel_rfl
theorem ZBH:XX.P.underlying 69=some (.slice 5):=by kernel_rfl
theorem JZ:XX.P.underlying 95=some (.map 113 61):=by kernel_rfl
theorem UB:XX.P.underlying 110=some (.map 113 3):=by kernel_rfl
theorem Zyn:XX.P.underlying 160=some (.int .u64):=by kernel_rfl
theorem Xf:Yk XX.P 3=some false:=by kernel_rfl
theorem ZIQ:Yk XX.P 4=some false:=by kernel_rfl
theorem ZIP:Yk XX.P 5=some false:=by kernel_rfl
theorem Zx5:Yk XX.P 22=some false:=by kernel_rfl
theorem Zm0:Yk XX.P 23=some false:=by kernel_rfl
theorem Zug:Yk XX.P 24=some false:=by kernel_rfl
theorem Ua:Yk XX.P 26=some true:=by kernel_rfl
theorem Zuf:Yk XX.P 27=some false:=by kernel_rfl
theorem Zex:Yk XX.P 29=some true:=by kernel_rfl
theorem Zue:Yk XX.P 32=some false:=by kernel_rfl
theorem ZFc:Yk XX.P 56=some false:=by kernel_rfl
theorem Zcc:Yk XX.P 58=some true:=by kernel_rfl
theorem Zic:Yk XX.P 59=some false:=by kernel_rfl
theorem Zew:Yk XX.P 61=some true:=by kernel_rfl
theorem ZFb:Yk XX.P 63=some false:=by kernel_rfl
theorem ZaG:Yk XX.P 65=some true:=by kernel_rfl
theorem Zev:Yk XX.P 73=some true:=by kernel_rfl
theorem Zud:Yk XX.P 80=some true:=by kernel_rfl
theorem ZFa:Yk XX.P 91=some true:=by kernel_rfl
theorem Zuc:Yk XX.P 94=some false:=by kernel_rfl
theorem Zf8:Yk XX.P 95=some false:=by kernel_rfl
theorem Zld:Yk XX.P 110=some false:=by kernel_rfl
theorem ZAT:Yk XX.P 113=some true:=by kernel_rfl
theorem YT:Z5 XX.P 3=some 1:=by kernel_rfl
theorem Zw7:Z5 XX.P 4=some 1:=by kernel_rfl
theorem ZBO:Z5 XX.P 5=some 1:=by kernel_rfl
theorem Zyv:Z5 XX.P 22=some 1:=by kernel_rfl
theorem Znk:Z5 XX.P 23=some 1:=by kernel_rfl
theorem Zyu:Z5 XX.P 24=some 1:=by kernel_rfl
theorem YZ:Z5 XX.P 26=some 4:=by kernel_rfl
theorem JS:Z5 XX.P 29=some 4:=by kernel_rfl
theorem Zyt:Z5 XX.P 32=some 1:=by kernel_rfl
theorem Y2:Z5 XX.P 58=some 5:=by kernel_rfl
theorem K9:Z5 XX.P 59=some 1:=by kernel_rfl
theorem QR:Z5 XX.P 61=some 6:=by kernel_rfl
theorem Zrz:Z5 XX.P 63=some 1:=by kernel_rfl
theorem Jb:Z5 XX.P 65=some 2:=by kernel_rfl
theorem YX:Z5 XX.P 73=some 2:=by kernel_rfl
theorem Zdc:Z5 XX.P 80=some 4:=by kernel_rfl
theorem Zys:Z5 XX.P 91=some 4:=by kernel_rfl
theorem Zyr:Z5 XX.P 94=some 1:=by kernel_rfl
theorem ZjK:Z5 XX.P 110=some 1:=by kernel_rfl
theorem ZuQ:Z5 XX.P 113=some 2:=by kernel_rfl
theorem Zwb:Zw XX.P 26 0 0:=Zw.of (by kernel_rfl)
theorem Zwa:Zw XX.P 26 1 1:=Zw.of (by kernel_rfl)
theorem Zv9:Zw XX.P 26 2 2:=Zw.of (by kernel_rfl)
theorem Zv8:Zw XX.P 26 3 3:=Zw.of (by kernel_rfl)
theorem Zkk:Zw XX.P 29 0 0:=Zw.of (by kernel_rfl)
theorem Za6:Zw XX.P 29 1 1:=Zw.of (by kernel_rfl)
theorem Zcx:Zw XX.P 29 2 2:=Zw.of (by kernel_rfl)
theorem Za5:Zw XX.P 29 3 3:=Zw.of (by kernel_rfl)
theorem Zv7:Zw XX.P 58 0 0:=Zw.of (by kernel_rfl)
theorem Zv6:Zw XX.P 58 1 1:=Zw.of (by kernel_rfl)
theorem Zv5:Zw XX.P 58 2 2:=Zw.of (by kernel_rfl)
theorem Zv4:Zw XX.P 58 3 3:=Zw.of (by kernel_rfl)
theorem Zpq:Zw XX.P 58 4 4:=Zw.of (by kernel_rfl)
theorem Zv3:Zw XX.P 61 0 0:=Zw.of (by kernel_rfl)
theorem Zv2:Zw XX.P 61 1 1:=Zw.of (by kernel_rfl)
theorem Zpp:Zw XX.P 61 2 2:=Zw.of (by kernel_rfl)
theorem Zkj:Zw XX.P 61 3 3:=Zw.of (by kernel_rfl)
theorem Zv1:Zw XX.P 61 4 4:=Zw.of (by kernel_rfl)
theorem Zv0:Zw XX.P 61 5 5:=Zw.of (by kernel_rfl)
theorem Zpo:Zw XX.P 65 0 0:=Zw.of (by kernel_rfl)
theorem ZvZ:Zw XX.P 65 1 1:=Zw.of (by kernel_rfl)
theorem ZvY:Zw XX.P 73 0 0:=Zw.of (by kernel_rfl)
theorem ZvX:Zw XX.P 73 1 1:=Zw.of (by kernel_rfl)
theorem ZvW:Zw XX.P 80 0 0:=Zw.of (by kernel_rfl)
theorem ZvV:Zw XX.P 80 1 1:=Zw.of (by kernel_rfl)
theorem ZvU:Zw XX.P 80 2 2:=Zw.of (by kernel_rfl)
theorem ZvT:Zw XX.P 80 3 3:=Zw.of (by kernel_rfl)
theorem ZvS:Zw XX.P 91 2 2:=Zw.of (by kernel_rfl)
theorem ZvR:Zw XX.P 91 3 3:=Zw.of (by kernel_rfl)
theorem ZvQ:Zw XX.P 97 0 0:=Zw.of (by kernel_rfl)
theorem ZvP:Zw XX.P 97 1 1:=Zw.of (by kernel_rfl)
theorem ZvO:Zw XX.P 97 2 2:=Zw.of (by kernel_rfl)
theorem Zki:Zw XX.P 97 3 3:=Zw.of (by kernel_rfl)
theorem ZvN:Zw XX.P 97 4 4:=Zw.of (by kernel_rfl)
theorem UY:Yy XX.P 3=some (.int .i64 0):=by kernel_rfl
theorem Zyf:Yy XX.P 24=some (.slice none 0 0):=by kernel_rfl
theorem ZeH:Yy XX.P 26=some (.agg #[.slice none 0 0,.slice none 0 0,.int .i64 0,.slice none 0 0]):=by kernel_rfl
theorem ZgO:Yy XX.P 29=some (.agg #[.int .i64 0,.int .i64 0,.int .i64 0,.int .i64 0]):=by kernel_rfl
theorem Zye:Yy XX.P 32=some (.int .i64 0):=by kernel_rfl
theorem ZeG:Yy XX.P 58=some (.agg #[.int .i64 0,.int .i64 0,.int .i64 0,.int .i64 0,.int .i64 0]):=by kernel_rfl
theorem Zrq:Yy XX.P 59=some (.slice none 0 0):=by kernel_rfl
theorem Ue:Yy XX.P 61=some (.agg #[.int .i64 0,.bool false,.int .i64 0,.int .i64 0,.int .i64 0,.bool false]):=by kernel_rfl
theorem Zyd:Yy XX.P 65=some (.agg #[.slice none 0 0,.slice none 0 0]):=by kernel_rfl
theorem ZaK:Yy XX.P 73=some (.agg #[.int .i64 0,.int .i64 0]):=by kernel_rfl
theorem Zyc:Yy XX.P 80=some (.agg #[.int .u8 0,.int .u8 0,.int .u8 0,.int .u8 0]):=by kernel_rfl
theorem Zyb:Yy XX.P 91=some (.agg #[.int .i64 0,.int .i64 0,.int .i64 0,.int .i64 0]):=by kernel_rfl
theorem Zya:Yy XX.P 94=some (.pointer none):=by kernel_rfl
theorem Zrp:Yy XX.P 97=some (.agg #[.int .i64 0,.int .i64 0,.map none,.slice none 0 0,.slice none 0 0]):=by kernel_rfl
theorem ZuF:Yy XX.P 110=some (.map none):=by kernel_rfl
theorem ZoM:Yy XX.P 113=some (.agg #[.int .i64 0,.int .i64 0]):=by kernel_rfl
theorem Zf6:Zbd XX.P 26 [.slice none 0 0,.slice none 0 0,.int .i64 0,.slice none 0 0] [(0,1),(1,1),(2,1),(3,1)]:= ⟨_,_,ZeH,rfl,Try.underlying26,by kernel_rfl⟩
theorem Zjw:Zbd XX.P 29 [.int .i64 0,.int .i64 0,.int .i64 0,.int .i64 0] [(0,1),(1,1),(2,1),(3,1)]:= ⟨_,_,ZgO,rfl,Try.underlying29,by kernel_rfl⟩
theorem ZpK:Zbd XX.P 58 [.int .i64 0,.int .i64 0,.int .i64 0,.int .i64 0,.int .i64 0] [(0,1),(1,1),(2,1),(3,1),(4,1)]:= ⟨_,_,ZeG,rfl,Try.underlying58,by kernel_rfl⟩
theorem Zx1:Zbd XX.P 61 [.int .i64 0,.bool false,.int .i64 0,.int .i64 0,.int .i64 0,.bool false] [(0,1),(1,1),(2,1),(3,1),(4,1),(5,1)]:= ⟨_,_,Ue,rfl,Try.underlying61,by kernel_rfl⟩
theorem Zjv:Zbd XX.P 73 [.int .i64 0,.int .i64 0] [(0,1),(1,1)]:= ⟨_,_,ZaK,rfl,Try.underlying73,by kernel_rfl⟩
theorem ZtV:Zbd XX.P 97 [.int .i64 0,.int .i64 0,.map none,.slice none 0 0,.slice none 0 0] [(0,1),(1,1),(2,1),(3,1),(4,1)]:= ⟨_,_,Zrp,rfl,Try.underlying97,by kernel_rfl⟩
theorem XJ:ZpS XX.P 113 [.int .i64 0,.int .i64 0] 1:= ⟨_,_,_,ZoM,rfl,Try.underlying113,by kernel_rfl⟩
theorem Zib:ZeE XX.P #[23,23] 5 40:= ⟨58,.agg #[.int .i64 0,.int .i64 0,.int .i64 0,.int .i64 0,.int .i64 0],by kernel_rfl⟩
theorem Zer:ZeE XX.P #[24,24] 1 8:= ⟨3,.int .i64 0,by kernel_rfl⟩
theorem Zia:ZeE XX.P #[38,38] 4 32:= ⟨29,.agg #[.int .i64 0,.int .i64 0,.int .i64 0,.int .i64 0],by kernel_rfl⟩
theorem Zt6:ZeE XX.P #[59,59] 6 48:= ⟨61,.agg #[.int .i64 0,.bool false,.int .i64 0,.int .i64 0,.int .i64 0,.bool false],by kernel_rfl⟩
theorem KH:ZeE XX.P #[63,63] 2 16:= ⟨73,.agg #[.int .i64 0,.int .i64 0],by kernel_rfl⟩
theorem ZEI (x y:Zd):Zuq XX.P 58 (Zh.sh () x) (Zh.sh () y) (K3 x y):=
 ⟨by kernel_rfl,Zfo (d:=9999) (bs:= [x.kind==y.kind,x.ZG==y.ZG,x.name==y.name,x.via==y.via,x.w==y.w]) Try.underlying58 (by kernel_rfl) ⟨⟨by decide,_,_,Z6 (by kernel_rfl) rfl,Z6 (by kernel_rfl) rfl,eq_int (by kernel_rfl)⟩,⟨by decide,_,_,Z6 (by kernel_rfl) rfl,Z6 (by kernel_rfl) rfl,eq_int (by kernel_rfl)⟩,⟨by decide,_,_,Z6 (by kernel_rfl) rfl,Z6 (by kernel_rfl) rfl,eq_int (by kernel_rfl)⟩,⟨by decide,_,_,Z6 (by kernel_rfl) rfl,Z6 (by kernel_rfl) rfl,eq_int (by kernel_rfl)⟩,⟨by decide,_,_,Z6 (by kernel_rfl) rfl,Z6 (by kernel_rfl) rfl,eq_int (by kernel_rfl)⟩,trivial⟩⟩
theorem ZxY (x y:Zb):Zuq XX.P 61 (Zq.sh () x) (Zq.sh () y) (JC x y):=
 ⟨by kernel_rfl,Zfo (d:=9999) (bs:= [x.name==y.name,x.root==y.root,x.from_==y.from_,x.has==y.has,x.out==y.out,x.use==y.use]) Try.underlying61 (by kernel_rfl) ⟨⟨by decide,_,_,Z6 (by kernel_rfl) rfl,Z6 (by kernel_rfl) rfl,eq_int (by kernel_rfl)⟩,⟨by decide,_,_,Z6 (by kernel_rfl) rfl,Z6 (by kernel_rfl) rfl,ZkT (by kernel_rfl)⟩,⟨by decide,_,_,Z6 (by kernel_rfl) rfl,Z6 (by kernel_rfl) rfl,eq_int (by kernel_rfl)⟩,⟨by decide,_,_,Z6 (by kernel_rfl) rfl,Z6 (by kernel_rfl) rfl,eq_int (by kernel_rfl)⟩,⟨by decide,_,_,Z6 (by kernel_rfl) rfl,Z6 (by kernel_rfl) rfl,eq_int (by kernel_rfl)⟩,⟨by decide,_,_,Z6 (by kernel_rfl) rfl,Z6 (by kernel_rfl) rfl,ZkT (by kernel_rfl)⟩,trivial⟩⟩
theorem ZpH (x y:Qm):Zuq XX.P 73 (YB.sh () x) (YB.sh () y) (Zmv x y):=
 ⟨by kernel_rfl,Zfo (d:=9999) (bs:= [x.at_==y.at_,x.name==y.name]) Try.underlying73 (by kernel_rfl) ⟨⟨by decide,_,_,Z6 (by kernel_rfl) rfl,Z6 (by kernel_rfl) rfl,eq_int (by kernel_rfl)⟩,⟨by decide,_,_,Z6 (by kernel_rfl) rfl,Z6 (by kernel_rfl) rfl,eq_int (by kernel_rfl)⟩,trivial⟩⟩
theorem YG:Zbk XX.P 113 Zi:=Zbk.ZIO (et:=3) (by kernel_rfl) (by kernel_rfl) (by kernel_rfl) (fun x=>x.e0) (fun x=>x.e1) (fun _=>rfl) (fun x y=>by cases x;cases y;simp)
theorem ZAK:ZdA XX.P 59=some 24:=by kernel_rfl
theorem ZDl:(XX.fns.get 14).isSome=true:=by kernel_rfl
theorem ZDk:(XX.fns.get 15).isSome=true:=by kernel_rfl
theorem ZxI:(XX.fns.get 17).isSome=true:=by kernel_rfl
theorem ZsC:(XX.fns.get 21).isSome=true:=by kernel_rfl
theorem ZDj:(XX.fns.get 37).isSome=true:=by kernel_rfl
theorem ZDi:(XX.fns.get 38).isSome=true:=by kernel_rfl
theorem ZDh:(XX.fns.get 41).isSome=true:=by kernel_rfl
theorem ZDg:(XX.fns.get 42).isSome=true:=by kernel_rfl
theorem ZsB:(XX.fns.get 43).isSome=true:=by kernel_rfl
theorem ZDf:(XX.fns.get 44).isSome=true:=by kernel_rfl
theorem ZxH:(XX.fns.get 45).isSome=true:=by kernel_rfl
theorem ZDe:(XX.fns.get 50).isSome=true:=by kernel_rfl
theorem ZxG:(XX.fns.get 51).isSome=true:=by kernel_rfl
theorem Zjc:(XX.fns.get 52).isSome=true:=by kernel_rfl
theorem ZxF:(XX.fns.get 54).isSome=true:=by kernel_rfl
theorem ZxE:(XX.fns.get 55).isSome=true:=by kernel_rfl
theorem Zpe:(XX.fns.get 56).isSome=true:=by kernel_rfl
theorem Zpd:(XX.fns.get 57).isSome=true:=by kernel_rfl
theorem ZDd:(XX.fns.get 63).isSome=true:=by kernel_rfl
theorem ZDc:(XX.fns.get 64).isSome=true:=by kernel_rfl
theorem ZDb:(XX.fns.get 66).isSome=true:=by kernel_rfl
theorem ZxD:(XX.fns.get 68).isSome=true:=by kernel_rfl
theorem ZsA:(XX.fns.get 71).isSome=true:=by kernel_rfl
theorem Zpc:(XX.fns.get 75).isSome=true:=by kernel_rfl
theorem ZDa:(XX.fns.get 76).isSome=true:=by kernel_rfl
theorem ZxC:(XX.fns.get 77).isSome=true:=by kernel_rfl
theorem ZC9:(XX.fns.get 78).isSome=true:=by kernel_rfl
theorem ZC8:(XX.fns.get 79).isSome=true:=by kernel_rfl
theorem ZC7:(XX.fns.get 80).isSome=true:=by kernel_rfl
theorem ZC6:(XX.fns.get 82).isSome=true:=by kernel_rfl
theorem ZC5:(XX.fns.get 83).isSome=true:=by kernel_rfl
theorem ZC4:(XX.fns.get 84).isSome=true:=by kernel_rfl
theorem ZC3:(XX.fns.get 85).isSome=true:=by kernel_rfl
theorem ZxB:(XX.fns.get 86).isSome=true:=by kernel_rfl
theorem ZxA:(XX.fns.get 87).isSome=true:=by kernel_rfl
theorem ZC2:(XX.fns.get 88).isSome=true:=by kernel_rfl
theorem Zsz:(XX.fns.get 89).isSome=true:=by kernel_rfl
theorem ZC1:(XX.fns.get 90).isSome=true:=by kernel_rfl
theorem ZC0:(XX.fns.get 91).isSome=true:=by kernel_rfl
theorem Zpb:(XX.fns.get 92).isSome=true:=by kernel_rfl
theorem ZCZ:(XX.fns.get 94).isSome=true:=by kernel_rfl
theorem Zxz:(XX.fns.get 95).isSome=true:=by kernel_rfl
theorem Zzq:(XX.fns.get 102).isSome=true:=by kernel_rfl
theorem Zkb:(XX.fns.get 103).isSome=true:=by kernel_rfl
theorem Zhv:(XX.fns.get 104).isSome=true:=by kernel_rfl
theorem ZsH:(XX.fns.get 105).isSome=true:=by kernel_rfl
theorem ZnU:(XX.fns.get 106).isSome=true:=by kernel_rfl
theorem ZnT:(XX.fns.get 110).isSome=true:=by kernel_rfl
theorem Zzp:(XX.fns.get 111).isSome=true:=by kernel_rfl
theorem Zzo:(XX.fns.get 112).isSome=true:=by kernel_rfl
theorem Zzn:(XX.fns.get 113).isSome=true:=by kernel_rfl
theorem Zzm:(XX.fns.get 114).isSome=true:=by kernel_rfl
theorem ZsG:(XX.fns.get 115).isSome=true:=by kernel_rfl
theorem Zzl:(XX.fns.get 116).isSome=true:=by kernel_rfl
theorem Zka:(XX.fns.get 117).isSome=true:=by kernel_rfl
theorem Zzk:(XX.fns.get 118).isSome=true:=by kernel_rfl
theorem ZsF:(XX.fns.get 119).isSome=true:=by kernel_rfl
theorem Zzj:(XX.fns.get 120).isSome=true:=by kernel_rfl
theorem ZnS:(XX.fns.get 124).isSome=true:=by kernel_rfl
theorem Zzi:(XX.fns.get 125).isSome=true:=by kernel_rfl
theorem Zzh:(XX.fns.get 126).isSome=true:=by kernel_rfl
theorem Zzg:(XX.fns.get 127).isSome=true:=by kernel_rfl
theorem Zzf:(XX.fns.get 128).isSome=true:=by kernel_rfl
theorem ZnR:(XX.fns.get 133).isSome=true:=by kernel_rfl
theorem ZsE:(XX.fns.get 138).isSome=true:=by kernel_rfl
theorem ZsD:(XX.fns.get 143).isSome=true:=by kernel_rfl
end Go.Proofs.Ytekpjgmhkkjhgaa
end
end
section
noncomputable section
namespace Go.Yq
open Go.Lf
class ZdI (P:Program) (t:TypeId):Prop where
 out:Yk P t=some false
class ZiR (P:Program) (t:TypeId):Prop where
 out:Yk P t=some true
class SzF (P:Program) (t:TypeId) (n:outParam Nat):Prop where
 out:Z5 P t=some n
class JH (P:Program) (t:TypeId) (f:Nat) (o:outParam Nat):Prop where
 out:Zw P t f o
class ZiP (P:Program) (t:TypeId) (e:outParam TypeId):Prop where
 out:P.underlying t=some (.slice e)
class ZA2 (P:Program) (t:TypeId):Prop where
 out:P.underlying t=some .bool
class Zci (P:Program) (t:TypeId) (v:outParam Value):Prop where
 out:Yy P t=some v
theorem ia {v:Value} (h:QA v=false):QA v=false:=h
theorem KM {fr:Fr} {t:Nat} {c:Bool} {v:Value} (h:fr.at t=cond c v undef) (ha:QA v=false) (hc:c=true):ZX fr (.tmp t)=some v:=Xq h ha hc
section
variable {X:Ctx} {h:H} {fr:Fr} {ty:TypeId} {p':String} {af:Array Edge} {g:Option (Nat×Bool)} {d:Option Tmp} {wm:Nat} {T:Nat ->Prop} {h0:H} {G Gr:List (Ast wm)}
theorem ZE1 {x:Operand} {t:TypeId} {f off b o:Nat} [hf:JH X.P t f off] (hx:ZX fr x=some (.pointer (some ⟨b,o,none⟩))):Xb X h (ZX fr) ⟨d,.fieldAddr t x f,ty,p',af,g⟩=some (.val (.pointer (some ⟨b,o + off,none⟩)),.none):=Xm hf.out hx
theorem ZIK {x:Operand} {t:TypeId} {b oo:Nat} {vs:List Value} {v:Value} [ht:ZdI X.P t] (hx:ZX fr x=some (.pointer (some ⟨b,oo,none⟩))) (hS:Sp wm T h0 G h) (pp:Pk G (bx wm b vs) Gr) (hv:vs[oo]? =some v):
 Xb X h (ZX fr) ⟨d,.load t x,ty,p',af,g⟩=some (.val v,.none):=ZW ht.out hx (hS.XP pp) (Nat.zero_add _).symm hv
theorem ZE0 {x:Operand} {t:TypeId} {b oo sz:Nat} {vs ws:List Value} [ht:ZiR X.P t] [hs:SzF X.P t sz] (hx:ZX fr x=some (.pointer (some ⟨b,oo,none⟩))) (hS:Sp wm T h0 G h) (pp:Pk G (bx wm b vs) Gr) (hj:Nat.ble (oo + sz) vs.length=true) (hv:(vs.drop oo).take sz=ws):
 Xb X h (ZX fr) ⟨d,.load t x,ty,p',af,g⟩=some (.val (.agg ws.toArray),.none):=YD ht.out hs.out hx (hS.XP pp) (Nat.zero_add _).symm hj hv
theorem ZE2 {dd:Tmp} {x:Operand} {t:TypeId} {v:Value} {vs:List Value} (hx:ZX fr x=some v) (hS:Sp wm T h0 G h) (hv:v.cells.toList=vs):
 HN X wm ⟨some dd,.box t x,ty,p',af,g⟩ fr h (fun v h'=>∃ b,h.size=b∧v= .pointer (some ⟨b,0,none⟩)∧Sp wm T h0 (bx wm b vs::G) h'):=ZoQ hS hx hv
theorem ZE3 {dd:Tmp} {t:TypeId} {v:Value} {vs:List Value} [hz:Zci X.P t v] (hS:Sp wm T h0 G h) (hv:v.cells.toList=vs):
 HN X wm ⟨some dd,.alloc t,ty,p',af,g⟩ fr h (fun v h'=>∃ b,h.size=b∧v= .pointer (some ⟨b,0,none⟩)∧Sp wm T h0 (bx wm b vs::G) h'):=ZdQ hS hz.out hv
theorem ZIJ {x y:Operand} {t:TypeId} {b o sz:Nat} {cs cs' vs:List Value} {v:Value} [hs:SzF X.P t sz] (hx:ZX fr x=some (.pointer (some ⟨b,o,none⟩))) (hS:Sp wm T h0 G h) (pk:Pk G (bx wm b cs) Gr) (hy:ZX fr y=some v)
 (hvs:v.cells.toList=vs) (hn:Nat.beq vs.length sz=true) (hl:Nat.ble (o + sz) cs.length=true) (hc:vs.all Value.oneCell'=true) (hv:splice cs o vs=cs'):
 HU X wm ⟨none,.store t x y,ty,p',af,g⟩ fr h (fun i=>i=b) (fun h'=>Sp wm T h0 (bx wm b cs'::Gr) h'):=Uf hS pk hs.out hx hy hvs hn hl hc hv
theorem ZEZ {x:Operand} {t e':TypeId} {a:Option Addr} {mm cc dd:Nat} [hu:ZiP X.P t e'] (hx:ZX fr x=some (.slice a mm cc)):
 Xb X h (ZX fr) ⟨some dd,.call {callee:= .builtin .len,args:=#[x],argTypes:=#[t]},ty,p',af,g⟩=some (.val (.int .i64 (mm:Int)),.none):=Zk6 hu.out hx rfl
end
section
variable {X:Ctx} {n wm:Nat} {rd:Option Nat} {ops:Array Oper} {l:List Oper} {fr:Fr} {ds:List Deferred} {h:H} {ty:TypeId} {p:String} {af:Array Edge} {g:Option (Nat×Bool)} {sf:ST} {m:Nat}
theorem WX.w2 {Q:Fr ->H ->Prop} {d:Nat} {op:Op} {v:Value} (hg:ZO ops ⟨some d,op,ty,p,af,g⟩ fr) (hd:Nat.blt d n=true) (hM:okM ops sf m ⟨some d,op,ty,p,af,g⟩=true) (ha:Xb X h (ZX fr) ⟨some d,op,ty,p,af,g⟩=some (.val v,.none)) (k:WX X n wm rd ops sf (m + 1) h l (Tr.set fr d v) Q):
 WX X n wm rd ops sf m h (⟨some d,op,ty,p,af,g⟩::l) fr Q:=WX.w hg hd ha k hM
theorem WX.gv2 {Q:Fr ->H ->Prop} {d:Nat} {op:Op} {c:Bool} {v:Value} (hg:Zg ops ⟨some d,op,ty,p,af,g⟩ fr c) (hd:Nat.blt d n=true) (hM:okM ops sf m ⟨some d,op,ty,p,af,g⟩=true) (ha:c=true ->Xb X h (ZX fr) ⟨some d,op,ty,p,af,g⟩=some (.val v,.none)) (k:WX X n wm rd ops sf (m + 1) h l (Tr.set fr d (cond c v undef)) Q):
 WX X n wm rd ops sf m h (⟨some d,op,ty,p,af,g⟩::l) fr Q:=WX.gv hg hd ha k hM
end
structure Kp (q:Prop):Prop where
 out:q
section
variable {X:Ctx} {n wm:Nat} {rd:Option Nat} {Q:XX ->Fs ->Prop}
theorem E0 {p:Prop}(h:p:=by(focus (repeat (first | with_reducible exact fh | ((with_reducible apply ZM);exact rfl) | ((with_reducible apply Yc);exact rfl) | ((with_reducible apply ZP);exact rfl) | ((with_reducible apply Zf);exact rfl) | with_reducible assumption));first|done|fail)):p:=h
theorem cn {c:Operand} {a b:Code} {t:Bool} {fr:Fr} {ds:List Deferred} {h:H} {α:Type} {x y r:α} (hL:(bif t then x else y)=r) (h1:t=true ->x=r ->WC X n wm rd a ⟨fr,ds,h,none⟩ Q) (h2:t=false ->y=r ->WC X n wm rd b ⟨fr,ds,h,none⟩ Q) (hc:ZX fr c=some (.bool t):=by(first | exact Jh rfl | (apply Zv;exact E0;(first | exact ia rfl | assumption)) | (apply KM;exact E0;(first | exact ia rfl | assumption);assumption) | fail)):WC X n wm rd (.cond c a b) ⟨fr,ds,h,none⟩ Q:=
 WC.ZmJ hc (fun e=>h1 e (UL e hL)) (fun e=>h2 e (UM e hL))
theorem rt {fn:Func} {fr:Fr} {h h0:H} {T:Nat ->Prop} {G G':List (Ast wm)} {wr:Option Nat} {t:Tmp} {β:Type} {x r:β} {g:β ->Value} (hL:some x=some r) (hT:T=Xv G) (hS:Sp wm T h0 G' h) (hr:fn.results.toList= [.tmp t]:=by exact rfl) (hv:ZX fr (.tmp t)=some (g x):=by(first | exact Jh rfl | (apply Zv;exact E0;(first | exact ia rfl | assumption)) | (apply KM;exact E0;(first | exact ia rfl | assumption);assumption) | fail)):
 ZN X fn (fun e h'=>∃ v,e= .ret v∧CP (fun v Gb=>v=g r∧Gb= []) G h0 v h') .ret ⟨fr,[],h,wr⟩:=by
 cases hL;exact ZN.X7 hr (Zu hv Zl) ⟨_,⟨rfl,rfl⟩,hT ▸ hS.only .n⟩
theorem bg {f:FuncId} {fn:Func} {c:Code} {args:List Value} {n:Nat} {K:Value ->List (Ast wm) ->Prop} {G:List (Ast wm)} {h:H} {fr:Fr} (hnt:fn.ntmps=n) (ZF:wm <=h.size) (hO:ZQ G h)
 (k:∀ T,T=Xv (wm:=wm) G ->Sp wm T h G h ->WC X n wm none c ⟨fr,[],h,none⟩ (ZN X fn (fun e h'=>∃ v,e= .ret v∧CP K G h v h'))) (hf:X.fns.get f=some fn:=by kernel_rfl) (hb:fn.body=some c:=by exact rfl) (hn:args.length <=n:=by simp)
 (hfr:Xz args 0 .nil=fr:=by(simp only [ZC,ZH,Nat.reduceAdd];exact rfl)):WR X f args.toArray wm h (CP K G h):=by
 subst hfr;exact WF.begin hf hb hnt hn (k _ rfl (Sp.start ZF hO))
end
theorem lk {p:Prop} (h:p:=by(first | exact Jh rfl | (apply Zv;exact E0;(first | exact ia rfl | assumption)) | (apply KM;exact E0;(first | exact ia rfl | assumption);assumption) | fail)):p:=h
theorem lks {p:Prop} (h:p:=by
 repeat (first | exact Zk | (apply Zc;(focus (first | exact Jh rfl | (apply Zv;exact E0;(first | exact ia rfl | assumption)) | (apply KM;exact E0;(first | exact ia rfl | assumption);assumption) | fail);done)))
 done):p:=h
theorem YH {p:Prop} (h:p:=by
 repeat (first | with_reducible exact fh | ((with_reducible apply ZM);exact rfl) | ((with_reducible apply Yc);exact rfl) | ((with_reducible apply ZP);exact rfl) | ((with_reducible apply Zf);exact rfl) | with_reducible assumption | refine⟨?_,?_⟩)
 done):p:=h
theorem r1 {p q:Prop} (k:q) (h:Kp q ->p:=by
 intro k
 first
 | refine WO.nil ?_
 | refine Qq.Yp ?_
 | refine WC.seq ?_
 | refine WC.region ?_
 | ((first | apply WO.w gN rfl | (apply WO.gv;(focus (first | (apply Zg.yes rfl rfl rfl;exact E0) | (apply Zg.no rfl rfl rfl;exact E0) | (apply Zg.ZpU rfl rfl rfl;exact E0) | (apply Zg.no2 rfl rfl rfl;exact E0) | fail);done);rfl;intro hg) | (apply WX.w2 gN;rfl;rfl) | (apply WX.gv2;(focus (first | (apply Zg.yes rfl rfl rfl;exact E0) | (apply Zg.no rfl rfl rfl;exact E0) | (apply Zg.ZpU rfl rfl rfl;exact E0) | (apply Zg.no2 rfl rfl rfl;exact E0) | fail);done);rfl;rfl;intro hg));(focus (first
   | ((with_reducible apply Yw);(first | exact Jh rfl | (apply Zv;exact E0;(first | exact ia rfl | assumption)) | (apply KM;exact E0;(first | exact ia rfl | assumption);assumption) | fail))
   | ((with_reducible apply ZIK);(focus (first | exact Jh rfl | (apply Zv;exact E0;(first | exact ia rfl | assumption)) | (apply KM;exact E0;(first | exact ia rfl | assumption);assumption) | fail);done);assumption;(focus (first | exact k0 | exact k1 | exact k2 | exact k3 | exact k4 | exact k5 | exact k6 | exact k7 | (repeat (first | exact k7 | apply Pk.s)));done);rfl)
   | ((with_reducible apply ZE1);(first | exact Jh rfl | (apply Zv;exact E0;(first | exact ia rfl | assumption)) | (apply KM;exact E0;(first | exact ia rfl | assumption);assumption) | fail))
   | ((with_reducible apply ZR);(first | exact Jh rfl | (apply Zv;exact E0;(first | exact ia rfl | assumption)) | (apply KM;exact E0;(first | exact ia rfl | assumption);assumption) | fail))
   | ((with_reducible apply Z8);(focus (first | exact Jh rfl | (apply Zv;exact E0;(first | exact ia rfl | assumption)) | (apply KM;exact E0;(first | exact ia rfl | assumption);assumption) | fail);done);(focus (first | exact Jh rfl | (apply Zv;exact E0;(first | exact ia rfl | assumption)) | (apply KM;exact E0;(first | exact ia rfl | assumption);assumption) | fail);done);(first | with_reducible exact Zre | with_reducible exact JF | with_reducible exact Zch | with_reducible exact Zie | with_reducible exact Zra | with_reducible exact Zul | with_reducible exact UU | with_reducible exact Zuk | with_reducible exact Zrc | with_reducible exact Zrd ZA2.out | with_reducible exact Zrb ZA2.out))
   | ((with_reducible apply ZE0);(focus (first | exact Jh rfl | (apply Zv;exact E0;(first | exact ia rfl | assumption)) | (apply KM;exact E0;(first | exact ia rfl | assumption);assumption) | fail);done);assumption;(focus (first | exact k0 | exact k1 | exact k2 | exact k3 | exact k4 | exact k5 | exact k6 | exact k7 | (repeat (first | exact k7 | apply Pk.s)));done);rfl;(focus simp only [Nat.zero_add,Nat.reduceAdd,List.drop_succ_cons,List.drop_zero,List.take_succ_cons,List.take_zero,List.take_nil];rfl))
   | ((with_reducible apply ZEZ);(first | exact Jh rfl | (apply Zv;exact E0;(first | exact ia rfl | assumption)) | (apply KM;exact E0;(first | exact ia rfl | assumption);assumption) | fail))
   | ((with_reducible apply QT);(focus (first | exact Jh rfl | (apply Zv;exact E0;(first | exact ia rfl | assumption)) | (apply KM;exact E0;(first | exact ia rfl | assumption);assumption) | fail);done);rfl)
   | ((with_reducible apply Zk5);(first | exact Jh rfl | (apply Zv;exact E0;(first | exact ia rfl | assumption)) | (apply KM;exact E0;(first | exact ia rfl | assumption);assumption) | fail))
   | ((with_reducible apply Zou);(first | exact Jh rfl | (apply Zv;exact E0;(first | exact ia rfl | assumption)) | (apply KM;exact E0;(first | exact ia rfl | assumption);assumption) | fail))
   | ((with_reducible apply QC);(focus (first | exact Jh rfl | (apply Zv;exact E0;(first | exact ia rfl | assumption)) | (apply KM;exact E0;(first | exact ia rfl | assumption);assumption) | fail);done);(focus (apply Zb1;exact E0);done);(first | exact Jh rfl | (apply Zv;exact E0;(first | exact ia rfl | assumption)) | (apply KM;exact E0;(first | exact ia rfl | assumption);assumption) | fail))
   | ((with_reducible apply Zx3);(focus (first | exact Jh rfl | (apply Zv;exact E0;(first | exact ia rfl | assumption)) | (apply KM;exact E0;(first | exact ia rfl | assumption);assumption) | fail);done);(focus (first | exact Jh rfl | (apply Zv;exact E0;(first | exact ia rfl | assumption)) | (apply KM;exact E0;(first | exact ia rfl | assumption);assumption) | fail);done);(apply Zb1;exact E0))
   | fail)))
 | (apply WO.hu gN;(focus (first | (((with_reducible apply ZIJ));(focus (first | exact Jh rfl | (apply Zv;exact E0;(first | exact ia rfl | assumption)) | (apply KM;exact E0;(first | exact ia rfl | assumption);assumption) | fail);done);assumption;(focus (first | exact k0 | exact k1 | exact k2 | exact k3 | exact k4 | exact k5 | exact k6 | exact k7 | (repeat (first | exact k7 | apply Pk.s)));done);(focus (first | exact Jh rfl | (apply Zv;exact E0;(first | exact ia rfl | assumption)) | (apply KM;exact E0;(first | exact ia rfl | assumption);assumption) | fail);done);(focus (first | (simp only [Zfx,Zdz,Zb5,Zfv,Zfw,Zfz,Zba,cells_func,Zag,KD,Zb6];exact rfl) | exact rfl));exact rfl;exact rfl;exact rfl;(focus simp only [splice,List.take_succ_cons,List.take_zero,List.drop_succ_cons,List.drop_zero,List.cons_append,List.nil_append,List.append_nil,List.length_cons,List.length_nil,Nat.reduceAdd,Nat.zero_add,List.take_nil,List.drop_nil];exact rfl)) | fail)))
 | (apply WO.hn gN rfl;(focus (first | (((with_reducible apply ZE2));(focus (first | exact Jh rfl | (apply Zv;exact E0;(first | exact ia rfl | assumption)) | (apply KM;exact E0;(first | exact ia rfl | assumption);assumption) | fail);done);assumption;(focus (first | (simp only [Zfx,Zdz,Zb5,Zfv,Zfw,Zfz,Zba,cells_func,Zag,KD,Zb6];exact rfl) | exact rfl))) | (((with_reducible apply ZE3));assumption;(focus (first | (simp only [Zfx,Zdz,Zb5,Zfv,Zfw,Zfz,Zba,cells_func,Zag,KD,Zb6];exact rfl) | exact rfl))) | fail)))
 | refine WC.skip ?_
 | refine WC.ret ?_
 | refine WC.block ?_
 | refine WC.exit ?_
 | refine Qq.ret ?_
 | refine Qq.exit ?_
 | refine UX.ret ?_
 | refine UX.Yp ?_
 | refine UX.here ?_
 | refine Yo.exit ?_
 | refine Yo.ret ?_
 | refine WX.nil ?_
 | fail
 exact k.out):p:=h ⟨k⟩
theorem r2 {p q:Prop} (k:q) (h:Kp q ->p:=by
 intro k
 iterate 2 (refine r1 ?_)
 exact k.out):p:=h ⟨k⟩
theorem r3 {p q:Prop} (k:q) (h:Kp q ->p:=by
 intro k
 iterate 3 (refine r1 ?_)
 exact k.out):p:=h ⟨k⟩
theorem r4 {p q:Prop} (k:q) (h:Kp q ->p:=by
 intro k
 iterate 4 (refine r1 ?_)
 exact k.out):p:=h ⟨k⟩
theorem r6 {p q:Prop} (k:q) (h:Kp q ->p:=by
 intro k
 iterate 6 (refine r1 ?_)
 exact k.out):p:=h ⟨k⟩
theorem r8 {p q:Prop} (k:q) (h:Kp q ->p:=by
 intro k
 iterate 8 (refine r1 ?_)
 exact k.out):p:=h ⟨k⟩
theorem Q6 {p q:Prop} (k:q) (h:Kp q ->p:=by
 intro k
 iterate 12 (refine r1 ?_)
 exact k.out):p:=h ⟨k⟩
theorem r16 {p q:Prop} (k:q) (h:Kp q ->p:=by
 intro k
 iterate 16 (refine r1 ?_)
 exact k.out):p:=h ⟨k⟩
end Go.Yq
end
end
section
noncomputable section
namespace Go.Proofs.Ytekpjgmhkkjhgaa
open Go.Yq Go.Lf
instance:ZdI XX.P 3:= ⟨Xf⟩
instance:ZdI XX.P 4:= ⟨ZIQ⟩
instance:ZdI XX.P 5:= ⟨ZIP⟩
instance:ZdI XX.P 22:= ⟨Zx5⟩
instance:ZdI XX.P 23:= ⟨Zm0⟩
instance:ZdI XX.P 24:= ⟨Zug⟩
instance:ZiR XX.P 26:= ⟨Ua⟩
instance:ZdI XX.P 27:= ⟨Zuf⟩
instance:ZiR XX.P 29:= ⟨Zex⟩
instance:ZdI XX.P 32:= ⟨Zue⟩
instance:ZdI XX.P 56:= ⟨ZFc⟩
instance:ZiR XX.P 58:= ⟨Zcc⟩
instance:ZdI XX.P 59:= ⟨Zic⟩
instance:ZiR XX.P 61:= ⟨Zew⟩
instance:ZdI XX.P 63:= ⟨ZFb⟩
instance:ZiR XX.P 65:= ⟨ZaG⟩
instance:ZiR XX.P 73:= ⟨Zev⟩
instance:ZiR XX.P 80:= ⟨Zud⟩
instance:ZiR XX.P 91:= ⟨ZFa⟩
instance:ZdI XX.P 94:= ⟨Zuc⟩
instance:ZdI XX.P 95:= ⟨Zf8⟩
instance:ZdI XX.P 110:= ⟨Zld⟩
instance:ZiR XX.P 113:= ⟨ZAT⟩
instance:SzF XX.P 3 1:= ⟨YT⟩
instance:SzF XX.P 4 1:= ⟨Zw7⟩
instance:SzF XX.P 5 1:= ⟨ZBO⟩
instance:SzF XX.P 22 1:= ⟨Zyv⟩
instance:SzF XX.P 23 1:= ⟨Znk⟩
instance:SzF XX.P 24 1:= ⟨Zyu⟩
instance:SzF XX.P 26 4:= ⟨YZ⟩
instance:SzF XX.P 29 4:= ⟨JS⟩
instance:SzF XX.P 32 1:= ⟨Zyt⟩
instance:SzF XX.P 58 5:= ⟨Y2⟩
instance:SzF XX.P 59 1:= ⟨K9⟩
instance:SzF XX.P 61 6:= ⟨QR⟩
instance:SzF XX.P 63 1:= ⟨Zrz⟩
instance:SzF XX.P 65 2:= ⟨Jb⟩
instance:SzF XX.P 73 2:= ⟨YX⟩
instance:SzF XX.P 80 4:= ⟨Zdc⟩
instance:SzF XX.P 91 4:= ⟨Zys⟩
instance:SzF XX.P 94 1:= ⟨Zyr⟩
instance:SzF XX.P 110 1:= ⟨ZjK⟩
instance:SzF XX.P 113 2:= ⟨ZuQ⟩
instance:JH XX.P 26 0 0:= ⟨Zwb⟩
instance:JH XX.P 26 1 1:= ⟨Zwa⟩
instance:JH XX.P 26 2 2:= ⟨Zv9⟩
instance:JH XX.P 26 3 3:= ⟨Zv8⟩
instance:JH XX.P 29 0 0:= ⟨Zkk⟩
instance:JH XX.P 29 1 1:= ⟨Za6⟩
instance:JH XX.P 29 2 2:= ⟨Zcx⟩
instance:JH XX.P 29 3 3:= ⟨Za5⟩
instance:JH XX.P 58 0 0:= ⟨Zv7⟩
instance:JH XX.P 58 1 1:= ⟨Zv6⟩
instance:JH XX.P 58 2 2:= ⟨Zv5⟩
instance:JH XX.P 58 3 3:= ⟨Zv4⟩
instance:JH XX.P 58 4 4:= ⟨Zpq⟩
instance:JH XX.P 61 0 0:= ⟨Zv3⟩
instance:JH XX.P 61 1 1:= ⟨Zv2⟩
instance:JH XX.P 61 2 2:= ⟨Zpp⟩
instance:JH XX.P 61 3 3:= ⟨Zkj⟩
instance:JH XX.P 61 4 4:= ⟨Zv1⟩
instance:JH XX.P 61 5 5:= ⟨Zv0⟩
instance:JH XX.P 65 0 0:= ⟨Zpo⟩
instance:JH XX.P 65 1 1:= ⟨ZvZ⟩
instance:JH XX.P 73 0 0:= ⟨ZvY⟩
instance:JH XX.P 73 1 1:= ⟨ZvX⟩
instance:JH XX.P 80 0 0:= ⟨ZvW⟩
instance:JH XX.P 80 1 1:= ⟨ZvV⟩
instance:JH XX.P 80 2 2:= ⟨ZvU⟩
instance:JH XX.P 80 3 3:= ⟨ZvT⟩
instance:JH XX.P 91 2 2:= ⟨ZvS⟩
instance:JH XX.P 91 3 3:= ⟨ZvR⟩
instance:JH XX.P 97 0 0:= ⟨ZvQ⟩
instance:JH XX.P 97 1 1:= ⟨ZvP⟩
instance:JH XX.P 97 2 2:= ⟨ZvO⟩
instance:JH XX.P 97 3 3:= ⟨Zki⟩
instance:JH XX.P 97 4 4:= ⟨ZvN⟩
instance:ZiP XX.P 22 59:= ⟨ZdL⟩
instance:ZiP XX.P 23 58:= ⟨J2⟩
instance:ZiP XX.P 24 3:= ⟨XU⟩
instance:ZiP XX.P 38 29:= ⟨ZcW⟩
instance:ZiP XX.P 43 91:= ⟨ZBI⟩
instance:ZiP XX.P 59 61:= ⟨ZfI⟩
instance:ZiP XX.P 62 80:= ⟨Zly⟩
instance:ZiP XX.P 63 73:= ⟨Qu⟩
instance:ZiP XX.P 69 5:= ⟨ZBH⟩
instance:ZA2 XX.P 4:= ⟨ZF9⟩
instance:Zci XX.P 3 (.int .i64 0):= ⟨UY⟩
instance:Zci XX.P 24 (.slice none 0 0):= ⟨Zyf⟩
instance:Zci XX.P 26 (.agg #[.slice none 0 0,.slice none 0 0,.int .i64 0,.slice none 0 0]):= ⟨ZeH⟩
instance:Zci XX.P 29 (.agg #[.int .i64 0,.int .i64 0,.int .i64 0,.int .i64 0]):= ⟨ZgO⟩
instance:Zci XX.P 32 (.int .i64 0):= ⟨Zye⟩
instance:Zci XX.P 58 (.agg #[.int .i64 0,.int .i64 0,.int .i64 0,.int .i64 0,.int .i64 0]):= ⟨ZeG⟩
instance:Zci XX.P 59 (.slice none 0 0):= ⟨Zrq⟩
instance:Zci XX.P 61 (.agg #[.int .i64 0,.bool false,.int .i64 0,.int .i64 0,.int .i64 0,.bool false]):= ⟨Ue⟩
instance:Zci XX.P 65 (.agg #[.slice none 0 0,.slice none 0 0]):= ⟨Zyd⟩
instance:Zci XX.P 73 (.agg #[.int .i64 0,.int .i64 0]):= ⟨ZaK⟩
instance:Zci XX.P 80 (.agg #[.int .u8 0,.int .u8 0,.int .u8 0,.int .u8 0]):= ⟨Zyc⟩
instance:Zci XX.P 91 (.agg #[.int .i64 0,.int .i64 0,.int .i64 0,.int .i64 0]):= ⟨Zyb⟩
instance:Zci XX.P 94 (.pointer none):= ⟨Zya⟩
instance:Zci XX.P 97 (.agg #[.int .i64 0,.int .i64 0,.map none,.slice none 0 0,.slice none 0 0]):= ⟨Zrp⟩
instance:Zci XX.P 110 (.map none):= ⟨ZuF⟩
instance:Zci XX.P 113 (.agg #[.int .i64 0,.int .i64 0]):= ⟨ZoM⟩
end Go.Proofs.Ytekpjgmhkkjhgaa
end
end
section
namespace Go.Proofs.Ytekpjgmhkkjhgaa
open Go.Lf
end Go.Proofs.Ytekpjgmhkkjhgaa
end
section
set_option maxRecDepth 20000
noncomputable section
namespace Go.Proofs.Ytekpjgmhkkjhgaa
open Go.Yq Go.Lf
end Go.Proofs.Ytekpjgmhkkjhgaa
end
end
section
namespace Go.Proofs.Ytekpjgmhkkjhgaa
open Go.Lf
def ZkG (p0:(List Int)) (p1:(List Int)):Int ->(Int ->Option Bool) ->Option Bool:=fun v6 KU=>
 (bif decide (v6 < (p0.length:Int)) then(Yb p0 v6).bind fun x9=>(Yb p1 v6).bind fun Uy=>(bif(x9 !=Uy) then some false else KU (ZV (v6 + 1))) else some true)
def ZqJ (F:Nat) (p0:(List Int)) (p1:(List Int)):Option Bool:=
 (bif((p0.length:Int) != (p1.length:Int)) then some false else loop F (ZkG p0 p1) 0)
def ZAj (p0:(List Qm)):Option (List Qm):=
 (app 16 ([]:List Qm) p0).bind fun z3=>some z3
def Zfh (p0:Zah) (p1:Int) (p2:Int) (p3:Int) (x5:Int) (v14:Int) (v26:Int) (x28:Int):Bool ->Option (Zm×Bool):=fun v41=>
 (bif v41 then some ((Zm.mk 2 x5 v14 v26),((decide (p2 > 0)) && (decide (p1 > 1)))) else(bif(x28==3) then some ((Zm.mk 3 x5 v14 0),decide (p2 > 0)) else(bif(x28==4) then some ((Zm.mk 4 x5 v14 v26),((decide (p2 > 0)) && (decide (p1 > 1)))) else(bif(p3==0) then some ((Zm.mk 0 0 0 0),false) else(ZdS (ZV p0.at_) p3).bind fun x47=>some ((Zm.mk 5 x47 0 0),true)))))
def Zfi (p0:Zah) (p1:Int) (p2:Int) (p3:Int) (x5:Int) (v14:Int):Int ->Option (Zm×Bool):=fun v26=>
 (ZdS p0.Xa 9).bind fun x28=>(bif(x28==0) then some ((Zm.mk 1 x5 0 0),decide (p2 < 12)) else(bif(x28==1) then(Zfh p0 p1 p2 p3 x5 v14 v26 x28) (x28==1) else(Zfh p0 p1 p2 p3 x5 v14 v26 x28) (x28==2)))
def Zfj (p0:Zah) (p1:Int) (p2:Int) (p3:Int) (x5:Int):Int ->Option (Zm×Bool):=fun v14=>
 (bif decide (p1 > 1) then(ZdS (ZV p0.ZG) (ZV (p1 - 1))).bind fun x49=>(ZdS (ZV ((ZV (x5 + 1)) + x49)) p1).bind fun x50=>(Zfi p0 p1 p2 p3 x5 v14) x50 else(Zfi p0 p1 p2 p3 x5 v14) 0)
def ZqG (p0:Zah) (p1:Int) (p2:Int) (p3:Int):Option (Zm×Bool):=
 (ZdS (ZV p0.at_) p1).bind fun x5=>(bif decide (p2 > 0) then(ZdS (ZV p0.name) p2).bind fun x51=>(Zfj p0 p1 p2 p3 x5) x51 else(Zfj p0 p1 p2 p3 x5) 0)
def Zwe (p0:(List Zm)):Option (List Zm):=
 (app 32 ([]:List Zm) p0).bind fun z3=>some z3
def ZhK (p0:Zm) (p1:Int):Bool ->Option Bool:=fun v10=>
 (bif v10 then(bif((decide (p0.at_ >=0)) && (decide (p0.at_ < p1))) then some ((((decide (p0.ZG >=0)) && (decide (p0.ZG < p1))) && (p0.at_ !=p0.ZG)) && (decide (p0.name >=0))) else some ((false && (p0.at_ !=p0.ZG)) && (decide (p0.name >=0)))) else(bif(p0.Xa==3) then some ((((decide (p0.at_ >=0)) && (decide (p0.at_ < p1))) && (decide (p0.name >=0))) && (p0.ZG==0)) else some ((((p0.Xa==5) && (decide (p0.at_ >=0))) && (p0.name==0)) && (p0.ZG==0))))
def Zoa (p0:Zm) (p1:Int):Option Bool:=
 (bif(p0.Xa==1) then some ((((decide (p0.at_ >=0)) && (decide (p0.at_ < p1))) && (p0.name==0)) && (p0.ZG==0)) else(bif(p0.Xa==2) then(ZhK p0 p1) (p0.Xa==2) else(ZhK p0 p1) (p0.Xa==4)))
end Go.Proofs.Ytekpjgmhkkjhgaa
end
section
set_option maxRecDepth 20000
noncomputable section
namespace Go.Proofs.Ytekpjgmhkkjhgaa
open Go.Yq Go.Lf
theorem ZAn {F wm:Nat} {h:H} {p0 p1:(List Int)} {Zp:Option Addr} {Zo:Nat} {Z0:Option Addr} {ZY:Nat} {r:Bool} (ZF:wm <=h.size) (Zx:Sl (ZL .i64) wm h Zp Zo p0) (YJ:Sl (ZL .i64) wm h Z0 ZY p1) (hL:ZqJ F p0 p1=some r):
 WR XX 37 #[.slice Zp p0.length Zo,.slice Z0 p1.length ZY] wm h (CP (fun(v:Value) (Gb:List (Ast wm))=>v= .bool r∧Gb= []) [] h):=by
 refine bg Try.ntmps37 ZF ZQ.nil ?_;intro T hT hS;unfold ZqJ at hL;refine Q6 ?_;refine r3 ?_;refine cn hL ?_ ?_
 ·intro hc hL;refine r6 ?_;refine r1 ?_;exact rt hL hT hS
 ·intro hc hL;refine r8 ?_;refine r3 ?_;refine WC.loop (WL.lift hL (fun(v6:Int) (s:Fs)=>∃ (Qo:Fr) (h1:H),s= ⟨Qo,[],h1,none⟩∧Sp wm T h [] h1∧Qo.at 0= .slice Zp p0.length Zo∧Qo.at 1= .slice Z0 p1.length ZY∧Qo.at 12= .int .i64 (p0.length:Int)∧Qo.at 13= .int .i64 v6) ⟨_,_,rfl,hS.only .n,YH⟩ ?_);clear hL hS;rintro KU v6 s Za3 hL ⟨Qo,h1,rfl,hS,e3,e4,e5,e7⟩;dsimp only [ZkG] at hL;refine r6 ?_;refine cn hL ?_ ?_
  ·intro hc hL;refine r8 ?_;refine r3 ?_;refine WC.Yj mixed (by kernel_rfl) ?_;refine r2 ?_;obtain⟨x9,hx9,hL⟩:=bind_some hL;obtain⟨b10,o11,_,Zd3,Zd7,Zd5,Zpk⟩:=Sl.at_ Zx hx9;refine WX.w gN rfl (ZU XU YT lk lk rfl Zd3 hx9) ?_ rfl;refine WX.w gN rfl (ZW Xf (Zv fh rfl) (At.fz hS.fz Zd5 Zd7) (j:=0) rfl (v:= .int .i64 x9) rfl) ?_ rfl;refine r2 ?_;obtain⟨Uy,Zbj,hL⟩:=bind_some hL;obtain⟨b13,o14,_,Zd2,Zd6,Zd4,Zl8⟩:=Sl.at_ YJ Zbj;refine WX.w gN rfl (ZU XU YT lk lk rfl Zd2 Zbj) ?_ rfl;refine WX.w gN rfl (ZW Xf (Zv fh rfl) (At.fz hS.fz Zd4 Zd6) (j:=0) rfl (v:= .int .i64 Uy) rfl) ?_ rfl;refine r3 ?_;refine cn hL ?_ ?_
   ·intro hc hL;refine r8 ?_;refine r3 ?_;exact rt hL hT hS
   ·intro hc hL;refine r6 ?_;refine r1 ?_;exact Yo.Yp (Za3 _ _ hL ⟨_,_,rfl,hS.only .n,YH⟩)
  ·intro hc hL;refine r8 ?_;refine r3 ?_;exact rt hL hT hS
theorem ZAo {F:Nat} {h:H} {p0 p1:(List Int)} {Zp:Option Addr} {Zo:Nat} {Z0:Option Addr} {ZY:Nat} {r:Bool} (Zx:Sl (ZL .i64) h.size h Zp Zo p0) (YJ:Sl (ZL .i64) h.size h Z0 ZY p1) (hL:ZqJ F p0 p1=some r):Pure XX 37 #[.slice Zp p0.length Zo,.slice Z0 p1.length ZY] h (.bool r):=
 WR.Qa rfl (ZAn (Nat.le_refl _) Zx YJ hL)
theorem ZAi {wm:Nat} {h:H} {p0:(List Qm)} {Zp:Option Addr} {Zo:Nat} {r:(List Qm)} (ZF:wm <=h.size) (Zx:Sl YB wm h Zp Zo p0) (hL:ZAj p0=some r):
 WR XX 42 #[.slice Zp p0.length Zo] wm h (CP (fun(v:Value) (Gb:List (Ast wm))=>∃ (Xe:Option Addr) (Xc:Nat) (Xd:Nat),v= .slice Xe Xc Xd∧Gb= [ow wm YB Xe Xc Xd r]) [] h):=by
 refine bg Try.ntmps42 ZF ZQ.nil ?_;intro T hT hS;unfold ZAj at hL;refine r8 ?_;rcases Sl.cases Zx with⟨rfl,rfl,rfl⟩ | ⟨qa,rfl⟩
 ·
  refine r1 ?_;refine WO.w gN rfl (Z8 (Zv fh rfl) (Jh rfl) (ZcJ Qu)) ?_;refine r2 ?_;refine WC.Zft lk rfl ?_;rw [Zla _ (by decide)] at hL;replace hL:some []=some r:=hL;refine r6 ?_;refine r1 ?_;have hS:=hS.nil (e:=YB);have hr:=Option.some.inj hL;subst hr;exact ZN.X7 rfl (Zu lk Zl) ⟨_,⟨none,0,0,rfl,rfl⟩,hT ▸ hS.only (.c k0 .n)⟩
 ·
  refine r1 ?_;refine WO.w gN rfl (Z8 (Zv fh rfl) (Jh rfl) (ZcK Qu)) ?_;refine r2 ?_;refine WC.Zb4 lk rfl ?_;refine r4 ?_;refine WO.hn gN rfl (Zdd (e:=YB) hS Qu YX ZaK rfl rfl rfl ZE rfl [] rfl (xs:= ([]:List Qm)) rfl (by intro q hq;cases hq) rfl) ?_;rintro _ h2 ⟨b1,eb1,rfl,hS⟩;refine r1 ?_;obtain⟨z3,hz3,hL⟩:=bind_some hL;refine WO.hv gN rfl (Zbv (e:=YB) hS k0 KH lk lk (Sl.src (hS.sl Zx)) rfl hz3) ?_;rintro _ h6 ⟨a4,c5,rfl,hS⟩;refine r4 ?_;have hr:=Option.some.inj hL;subst hr;exact ZN.X7 rfl (Zu lk Zl) ⟨_,⟨a4,z3.length,c5,rfl,rfl⟩,hT ▸ hS.only (.c k0 .n)⟩
theorem Zts {wm:Nat} {h:H} {p0:Zah} {p1 p2 p3:Int} {r:(Zm×Bool)} (ZF:wm <=h.size) (hL:ZqG p0 p1 p2 p3=some r):
 WR XX 45 #[.agg [.int .u8 p0.Xa,.int .u8 p0.at_,.int .u8 p0.name,.int .u8 p0.ZG].toArray,.int .i64 p1,.int .i64 p2,.int .i64 p3] wm h (CP (fun(v:Value) (Gb:List (Ast wm))=>v= .tuple [.agg [.int .i64 r.1.Xa,.int .i64 r.1.at_,.int .i64 r.1.name,.int .i64 r.1.ZG].toArray,.bool r.2].toArray∧Gb= []) [] h):=by
 refine bg Try.ntmps45 ZF ZQ.nil ?_;intro T hT hS;unfold ZqG at hL;refine r3 ?_;rintro _ h2 ⟨b1,eb1,rfl,hS⟩;refine r1 ?_;rintro _ h4 ⟨b3,eb3,rfl,hS⟩;refine r6 ?_;refine r1 ?_;refine WO.w gN rfl (Zb9 Znd Zlz lk) ?_;refine r1 ?_;obtain⟨x5,hx5,hL⟩:=bind_some hL;refine WO.w gN rfl (Z8 (Zv (Zf rfl fh) rfl) (Zv fh rfl) (JO hx5)) ?_;refine r4 ?_;refine r1 ?_;refine WC.Zaj (r:=r) (fun(v14:Int) (s:Fs)=>∃ (fr7:Fr) (h6:H),s= ⟨fr7,[],h6,none⟩∧Sp wm T h [bx wm b1 [.int .u8 p0.Xa,.int .u8 p0.at_,.int .u8 p0.name,.int .u8 p0.ZG],bx wm b3 [.int .i64 0,.int .i64 0,.int .i64 0,.int .i64 0]] h6∧fr7.at 1= .int .i64 p1∧fr7.at 2= .int .i64 p2∧fr7.at 3= .int .i64 p3∧fr7.at 4= .pointer (some ⟨b1,0,none⟩)∧fr7.at 8= .pointer (some ⟨b3,0,none⟩)∧fr7.at 10= .int .i64 x5∧fr7.at 11= .int .i64 v14∧fr7.at 12= .int .i64 0) (Zfj p0 p1 p2 p3 x5) ?_ ?_
 ·clear hL hS;rintro v14 s hL ⟨fr7,h6,rfl,hS,e8,e9,e10,e11,e12,e13,e15,e16⟩;dsimp only [Zfj] at hL;refine WC.Zaj (r:=r) (fun(v26:Int) (s:Fs)=>∃ (Kw:Fr) (h17:H),s= ⟨Kw,[],h17,none⟩∧Sp wm T h [bx wm b1 [.int .u8 p0.Xa,.int .u8 p0.at_,.int .u8 p0.name,.int .u8 p0.ZG],bx wm b3 [.int .i64 0,.int .i64 0,.int .i64 0,.int .i64 0]] h17∧Kw.at 1= .int .i64 p1∧Kw.at 2= .int .i64 p2∧Kw.at 3= .int .i64 p3∧Kw.at 4= .pointer (some ⟨b1,0,none⟩)∧Kw.at 8= .pointer (some ⟨b3,0,none⟩)∧Kw.at 10= .int .i64 x5∧Kw.at 11= .int .i64 v14∧Kw.at 12= .int .i64 v26) (Zfi p0 p1 p2 p3 x5 v14) ?_ ?_
  ·clear hL hS;rintro v26 s hL ⟨Kw,h17,rfl,hS,e19,e20,e21,e22,e23,e24,e25,e27⟩;dsimp only [Zfi] at hL;refine r4 ?_;refine r1 ?_;obtain⟨x28,hx28,hL⟩:=bind_some hL;refine WO.w gN rfl (Z8 (Zv fh rfl) (Jh rfl) (JO hx28)) ?_;refine r8 ?_;refine r1 ?_;refine cn hL ?_ ?_
   ·intro hc hL;refine r3 ?_;refine WO.w gN rfl (Y8 Zjw (Zj lk (Zj lk ZE)) rfl (cs':= [.int .i64 1,.int .i64 x5,.int .i64 0,.int .i64 0]) rfl) ?_;refine r3 ?_;rintro h29 hS;refine r6 ?_;have hr:=Option.some.inj hL;subst hr;exact ZN.gen (vs:= [.agg [.int .i64 1,.int .i64 x5,.int .i64 0,.int .i64 0].toArray,.bool (decide (p2 < 12))]) rfl (ZK (ZM rfl (ZP rfl e23)) (ZT Zex JS (hS.XP k0) (j:=0) rfl rfl (ws:= [.int .i64 1,.int .i64 x5,.int .i64 0,.int .i64 0]) rfl) (Zu lk Zl)) rfl ⟨_,⟨rfl,rfl⟩,hT ▸ hS.only .n⟩
   ·intro hc hL;refine WC.Zaj (r:=r) (fun(v41:Bool) (s:Fs)=>∃ (Zgj:Fr) (h30:H),s= ⟨Zgj,[],h30,none⟩∧Sp wm T h [bx wm b1 [.int .u8 p0.Xa,.int .u8 p0.at_,.int .u8 p0.name,.int .u8 p0.ZG],bx wm b3 [.int .i64 0,.int .i64 0,.int .i64 0,.int .i64 0]] h30∧Zgj.at 1= .int .i64 p1∧Zgj.at 2= .int .i64 p2∧Zgj.at 3= .int .i64 p3∧Zgj.at 4= .pointer (some ⟨b1,0,none⟩)∧Zgj.at 8= .pointer (some ⟨b3,0,none⟩)∧Zgj.at 10= .int .i64 x5∧Zgj.at 11= .int .i64 v14∧Zgj.at 12= .int .i64 v26∧Zgj.at 40= .int .u8 x28∧Zgj.at 47= .bool v41) (Zfh p0 p1 p2 p3 x5 v14 v26 x28) ?_ ?_
    ·clear hL hS;rintro v41 s hL ⟨Zgj,h30,rfl,hS,e32,e33,e34,e35,e36,e37,e38,e39,e40,e42⟩;dsimp only [Zfh] at hL;refine cn hL ?_ ?_
     ·intro hc hL;refine r4 ?_;refine r1 ?_;refine WO.w gN rfl (Y8 Zjw (Zj lk (Zj lk (Zj lk (Zj lk ZE)))) rfl (cs':= [.int .i64 2,.int .i64 x5,.int .i64 v14,.int .i64 v26]) rfl) ?_;refine r6 ?_;refine r1 ?_;rintro h43 hS;refine r6 ?_;have hr:=Option.some.inj hL;subst hr;exact ZN.gen (vs:= [.agg [.int .i64 2,.int .i64 x5,.int .i64 v14,.int .i64 v26].toArray,.bool ((decide (p2 > 0)) && (decide (p1 > 1)))]) rfl (ZK (ZM rfl (ZP rfl (Zf rfl e36))) (ZT Zex JS (hS.XP k0) (j:=0) rfl rfl (ws:= [.int .i64 2,.int .i64 x5,.int .i64 v14,.int .i64 v26]) rfl) (Zu lk Zl)) rfl ⟨_,⟨rfl,rfl⟩,hT ▸ hS.only .n⟩
     ·intro hc hL;refine r6 ?_;refine cn hL ?_ ?_
      ·intro hc hL;refine r4 ?_;refine WO.w gN rfl (Y8 Zjw (Zj lk (Zj lk (Zj lk ZE))) rfl (cs':= [.int .i64 3,.int .i64 x5,.int .i64 v14,.int .i64 0]) rfl) ?_;refine r3 ?_;rintro h44 hS;refine r6 ?_;have hr:=Option.some.inj hL;subst hr;exact ZN.gen (vs:= [.agg [.int .i64 3,.int .i64 x5,.int .i64 v14,.int .i64 0].toArray,.bool (decide (p2 > 0))]) rfl (ZK (ZM rfl e36) (ZT Zex JS (hS.XP k0) (j:=0) rfl rfl (ws:= [.int .i64 3,.int .i64 x5,.int .i64 v14,.int .i64 0]) rfl) (Zu lk Zl)) rfl ⟨_,⟨rfl,rfl⟩,hT ▸ hS.only .n⟩
      ·intro hc hL;refine r6 ?_;refine cn hL ?_ ?_
       ·intro hc hL;refine r4 ?_;refine r1 ?_;refine WO.w gN rfl (Y8 Zjw (Zj lk (Zj lk (Zj lk (Zj lk ZE)))) rfl (cs':= [.int .i64 4,.int .i64 x5,.int .i64 v14,.int .i64 v26]) rfl) ?_;refine r6 ?_;refine r1 ?_;rintro h45 hS;refine r6 ?_;have hr:=Option.some.inj hL;subst hr;exact ZN.gen (vs:= [.agg [.int .i64 4,.int .i64 x5,.int .i64 v14,.int .i64 v26].toArray,.bool ((decide (p2 > 0)) && (decide (p1 > 1)))]) rfl (ZK (ZM rfl (Yc rfl (ZP rfl (Zf rfl e36)))) (ZT Zex JS (hS.XP k0) (j:=0) rfl rfl (ws:= [.int .i64 4,.int .i64 x5,.int .i64 v14,.int .i64 v26]) rfl) (Zu lk Zl)) rfl ⟨_,⟨rfl,rfl⟩,hT ▸ hS.only .n⟩
       ·intro hc hL;refine r8 ?_;refine r2 ?_;refine cn hL ?_ ?_
        ·intro hc hL;refine r2 ?_;refine WO.w gN rfl (Y8 Zjw ZE rfl (cs':= [.int .i64 0,.int .i64 0,.int .i64 0,.int .i64 0]) rfl) ?_;refine r1 ?_;rintro h46 hS;refine r4 ?_;refine r1 ?_;have hr:=Option.some.inj hL;subst hr;exact ZN.gen (vs:= [.agg [.int .i64 0,.int .i64 0,.int .i64 0,.int .i64 0].toArray,.bool false]) rfl (ZK (ZM rfl e36) (ZT Zex JS (hS.XP k0) (j:=0) rfl rfl (ws:= [.int .i64 0,.int .i64 0,.int .i64 0,.int .i64 0]) rfl) (Zu lk Zl)) rfl ⟨_,⟨rfl,rfl⟩,hT ▸ hS.only .n⟩
        ·intro hc hL;refine r6 ?_;refine WO.w gN rfl (Zb9 Znd Zlz lk) ?_;refine r1 ?_;obtain⟨x47,ZyS,hL⟩:=bind_some hL;refine WO.w gN rfl (Z8 (Zv (Zf rfl fh) rfl) (Zv fh rfl) (JO ZyS)) ?_;refine WO.w gN rfl (Y8 Zjw (Zj lk (Zj lk ZE)) rfl (cs':= [.int .i64 5,.int .i64 x47,.int .i64 0,.int .i64 0]) rfl) ?_;refine r1 ?_;rintro h48 hS;refine r4 ?_;have hr:=Option.some.inj hL;subst hr;exact ZN.gen (vs:= [.agg [.int .i64 5,.int .i64 x47,.int .i64 0,.int .i64 0].toArray,.bool true]) rfl (ZK (ZM rfl (Yc rfl (Zf rfl e36))) (ZT Zex JS (hS.XP k0) (j:=0) rfl rfl (ws:= [.int .i64 5,.int .i64 x47,.int .i64 0,.int .i64 0]) rfl) (Zu lk Zl)) rfl ⟨_,⟨rfl,rfl⟩,hT ▸ hS.only .n⟩
    ·skip;refine r6 ?_;refine cn hL ?_ ?_
     ·intro hc hL;refine r1 ?_;exact YI.Yp _ hL ⟨_,_,rfl,hS.only (.c k0 (.c k0 .n)),YH⟩
     ·intro hc hL;refine r4 ?_;exact YI.Yp _ hL ⟨_,_,rfl,hS.only (.c k0 (.c k0 .n)),YH⟩
  ·skip;refine r6 ?_;refine cn hL ?_ ?_
   ·intro hc hL;refine r4 ?_;refine r1 ?_;refine WO.w gN rfl (Zb9 Znd Zlz lk) ?_;refine r2 ?_;obtain⟨x49,Zql,hL⟩:=bind_some hL;refine WO.w gN rfl (Z8 (Zv (ZP rfl fh) rfl) (Zv fh rfl) (JO Zql)) ?_;refine r2 ?_;obtain⟨x50,ZGT,hL⟩:=bind_some hL;refine WO.w gN rfl (Z8 (Zv (Zf rfl fh) rfl) (Zv fh rfl) (JO ZGT)) ?_;refine r2 ?_;exact YI.Yp _ hL ⟨_,_,rfl,hS.only (.c k0 (.c k0 .n)),YH⟩
   ·intro hc hL;refine r1 ?_;exact YI.Yp _ hL ⟨_,_,rfl,hS.only (.c k0 (.c k0 .n)),YH⟩
 ·skip;refine r6 ?_;refine cn hL ?_ ?_
  ·intro hc hL;refine r3 ?_;refine WO.w gN rfl (Zb9 Znd Zlz lk) ?_;refine r1 ?_;obtain⟨x51,ZGS,hL⟩:=bind_some hL;refine WO.w gN rfl (Z8 (Zv (Zf rfl fh) rfl) (Zv fh rfl) (JO ZGS)) ?_;refine r2 ?_;exact YI.Yp _ hL ⟨_,_,rfl,hS.only (.c k1 (.c k0 .n)),YH⟩
  ·intro hc hL;refine r1 ?_;exact YI.Yp _ hL ⟨_,_,rfl,hS.only (.c k1 (.c k0 .n)),YH⟩
theorem ZAe {wm:Nat} {h:H} {p0:(List Zm)} {Zp:Option Addr} {Zo:Nat} {r:(List Zm)} (ZF:wm <=h.size) (Zx:Sl Xk wm h Zp Zo p0) (hL:Zwe p0=some r):
 WR XX 50 #[.slice Zp p0.length Zo] wm h (CP (fun(v:Value) (Gb:List (Ast wm))=>∃ (Xe:Option Addr) (Xc:Nat) (Xd:Nat),v= .slice Xe Xc Xd∧Gb= [ow wm Xk Xe Xc Xd r]) [] h):=by
 refine bg Try.ntmps50 ZF ZQ.nil ?_;intro T hT hS;unfold Zwe at hL;refine r8 ?_;rcases Sl.cases Zx with⟨rfl,rfl,rfl⟩ | ⟨qa,rfl⟩
 ·
  refine r1 ?_;refine WO.w gN rfl (Z8 (Zv fh rfl) (Jh rfl) (ZcJ ZcW)) ?_;refine r2 ?_;refine WC.Zft lk rfl ?_;rw [Zla _ (by decide)] at hL;replace hL:some []=some r:=hL;refine r6 ?_;refine r1 ?_;have hS:=hS.nil (e:=Xk);have hr:=Option.some.inj hL;subst hr;exact ZN.X7 rfl (Zu lk Zl) ⟨_,⟨none,0,0,rfl,rfl⟩,hT ▸ hS.only (.c k0 .n)⟩
 ·
  refine r1 ?_;refine WO.w gN rfl (Z8 (Zv fh rfl) (Jh rfl) (ZcK ZcW)) ?_;refine r2 ?_;refine WC.Zb4 lk rfl ?_;refine r4 ?_;refine WO.hn gN rfl (Zdd (e:=Xk) hS ZcW JS ZgO rfl rfl rfl ZE rfl [] rfl (xs:= ([]:List Zm)) rfl (by intro q hq;cases hq) rfl) ?_;rintro _ h2 ⟨b1,eb1,rfl,hS⟩;refine r1 ?_;obtain⟨z3,hz3,hL⟩:=bind_some hL;refine WO.hv gN rfl (Zbv (e:=Xk) hS k0 Zia lk lk (Sl.src (hS.sl Zx)) rfl hz3) ?_;rintro _ h6 ⟨a4,c5,rfl,hS⟩;refine r4 ?_;have hr:=Option.some.inj hL;subst hr;exact ZN.X7 rfl (Zu lk Zl) ⟨_,⟨a4,z3.length,c5,rfl,rfl⟩,hT ▸ hS.only (.c k0 .n)⟩
theorem ZAc {wm:Nat} {h:H} {p0:Zm} {p1:Int} {r:Bool} (ZF:wm <=h.size) (hL:Zoa p0 p1=some r):
 WR XX 55 #[.agg [.int .i64 p0.Xa,.int .i64 p0.at_,.int .i64 p0.name,.int .i64 p0.ZG].toArray,.int .i64 p1] wm h (CP (fun(v:Value) (Gb:List (Ast wm))=>v= .bool r∧Gb= []) [] h):=by
 refine WF.begin (args:= [_,_]) (fn:=Try.f55) (by kernel_rfl) (by exact rfl) Try.ntmps55 (by simp) ?_;simp only [ZC,ZH,Nat.reduceAdd];obtain⟨T,hT,hS⟩:∃ T,T=Xv (wm:=wm) []∧Sp wm T h [] h:= ⟨_,rfl,Sp.start ZF ZQ.nil⟩
 unfold Zoa at hL;refine WC.seq ?_;refine WC.region ?_;refine WO.hn gN rfl (ZoQ hS (Zv (Zf rfl fh) rfl) (vs:= [.int .i64 p0.Xa,.int .i64 p0.at_,.int .i64 p0.name,.int .i64 p0.ZG]) rfl) ?_;rintro _ h2 ⟨b1,eb1,rfl,hS⟩;refine WO.hn gN rfl (ZoQ hS (Zv (Zf rfl fh) rfl) (vs:= [.int .i64 p1]) rfl) ?_;rintro _ h4 ⟨b3,eb3,rfl,hS⟩;refine WO.w gN rfl (ZR (Jh rfl)) ?_;refine WO.nil ?_;refine Qq.Yp ?_;refine WC.seq ?_;refine WC.region ?_;refine WO.w gN rfl (Zb8 (Zc (Zv (Zf rfl fh) rfl) Zk)) ?_;refine WO.w gN rfl (ZR (Zv fh rfl)) ?_;refine WO.nil ?_;refine Qq.Yp ?_;refine WC.seq ?_;refine WC.seq ?_;refine WC.region ?_;refine WO.w gN rfl (Xm Zkk (Zv (Yc rfl fh) rfl)) ?_;refine WO.w gN rfl (ZW Zuf (Zv fh rfl) (hS.XP k1) (j:=0) rfl (v:= .int .i64 p0.Xa) rfl) ?_;refine WO.nil ?_;refine Qq.Yp ?_;refine WC.block ?_;refine WC.seq ?_;refine WC.region ?_;refine WO.w gN rfl (Z8 (Zv fh rfl) (Jh rfl) JF) ?_;refine WO.w gN rfl (ZR (Zv fh rfl)) ?_;refine WO.nil ?_;refine Qq.Yp ?_;refine WC.ZmJ (Zv fh rfl) (fun hc=>?_) (fun hc=>?_)
 ·replace hL:=UL hc hL;refine WC.seq ?_;refine WC.region ?_;refine WO.w gN rfl (Yw (Zv (Yc rfl fh) rfl)) ?_;refine WO.w gN rfl (Xm Za6 (Zv (ZM rfl (Zf rfl fh)) rfl)) ?_;refine WO.w gN rfl (ZW Xf (Zv fh rfl) (hS.XP k1) (j:=1) rfl (v:= .int .i64 p0.at_) rfl) ?_;refine WO.inl gN rfl (YE.clo (first:= []) (cap:= [.pointer (some ⟨b3,0,none⟩)]) (Zv (ZP rfl fh) rfl) Zpb (Zc (Zv fh rfl) Zk) rfl) (WF.begin (args:= [_,_]) (fn:=Try.f92) (by kernel_rfl) (by exact rfl) Try.ntmps92 (by simp) ?_);simp only [ZC,ZH,Nat.reduceAdd];refine WC.seq ?_;refine WC.region ?_;refine WO.w gN rfl (ZR (Jh rfl)) ?_;refine WO.nil ?_;refine Qq.Yp ?_;refine WC.seq ?_;refine WC.region ?_;refine WO.w gN rfl (Yw (Zv (ZP rfl fh) rfl)) ?_;refine WO.w gN rfl (Z8 (Zv fh rfl) (Jh rfl) UU) ?_;refine WO.w gN rfl (Yw (Zv fh rfl)) ?_;refine WO.gv (Zg.yes rfl rfl rfl fh) rfl (fun hg=>(Yw (Zv (Yc rfl (Zf rfl fh)) rfl))) ?_;refine WO.gv (Zg.yes rfl rfl rfl (Zf rfl fh)) rfl (fun hg=>(ZW Xf (Zv (Yc rfl (Zf rfl fh)) rfl) (hS.XP k0) (j:=0) rfl (v:= .int .i64 p1) rfl)) ?_;refine WO.gv (Zg.yes rfl rfl rfl (ZP rfl fh)) rfl (fun hg=>(Z8 (Xq (Zf rfl fh) rfl hg) (Xq fh rfl hg) Zch)) ?_;refine WO.w gN rfl (QC (Zv (ZP rfl (Zf rfl fh)) rfl) (Zb1 fh) (Jh rfl)) ?_;refine WO.w gN rfl (ZR (Zv fh rfl)) ?_;refine WO.nil ?_;refine Qq.Yp ?_;refine WC.ret ?_;refine ZN.X7 rfl (Zu (Zv fh rfl) Zl) ?_;refine WO.w gN rfl (Yw (Zv fh rfl)) ?_;refine WO.gv (Zg.yes rfl rfl rfl fh) rfl (fun hg=>(Xm Zcx (Zv (ZM rfl (Yc rfl (Zf rfl fh))) rfl))) ?_;refine WO.gv (Zg.yes rfl rfl rfl (Zf rfl fh)) rfl (fun hg=>(ZW Xf (Xq fh rfl hg) (hS.XP k1) (j:=2) rfl (v:= .int .i64 p0.name) rfl)) ?_;refine WO.gv (Zg.yes rfl rfl rfl (ZP rfl fh)) rfl (fun hg=>(Z8 (Xq fh rfl hg) (Jh rfl) JF)) ?_;refine WO.w gN rfl (QC (Zv (ZP rfl (Zf rfl fh)) rfl) (Zb1 fh) (Jh rfl)) ?_;refine WO.w gN rfl (Yw (Zv fh rfl)) ?_;refine WO.gv (Zg.yes rfl rfl rfl fh) rfl (fun hg=>(Xm Za5 (Zv (ZM rfl (ZM rfl (ZP rfl fh))) rfl))) ?_;refine WO.gv (Zg.yes rfl rfl rfl (Zf rfl fh)) rfl (fun hg=>(ZW Xf (Xq fh rfl hg) (hS.XP k1) (j:=3) rfl (v:= .int .i64 p0.ZG) rfl)) ?_;refine WO.gv (Zg.yes rfl rfl rfl (ZP rfl fh)) rfl (fun hg=>(Z8 (Xq fh rfl hg) (Jh rfl) JF)) ?_;refine WO.w gN rfl (QC (Zv (ZP rfl (Zf rfl fh)) rfl) (Zb1 fh) (Jh rfl)) ?_;refine WO.w gN rfl (ZR (Zv fh rfl)) ?_;refine WO.nil ?_;refine Qq.Yp ?_;refine WC.ret ?_;refine UX.ret ?_;refine Qq.ret ?_;have hr:=Option.some.inj hL;subst hr;exact ZN.X7 rfl (Zu (Zv fh rfl) Zl) ⟨_,⟨rfl,rfl⟩,hT ▸ hS.only .n⟩
 ·replace hL:=UM hc hL;refine WC.Zaj (r:=r) (fun(v10:Bool) (s:Fs)=>∃ (fr6:Fr) (h5:H),s= ⟨fr6,[],h5,none⟩∧Sp wm T h [bx wm b1 [.int .i64 p0.Xa,.int .i64 p0.at_,.int .i64 p0.name,.int .i64 p0.ZG],bx wm b3 [.int .i64 p1]] h5∧fr6.at 2= .pointer (some ⟨b1,0,none⟩)∧fr6.at 5= .func (.func 92) #[] [.pointer (some ⟨b3,0,none⟩)].toArray∧fr6.at 8= .int .i64 p0.Xa∧fr6.at 25= .bool v10) (ZhK p0 p1) ?_ ?_
  ·clear hL hS;rintro v10 s hL ⟨fr6,h5,rfl,hS,e7,e8,e9,e11⟩;dsimp only [ZhK] at hL;refine WC.ZmJ (Zv e11 rfl) (fun hc=>?_) (fun hc=>?_)
   ·replace hL:=UL hc hL;refine WC.seq ?_;refine WC.region ?_;refine WO.w gN rfl (Yw (Zv e8 rfl)) ?_;refine WO.w gN rfl (Xm Za6 (Zv (Zf rfl e7) rfl)) ?_;refine WO.w gN rfl (ZW Xf (Zv fh rfl) (hS.XP k0) (j:=1) rfl (v:= .int .i64 p0.at_) rfl) ?_;refine WO.inl gN rfl (YE.clo (first:= []) (cap:= [.pointer (some ⟨b3,0,none⟩)]) (Zv (ZP rfl fh) rfl) Zpb (Zc (Zv fh rfl) Zk) rfl) (WF.begin (args:= [_,_]) (fn:=Try.f92) (by kernel_rfl) (by exact rfl) Try.ntmps92 (by simp) ?_);simp only [ZC,ZH,Nat.reduceAdd];refine WC.seq ?_;refine WC.region ?_;refine WO.w gN rfl (ZR (Jh rfl)) ?_;refine WO.nil ?_;refine Qq.Yp ?_;refine WC.seq ?_;refine WC.region ?_;refine WO.w gN rfl (Yw (Zv (ZP rfl fh) rfl)) ?_;refine WO.w gN rfl (Z8 (Zv fh rfl) (Jh rfl) UU) ?_;refine WO.w gN rfl (Yw (Zv fh rfl)) ?_;refine WO.gv (Zg.yes rfl rfl rfl fh) rfl (fun hg=>(Yw (Zv (Yc rfl (Zf rfl fh)) rfl))) ?_;refine WO.gv (Zg.yes rfl rfl rfl (Zf rfl fh)) rfl (fun hg=>(ZW Xf (Zv (Yc rfl (Zf rfl fh)) rfl) (hS.XP k1) (j:=0) rfl (v:= .int .i64 p1) rfl)) ?_;refine WO.gv (Zg.yes rfl rfl rfl (ZP rfl fh)) rfl (fun hg=>(Z8 (Xq (Zf rfl fh) rfl hg) (Xq fh rfl hg) Zch)) ?_;refine WO.w gN rfl (QC (Zv (ZP rfl (Zf rfl fh)) rfl) (Zb1 fh) (Jh rfl)) ?_;refine WO.w gN rfl (ZR (Zv fh rfl)) ?_;refine WO.nil ?_;refine Qq.Yp ?_;refine WC.ret ?_;refine ZN.X7 rfl (Zu (Zv fh rfl) Zl) ?_;refine WO.w gN rfl (Yw (Zv fh rfl)) ?_;refine WO.gv (Zg.yes rfl rfl rfl fh) rfl (fun hg=>(Yw (Zv (Yc rfl (Zf rfl e8)) rfl))) ?_;refine WO.gv (Zg.yes rfl rfl rfl (Zf rfl fh)) rfl (fun hg=>(Xm Za5 (Zv (Yc rfl (ZP rfl e7)) rfl))) ?_;refine WO.gv (Zg.yes rfl rfl rfl (ZP rfl fh)) rfl (fun hg=>(ZW Xf (Xq fh rfl hg) (hS.XP k0) (j:=3) rfl (v:= .int .i64 p0.ZG) rfl)) ?_;refine WO.Zhw (Zg.yes rfl rfl rfl (ZP rfl (Zf rfl fh))) (fun Zj9=>?_) (fun Zj9=>?_)
    ·replace hL:=UL Zj9 hL;refine WO.inl (Zg.on (Zg.yes rfl rfl rfl (ZP rfl (Zf rfl fh))) Zj9) rfl (YE.clo (first:= []) (cap:= [.pointer (some ⟨b3,0,none⟩)]) (Xq (ZP rfl fh) rfl Zj9) Zpb (Zc (Xq fh rfl Zj9) Zk) rfl) (WF.begin (args:= [_,_]) (fn:=Try.f92) (by kernel_rfl) (by exact rfl) Try.ntmps92 (by simp) ?_);simp only [ZC,ZH,Nat.reduceAdd];refine WC.seq ?_;refine WC.region ?_;refine WO.w gN rfl (ZR (Jh rfl)) ?_;refine WO.nil ?_;refine Qq.Yp ?_;refine WC.seq ?_;refine WC.region ?_;refine WO.w gN rfl (Yw (Zv (ZP rfl fh) rfl)) ?_;refine WO.w gN rfl (Z8 (Zv fh rfl) (Jh rfl) UU) ?_;refine WO.w gN rfl (Yw (Zv fh rfl)) ?_;refine WO.gv (Zg.yes rfl rfl rfl fh) rfl (fun hg=>(Yw (Zv (Yc rfl (Zf rfl fh)) rfl))) ?_;refine WO.gv (Zg.yes rfl rfl rfl (Zf rfl fh)) rfl (fun hg=>(ZW Xf (Zv (Yc rfl (Zf rfl fh)) rfl) (hS.XP k1) (j:=0) rfl (v:= .int .i64 p1) rfl)) ?_;refine WO.gv (Zg.yes rfl rfl rfl (ZP rfl fh)) rfl (fun hg=>(Z8 (Xq (Zf rfl fh) rfl hg) (Xq fh rfl hg) Zch)) ?_;refine WO.w gN rfl (QC (Zv (ZP rfl (Zf rfl fh)) rfl) (Zb1 fh) (Jh rfl)) ?_;refine WO.w gN rfl (ZR (Zv fh rfl)) ?_;refine WO.nil ?_;refine Qq.Yp ?_;refine WC.ret ?_;refine ZN.X7 rfl (Zu (Zv fh rfl) Zl) ?_;refine WO.w gN rfl (Zh5 (Zv (Yc rfl fh) rfl) Zj9 (Zv fh rfl)) ?_;refine WO.w gN rfl (Yw (Zv fh rfl)) ?_;refine WO.gv (Zg.yes rfl rfl rfl fh) rfl (fun hg=>(Xm Za6 (Zv (ZM rfl (ZP rfl (Zf rfl e7))) rfl))) ?_;refine WO.gv (Zg.yes rfl rfl rfl (Zf rfl fh)) rfl (fun hg=>(ZW Xf (Xq fh rfl hg) (hS.XP k0) (j:=1) rfl (v:= .int .i64 p0.at_) rfl)) ?_;refine WO.gv (Zg.yes rfl rfl rfl (ZP rfl fh)) rfl (fun hg=>(Xm Za5 (Zv (ZM rfl (Yc rfl (Zf rfl e7))) rfl))) ?_;refine WO.gv (Zg.yes rfl rfl rfl (ZP rfl (Zf rfl fh))) rfl (fun hg=>(ZW Xf (Xq fh rfl hg) (hS.XP k0) (j:=3) rfl (v:= .int .i64 p0.ZG) rfl)) ?_;refine WO.gv (Zg.yes rfl rfl rfl (Yc rfl fh)) rfl (fun hg=>(Z8 (Xq (ZP rfl fh) rfl hg) (Xq fh rfl hg) Zie)) ?_;refine WO.w gN rfl (QC (Zv (Yc rfl (Zf rfl fh)) rfl) (Zb1 fh) (Jh rfl)) ?_;refine WO.w gN rfl (Yw (Zv fh rfl)) ?_;refine WO.gv (Zg.yes rfl rfl rfl fh) rfl (fun hg=>(Xm Zcx (Zv (ZM rfl (ZM rfl (ZP rfl e7))) rfl))) ?_;refine WO.gv (Zg.yes rfl rfl rfl (Zf rfl fh)) rfl (fun hg=>(ZW Xf (Xq fh rfl hg) (hS.XP k0) (j:=2) rfl (v:= .int .i64 p0.name) rfl)) ?_;refine WO.gv (Zg.yes rfl rfl rfl (ZP rfl fh)) rfl (fun hg=>(Z8 (Xq fh rfl hg) (Jh rfl) UU)) ?_;refine WO.w gN rfl (QC (Zv (ZP rfl (Zf rfl fh)) rfl) (Zb1 fh) (Jh rfl)) ?_;refine WO.w gN rfl (ZR (Zv fh rfl)) ?_;refine WO.nil ?_;refine Qq.Yp ?_;refine WC.ret ?_;refine UX.ret ?_;refine Qq.ret ?_;have hr:=Option.some.inj hL;subst hr;exact ZN.X7 rfl (Zu (Zv fh rfl) Zl) ⟨_,⟨rfl,rfl⟩,hT ▸ hS.only .n⟩
    ·replace hL:=UM Zj9 hL;refine WO.Zir (Zg.yes rfl rfl rfl (ZP rfl (Zf rfl fh))) Zj9 rfl ?_;refine WO.w gN rfl (Zh6 (Zv (Yc rfl fh) rfl) Zj9 (Jh rfl)) ?_;refine WO.w gN rfl (Yw (Zv fh rfl)) ?_;refine WO.gv (Zg.yes rfl rfl rfl fh) rfl (fun hg=>(Xm Za6 (Zv (ZM rfl (ZP rfl (Zf rfl e7))) rfl))) ?_;refine WO.gv (Zg.yes rfl rfl rfl (Zf rfl fh)) rfl (fun hg=>(ZW Xf (Xq fh rfl hg) (hS.XP k0) (j:=1) rfl (v:= .int .i64 p0.at_) rfl)) ?_;refine WO.gv (Zg.yes rfl rfl rfl (ZP rfl fh)) rfl (fun hg=>(Xm Za5 (Zv (ZM rfl (Yc rfl (Zf rfl e7))) rfl))) ?_;refine WO.gv (Zg.yes rfl rfl rfl (ZP rfl (Zf rfl fh))) rfl (fun hg=>(ZW Xf (Xq fh rfl hg) (hS.XP k0) (j:=3) rfl (v:= .int .i64 p0.ZG) rfl)) ?_;refine WO.gv (Zg.yes rfl rfl rfl (Yc rfl fh)) rfl (fun hg=>(Z8 (Xq (ZP rfl fh) rfl hg) (Xq fh rfl hg) Zie)) ?_;refine WO.w gN rfl (QC (Zv (Yc rfl (Zf rfl fh)) rfl) (Zb1 fh) (Jh rfl)) ?_;refine WO.w gN rfl (Yw (Zv fh rfl)) ?_;refine WO.gv (Zg.yes rfl rfl rfl fh) rfl (fun hg=>(Xm Zcx (Zv (ZM rfl (ZM rfl (ZP rfl e7))) rfl))) ?_;refine WO.gv (Zg.yes rfl rfl rfl (Zf rfl fh)) rfl (fun hg=>(ZW Xf (Xq fh rfl hg) (hS.XP k0) (j:=2) rfl (v:= .int .i64 p0.name) rfl)) ?_;refine WO.gv (Zg.yes rfl rfl rfl (ZP rfl fh)) rfl (fun hg=>(Z8 (Xq fh rfl hg) (Jh rfl) UU)) ?_;refine WO.w gN rfl (QC (Zv (ZP rfl (Zf rfl fh)) rfl) (Zb1 fh) (Jh rfl)) ?_;refine WO.w gN rfl (ZR (Zv fh rfl)) ?_;refine WO.nil ?_;refine Qq.Yp ?_;refine WC.ret ?_;refine UX.ret ?_;refine Qq.ret ?_;have hr:=Option.some.inj hL;subst hr;exact ZN.X7 rfl (Zu (Zv fh rfl) Zl) ⟨_,⟨rfl,rfl⟩,hT ▸ hS.only .n⟩
   ·replace hL:=UM hc hL;refine WC.seq ?_;refine WC.region ?_;refine WO.w gN rfl (Z8 (Zv e9 rfl) (Jh rfl) JF) ?_;refine WO.w gN rfl (ZR (Zv fh rfl)) ?_;refine WO.nil ?_;refine Qq.Yp ?_;refine WC.ZmJ (Zv fh rfl) (fun hc=>?_) (fun hc=>?_)
    ·replace hL:=UL hc hL;refine WC.seq ?_;refine WC.region ?_;refine WO.w gN rfl (Yw (Zv (ZP rfl e8) rfl)) ?_;refine WO.w gN rfl (Xm Za6 (Zv (ZP rfl (Zf rfl e7)) rfl)) ?_;refine WO.w gN rfl (ZW Xf (Zv fh rfl) (hS.XP k0) (j:=1) rfl (v:= .int .i64 p0.at_) rfl) ?_;refine WO.inl gN rfl (YE.clo (first:= []) (cap:= [.pointer (some ⟨b3,0,none⟩)]) (Zv (ZP rfl fh) rfl) Zpb (Zc (Zv fh rfl) Zk) rfl) (WF.begin (args:= [_,_]) (fn:=Try.f92) (by kernel_rfl) (by exact rfl) Try.ntmps92 (by simp) ?_);simp only [ZC,ZH,Nat.reduceAdd];refine WC.seq ?_;refine WC.region ?_;refine WO.w gN rfl (ZR (Jh rfl)) ?_;refine WO.nil ?_;refine Qq.Yp ?_;refine WC.seq ?_;refine WC.region ?_;refine WO.w gN rfl (Yw (Zv (ZP rfl fh) rfl)) ?_;refine WO.w gN rfl (Z8 (Zv fh rfl) (Jh rfl) UU) ?_;refine WO.w gN rfl (Yw (Zv fh rfl)) ?_;refine WO.gv (Zg.yes rfl rfl rfl fh) rfl (fun hg=>(Yw (Zv (Yc rfl (Zf rfl fh)) rfl))) ?_;refine WO.gv (Zg.yes rfl rfl rfl (Zf rfl fh)) rfl (fun hg=>(ZW Xf (Zv (Yc rfl (Zf rfl fh)) rfl) (hS.XP k1) (j:=0) rfl (v:= .int .i64 p1) rfl)) ?_;refine WO.gv (Zg.yes rfl rfl rfl (ZP rfl fh)) rfl (fun hg=>(Z8 (Xq (Zf rfl fh) rfl hg) (Xq fh rfl hg) Zch)) ?_;refine WO.w gN rfl (QC (Zv (ZP rfl (Zf rfl fh)) rfl) (Zb1 fh) (Jh rfl)) ?_;refine WO.w gN rfl (ZR (Zv fh rfl)) ?_;refine WO.nil ?_;refine Qq.Yp ?_;refine WC.ret ?_;refine ZN.X7 rfl (Zu (Zv fh rfl) Zl) ?_;refine WO.w gN rfl (Yw (Zv fh rfl)) ?_;refine WO.gv (Zg.yes rfl rfl rfl fh) rfl (fun hg=>(Xm Zcx (Zv (Yc rfl (ZP rfl (Zf rfl e7))) rfl))) ?_;refine WO.gv (Zg.yes rfl rfl rfl (Zf rfl fh)) rfl (fun hg=>(ZW Xf (Xq fh rfl hg) (hS.XP k0) (j:=2) rfl (v:= .int .i64 p0.name) rfl)) ?_;refine WO.gv (Zg.yes rfl rfl rfl (ZP rfl fh)) rfl (fun hg=>(Z8 (Xq fh rfl hg) (Jh rfl) UU)) ?_;refine WO.w gN rfl (QC (Zv (ZP rfl (Zf rfl fh)) rfl) (Zb1 fh) (Jh rfl)) ?_;refine WO.w gN rfl (Yw (Zv fh rfl)) ?_;refine WO.gv (Zg.yes rfl rfl rfl fh) rfl (fun hg=>(Xm Za5 (Zv (ZM rfl (Yc rfl e7)) rfl))) ?_;refine WO.gv (Zg.yes rfl rfl rfl (Zf rfl fh)) rfl (fun hg=>(ZW Xf (Xq fh rfl hg) (hS.XP k0) (j:=3) rfl (v:= .int .i64 p0.ZG) rfl)) ?_;refine WO.gv (Zg.yes rfl rfl rfl (ZP rfl fh)) rfl (fun hg=>(Z8 (Xq fh rfl hg) (Jh rfl) JF)) ?_;refine WO.w gN rfl (QC (Zv (ZP rfl (Zf rfl fh)) rfl) (Zb1 fh) (Jh rfl)) ?_;refine WO.w gN rfl (ZR (Zv fh rfl)) ?_;refine WO.nil ?_;refine Qq.Yp ?_;refine WC.ret ?_;refine UX.ret ?_;refine Qq.ret ?_;have hr:=Option.some.inj hL;subst hr;exact ZN.X7 rfl (Zu (Zv fh rfl) Zl) ⟨_,⟨rfl,rfl⟩,hT ▸ hS.only .n⟩
    ·replace hL:=UM hc hL;refine WC.skip ?_;refine UX.Yp ?_;refine Qq.Yp ?_;refine WC.seq ?_;refine WC.region ?_;refine WO.w gN rfl (Xm Zkk (Zv (ZP rfl e7) rfl)) ?_;refine WO.w gN rfl (ZW Zuf (Zv fh rfl) (hS.XP k0) (j:=0) rfl (v:= .int .i64 p0.Xa) rfl) ?_;refine WO.w gN rfl (Z8 (Zv fh rfl) (Jh rfl) JF) ?_;refine WO.w gN rfl (Yw (Zv fh rfl)) ?_;refine WO.gv (Zg.yes rfl rfl rfl fh) rfl (fun hg=>(Xm Za6 (Zv (Yc rfl (ZP rfl e7)) rfl))) ?_;refine WO.gv (Zg.yes rfl rfl rfl (Zf rfl fh)) rfl (fun hg=>(ZW Xf (Xq fh rfl hg) (hS.XP k0) (j:=1) rfl (v:= .int .i64 p0.at_) rfl)) ?_;refine WO.gv (Zg.yes rfl rfl rfl (ZP rfl fh)) rfl (fun hg=>(Z8 (Xq fh rfl hg) (Jh rfl) UU)) ?_;refine WO.w gN rfl (QC (Zv (ZP rfl (Zf rfl fh)) rfl) (Zb1 fh) (Jh rfl)) ?_;refine WO.w gN rfl (Yw (Zv fh rfl)) ?_;refine WO.gv (Zg.yes rfl rfl rfl fh) rfl (fun hg=>(Xm Zcx (Zv (ZM rfl (ZP rfl (Zf rfl e7))) rfl))) ?_;refine WO.gv (Zg.yes rfl rfl rfl (Zf rfl fh)) rfl (fun hg=>(ZW Xf (Xq fh rfl hg) (hS.XP k0) (j:=2) rfl (v:= .int .i64 p0.name) rfl)) ?_;refine WO.gv (Zg.yes rfl rfl rfl (ZP rfl fh)) rfl (fun hg=>(Z8 (Xq fh rfl hg) (Jh rfl) JF)) ?_;refine WO.w gN rfl (QC (Zv (ZP rfl (Zf rfl fh)) rfl) (Zb1 fh) (Jh rfl)) ?_;refine WO.w gN rfl (Yw (Zv fh rfl)) ?_;refine WO.gv (Zg.yes rfl rfl rfl fh) rfl (fun hg=>(Xm Za5 (Zv (ZM rfl (ZM rfl e7)) rfl))) ?_;refine WO.gv (Zg.yes rfl rfl rfl (Zf rfl fh)) rfl (fun hg=>(ZW Xf (Xq fh rfl hg) (hS.XP k0) (j:=3) rfl (v:= .int .i64 p0.ZG) rfl)) ?_;refine WO.gv (Zg.yes rfl rfl rfl (ZP rfl fh)) rfl (fun hg=>(Z8 (Xq fh rfl hg) (Jh rfl) JF)) ?_;refine WO.w gN rfl (QC (Zv (ZP rfl (Zf rfl fh)) rfl) (Zb1 fh) (Jh rfl)) ?_;refine WO.w gN rfl (ZR (Zv fh rfl)) ?_;refine WO.nil ?_;refine Qq.Yp ?_;refine WC.ret ?_;have hr:=Option.some.inj hL;subst hr;exact ZN.X7 rfl (Zu (Zv fh rfl) Zl) ⟨_,⟨rfl,rfl⟩,hT ▸ hS.only .n⟩
  ·skip;refine WC.seq ?_;refine WC.region ?_;refine WO.w gN rfl (Z8 (Zv (ZP rfl fh) rfl) (Jh rfl) JF) ?_;refine WO.w gN rfl (ZR (Zv fh rfl)) ?_;refine WO.nil ?_;refine Qq.Yp ?_;refine WC.ZmJ (Zv fh rfl) (fun hc=>?_) (fun hc=>?_)
   ·replace hL:=UL hc hL;refine WC.skip ?_;exact YI.Yp _ hL ⟨_,_,rfl,hS.only (.c k1 (.c k0 .n)),(ZM rfl (ZP rfl fh)),(Yc rfl (ZP rfl fh)),(Yc rfl fh),fh⟩
   ·replace hL:=UM hc hL;refine WC.region ?_;refine WO.w gN rfl (Z8 (Zv (Yc rfl fh) rfl) (Jh rfl) JF) ?_;refine WO.w gN rfl (ZR (Zv fh rfl)) ?_;refine WO.nil ?_;exact YI.Yp _ hL ⟨_,_,rfl,hS.only (.c k1 (.c k0 .n)),(ZM rfl (Yc rfl fh)),(ZM rfl fh),(Yc rfl (ZP rfl fh)),fh⟩
theorem Ztp {h:H} {p0:Zm} {p1:Int} {r:Bool} (hL:Zoa p0 p1=some r):Pure XX 55 #[.agg [.int .i64 p0.Xa,.int .i64 p0.at_,.int .i64 p0.name,.int .i64 p0.ZG].toArray,.int .i64 p1] h (.bool r):=
 WR.Qa rfl (ZAc (Nat.le_refl _) hL)
end Go.Proofs.Ytekpjgmhkkjhgaa
end
end
section
namespace Go.Proofs.Ytekpjgmhkkjhgaa
open Go.Lf
def Zfc (v29:Int) (Zdo:(Int×(List (Ze×Int))×(List (Ze×Int)) ->Option ((List (Ze×Int))×(List (Ze×Int))))):(List (Ze×Int))×(List (Ze×Int)) ->Option ((List (Ze×Int))×(List (Ze×Int))):=fun(v41,v42)=>
 Zdo (ZV (v29 + 1),v41,v42)
def ZhI (p0:Store):Int×(List (Ze×Int))×(List (Ze×Int)) ->(Int×(List (Ze×Int))×(List (Ze×Int)) ->Option ((List (Ze×Int))×(List (Ze×Int)))) ->Option ((List (Ze×Int))×(List (Ze×Int))):=fun(v29,v31,v32) Zdo=>
 (bif decide (v29 < (p0.notes.length:Int)) then(Yb p0.notes v29).bind fun x43=>(bif(x43.kind==1) then(Zac v32 (Ze.mk x43.via x43.name) 0).bind fun x49=>(Zfc v29 Zdo) (v31,YR (Wx v32 (Ze.mk x43.via x43.name) 0) (Ze.mk x43.via x43.name) (ZV (x49 + x43.w))) else(bif(x43.kind==2) then(Zac v32 (Ze.mk x43.ZG x43.name) 0).bind fun x53=>(Zfc v29 Zdo) (v31,YR (Wx v32 (Ze.mk x43.ZG x43.name) 0) (Ze.mk x43.ZG x43.name) (ZV (x53 + x43.w))) else(Zac v31 (Ze.mk x43.ZG x43.name) 0).bind fun x57=>(Zfc v29 Zdo) (YR (Wx v31 (Ze.mk x43.ZG x43.name) 0) (Ze.mk x43.ZG x43.name) (ZV (x57 + 16)),v32))) else some (v31,v32))
def Zfd (F:Nat) (p0:Store):(List (Ze×Int))×(List (Ze×Int)) ->Option ((List (Ze×Int))×(List (Ze×Int))):=fun(v20,v21)=>
 loop F (ZhI p0) (0,v20,v21)
def Zku (F:Nat) (p0:Store) (v80:Int) (Zdk:(Int×(List (Ze×Int))×(List (Ze×Int)) ->Option ((List (Ze×Int))×(List (Ze×Int))))):(List (Ze×Int))×(List (Ze×Int)) ->Option ((List (Ze×Int))×(List (Ze×Int))):=fun(v96,v97)=>
 (bif(!true) then(Zfd F p0) (v96,v97) else Zdk (ZV (v80 + 1),v96,v97))
def Zn7 (F:Nat) (p0:Store) (v70:Int) (Zdm:(Int×(List (Ze×Int))×(List (Ze×Int)) ->Option ((List (Ze×Int))×(List (Ze×Int))))):Int×(List (Ze×Int))×(List (Ze×Int)) ->(Int×(List (Ze×Int))×(List (Ze×Int)) ->Option ((List (Ze×Int))×(List (Ze×Int)))) ->Option ((List (Ze×Int))×(List (Ze×Int))):=fun(v80,v82,v83) Zdk=>
 (bif decide (v80 < p0.names) then(KS p0.cells (Ze.mk v70 v80) (Zb.mk 0 false 0 0 0 false)).bind fun x85=>(bif x85.2 then(Zac v82 (Ze.mk v70 x85.1.name) 0).bind fun x99=>(bif decide (x85.1.from_ >=0) then(Zac v83 (Ze.mk x85.1.from_ x85.1.name) 0).bind fun x103=>(Zku F p0 v80 Zdk) (YR (Wx v82 (Ze.mk v70 x85.1.name) 0) (Ze.mk v70 x85.1.name) (ZV (x99 + x85.1.out)),YR (Wx v83 (Ze.mk x85.1.from_ x85.1.name) 0) (Ze.mk x85.1.from_ x85.1.name) (ZV (x103 + x85.1.has))) else(Zku F p0 v80 Zdk) (YR (Wx v82 (Ze.mk v70 x85.1.name) 0) (Ze.mk v70 x85.1.name) (ZV (x99 + x85.1.out)),v83)) else Zdk (ZV (v80 + 1),v82,v83)) else Zdm (ZV (v70 + 1),v82,v83))
def Zn8 (F:Nat) (p0:Store):Int×(List (Ze×Int))×(List (Ze×Int)) ->(Int×(List (Ze×Int))×(List (Ze×Int)) ->Option ((List (Ze×Int))×(List (Ze×Int)))) ->Option ((List (Ze×Int))×(List (Ze×Int))):=fun(v70,v72,v73) Zdm=>
 (bif decide (v70 < p0.machines) then loop F (Zn7 F p0 v70 Zdm) (0,v72,v73) else(Zfd F p0) (v72,v73))
def ZqE (F:Nat) (p0:Store):Option ((List (Ze×Int))×(List (Ze×Int))):=
 loop F (Zn8 F p0) (0,[],[])
def Zz9 (p0:(List Qm)) (p1:Int) (p2:Int):Option (List Qm):=
 (slL p0 p1 p2).bind fun z1=>(bif(p1==p2) then some p0 else(slL p0 0 p1).bind fun z4=>(slL p0 p2 (p0.length:Int)).bind fun z13=>(app 16 z4 z13).bind fun z17=>some z17)
def Ztm (p0:(List Qm)) (p1:Qm):Int ->(Int ->Option Int) ->Option Int:=fun v8 Zhc=>
 (bif decide (v8 < (p0.length:Int)) then(Yb p0 v8).bind fun K8=>(bif Zmv p1 K8 then some v8 else Zhc (ZV (v8 + 1))) else some (-1))
def Zz7 (F:Nat) (p0:(List Qm)) (p1:Qm):Option Int:=
 loop F (Ztm p0 p1) 0
end Go.Proofs.Ytekpjgmhkkjhgaa
end
section
set_option maxRecDepth 20000
noncomputable section
namespace Go.Proofs.Ytekpjgmhkkjhgaa
open Go.Yq Go.Lf
theorem Ztn {F wm:Nat} {h:H} {p0:Store} {ZI:Option Nat} {Zt:Option Addr} {Zr:Nat} {Zz:Option Addr} {Zy Xh UA:Nat} {r:((List (Ze×Int))×(List (Ze×Int)))} (ZF:wm <=h.size) (YP:At h Xh UA [.int .i64 p0.machines,.int .i64 p0.names,.map ZI,.slice Zt p0.notes.length Zr,.slice Zz p0.freed.length Zy]) (YO:K7 wm h Xh) (Zx:Ul Zi Zn wm h ZI p0.cells) (Yf:Sl Zh wm h Zt Zr p0.notes) (Yh:Sl (ZL .i64) wm h Zz Zy p0.freed) (hL:ZqE F p0=some r):
 WR XX 68 #[.pointer (some ⟨Xh,UA,none⟩)] wm h (CP (fun(v:Value) (Gb:List (Ast wm))=>∃ (Zbw:Nat) (Zxc:Nat),v= .tuple [.map (some Zbw),.map (some Zxc)].toArray∧Gb= [mp wm Zi (Value.int .i64) (some Zbw) r.1,mp wm Zi (Value.int .i64) (some Zxc) r.2]) [] h):=by
 refine WF.ZfA (args:= [_]) (fn:=Try.f68) (by kernel_rfl) (by exact rfl) Try.ntmps68 (by simp) ?_;simp only [ZC,ZH,Nat.reduceAdd];obtain⟨T,hT,hS⟩:∃ T,T=Xv (wm:=wm) []∧Sp wm T h [] h:= ⟨_,rfl,Sp.start ZF ZQ.nil⟩
 unfold ZqE at hL;refine r3 ?_;rintro _ h2 ⟨b1,eb1,rfl,hS⟩;refine r1 ?_;rintro _ h4 ⟨b3,eb3,rfl,hS⟩;refine r4 ?_;refine WO.hn gN rfl (ZrK Zi (Value.int .i64) hS) ?_;rintro _ h5 ⟨b6,eb6,rfl,hS⟩;refine WO.hn gN rfl (ZrK Zi (Value.int .i64) hS) ?_;rintro _ h7 ⟨b8,eb8,rfl,hS⟩;refine r1 ?_;rintro h9 hS;refine r1 ?_;rintro h10 hS;refine r6 ?_;refine WO.inl gN rfl (YE.fn ZsA (Zc lk Zk)) (WF.begin (args:= [_]) (fn:=Try.f71) (by kernel_rfl) (by exact rfl) Try.ntmps71 (by simp) ?_);simp only [ZC,ZH,Nat.reduceAdd];refine r3 ?_;rintro _ h12 ⟨b11,ZMD,rfl,hS⟩;refine r4 ?_;refine r1 ?_;refine WO.w gN rfl (Zb8 (Zc lk Zk)) ?_;refine r4 ?_;refine ZN.X7 rfl (Zu lk Zl) ?_;refine r3 ?_;refine WC.Znn (first:= []) (cap:= [.pointer (some ⟨b11,0,none⟩)]) hS lk ZnT ?_;intro h13 l14 ZmG ZwZ Zpi hS;refine WR.ZlY (r:=r) (fun(p:(List (Ze×Int))×(List (Ze×Int))) (v:Value) (h18:H)=>match p with | (v20,v21)=>v= .tuple [].toArray∧Sp wm T h [bx wm b1 [.map (some b6)],bx wm b3 [.map (some b8)],bx wm b11 [.pointer (some ⟨Xh,UA,none⟩)],mp wm Zi (Value.int .i64) (some b6) v20,mp wm Zi (Value.int .i64) (some b8) v21,ob wm l14 ZwZ,ob wm ZmG .deferred] h18) (Zfd F p0) ?_ (WF.begin (args:= [_,_]) (fn:=Try.f110) (by kernel_rfl) (by exact rfl) Try.ntmps110 (by simp) ?_)
 ·clear hL hS;rintro⟨v20,v21⟩ v h18 hL ⟨rfl,hS⟩;dsimp only [Zfd] at hL;refine RgE.sp Zpi hS k5 ?_;rintro h22 hS;refine r8 ?_;refine WO.w gN rfl (ZW Zm0 (Zv fh rfl) (At.fz hS.fz YO YP) (j:=3) rfl (v:= .slice Zt p0.notes.length Zr) rfl) ?_;refine r4 ?_;refine r1 ?_;refine WC.loop (WL.lift hL (fun(p:Int×(List (Ze×Int))×(List (Ze×Int))) (s:Fs)=>match p with | (v29,v31,v32)=>∃ (ZcR:Fr) (h23:H),s= ⟨ZcR,[⟨.collected ZmG,#[]⟩],h23,none⟩∧Sp wm T h [bx wm b1 [.map (some b6)],bx wm b3 [.map (some b8)],mp wm Zi (Value.int .i64) (some b6) v31,mp wm Zi (Value.int .i64) (some b8) v32,ob wm ZmG .deferred] h23∧ZcR.at 2= .pointer (some ⟨b1,0,none⟩)∧ZcR.at 3= .pointer (some ⟨b3,0,none⟩)∧ZcR.at 43= .slice Zt p0.notes.length Zr∧ZcR.at 44= .int .i64 (p0.notes.length:Int)∧ZcR.at 45= .int .i64 v29) ⟨_,_,rfl,hS.only (.c k0 (.c k0 (.c k1 (.c k1 (.c k1 .n))))),YH⟩ ?_);clear hL hS;rintro Zdo ⟨v29,v31,v32⟩ s Zvu hL ⟨ZcR,h23,rfl,hS,e25,e26,e27,e28,e30⟩;dsimp only [ZhI] at hL;refine r6 ?_;refine cn hL ?_ ?_
  ·intro hc hL;refine r2 ?_;refine WC.Zaj (r:=r) (fun(p:(List (Ze×Int))×(List (Ze×Int))) (s:Fs)=>match p with | (v41,v42)=>∃ (ZnZ:Fr) (h34:H),s= ⟨ZnZ,[⟨.collected ZmG,#[]⟩],h34,none⟩∧Sp wm T h [bx wm b1 [.map (some b6)],bx wm b3 [.map (some b8)],mp wm Zi (Value.int .i64) (some b6) v41,mp wm Zi (Value.int .i64) (some b8) v42,ob wm ZmG .deferred] h34∧ZnZ.at 2= .pointer (some ⟨b1,0,none⟩)∧ZnZ.at 3= .pointer (some ⟨b3,0,none⟩)∧ZnZ.at 43= .slice Zt p0.notes.length Zr∧ZnZ.at 44= .int .i64 (p0.notes.length:Int)∧ZnZ.at 45= .int .i64 v29) (Zfc v29 Zdo) ?_ ?_
   ·clear hL hS;rintro⟨v41,v42⟩ s hL ⟨ZnZ,h34,rfl,hS,e36,e37,e38,e39,e40⟩;dsimp only [Zfc] at hL;refine r4 ?_;exact Yo.Yp (Zvu _ _ hL ⟨_,_,rfl,hS.only (.c k0 (.c k0 (.c k0 (.c k0 (.c k0 .n))))),YH⟩)
   ·skip;refine r3 ?_;obtain⟨x43,ZnD,hL⟩:=bind_some hL;obtain⟨b44,o45,_,ZsK,ZsU,ZsQ,ZDP⟩:=Sl.at_ Yf ZnD;refine WO.w gN rfl (ZU J2 Y2 lk lk rfl ZsK ZnD) ?_;refine WO.w gN rfl (YD Zcc Y2 (Zv fh rfl) (At.fz hS.fz ZsQ ZsU) (j:=0) rfl rfl (ws:= [.int .i64 x43.kind,.int .i64 x43.ZG,.int .i64 x43.name,.int .i64 x43.via,.int .i64 x43.w]) rfl) ?_;refine r1 ?_;rintro _ h47 ⟨b46,ZIk,rfl,hS⟩;refine r1 ?_;rintro h48 hS;refine Q6 ?_;refine r3 ?_;refine cn hL ?_ ?_
    ·intro hc hL;refine WC.Yj mixed (by kernel_rfl) ?_;refine r4 ?_;refine r1 ?_;refine WX.w gN rfl (YV XJ (Zj lk (Zj lk ZE)) rfl (cs':= [.int .i64 x43.via,.int .i64 x43.name]) rfl) ?_ rfl;obtain⟨x49,Zql,hL⟩:=bind_some hL;refine WX.Zsi (kv:=Zi) (vv:= (Value.int .i64)) (k:= (Ze.mk x43.via x43.name)) (z:=0) gN rfl YG UB UY (Zv (Yc rfl (Zf rfl fh)) rfl) (Zv fh rfl) (hS.get k4).at_ Zql 10 (w:= .int .i64 x49) rfl (fun _=>rfl) ?_ rfl;refine r3 ?_;refine WX.ZtI (kv:=Zi) (vv:= (Value.int .i64)) (k:= (Ze.mk x43.via x43.name)) (z:=0) gN rfl hS k4 YG UB UY (Zv (ZM rfl (Zf rfl fh)) rfl) (Zv (Yc rfl fh) rfl) ?_ rfl 6 (by kernel_rfl) (by kernel_rfl) (by simp);rintro _ h50 ⟨b51,rfl,hS⟩;refine WX.w gN rfl (QT lk (v:= .int .i64 (b51:Nat)) rfl) ?_ (by kernel_rfl);refine WX.hu gN (ZlI (kv:=Zi) (vv:= (Value.int .i64)) (v:=ZV (x49 + x43.w)) hS k0 (Zv (ZM rfl (ZP rfl (Zf rfl fh))) rfl) (Zv fh rfl) (Zv (ZP rfl fh) rfl)) ?_ rfl (by kernel_rfl) [] (by kernel_rfl) Z7.e;rintro h52 hS;refine r3 ?_;exact YI.Yp _ hL ⟨_,_,rfl,hS.only (.c k2 (.c k2 (.c k2 (.c k0 (.c k1 .n))))),YH⟩
    ·intro hc hL;refine r6 ?_;refine cn hL ?_ ?_
     ·intro hc hL;refine WC.Yj mixed (by kernel_rfl) ?_;refine r4 ?_;refine r1 ?_;refine WX.w gN rfl (YV XJ (Zj lk (Zj lk ZE)) rfl (cs':= [.int .i64 x43.ZG,.int .i64 x43.name]) rfl) ?_ rfl;obtain⟨x53,ZyR,hL⟩:=bind_some hL;refine WX.Zsi (kv:=Zi) (vv:= (Value.int .i64)) (k:= (Ze.mk x43.ZG x43.name)) (z:=0) gN rfl YG UB UY (Zv (Yc rfl (Zf rfl fh)) rfl) (Zv fh rfl) (hS.get k4).at_ ZyR 10 (w:= .int .i64 x53) rfl (fun _=>rfl) ?_ rfl;refine r3 ?_;refine WX.ZtI (kv:=Zi) (vv:= (Value.int .i64)) (k:= (Ze.mk x43.ZG x43.name)) (z:=0) gN rfl hS k4 YG UB UY (Zv (ZM rfl (Zf rfl fh)) rfl) (Zv (Yc rfl fh) rfl) ?_ rfl 6 (by kernel_rfl) (by kernel_rfl) (by simp);rintro _ h54 ⟨b55,rfl,hS⟩;refine WX.w gN rfl (QT lk (v:= .int .i64 (b55:Nat)) rfl) ?_ (by kernel_rfl);refine WX.hu gN (ZlI (kv:=Zi) (vv:= (Value.int .i64)) (v:=ZV (x53 + x43.w)) hS k0 (Zv (ZM rfl (ZP rfl (Zf rfl fh))) rfl) (Zv fh rfl) (Zv (ZP rfl fh) rfl)) ?_ rfl (by kernel_rfl) [] (by kernel_rfl) Z7.e;rintro h56 hS;refine r3 ?_;exact YI.Yp _ hL ⟨_,_,rfl,hS.only (.c k2 (.c k2 (.c k2 (.c k0 (.c k1 .n))))),YH⟩
     ·intro hc hL;refine WC.Yj mixed (by kernel_rfl) ?_;refine r4 ?_;refine r1 ?_;refine WX.w gN rfl (YV XJ (Zj lk (Zj lk ZE)) rfl (cs':= [.int .i64 x43.ZG,.int .i64 x43.name]) rfl) ?_ rfl;obtain⟨x57,ZGP,hL⟩:=bind_some hL;refine WX.Zsi (kv:=Zi) (vv:= (Value.int .i64)) (k:= (Ze.mk x43.ZG x43.name)) (z:=0) gN rfl YG UB UY (Zv (Yc rfl (Zf rfl fh)) rfl) (Zv fh rfl) (hS.get k3).at_ ZGP 8 (w:= .int .i64 x57) rfl (fun _=>rfl) ?_ rfl;refine r1 ?_;refine WX.ZtI (kv:=Zi) (vv:= (Value.int .i64)) (k:= (Ze.mk x43.ZG x43.name)) (z:=0) gN rfl hS k3 YG UB UY (Zv (Yc rfl (ZP rfl (Zf rfl fh))) rfl) (Zv (ZP rfl fh) rfl) ?_ rfl 6 (by kernel_rfl) (by kernel_rfl) (by simp);rintro _ h58 ⟨b59,rfl,hS⟩;refine WX.w gN rfl (QT lk (v:= .int .i64 (b59:Nat)) rfl) ?_ (by kernel_rfl);refine WX.hu gN (ZlI (kv:=Zi) (vv:= (Value.int .i64)) (v:=ZV (x57 + 16)) hS k0 (Zv (ZM rfl (Zf rfl fh)) rfl) (Zv fh rfl) (Zv (ZP rfl fh) rfl)) ?_ rfl (by kernel_rfl) [] (by kernel_rfl) Z7.e;rintro h60 hS;refine r3 ?_;exact YI.Yp _ hL ⟨_,_,rfl,hS.only (.c k2 (.c k2 (.c k0 (.c k1 (.c k1 .n))))),YH⟩
  ·intro hc hL;refine r6 ?_;refine WC.Yj mixed (by kernel_rfl) ?_;refine r1 ?_;refine WX.wr (fun x=>x=b3) hS gN rfl (fun _ _ hR=>ZW Zld (Zv (ZP rfl e26) rfl) (At.eqv (hR b3 rfl) (hS.XP k1)) (j:=0) rfl (v:= .map (some b8)) rfl) ?_ rfl rfl;rintro h61 e62 hS;refine WX.hu gN (Uf hS k0 ZjK lk lk (vs:= [.map (some b6)]) rfl rfl rfl rfl (cs':= [.map (some b6)]) rfl) ?_ rfl rfl [1] (by kernel_rfl) (.c .z (hS.dj (.c k0 (.c k0 .n))) Z7.e);rintro h63 hS;refine WX.hu gN (Uf hS k1 ZjK lk lk (vs:= [.map (some b8)]) rfl rfl rfl rfl (cs':= [.map (some b8)]) rfl) ?_ rfl (by kernel_rfl) [] (by kernel_rfl) Z7.e;rintro h64 hS;refine r3 ?_;refine XM.ZAA hS k4 ?_;rintro h65 hS;have hr:=Option.some.inj hL;subst hr;exact XM.gen rfl (ZK (ZP rfl (Zf rfl e25)) (Ke Zld (hS.XP k1) (j:=0) rfl (v:= .map (some b6)) rfl) (ZK (ZP rfl (Zf rfl e26)) (Ke Zld (hS.XP k0) (j:=0) rfl (v:= .map (some b8)) rfl) Zl)) rfl ⟨_,⟨b6,b8,rfl,rfl⟩,hT ▸ hS.only (.c k2 (.c k2 .n))⟩
 ·skip;simp only [ZC,ZH,Nat.reduceAdd];refine r6 ?_;refine WC.loop (WL.lift hL (fun(p:Int×(List (Ze×Int))×(List (Ze×Int))) (s:Fs)=>match p with | (v70,v72,v73)=>∃ (Zs9:Fr) (h66:H),s= ⟨Zs9,[],h66,none⟩∧Sp wm T h [bx wm b11 [.pointer (some ⟨Xh,UA,none⟩)],bx wm b1 [.map (some b6)],bx wm b3 [.map (some b8)],mp wm Zi (Value.int .i64) (some b6) v72,mp wm Zi (Value.int .i64) (some b8) v73,ob wm l14 ZwZ,ob wm ZmG .deferred] h66∧Zs9.at 0= .func (.yield l14) #[] #[]∧Zs9.at 1= .pointer (some ⟨b11,0,none⟩)∧Zs9.at 3= .int .i64 v70) ⟨_,_,rfl,hS.only (.c k2 (.c k3 (.c k2 (.c k3 (.c k2 (.c k0 (.c k0 .n))))))),YH⟩ ?_);clear hL hS;rintro Zdm ⟨v70,v72,v73⟩ s Zj4 hL ⟨Zs9,h66,rfl,hS,e68,e69,e71⟩;dsimp only [Zn8] at hL;refine r6 ?_;refine r1 ?_;refine WO.w gN rfl (ZW Xf (Zv fh rfl) (At.fz hS.fz YO YP) (j:=0) rfl (v:= .int .i64 p0.machines) rfl) ?_;refine r3 ?_;refine cn hL ?_ ?_
  ·intro hc hL;refine r8 ?_;refine r2 ?_;refine WC.loop (WL.lift hL (fun(p:Int×(List (Ze×Int))×(List (Ze×Int))) (s:Fs)=>match p with | (v80,v82,v83)=>∃ (Zqv:Fr) (h75:H),s= ⟨Zqv,[],h75,none⟩∧Sp wm T h [bx wm b11 [.pointer (some ⟨Xh,UA,none⟩)],bx wm b1 [.map (some b6)],bx wm b3 [.map (some b8)],mp wm Zi (Value.int .i64) (some b6) v82,mp wm Zi (Value.int .i64) (some b8) v83,ob wm l14 ZwZ,ob wm ZmG .deferred] h75∧Zqv.at 0= .func (.yield l14) #[] #[]∧Zqv.at 1= .pointer (some ⟨b11,0,none⟩)∧Zqv.at 3= .int .i64 v70∧Zqv.at 4= .int .i64 v80) ⟨_,_,rfl,hS.only (.c k0 (.c k0 (.c k0 (.c k0 (.c k0 (.c k0 (.c k0 .n))))))),YH⟩ ?_);clear hL hS;rintro Zdk ⟨v80,v82,v83⟩ s Zo9 hL ⟨Zqv,h75,rfl,hS,e77,e78,e79,e81⟩;dsimp only [Zn7] at hL;refine r6 ?_;refine r1 ?_;refine WO.w gN rfl (ZW Xf (Zv fh rfl) (At.fz hS.fz YO YP) (j:=1) rfl (v:= .int .i64 p0.names) rfl) ?_;refine r3 ?_;refine cn hL ?_ ?_
   ·intro hc hL;refine r8 ?_;refine r1 ?_;refine WO.w gN rfl (ZW Zf8 (Zv fh rfl) (At.fz hS.fz YO YP) (j:=2) rfl (v:= .map ZI) rfl) ?_;refine r2 ?_;refine WO.w gN rfl (YV XJ (Zj lk (Zj lk ZE)) rfl (cs':= [.int .i64 v70,.int .i64 v80]) rfl) ?_;obtain⟨x85,ZGJ,hL⟩:=bind_some hL;refine WO.w gN rfl (KG (kv:=Zi) (vv:=Zn) (k:= (Ze.mk v70 v80)) (z:= (Zb.mk 0 false 0 0 0 false)) YG JZ Ue (Zv (ZP rfl (Zf rfl fh)) rfl) (Zv fh rfl) (hS.ms Zx).at_ ZGJ (w:= .agg [.int .i64 x85.1.name,.bool x85.1.root,.int .i64 x85.1.from_,.int .i64 x85.1.has,.int .i64 x85.1.out,.bool x85.1.use].toArray) rfl) ?_;refine r4 ?_;rintro _ h87 ⟨b86,ZMf,rfl,hS⟩;refine r1 ?_;rintro h88 hS;refine r8 ?_;refine r2 ?_;refine WO.Zhw (Zg.yes rfl rfl rfl (ZP rfl (Zf rfl fh))) (fun Zge=>?_) (fun Zge=>?_)
    ·replace hL:=UL Zge hL;refine WO.Zyh (Zg.on (Zg.yes rfl rfl rfl (ZP rfl (Zf rfl fh))) Zge) rfl (Xq (ZP rfl fh) rfl Zge) (Zc (Xq (Zf rfl fh) rfl Zge) (Zc (Xq fh rfl Zge) Zk)) hS k6 Zpi rfl rfl ?_;refine r6 ?_;refine r1 ?_;rintro _ h91 ⟨b90,ZMe,rfl,hS⟩;refine r1 ?_;rintro h92 hS;refine r1 ?_;refine AsK.sp Zpi hS k7 ?_;rintro h93 hS;refine WC.jn (r:=r) (fun(p:(List (Ze×Int))×(List (Ze×Int))) (s:Fs)=>match p with | (v96,v97)=>∃ (ZEB:Fr) (h94:H),s= ⟨ZEB,[],h94,none⟩∧Sp wm T h [bx wm b1 [.map (some b6)],bx wm b3 [.map (some b8)],bx wm b11 [.pointer (some ⟨Xh,UA,none⟩)],bx wm b86 [.int .i64 x85.1.name,.bool x85.1.root,.int .i64 x85.1.from_,.int .i64 x85.1.has,.int .i64 x85.1.out,.bool x85.1.use],mp wm Zi (Value.int .i64) (some b6) v96,mp wm Zi (Value.int .i64) (some b8) v97,ob wm l14 (bsy ZwZ),ob wm ZmG .deferred] h94) (Zku F p0 v80 Zdk) ?_ ?_
     ·clear hL hS;rintro⟨v96,v97⟩ s hL ⟨ZEB,h94,rfl,hS⟩;dsimp only [Zku] at hL;refine BdK.sp Zpi hS k6 ?_;rintro h98 hS;refine WO.w (Zg.on (Zg.yes rfl rfl rfl (Yc rfl fh)) Zge) rfl (Zk5 lk) ?_;refine WO.w gN rfl (Zh5 lk Zge lk) ?_;refine r2 ?_;refine cn hL ?_ ?_
      ·intro hc hL;refine r8 ?_;refine r1 ?_;exact ZN.gen (vs:= []) rfl Zl rfl ⟨_,hL,⟨rfl,hS.only (.c k1 (.c k1 (.c k1 (.c k2 (.c k2 (.c k0 (.c k1 .n)))))))⟩⟩
      ·intro hc hL;refine r8 ?_;exact Yo.Yp (Zo9 _ _ hL ⟨_,_,rfl,hS.only (.c k3 (.c k1 (.c k1 (.c k2 (.c k2 (.c k0 (.c k1 .n))))))),YH⟩)
     ·skip;refine r2 ?_;refine WC.Yj mixed (by kernel_rfl) ?_;refine r4 ?_;refine WX.w gN rfl (YV XJ (Zj lk (Zj lk ZE)) rfl (cs':= [.int .i64 v70,.int .i64 x85.1.name]) rfl) ?_ rfl;obtain⟨x99,hx99,hL⟩:=bind_some hL;refine WX.Zsi (kv:=Zi) (vv:= (Value.int .i64)) (k:= (Ze.mk v70 x85.1.name)) (z:=0) gN rfl YG UB UY (Zv (Yc rfl fh) rfl) (Zv fh rfl) (hS.get k6).at_ hx99 9 (w:= .int .i64 x99) rfl (fun _=>rfl) ?_ rfl;refine r3 ?_;refine WX.ZtI (kv:=Zi) (vv:= (Value.int .i64)) (k:= (Ze.mk v70 x85.1.name)) (z:=0) gN rfl hS k6 YG UB UY (Zv (ZM rfl fh) rfl) (Zv (Yc rfl fh) rfl) ?_ rfl 5 (by kernel_rfl) (by kernel_rfl) (by simp);rintro _ ZEz ⟨ZE5,rfl,hS⟩;refine WX.w gN rfl (QT lk (v:= .int .i64 (ZE5:Nat)) rfl) ?_ (by kernel_rfl);refine WX.hu gN (ZlI (kv:=Zi) (vv:= (Value.int .i64)) (v:=ZV (x99 + x85.1.out)) hS k0 (Zv (ZM rfl (ZP rfl fh)) rfl) (Zv fh rfl) (Zv (ZP rfl fh) rfl)) ?_ rfl (by kernel_rfl) [] (by kernel_rfl) Z7.e;rintro ZzO hS;refine r8 ?_;refine r1 ?_;refine cn hL ?_ ?_
      ·intro hc hL;refine WC.Yj mixed (by kernel_rfl) ?_;refine r4 ?_;refine r1 ?_;refine WX.w gN rfl (YV XJ (Zj lk (Zj lk ZE)) rfl (cs':= [.int .i64 x85.1.from_,.int .i64 x85.1.name]) rfl) ?_ rfl;obtain⟨x103,Zi8,hL⟩:=bind_some hL;refine WX.Zsi (kv:=Zi) (vv:= (Value.int .i64)) (k:= (Ze.mk x85.1.from_ x85.1.name)) (z:=0) gN rfl YG UB UY (Zv (Yc rfl (Zf rfl fh)) rfl) (Zv fh rfl) (hS.get k7).at_ Zi8 10 (w:= .int .i64 x103) rfl (fun _=>rfl) ?_ rfl;refine r3 ?_;refine WX.ZtI (kv:=Zi) (vv:= (Value.int .i64)) (k:= (Ze.mk x85.1.from_ x85.1.name)) (z:=0) gN rfl hS k7 YG UB UY (Zv (ZM rfl (Zf rfl fh)) rfl) (Zv (Yc rfl fh) rfl) ?_ rfl 6 (by kernel_rfl) (by kernel_rfl) (by simp);rintro _ ZL5 ⟨ZE4,rfl,hS⟩;refine WX.w gN rfl (QT lk (v:= .int .i64 (ZE4:Nat)) rfl) ?_ (by kernel_rfl);refine WX.hu gN (ZlI (kv:=Zi) (vv:= (Value.int .i64)) (v:=ZV (x103 + x85.1.has)) hS k0 (Zv (ZM rfl (ZP rfl (Zf rfl fh))) rfl) (Zv fh rfl) (Zv (ZP rfl fh) rfl)) ?_ rfl (by kernel_rfl) [] (by kernel_rfl) Z7.e;rintro ZH8 hS;refine r2 ?_;exact JnK.Yp _ hL ⟨_,_,rfl,hS.only (.c k6 (.c k6 (.c k5 (.c k4 (.c k1 (.c k0 (.c k0 (.c k1 .n))))))))⟩
      ·intro hc hL;refine r2 ?_;exact JnK.Yp _ hL ⟨_,_,rfl,hS.only (.c k5 (.c k5 (.c k4 (.c k3 (.c k0 (.c k2 (.c k0 (.c k1 .n))))))))⟩
    ·replace hL:=UM Zge hL;refine WO.Zir (Zg.yes rfl rfl rfl (ZP rfl (Zf rfl fh))) Zge rfl ?_;refine WO.Zir (Zg.yes rfl rfl rfl (Yc rfl fh)) Zge rfl ?_;refine WO.w gN rfl (Zh6 lk Zge lk) ?_;refine r2 ?_;refine WC.Zb4 lk rfl ?_;refine r8 ?_;exact Yo.Yp (Zo9 _ _ hL ⟨_,_,rfl,hS.only (.c k1 (.c k1 (.c k1 (.c k1 (.c k1 (.c k1 (.c k1 .n))))))),YH⟩)
   ·intro hc hL;refine r8 ?_;refine r3 ?_;exact Yo.Yp (Zj4 _ _ hL ⟨_,_,rfl,hS.only (.c k0 (.c k0 (.c k0 (.c k0 (.c k0 (.c k0 (.c k0 .n))))))),YH⟩)
  ·intro hc hL;refine r4 ?_;refine ZN.Yp ?_;exact ZN.gen (vs:= []) rfl Zl rfl ⟨_,hL,⟨rfl,hS.only (.c k1 (.c k1 (.c k0 (.c k0 (.c k0 (.c k0 (.c k0 .n)))))))⟩⟩
theorem Zz8 {wm:Nat} {h:H} {p0:(List Qm)} {p1 p2:Int} {Zp:Option Addr} {Zo Xo:Nat} {r:(List Qm)} (ZF:wm <=h.size) (hO:ZQ (wm:=wm) [ow wm YB Zp Xo Zo p0] h) (hL:Zz9 p0 p1 p2=some r):
 WR XX 78 #[.slice Zp Xo Zo,.int .i64 p1,.int .i64 p2] wm h (CP (fun(v:Value) (Gb:List (Ast wm))=>∃ (Xe:Option Addr) (Xc:Nat) (Xd:Nat),v= .slice Xe Xc Xd∧Gb= [ow wm YB Xe Xc Xd r]) [ow wm YB Zp Xo Zo p0] h):=by
 refine bg Try.ntmps78 ZF hO ?_;intro T hT hS;unfold Zz9 at hL;obtain rfl:=hS.on k0;refine Q6 ?_;obtain⟨z1,hz1,hL⟩:=bind_some hL;refine WO.he gN rfl (ZrJ (hS.get k0).2 rfl Qu YX (Zv (Yc rfl fh) rfl) (Zv (ZP rfl (Zf rfl fh)) rfl) (Zv (ZP rfl fh) rfl) (Zv fh rfl) hz1) ?_;rintro v2 hv3;refine r8 ?_;refine r2 ?_;refine cn hL ?_ ?_
 ·intro hc hL;refine r8 ?_;have hr:=Option.some.inj hL;subst hr;exact ZN.X7 rfl (Zu lk Zl) ⟨_,⟨Zp,p0.length,Zo,rfl,rfl⟩,hT ▸ hS.only (.c k0 .n)⟩
 ·intro hc hL;refine r8 ?_;refine r2 ?_;refine WC.Yj mixed (by kernel_rfl) ?_;refine r2 ?_;obtain⟨z4,hz4,hL⟩:=bind_some hL;have Zhu:= (hS.get k0).2.cap;refine WX.he gN rfl (ZrI (hS.get k0).2 rfl Qu YX (Zv (Zf rfl fh) rfl) (Zv fh rfl) hz4) ?_ rfl;rintro _ ⟨a5,c6,ea7,ec8,rfl,ZyY⟩;have ZtJ:=ec8.symm;refine r2 ?_;obtain⟨z13,ZnB,hL⟩:=bind_some hL;refine WX.he gN rfl (ZlH (hS.get k0).2 rfl Qu YX (Zv (Zf rfl fh) rfl) (.inr ⟨_,Yu (Zv fh rfl)⟩) (.inl ⟨rfl,rfl⟩) ZnB) ?_ rfl;rintro _ ⟨a14,c15,rfl,ZyX⟩;obtain⟨z17,ZnA,hL⟩:=bind_some hL;have ZyN:= (ZyX.own (hS.get k0).2).src;have hS:=hS.sub k0 ZyY;refine WX.hv gN rfl (Zw9 (e:=YB) hS k0 KH lk lk ZyN rfl ZnA (ZtJ ▸ Nat.le_trans (ZgG hz1 hz4 ZnB ZnA) Zhu)) ?_ rfl rfl [] (by kernel_rfl) Z7.e;rintro _ h19 ⟨rfl,hS⟩;refine WX.w gN rfl (ZR lk) ?_ (by kernel_rfl);refine r8 ?_;refine WO.he gN rfl (ZrH (hS.get k0).2 Qu YX (Zv (ZP rfl (Zf rfl fh)) rfl) (Zv (Zf rfl fh) rfl) (Zv fh rfl) (ZgG hz1 hz4 ZnB ZnA) (ZtJ ▸ Zhu)) ?_;rintro _ ⟨a20,c21,rfl,Zy0⟩;refine WO.hw gN (Zw8 hS k0 Zy0 rfl Qu ZaK rfl (Zv fh rfl)) ?_;rintro h24 hS;refine r8 ?_;refine r1 ?_;have hr:=Option.some.inj hL;subst hr;exact ZN.X7 rfl (Zu lk Zl) ⟨_,⟨a5,z17.length,c6,rfl,rfl⟩,hT ▸ hS.only (.c k0 .n)⟩
theorem Zz6 {F wm:Nat} {h:H} {p0:(List Qm)} {p1:Qm} {Zp:Option Addr} {Zo:Nat} {r:Int} (ZF:wm <=h.size) (Zx:Sl YB wm h Zp Zo p0) (hL:Zz7 F p0 p1=some r):
 WR XX 79 #[.slice Zp p0.length Zo,.agg [.int .i64 p1.at_,.int .i64 p1.name].toArray] wm h (CP (fun(v:Value) (Gb:List (Ast wm))=>v= .int .i64 r∧Gb= []) [] h):=by
 refine bg Try.ntmps79 ZF ZQ.nil ?_;intro T hT hS;unfold Zz7 at hL;refine r3 ?_;rintro _ h2 ⟨b1,eb1,rfl,hS⟩;refine Q6 ?_;refine WC.loop (WL.lift hL (fun(v8:Int) (s:Fs)=>∃ (fr4:Fr) (h3:H),s= ⟨fr4,[],h3,none⟩∧Sp wm T h [bx wm b1 [.int .i64 p1.at_,.int .i64 p1.name]] h3∧fr4.at 0= .slice Zp p0.length Zo∧fr4.at 3= .pointer (some ⟨b1,0,none⟩)∧fr4.at 7= .int .i64 (p0.length:Int)∧fr4.at 8= .int .i64 v8) ⟨_,_,rfl,hS.only (.c k0 .n),YH⟩ ?_);clear hL hS;rintro Zhc v8 s Zj8 hL ⟨fr4,h3,rfl,hS,e5,e6,e7,e9⟩;dsimp only [Ztm] at hL;refine r6 ?_;refine cn hL ?_ ?_
 ·intro hc hL;refine r8 ?_;refine r3 ?_;refine WC.Yj mixed (by kernel_rfl) ?_;refine r3 ?_;obtain⟨K8,Zj2,hL⟩:=bind_some hL;obtain⟨b12,o13,_,ZsO,Zs0,ZsS,ZDU⟩:=Sl.at_ Zx Zj2;refine WX.w gN rfl (ZU Qu YX lk lk rfl ZsO Zj2) ?_ rfl;refine WX.w gN rfl (YD Zev YX (Zv fh rfl) (At.fz hS.fz ZsS Zs0) (j:=0) rfl rfl (ws:= [.int .i64 K8.at_,.int .i64 K8.name]) rfl) ?_ rfl;refine WX.w gN rfl (Z8 (Zv (Yc rfl fh) rfl) (Zv fh rfl) (Zif (xs:= [.int .i64 p1.at_,.int .i64 p1.name]) (ys:= [.int .i64 K8.at_,.int .i64 K8.name]) (ZpH p1 K8) rfl rfl)) ?_ rfl;refine r2 ?_;refine cn hL ?_ ?_
  ·intro hc hL;refine Q6 ?_;exact rt hL hT hS
  ·intro hc hL;refine r6 ?_;refine r1 ?_;exact Yo.Yp (Zj8 _ _ hL ⟨_,_,rfl,hS.only (.c k0 .n),YH⟩)
 ·intro hc hL;refine r8 ?_;refine r3 ?_;exact rt hL hT hS
end Go.Proofs.Ytekpjgmhkkjhgaa
end
end
section
namespace Go.Proofs.Ytekpjgmhkkjhgaa
open Go.Lf
def Ztl (p0:(List Qm)) (p1:(List Qm)):Int ->(Int ->Option Bool) ->Option Bool:=fun v6 KU=>
 (bif decide (v6 < (p0.length:Int)) then(Yb p0 v6).bind fun x9=>(Yb p1 v6).bind fun Uy=>(bif(!(Zmv x9 Uy)) then some false else KU (ZV (v6 + 1))) else some true)
def Zwd (F:Nat) (p0:(List Qm)) (p1:(List Qm)):Option Bool:=
 (bif((p0.length:Int) != (p1.length:Int)) then some false else loop F (Ztl p0 p1) 0)
def Zkr (p0:(List Zb)) (p1:(List Zb)):Int ->(Int ->Option Bool) ->Option Bool:=fun v6 KU=>
 (bif decide (v6 < (p0.length:Int)) then(Yb p0 v6).bind fun x9=>(Yb p1 v6).bind fun Uy=>(bif(!(JC x9 Uy)) then some false else KU (ZV (v6 + 1))) else some true)
def Ztk (F:Nat) (p0:(List Zb)) (p1:(List Zb)):Option Bool:=
 (bif((p0.length:Int) != (p1.length:Int)) then some false else loop F (Zkr p0 p1) 0)
def Zkq (p0:(List Zd)) (p1:(List Zd)):Int ->(Int ->Option Bool) ->Option Bool:=fun v6 KU=>
 (bif decide (v6 < (p0.length:Int)) then(Yb p0 v6).bind fun x9=>(Yb p1 v6).bind fun Uy=>(bif(!(K3 x9 Uy)) then some false else KU (ZV (v6 + 1))) else some true)
def ZqD (F:Nat) (p0:(List Zd)) (p1:(List Zd)):Option Bool:=
 (bif((p0.length:Int) != (p1.length:Int)) then some false else loop F (Zkq p0 p1) 0)
def Zn6 (p0:(List Zd)):Option (List Zd):=
 (app 40 ([]:List Zd) p0).bind fun z3=>some z3
def Zn5 (p0:(List Int)):Option (List Int):=
 (app 8 ([]:List Int) p0).bind fun z3=>some z3
def ZhF (v25:Int) (ZeV:(Int×(List Int) ->Option (List Int))):(List Int) ->Option (List Int):=fun v39=>
 ZeV (ZV (v25 + 1),v39)
def ZhG (p0:Store) (p1:Int):Int×(List Int) ->(Int×(List Int) ->Option (List Int)) ->Option (List Int):=fun(v25,v27) ZeV=>
 (bif decide (v25 < (p0.notes.length:Int)) then(Yb p0.notes v25).bind fun x43=>(bif((x43.kind==3) && (x43.name==p1)) then(app 8 v27 [x43.ZG]).bind fun z51=>(ZhF v25 ZeV) z51 else(ZhF v25 ZeV) v27) else some v27)
def Ze9 (F:Nat) (p0:Store) (p1:Int):(List Int) ->Option (List Int):=fun v14=>
 loop F (ZhG p0 p1) (0,v14)
def Zkp (F:Nat) (p0:Store) (p1:Int) (v73:Int) (Zdl:(Int×(List Int) ->Option (List Int))):(List Int) ->Option (List Int):=fun v91=>
 (bif(!true) then(Ze9 F p0 p1) v91 else Zdl (ZV (v73 + 1),v91))
def Zn2 (F:Nat) (p0:Store) (p1:Int) (v61:Int) (ZjS:(Int×(List Int) ->Option (List Int))):Int×(List Int) ->(Int×(List Int) ->Option (List Int)) ->Option (List Int):=fun(v73,v75) Zdl=>
 (bif decide (v73 < p0.names) then(KS p0.cells (Ze.mk v61 v73) (Zb.mk 0 false 0 0 0 false)).bind fun x80=>(bif x80.2 then(bif((x80.1.name==p1) && x80.1.root) then(app 8 v75 [v61]).bind fun z98=>(Zkp F p0 p1 v73 Zdl) z98 else(Zkp F p0 p1 v73 Zdl) v75) else Zdl (ZV (v73 + 1),v75)) else ZjS (ZV (v61 + 1),v75))
def Zn3 (F:Nat) (p0:Store) (p1:Int):Int×(List Int) ->(Int×(List Int) ->Option (List Int)) ->Option (List Int):=fun(v61,v63) ZjS=>
 (bif decide (v61 < p0.machines) then loop F (Zn2 F p0 p1 v61 ZjS) (0,v63) else(Ze9 F p0 p1) v63)
def Ztg (F:Nat) (p0:Store) (p1:Int):Option (List Int):=
 loop F (Zn3 F p0 p1) (0,[])
def ZhC (v7:Int) (J5:(Int ->Option Bool)):Unit ->Option Bool:=fun _=>
 J5 (ZV (v7 + 1))
def ZhD (p0:Store) (p1:Int) (p2:Int) (v7:Int) (J5:(Int ->Option Bool)):Int×Bool×Int×Int×Bool×Int×Int×Int×Bool ->(Int×Bool×Int×Int×Bool×Int×Int×Int×Bool ->Option Bool) ->Option Bool:=fun(v26,v29,v34,v36,v37,v38,v39,v40,v41) Zr4=>
 (bif decide (v34 < p0.machines) then(bif(v26==p2) then(ZhC v7 J5) () else(bif((!v29) || (decide (v38 < 0))) then some false else(KS p0.cells (Ze.mk v38 p1) (Zb.mk 0 false 0 0 0 false)).bind fun x43=>Zr4 (v38,x43.2,ZV (v34 + 1),x43.1.name,x43.1.root,x43.1.from_,x43.1.has,x43.1.out,x43.1.use))) else(bif(v26 !=p2) then some false else(ZhC v7 J5) ()))
def ZhE (F:Nat) (p0:Store) (p1:Int) (p2:Int):Int ->(Int ->Option Bool) ->Option Bool:=fun v7 J5=>
 (bif decide (v7 < p0.machines) then(KS p0.cells (Ze.mk v7 p1) (Zb.mk 0 false 0 0 0 false)).bind fun x17=>(bif(!x17.2) then(ZhC v7 J5) () else loop F (ZhD p0 p1 p2 v7 J5) (v7,x17.2,0,x17.1.name,x17.1.root,x17.1.from_,x17.1.has,x17.1.out,x17.1.use)) else some true)
def ZqC (F:Nat) (p0:Store) (p1:Int) (p2:Int):Option Bool:=
 loop F (ZhE F p0 p1 p2) 0
end Go.Proofs.Ytekpjgmhkkjhgaa
end
section
set_option maxRecDepth 20000
noncomputable section
namespace Go.Proofs.Ytekpjgmhkkjhgaa
open Go.Yq Go.Lf
theorem Zz4 {F wm:Nat} {h:H} {p0 p1:(List Qm)} {Zp:Option Addr} {Zo:Nat} {Z0:Option Addr} {ZY:Nat} {r:Bool} (ZF:wm <=h.size) (Zx:Sl YB wm h Zp Zo p0) (YJ:Sl YB wm h Z0 ZY p1) (hL:Zwd F p0 p1=some r):
 WR XX 80 #[.slice Zp p0.length Zo,.slice Z0 p1.length ZY] wm h (CP (fun(v:Value) (Gb:List (Ast wm))=>v= .bool r∧Gb= []) [] h):=by
 refine bg Try.ntmps80 ZF ZQ.nil ?_;intro T hT hS;unfold Zwd at hL;refine Q6 ?_;refine r3 ?_;refine cn hL ?_ ?_
 ·intro hc hL;refine r6 ?_;refine r1 ?_;exact rt hL hT hS
 ·intro hc hL;refine r8 ?_;refine r3 ?_;refine WC.loop (WL.lift hL (fun(v6:Int) (s:Fs)=>∃ (Qo:Fr) (h1:H),s= ⟨Qo,[],h1,none⟩∧Sp wm T h [] h1∧Qo.at 0= .slice Zp p0.length Zo∧Qo.at 1= .slice Z0 p1.length ZY∧Qo.at 12= .int .i64 (p0.length:Int)∧Qo.at 13= .int .i64 v6) ⟨_,_,rfl,hS.only .n,YH⟩ ?_);clear hL hS;rintro KU v6 s Za3 hL ⟨Qo,h1,rfl,hS,e3,e4,e5,e7⟩;dsimp only [Ztl] at hL;refine r6 ?_;refine cn hL ?_ ?_
  ·intro hc hL;refine r8 ?_;refine r3 ?_;refine WC.Yj mixed (by kernel_rfl) ?_;refine r2 ?_;obtain⟨x9,hx9,hL⟩:=bind_some hL;obtain⟨b10,o11,_,Zd3,Zd7,Zd5,Zpk⟩:=Sl.at_ Zx hx9;refine WX.w gN rfl (ZU Qu YX lk lk rfl Zd3 hx9) ?_ rfl;refine WX.w gN rfl (YD Zev YX (Zv fh rfl) (At.fz hS.fz Zd5 Zd7) (j:=0) rfl rfl (ws:= [.int .i64 x9.at_,.int .i64 x9.name]) rfl) ?_ rfl;refine r2 ?_;obtain⟨Uy,Zbj,hL⟩:=bind_some hL;obtain⟨b13,o14,_,Zd2,Zd6,Zd4,Zl8⟩:=Sl.at_ YJ Zbj;refine WX.w gN rfl (ZU Qu YX lk lk rfl Zd2 Zbj) ?_ rfl;refine WX.w gN rfl (YD Zev YX (Zv fh rfl) (At.fz hS.fz Zd4 Zd6) (j:=0) rfl rfl (ws:= [.int .i64 Uy.at_,.int .i64 Uy.name]) rfl) ?_ rfl;refine WX.w gN rfl (Z8 (Zv (Yc rfl fh) rfl) (Zv fh rfl) (ZeA (xs:= [.int .i64 x9.at_,.int .i64 x9.name]) (ys:= [.int .i64 Uy.at_,.int .i64 Uy.name]) (ZpH x9 Uy) rfl rfl)) ?_ rfl;refine r2 ?_;refine cn hL ?_ ?_
   ·intro hc hL;refine r8 ?_;refine r3 ?_;exact rt hL hT hS
   ·intro hc hL;refine r6 ?_;refine r1 ?_;exact Yo.Yp (Za3 _ _ hL ⟨_,_,rfl,hS.only .n,YH⟩)
  ·intro hc hL;refine r8 ?_;refine r3 ?_;exact rt hL hT hS
theorem Zz5 {F:Nat} {h:H} {p0 p1:(List Qm)} {Zp:Option Addr} {Zo:Nat} {Z0:Option Addr} {ZY:Nat} {r:Bool} (Zx:Sl YB h.size h Zp Zo p0) (YJ:Sl YB h.size h Z0 ZY p1) (hL:Zwd F p0 p1=some r):Pure XX 80 #[.slice Zp p0.length Zo,.slice Z0 p1.length ZY] h (.bool r):=
 WR.Qa rfl (Zz4 (Nat.le_refl _) Zx YJ hL)
theorem Zz3 {F wm:Nat} {h:H} {p0 p1:(List Zb)} {Zp:Option Addr} {Zo:Nat} {Z0:Option Addr} {ZY:Nat} {r:Bool} (ZF:wm <=h.size) (Zx:Sl Zq wm h Zp Zo p0) (YJ:Sl Zq wm h Z0 ZY p1) (hL:Ztk F p0 p1=some r):
 WR XX 84 #[.slice Zp p0.length Zo,.slice Z0 p1.length ZY] wm h (CP (fun(v:Value) (Gb:List (Ast wm))=>v= .bool r∧Gb= []) [] h):=by
 refine bg Try.ntmps84 ZF ZQ.nil ?_;intro T hT hS;unfold Ztk at hL;refine Q6 ?_;refine r3 ?_;refine cn hL ?_ ?_
 ·intro hc hL;refine r6 ?_;refine r1 ?_;exact rt hL hT hS
 ·intro hc hL;refine r8 ?_;refine r3 ?_;refine WC.loop (WL.lift hL (fun(v6:Int) (s:Fs)=>∃ (Qo:Fr) (h1:H),s= ⟨Qo,[],h1,none⟩∧Sp wm T h [] h1∧Qo.at 0= .slice Zp p0.length Zo∧Qo.at 1= .slice Z0 p1.length ZY∧Qo.at 12= .int .i64 (p0.length:Int)∧Qo.at 13= .int .i64 v6) ⟨_,_,rfl,hS.only .n,YH⟩ ?_);clear hL hS;rintro KU v6 s Za3 hL ⟨Qo,h1,rfl,hS,e3,e4,e5,e7⟩;dsimp only [Zkr] at hL;refine r6 ?_;refine cn hL ?_ ?_
  ·intro hc hL;refine r8 ?_;refine r3 ?_;refine WC.Yj mixed (by kernel_rfl) ?_;refine r2 ?_;obtain⟨x9,hx9,hL⟩:=bind_some hL;obtain⟨b10,o11,_,Zd3,Zd7,Zd5,Zpk⟩:=Sl.at_ Zx hx9;refine WX.w gN rfl (ZU ZfI QR lk lk rfl Zd3 hx9) ?_ rfl;refine WX.w gN rfl (YD Zew QR (Zv fh rfl) (At.fz hS.fz Zd5 Zd7) (j:=0) rfl rfl (ws:= [.int .i64 x9.name,.bool x9.root,.int .i64 x9.from_,.int .i64 x9.has,.int .i64 x9.out,.bool x9.use]) rfl) ?_ rfl;refine r2 ?_;obtain⟨Uy,Zbj,hL⟩:=bind_some hL;obtain⟨b13,o14,_,Zd2,Zd6,Zd4,Zl8⟩:=Sl.at_ YJ Zbj;refine WX.w gN rfl (ZU ZfI QR lk lk rfl Zd2 Zbj) ?_ rfl;refine WX.w gN rfl (YD Zew QR (Zv fh rfl) (At.fz hS.fz Zd4 Zd6) (j:=0) rfl rfl (ws:= [.int .i64 Uy.name,.bool Uy.root,.int .i64 Uy.from_,.int .i64 Uy.has,.int .i64 Uy.out,.bool Uy.use]) rfl) ?_ rfl;refine WX.w gN rfl (Z8 (Zv (Yc rfl fh) rfl) (Zv fh rfl) (ZeA (xs:= [.int .i64 x9.name,.bool x9.root,.int .i64 x9.from_,.int .i64 x9.has,.int .i64 x9.out,.bool x9.use]) (ys:= [.int .i64 Uy.name,.bool Uy.root,.int .i64 Uy.from_,.int .i64 Uy.has,.int .i64 Uy.out,.bool Uy.use]) (ZxY x9 Uy) rfl rfl)) ?_ rfl;refine r2 ?_;refine cn hL ?_ ?_
   ·intro hc hL;refine r8 ?_;refine r3 ?_;exact rt hL hT hS
   ·intro hc hL;refine r6 ?_;refine r1 ?_;exact Yo.Yp (Za3 _ _ hL ⟨_,_,rfl,hS.only .n,YH⟩)
  ·intro hc hL;refine r8 ?_;refine r3 ?_;exact rt hL hT hS
theorem Zz1 {F wm:Nat} {h:H} {p0 p1:(List Zd)} {Zp:Option Addr} {Zo:Nat} {Z0:Option Addr} {ZY:Nat} {r:Bool} (ZF:wm <=h.size) (Zx:Sl Zh wm h Zp Zo p0) (YJ:Sl Zh wm h Z0 ZY p1) (hL:ZqD F p0 p1=some r):
 WR XX 85 #[.slice Zp p0.length Zo,.slice Z0 p1.length ZY] wm h (CP (fun(v:Value) (Gb:List (Ast wm))=>v= .bool r∧Gb= []) [] h):=by
 refine bg Try.ntmps85 ZF ZQ.nil ?_;intro T hT hS;unfold ZqD at hL;refine Q6 ?_;refine r3 ?_;refine cn hL ?_ ?_
 ·intro hc hL;refine r6 ?_;refine r1 ?_;exact rt hL hT hS
 ·intro hc hL;refine r8 ?_;refine r3 ?_;refine WC.loop (WL.lift hL (fun(v6:Int) (s:Fs)=>∃ (Qo:Fr) (h1:H),s= ⟨Qo,[],h1,none⟩∧Sp wm T h [] h1∧Qo.at 0= .slice Zp p0.length Zo∧Qo.at 1= .slice Z0 p1.length ZY∧Qo.at 12= .int .i64 (p0.length:Int)∧Qo.at 13= .int .i64 v6) ⟨_,_,rfl,hS.only .n,YH⟩ ?_);clear hL hS;rintro KU v6 s Za3 hL ⟨Qo,h1,rfl,hS,e3,e4,e5,e7⟩;dsimp only [Zkq] at hL;refine r6 ?_;refine cn hL ?_ ?_
  ·intro hc hL;refine r8 ?_;refine r3 ?_;refine WC.Yj mixed (by kernel_rfl) ?_;refine r2 ?_;obtain⟨x9,hx9,hL⟩:=bind_some hL;obtain⟨b10,o11,_,Zd3,Zd7,Zd5,Zpk⟩:=Sl.at_ Zx hx9;refine WX.w gN rfl (ZU J2 Y2 lk lk rfl Zd3 hx9) ?_ rfl;refine WX.w gN rfl (YD Zcc Y2 (Zv fh rfl) (At.fz hS.fz Zd5 Zd7) (j:=0) rfl rfl (ws:= [.int .i64 x9.kind,.int .i64 x9.ZG,.int .i64 x9.name,.int .i64 x9.via,.int .i64 x9.w]) rfl) ?_ rfl;refine r2 ?_;obtain⟨Uy,Zbj,hL⟩:=bind_some hL;obtain⟨b13,o14,_,Zd2,Zd6,Zd4,Zl8⟩:=Sl.at_ YJ Zbj;refine WX.w gN rfl (ZU J2 Y2 lk lk rfl Zd2 Zbj) ?_ rfl;refine WX.w gN rfl (YD Zcc Y2 (Zv fh rfl) (At.fz hS.fz Zd4 Zd6) (j:=0) rfl rfl (ws:= [.int .i64 Uy.kind,.int .i64 Uy.ZG,.int .i64 Uy.name,.int .i64 Uy.via,.int .i64 Uy.w]) rfl) ?_ rfl;refine WX.w gN rfl (Z8 (Zv (Yc rfl fh) rfl) (Zv fh rfl) (ZeA (xs:= [.int .i64 x9.kind,.int .i64 x9.ZG,.int .i64 x9.name,.int .i64 x9.via,.int .i64 x9.w]) (ys:= [.int .i64 Uy.kind,.int .i64 Uy.ZG,.int .i64 Uy.name,.int .i64 Uy.via,.int .i64 Uy.w]) (ZEI x9 Uy) rfl rfl)) ?_ rfl;refine r2 ?_;refine cn hL ?_ ?_
   ·intro hc hL;refine r8 ?_;refine r3 ?_;exact rt hL hT hS
   ·intro hc hL;refine r6 ?_;refine r1 ?_;exact Yo.Yp (Za3 _ _ hL ⟨_,_,rfl,hS.only .n,YH⟩)
  ·intro hc hL;refine r8 ?_;refine r3 ?_;exact rt hL hT hS
theorem Zz2 {F:Nat} {h:H} {p0 p1:(List Zd)} {Zp:Option Addr} {Zo:Nat} {Z0:Option Addr} {ZY:Nat} {r:Bool} (Zx:Sl Zh h.size h Zp Zo p0) (YJ:Sl Zh h.size h Z0 ZY p1) (hL:ZqD F p0 p1=some r):Pure XX 85 #[.slice Zp p0.length Zo,.slice Z0 p1.length ZY] h (.bool r):=
 WR.Qa rfl (Zz1 (Nat.le_refl _) Zx YJ hL)
theorem Ztj {wm:Nat} {h:H} {p0:(List Zd)} {Zp:Option Addr} {Zo:Nat} {r:(List Zd)} (ZF:wm <=h.size) (Zx:Sl Zh wm h Zp Zo p0) (hL:Zn6 p0=some r):
 WR XX 86 #[.slice Zp p0.length Zo] wm h (CP (fun(v:Value) (Gb:List (Ast wm))=>∃ (Xe:Option Addr) (Xc:Nat) (Xd:Nat),v= .slice Xe Xc Xd∧Gb= [ow wm Zh Xe Xc Xd r]) [] h):=by
 refine bg Try.ntmps86 ZF ZQ.nil ?_;intro T hT hS;unfold Zn6 at hL;refine r8 ?_;rcases Sl.cases Zx with⟨rfl,rfl,rfl⟩ | ⟨qa,rfl⟩
 ·
  refine r1 ?_;refine WO.w gN rfl (Z8 (Zv fh rfl) (Jh rfl) (ZcJ J2)) ?_;refine r2 ?_;refine WC.Zft lk rfl ?_;rw [Zla _ (by decide)] at hL;replace hL:some []=some r:=hL;refine r6 ?_;refine r1 ?_;have hS:=hS.nil (e:=Zh);have hr:=Option.some.inj hL;subst hr;exact ZN.X7 rfl (Zu lk Zl) ⟨_,⟨none,0,0,rfl,rfl⟩,hT ▸ hS.only (.c k0 .n)⟩
 ·
  refine r1 ?_;refine WO.w gN rfl (Z8 (Zv fh rfl) (Jh rfl) (ZcK J2)) ?_;refine r2 ?_;refine WC.Zb4 lk rfl ?_;refine r4 ?_;refine WO.hn gN rfl (Zdd (e:=Zh) hS J2 Y2 ZeG rfl rfl rfl ZE rfl [] rfl (xs:= ([]:List Zd)) rfl (by intro q hq;cases hq) rfl) ?_;rintro _ h2 ⟨b1,eb1,rfl,hS⟩;refine r1 ?_;obtain⟨z3,hz3,hL⟩:=bind_some hL;refine WO.hv gN rfl (Zbv (e:=Zh) hS k0 Zib lk lk (Sl.src (hS.sl Zx)) rfl hz3) ?_;rintro _ h6 ⟨a4,c5,rfl,hS⟩;refine r4 ?_;have hr:=Option.some.inj hL;subst hr;exact ZN.X7 rfl (Zu lk Zl) ⟨_,⟨a4,z3.length,c5,rfl,rfl⟩,hT ▸ hS.only (.c k0 .n)⟩
theorem Zti {wm:Nat} {h:H} {p0:(List Int)} {Zp:Option Addr} {Zo:Nat} {r:(List Int)} (ZF:wm <=h.size) (Zx:Sl (ZL .i64) wm h Zp Zo p0) (hL:Zn5 p0=some r):
 WR XX 87 #[.slice Zp p0.length Zo] wm h (CP (fun(v:Value) (Gb:List (Ast wm))=>∃ (Xe:Option Addr) (Xc:Nat) (Xd:Nat),v= .slice Xe Xc Xd∧Gb= [ow wm (ZL .i64) Xe Xc Xd r]) [] h):=by
 refine bg Try.ntmps87 ZF ZQ.nil ?_;intro T hT hS;unfold Zn5 at hL;refine r8 ?_;rcases Sl.cases Zx with⟨rfl,rfl,rfl⟩ | ⟨qa,rfl⟩
 ·
  refine r1 ?_;refine WO.w gN rfl (Z8 (Zv fh rfl) (Jh rfl) (ZcJ XU)) ?_;refine r2 ?_;refine WC.Zft lk rfl ?_;rw [Zla _ (by decide)] at hL;replace hL:some []=some r:=hL;refine r6 ?_;refine r1 ?_;have hS:=hS.nil (e:= (ZL .i64));have hr:=Option.some.inj hL;subst hr;exact ZN.X7 rfl (Zu lk Zl) ⟨_,⟨none,0,0,rfl,rfl⟩,hT ▸ hS.only (.c k0 .n)⟩
 ·
  refine r1 ?_;refine WO.w gN rfl (Z8 (Zv fh rfl) (Jh rfl) (ZcK XU)) ?_;refine r2 ?_;refine WC.Zb4 lk rfl ?_;refine r4 ?_;refine WO.hn gN rfl (Zdd (e:= (ZL .i64)) hS XU YT UY rfl rfl rfl ZE rfl [] rfl (xs:= ([]:List Int)) rfl (by intro q hq;cases hq) rfl) ?_;rintro _ h2 ⟨b1,eb1,rfl,hS⟩;refine r1 ?_;obtain⟨z3,hz3,hL⟩:=bind_some hL;refine WO.hv gN rfl (Zbv (e:= (ZL .i64)) hS k0 Zer lk lk (Sl.src (hS.sl Zx)) rfl hz3) ?_;rintro _ h6 ⟨a4,c5,rfl,hS⟩;refine r4 ?_;have hr:=Option.some.inj hL;subst hr;exact ZN.X7 rfl (Zu lk Zl) ⟨_,⟨a4,z3.length,c5,rfl,rfl⟩,hT ▸ hS.only (.c k0 .n)⟩
theorem ZzY {F wm:Nat} {h:H} {p0:Store} {p1:Int} {ZI:Option Nat} {Zt:Option Addr} {Zr:Nat} {Zz:Option Addr} {Zy Xh UA:Nat} {r:(List Int)} (ZF:wm <=h.size) (YP:At h Xh UA [.int .i64 p0.machines,.int .i64 p0.names,.map ZI,.slice Zt p0.notes.length Zr,.slice Zz p0.freed.length Zy]) (YO:K7 wm h Xh) (Zx:Ul Zi Zn wm h ZI p0.cells) (Yf:Sl Zh wm h Zt Zr p0.notes) (Yh:Sl (ZL .i64) wm h Zz Zy p0.freed) (hL:Ztg F p0 p1=some r):
 WR XX 90 #[.pointer (some ⟨Xh,UA,none⟩),.int .i64 p1] wm h (CP (fun(v:Value) (Gb:List (Ast wm))=>∃ (Xe:Option Addr) (Xc:Nat) (Xd:Nat),v= .slice Xe Xc Xd∧Gb= [ow wm (ZL .i64) Xe Xc Xd r]) [] h):=by
 refine WF.ZfA (args:= [_,_]) (fn:=Try.f90) (by kernel_rfl) (by exact rfl) Try.ntmps90 (by simp) ?_;simp only [ZC,ZH,Nat.reduceAdd];obtain⟨T,hT,hS⟩:∃ T,T=Xv (wm:=wm) []∧Sp wm T h [] h:= ⟨_,rfl,Sp.start ZF ZQ.nil⟩
 unfold Ztg at hL;refine r3 ?_;rintro _ h2 ⟨b1,eb1,rfl,hS⟩;refine r6 ?_;rintro _ h4 ⟨b3,eb3,rfl,hS⟩;refine r6 ?_;refine WO.inl gN rfl (YE.fn ZsA (Zc lk Zk)) (WF.begin (args:= [_]) (fn:=Try.f71) (by kernel_rfl) (by exact rfl) Try.ntmps71 (by simp) ?_);simp only [ZC,ZH,Nat.reduceAdd];refine r3 ?_;rintro _ h6 ⟨b5,eb5,rfl,hS⟩;refine r4 ?_;refine r1 ?_;refine WO.w gN rfl (Zb8 (Zc lk Zk)) ?_;refine r4 ?_;refine ZN.X7 rfl (Zu lk Zl) ?_;refine r3 ?_;refine WC.Znn (first:= []) (cap:= [.pointer (some ⟨b5,0,none⟩)]) hS lk ZnT ?_;intro h7 l8 df9 Zw0 Zpj hS;refine WR.ZlY (r:=r) (fun(v14:(List Int)) (v:Value) (h12:H)=>∃ (a15:Option Addr) (c16:Nat) (n17:Nat),v= .tuple [].toArray∧Sp wm T h [bx wm b1 [.int .i64 p1],ow wm (ZL .i64) a15 n17 c16 v14,bx wm b3 [.slice a15 n17 c16],bx wm b5 [.pointer (some ⟨Xh,UA,none⟩)],ob wm l8 Zw0,ob wm df9 .deferred] h12) (Ze9 F p0 p1) ?_ (WF.begin (args:= [_,_]) (fn:=Try.f110) (by kernel_rfl) (by exact rfl) Try.ntmps110 (by simp) ?_)
 ·clear hL hS;rintro v14 v h12 hL ⟨a15,c16,n17,rfl,hS⟩;obtain rfl:=hS.on k1;dsimp only [Ze9] at hL;refine RgE.sp Zpj hS k4 ?_;rintro h18 hS;refine r8 ?_;refine WO.w gN rfl (ZW Zm0 (Zv fh rfl) (At.fz hS.fz YO YP) (j:=3) rfl (v:= .slice Zt p0.notes.length Zr) rfl) ?_;refine r4 ?_;refine r1 ?_;refine WC.loop (WL.lift hL (fun(p:Int×(List Int)) (s:Fs)=>match p with | (v25,v27)=>∃ (Kv:Fr) (h19:H) (a28:Option Addr) (c29:Nat) (n30:Nat),s= ⟨Kv,[⟨.collected df9,#[]⟩],h19,none⟩∧Sp wm T h [bx wm b1 [.int .i64 p1],ow wm (ZL .i64) a28 n30 c29 v27,bx wm b3 [.slice a28 n30 c29],ob wm df9 .deferred] h19∧Kv.at 3= .pointer (some ⟨b1,0,none⟩)∧Kv.at 5= .pointer (some ⟨b3,0,none⟩)∧Kv.at 29= .slice Zt p0.notes.length Zr∧Kv.at 30= .int .i64 (p0.notes.length:Int)∧Kv.at 31= .int .i64 v25) ⟨_,_,a15,c16,v14.length,rfl,hS.only (.c k0 (.c k0 (.c k0 (.c k1 .n)))),YH⟩ ?_);clear hL hS;rintro ZeV ⟨v25,v27⟩ s Zvv hL ⟨Kv,h19,a28,c29,n30,rfl,hS,e21,e22,e23,e24,e26⟩;obtain rfl:=hS.on k1;dsimp only [ZhG] at hL;refine r6 ?_;refine cn hL ?_ ?_
  ·intro hc hL;refine r2 ?_;refine WC.Zaj (r:=r) (fun(v39:(List Int)) (s:Fs)=>∃ (ZbT:Fr) (h32:H) (a40:Option Addr) (c41:Nat) (n42:Nat),s= ⟨ZbT,[⟨.collected df9,#[]⟩],h32,none⟩∧Sp wm T h [bx wm b1 [.int .i64 p1],ow wm (ZL .i64) a40 n42 c41 v39,bx wm b3 [.slice a40 n42 c41],ob wm df9 .deferred] h32∧ZbT.at 3= .pointer (some ⟨b1,0,none⟩)∧ZbT.at 5= .pointer (some ⟨b3,0,none⟩)∧ZbT.at 29= .slice Zt p0.notes.length Zr∧ZbT.at 30= .int .i64 (p0.notes.length:Int)∧ZbT.at 31= .int .i64 v25) (ZhF v25 ZeV) ?_ ?_
   ·clear hL hS;rintro v39 s hL ⟨ZbT,h32,a40,c41,n42,rfl,hS,e34,e35,e36,e37,e38⟩;obtain rfl:=hS.on k1;dsimp only [ZhF] at hL;refine r4 ?_;exact Yo.Yp (Zvv _ _ hL ⟨_,_,a40,c41,v39.length,rfl,hS.only (.c k0 (.c k0 (.c k0 (.c k0 .n)))),YH⟩)
   ·skip;refine r3 ?_;obtain⟨x43,ZnD,hL⟩:=bind_some hL;obtain⟨b44,o45,_,ZsK,ZsU,ZsQ,ZDP⟩:=Sl.at_ Yf ZnD;refine WO.w gN rfl (ZU J2 Y2 lk lk rfl ZsK ZnD) ?_;refine WO.w gN rfl (YD Zcc Y2 (Zv fh rfl) (At.fz hS.fz ZsQ ZsU) (j:=0) rfl rfl (ws:= [.int .i64 x43.kind,.int .i64 x43.ZG,.int .i64 x43.name,.int .i64 x43.via,.int .i64 x43.w]) rfl) ?_;refine r1 ?_;rintro _ h47 ⟨b46,ZIk,rfl,hS⟩;refine r1 ?_;rintro h48 hS;refine Q6 ?_;refine r3 ?_;refine cn hL ?_ ?_
    ·intro hc hL;refine r4 ?_;refine WO.hn gN rfl (Zdd (e:= (ZL .i64)) hS XU YT UY rfl rfl rfl (Zj lk ZE) rfl [((),x43.ZG)] rfl (xs:= [x43.ZG]) rfl (by intro q hq;simp only [List.mem_cons,List.not_mem_nil,or_false] at hq;subst hq;exact trivial) rfl) ?_;rintro _ h50 ⟨b49,ZIj,rfl,hS⟩;obtain⟨z51,ZGB,hL⟩:=bind_some hL;refine WO.hv gN rfl (Zbv (e:= (ZL .i64)) hS k3 Zer lk lk (hS.QZ k0) (hS.on k0) ZGB) ?_;rintro _ h54 ⟨a52,c53,rfl,hS⟩;refine r1 ?_;rintro h55 hS;refine r2 ?_;exact YI.Yp _ hL ⟨_,_,a52,c53,z51.length,rfl,hS.only (.c k4 (.c k1 (.c k0 (.c k2 .n)))),YH⟩
    ·intro hc hL;refine r2 ?_;exact YI.Yp _ hL ⟨_,_,a28,c29,v27.length,rfl,hS.only (.c k1 (.c k1 (.c k1 (.c k1 .n)))),YH⟩
  ·intro hc hL;refine Q6 ?_;refine XM.ZAA hS k3 ?_;rintro h56 hS;have hr:=Option.some.inj hL;subst hr;exact XM.gen rfl (Zu lk Zl) rfl ⟨_,⟨a28,v27.length,c29,rfl,rfl⟩,hT ▸ hS.only (.c k1 .n)⟩
 ·skip;simp only [ZC,ZH,Nat.reduceAdd];refine r6 ?_;have hS:=hS.nil (e:= (ZL .i64));refine WC.loop (WL.lift hL (fun(p:Int×(List Int)) (s:Fs)=>match p with | (v61,v63)=>∃ (Zta:Fr) (h57:H) (a64:Option Addr) (c65:Nat) (n66:Nat),s= ⟨Zta,[],h57,none⟩∧Sp wm T h [bx wm b5 [.pointer (some ⟨Xh,UA,none⟩)],bx wm b1 [.int .i64 p1],ow wm (ZL .i64) a64 n66 c65 v63,bx wm b3 [.slice a64 n66 c65],ob wm l8 Zw0,ob wm df9 .deferred] h57∧Zta.at 0= .func (.yield l8) #[] #[]∧Zta.at 1= .pointer (some ⟨b5,0,none⟩)∧Zta.at 3= .int .i64 v61) ⟨_,_,none,0,0,rfl,hS.only (.c k3 (.c k4 (.c k0 (.c k2 (.c k0 (.c k0 .n)))))),YH⟩ ?_);clear hL hS;rintro ZjS ⟨v61,v63⟩ s Zvm hL ⟨Zta,h57,a64,c65,n66,rfl,hS,e59,e60,e62⟩;obtain rfl:=hS.on k2;dsimp only [Zn3] at hL;refine r6 ?_;refine r1 ?_;refine WO.w gN rfl (ZW Xf (Zv fh rfl) (At.fz hS.fz YO YP) (j:=0) rfl (v:= .int .i64 p0.machines) rfl) ?_;refine r3 ?_;refine cn hL ?_ ?_
  ·intro hc hL;refine r8 ?_;refine r2 ?_;refine WC.loop (WL.lift hL (fun(p:Int×(List Int)) (s:Fs)=>match p with | (v73,v75)=>∃ (Zqw:Fr) (h68:H) (a76:Option Addr) (c77:Nat) (n78:Nat),s= ⟨Zqw,[],h68,none⟩∧Sp wm T h [bx wm b5 [.pointer (some ⟨Xh,UA,none⟩)],bx wm b1 [.int .i64 p1],ow wm (ZL .i64) a76 n78 c77 v75,bx wm b3 [.slice a76 n78 c77],ob wm l8 Zw0,ob wm df9 .deferred] h68∧Zqw.at 0= .func (.yield l8) #[] #[]∧Zqw.at 1= .pointer (some ⟨b5,0,none⟩)∧Zqw.at 3= .int .i64 v61∧Zqw.at 4= .int .i64 v73) ⟨_,_,a64,c65,v63.length,rfl,hS.only (.c k0 (.c k0 (.c k0 (.c k0 (.c k0 (.c k0 .n)))))),YH⟩ ?_);clear hL hS;rintro Zdl ⟨v73,v75⟩ s Zpa hL ⟨Zqw,h68,a76,c77,n78,rfl,hS,e70,e71,e72,e74⟩;obtain rfl:=hS.on k2;dsimp only [Zn2] at hL;refine r6 ?_;refine r1 ?_;refine WO.w gN rfl (ZW Xf (Zv fh rfl) (At.fz hS.fz YO YP) (j:=1) rfl (v:= .int .i64 p0.names) rfl) ?_;refine r3 ?_;refine cn hL ?_ ?_
   ·intro hc hL;refine r8 ?_;refine r1 ?_;refine WO.w gN rfl (ZW Zf8 (Zv fh rfl) (At.fz hS.fz YO YP) (j:=2) rfl (v:= .map ZI) rfl) ?_;refine r2 ?_;refine WO.w gN rfl (YV XJ (Zj lk (Zj lk ZE)) rfl (cs':= [.int .i64 v61,.int .i64 v73]) rfl) ?_;obtain⟨x80,ZyO,hL⟩:=bind_some hL;refine WO.w gN rfl (KG (kv:=Zi) (vv:=Zn) (k:= (Ze.mk v61 v73)) (z:= (Zb.mk 0 false 0 0 0 false)) YG JZ Ue (Zv (ZP rfl (Zf rfl fh)) rfl) (Zv fh rfl) (hS.ms Zx).at_ ZyO (w:= .agg [.int .i64 x80.1.name,.bool x80.1.root,.int .i64 x80.1.from_,.int .i64 x80.1.has,.int .i64 x80.1.out,.bool x80.1.use].toArray) rfl) ?_;refine r4 ?_;rintro _ h82 ⟨b81,ZMh,rfl,hS⟩;refine r1 ?_;rintro h83 hS;refine r8 ?_;refine r2 ?_;refine WO.Zhw (Zg.yes rfl rfl rfl (ZP rfl (Zf rfl fh))) (fun Zgf=>?_) (fun Zgf=>?_)
    ·replace hL:=UL Zgf hL;refine WO.Zyh (Zg.on (Zg.yes rfl rfl rfl (ZP rfl (Zf rfl fh))) Zgf) rfl (Xq (ZP rfl fh) rfl Zgf) (Zc (Xq (Zf rfl fh) rfl Zgf) (Zc (Xq fh rfl Zgf) Zk)) hS k5 Zpj rfl rfl ?_;refine r6 ?_;refine r1 ?_;rintro _ h86 ⟨b85,ZMg,rfl,hS⟩;refine r1 ?_;rintro h87 hS;refine r1 ?_;refine AsK.sp Zpj hS k6 ?_;rintro h88 hS;refine WC.jn (r:=r) (fun(v91:(List Int)) (s:Fs)=>∃ (ZEC:Fr) (h89:H) (a92:Option Addr) (c93:Nat) (n94:Nat),s= ⟨ZEC,[],h89,none⟩∧Sp wm T h [bx wm b1 [.int .i64 p1],ow wm (ZL .i64) a92 n94 c93 v91,bx wm b3 [.slice a92 n94 c93],bx wm b5 [.pointer (some ⟨Xh,UA,none⟩)],bx wm b81 [.int .i64 x80.1.name,.bool x80.1.root,.int .i64 x80.1.from_,.int .i64 x80.1.has,.int .i64 x80.1.out,.bool x80.1.use],ob wm l8 (bsy Zw0),ob wm df9 .deferred] h89) (Zkp F p0 p1 v73 Zdl) ?_ ?_
     ·clear hL hS;rintro v91 s hL ⟨ZEC,h89,a92,c93,n94,rfl,hS⟩;obtain rfl:=hS.on k1;dsimp only [Zkp] at hL;refine BdK.sp Zpj hS k5 ?_;rintro h95 hS;refine WO.w (Zg.on (Zg.yes rfl rfl rfl (Yc rfl fh)) Zgf) rfl (Zk5 lk) ?_;refine WO.w gN rfl (Zh5 lk Zgf lk) ?_;refine r2 ?_;refine cn hL ?_ ?_
      ·intro hc hL;refine r8 ?_;refine r1 ?_;exact ZN.gen (vs:= []) rfl Zl rfl ⟨_,hL,⟨a92,c93,v91.length,rfl,hS.only (.c k1 (.c k1 (.c k1 (.c k1 (.c k0 (.c k1 .n))))))⟩⟩
      ·intro hc hL;refine r8 ?_;exact Yo.Yp (Zpa _ _ hL ⟨_,_,a92,c93,v91.length,rfl,hS.only (.c k4 (.c k1 (.c k1 (.c k1 (.c k0 (.c k1 .n)))))),YH⟩)
     ·skip;refine Q6 ?_;refine r1 ?_;refine cn hL ?_ ?_
      ·intro hc hL;refine r3 ?_;refine WO.hn gN rfl (Zdd (e:= (ZL .i64)) hS XU YT UY rfl rfl rfl (Zj lk ZE) rfl [((),v61)] rfl (xs:= [v61]) rfl (by intro q hq;simp only [List.mem_cons,List.not_mem_nil,or_false] at hq;subst hq;exact trivial) rfl) ?_;rintro _ h97 ⟨b96,ZMd,rfl,hS⟩;obtain⟨z98,ZGy,hL⟩:=bind_some hL;refine WO.hv gN rfl (Zbv (e:= (ZL .i64)) hS k6 Zer lk lk (hS.QZ k0) (hS.on k0) ZGy) ?_;rintro _ ZzP ⟨a99,ZII,rfl,hS⟩;refine r1 ?_;rintro ZzO hS;refine r2 ?_;exact JnK.Yp _ hL ⟨_,_,a99,ZII,z98.length,rfl,hS.only (.c k7 (.c k1 (.c k0 (.c k4 (.c k3 (.c k1 (.c k2 .n)))))))⟩
      ·intro hc hL;refine r2 ?_;exact JnK.Yp _ hL ⟨_,_,a76,c77,v75.length,rfl,hS.only (.c k4 (.c k4 (.c k4 (.c k3 (.c k2 (.c k0 (.c k1 .n)))))))⟩
    ·replace hL:=UM Zgf hL;refine WO.Zir (Zg.yes rfl rfl rfl (ZP rfl (Zf rfl fh))) Zgf rfl ?_;refine WO.Zir (Zg.yes rfl rfl rfl (Yc rfl fh)) Zgf rfl ?_;refine WO.w gN rfl (Zh6 lk Zgf lk) ?_;refine r2 ?_;refine WC.Zb4 lk rfl ?_;refine r8 ?_;exact Yo.Yp (Zpa _ _ hL ⟨_,_,a76,c77,v75.length,rfl,hS.only (.c k1 (.c k1 (.c k1 (.c k1 (.c k1 (.c k1 .n)))))),YH⟩)
   ·intro hc hL;refine r8 ?_;refine r3 ?_;exact Yo.Yp (Zvm _ _ hL ⟨_,_,a76,c77,v75.length,rfl,hS.only (.c k0 (.c k0 (.c k0 (.c k0 (.c k0 (.c k0 .n)))))),YH⟩)
  ·intro hc hL;refine r4 ?_;refine ZN.Yp ?_;exact ZN.gen (vs:= []) rfl Zl rfl ⟨_,hL,⟨a64,c65,v63.length,rfl,hS.only (.c k1 (.c k1 (.c k1 (.c k0 (.c k0 (.c k0 .n))))))⟩⟩
theorem ZzW {F wm:Nat} {h:H} {p0:Store} {p1 p2:Int} {ZI:Option Nat} {Zt:Option Addr} {Zr:Nat} {Zz:Option Addr} {Zy Xh UA:Nat} {r:Bool} (ZF:wm <=h.size) (YP:At h Xh UA [.int .i64 p0.machines,.int .i64 p0.names,.map ZI,.slice Zt p0.notes.length Zr,.slice Zz p0.freed.length Zy]) (YO:K7 wm h Xh) (Zx:Ul Zi Zn wm h ZI p0.cells) (Yf:Sl Zh wm h Zt Zr p0.notes) (Yh:Sl (ZL .i64) wm h Zz Zy p0.freed) (hL:ZqC F p0 p1 p2=some r):
 WR XX 91 #[.pointer (some ⟨Xh,UA,none⟩),.int .i64 p1,.int .i64 p2] wm h (CP (fun(v:Value) (Gb:List (Ast wm))=>v= .bool r∧Gb= []) [] h):=by
 refine bg Try.ntmps91 ZF ZQ.nil ?_;intro T hT hS;unfold ZqC at hL;refine r4 ?_;refine r1 ?_;refine WC.scope ?_;refine r1 ?_;refine WC.label ?_;refine r6 ?_;refine r1 ?_;refine WO.w gN rfl (ZW Xf (Zv fh rfl) (At.fz hS.fz YO YP) (j:=0) rfl (v:= .int .i64 p0.machines) rfl) ?_;refine r4 ?_;refine WC.loop (WL.lift hL (fun(v7:Int) (s:Fs)=>∃ (Qo:Fr) (h1:H),s= ⟨Qo,[],h1,none⟩∧Sp wm T h [] h1∧Qo.at 0= .pointer (some ⟨Xh,UA,none⟩)∧Qo.at 1= .int .i64 p1∧Qo.at 2= .int .i64 p2∧Qo.at 13= .int .i64 p0.machines∧Qo.at 14= .int .i64 v7) ⟨_,_,rfl,hS.only .n,YH⟩ ?_);clear hL hS;rintro J5 v7 s Zhr hL ⟨Qo,h1,rfl,hS,e3,e4,e5,e6,e8⟩;dsimp only [ZhE] at hL;refine r6 ?_;refine cn hL ?_ ?_
 ·intro hc hL;refine r2 ?_;refine WC.Zaj (r:=r) (fun(_:Unit) (s:Fs)=>∃ (Q5:Fr) (h10:H),s= ⟨Q5,[],h10,none⟩∧Sp wm T h [] h10∧Q5.at 0= .pointer (some ⟨Xh,UA,none⟩)∧Q5.at 1= .int .i64 p1∧Q5.at 2= .int .i64 p2∧Q5.at 13= .int .i64 p0.machines∧Q5.at 14= .int .i64 v7) (ZhC v7 J5) ?_ ?_
  ·clear hL hS;rintro _ s hL ⟨Q5,h10,rfl,hS,e12,e13,e14,e15,e16⟩;dsimp only [ZhC] at hL;refine r4 ?_;exact Yo.Yp (Zhr _ _ hL ⟨_,_,rfl,hS.only .n,YH⟩)
  ·skip;refine Q6 ?_;refine WO.w gN rfl (ZW Zf8 (Zv fh rfl) (At.fz hS.fz YO YP) (j:=2) rfl (v:= .map ZI) rfl) ?_;refine r2 ?_;refine WO.w gN rfl (YV XJ (Zj lk (Zj lk ZE)) rfl (cs':= [.int .i64 v7,.int .i64 p1]) rfl) ?_;obtain⟨x17,ZyW,hL⟩:=bind_some hL;refine WO.w gN rfl (KG (kv:=Zi) (vv:=Zn) (k:= (Ze.mk v7 p1)) (z:= (Zb.mk 0 false 0 0 0 false)) YG JZ Ue (Zv (ZP rfl (Zf rfl fh)) rfl) (Zv fh rfl) (hS.ms Zx).at_ ZyW (w:= .agg [.int .i64 x17.1.name,.bool x17.1.root,.int .i64 x17.1.from_,.int .i64 x17.1.has,.int .i64 x17.1.out,.bool x17.1.use].toArray) rfl) ?_;refine r4 ?_;rintro _ h19 ⟨b18,ZMB,rfl,hS⟩;refine r1 ?_;rintro h20 hS;refine r8 ?_;refine r2 ?_;refine cn hL ?_ ?_
   ·intro hc hL;refine r3 ?_;exact YI.Yp _ hL ⟨_,_,rfl,hS.only .n,YH⟩
   ·intro hc hL;refine r8 ?_;refine WO.w gN rfl (ZW Xf (Zv fh rfl) (At.fz hS.fz YO YP) (j:=0) rfl (v:= .int .i64 p0.machines) rfl) ?_;refine r4 ?_;refine WC.loop (WL.lift hL (fun(p:Int×Bool×Int×Int×Bool×Int×Int×Int×Bool) (s:Fs)=>match p with | (v26,v29,v34,v36,v37,v38,v39,v40,v41)=>∃ (Zgk:Fr) (h21:H),s= ⟨Zgk,[],h21,none⟩∧Sp wm T h [bx wm b18 [.int .i64 v36,.bool v37,.int .i64 v38,.int .i64 v39,.int .i64 v40,.bool v41]] h21∧Zgk.at 0= .pointer (some ⟨Xh,UA,none⟩)∧Zgk.at 1= .int .i64 p1∧Zgk.at 2= .int .i64 p2∧Zgk.at 7= .int .i64 v26∧Zgk.at 8= .pointer (some ⟨b18,0,none⟩)∧Zgk.at 9= .bool v29∧Zgk.at 13= .int .i64 p0.machines∧Zgk.at 14= .int .i64 v7∧Zgk.at 33= .int .i64 p0.machines∧Zgk.at 34= .int .i64 v34) ⟨_,_,rfl,hS.only (.c k0 .n),YH⟩ ?_);clear hL hS;rintro Zr4 ⟨v26,v29,v34,v36,v37,v38,v39,v40,v41⟩ s Zvs hL ⟨Zgk,h21,rfl,hS,e23,e24,e25,e27,e28,e30,e31,e32,e33,e35⟩;dsimp only [ZhD] at hL;refine r6 ?_;refine cn hL ?_ ?_
    ·intro hc hL;refine Q6 ?_;refine cn hL ?_ ?_
     ·intro hc hL;refine r2 ?_;refine UX.other rfl ?_;refine r2 ?_;refine UX.other rfl ?_;refine r2 ?_;exact YI.Yp _ hL ⟨_,_,rfl,hS.only .n,YH⟩
     ·intro hc hL;refine Q6 ?_;refine r2 ?_;refine cn hL ?_ ?_
      ·intro hc hL;refine Q6 ?_;refine r1 ?_;refine YI.ret ?_;refine r3 ?_;refine Zri.ret ?_;exact rt hL hT hS
      ·intro hc hL;refine Q6 ?_;refine r1 ?_;refine WO.w gN rfl (ZW Zf8 (Zv fh rfl) (At.fz hS.fz YO YP) (j:=2) rfl (v:= .map ZI) rfl) ?_;refine r2 ?_;refine WO.w gN rfl (YV XJ (Zj lk (Zj lk ZE)) rfl (cs':= [.int .i64 v38,.int .i64 p1]) rfl) ?_;obtain⟨x43,ZnD,hL⟩:=bind_some hL;refine WO.w gN rfl (KG (kv:=Zi) (vv:=Zn) (k:= (Ze.mk v38 p1)) (z:= (Zb.mk 0 false 0 0 0 false)) YG JZ Ue (Zv (ZP rfl (Zf rfl fh)) rfl) (Zv fh rfl) (hS.ms Zx).at_ ZnD (w:= .agg [.int .i64 x43.1.name,.bool x43.1.root,.int .i64 x43.1.from_,.int .i64 x43.1.has,.int .i64 x43.1.out,.bool x43.1.use].toArray) rfl) ?_;refine r4 ?_;rintro h44 hS;refine r8 ?_;exact Yo.Yp (Zvs _ _ hL ⟨_,_,rfl,hS.only (.c k0 .n),YH⟩)
    ·intro hc hL;refine Q6 ?_;refine cn hL ?_ ?_
     ·intro hc hL;refine r6 ?_;refine r1 ?_;refine YI.ret ?_;refine r3 ?_;refine Zri.ret ?_;exact rt hL hT hS
     ·intro hc hL;refine r2 ?_;exact YI.Yp _ hL ⟨_,_,rfl,hS.only .n,YH⟩
 ·intro hc hL;refine r8 ?_;refine r3 ?_;refine Zri.ret ?_;exact rt hL hT hS
theorem ZzX {F:Nat} {h:H} {p0:Store} {p1 p2:Int} {ZI:Option Nat} {Zt:Option Addr} {Zr:Nat} {Zz:Option Addr} {Zy Xh UA:Nat} {r:Bool} (YP:At h Xh UA [.int .i64 p0.machines,.int .i64 p0.names,.map ZI,.slice Zt p0.notes.length Zr,.slice Zz p0.freed.length Zy]) (YO:K7 h.size h Xh) (Zx:Ul Zi Zn h.size h ZI p0.cells) (Yf:Sl Zh h.size h Zt Zr p0.notes) (Yh:Sl (ZL .i64) h.size h Zz Zy p0.freed) (hL:ZqC F p0 p1 p2=some r):Pure XX 91 #[.pointer (some ⟨Xh,UA,none⟩),.int .i64 p1,.int .i64 p2] h (.bool r):=
 WR.Qa rfl (ZzW (Nat.le_refl _) YP YO Zx Yf Yh hL)
end Go.Proofs.Ytekpjgmhkkjhgaa
end
end
section
namespace Go.Proofs.Ytekpjgmhkkjhgaa
open Go.Lf
def ZcB (p0:(List Int)) (p1:Int):Int ->(Int ->Option Int) ->Option Int:=fun v6 KU=>
 (bif decide (v6 < (p0.length:Int)) then(Yb p0 v6).bind fun x9=>(bif(p1==x9) then some v6 else KU (ZV (v6 + 1))) else some (-1))
def ZpC (F:Nat) (p0:(List Int)) (p1:Int):Option Int:=
 loop F (ZcB p0 p1) 0
end Go.Proofs.Ytekpjgmhkkjhgaa
end
section
set_option maxRecDepth 20000
noncomputable section
namespace Go.Proofs.Ytekpjgmhkkjhgaa
open Go.Yq Go.Lf
theorem Zwq {F wm:Nat} {h:H} {p0:(List Int)} {p1:Int} {Zp:Option Addr} {Zo:Nat} {r:Int} (ZF:wm <=h.size) (Zx:Sl (ZL .i64) wm h Zp Zo p0) (hL:ZpC F p0 p1=some r):
 WR XX 112 #[.slice Zp p0.length Zo,.int .i64 p1] wm h (CP (fun(v:Value) (Gb:List (Ast wm))=>v= .int .i64 r∧Gb= []) [] h):=by
 refine bg Try.ntmps112 ZF ZQ.nil ?_;intro T hT hS;unfold ZpC at hL;refine Q6 ?_;refine r2 ?_;refine WC.loop (WL.lift hL (fun(v6:Int) (s:Fs)=>∃ (Qo:Fr) (h1:H),s= ⟨Qo,[],h1,none⟩∧Sp wm T h [] h1∧Qo.at 0= .slice Zp p0.length Zo∧Qo.at 1= .int .i64 p1∧Qo.at 7= .int .i64 (p0.length:Int)∧Qo.at 8= .int .i64 v6) ⟨_,_,rfl,hS.only .n,YH⟩ ?_);clear hL hS;rintro KU v6 s Za3 hL ⟨Qo,h1,rfl,hS,e3,e4,e5,e7⟩;dsimp only [ZcB] at hL;refine r6 ?_;refine cn hL ?_ ?_
 ·intro hc hL;refine Q6 ?_;refine r3 ?_;obtain⟨x9,hx9,hL⟩:=bind_some hL;obtain⟨b10,o11,_,Zd3,Zd7,Zd5,Zpk⟩:=Sl.at_ Zx hx9;refine WO.w gN rfl (ZU XU YT lk lk rfl Zd3 hx9) ?_;refine WO.w gN rfl (ZW Xf (Zv fh rfl) (At.fz hS.fz Zd5 Zd7) (j:=0) rfl (v:= .int .i64 x9) rfl) ?_;refine r3 ?_;refine cn hL ?_ ?_
  ·intro hc hL;refine Q6 ?_;exact rt hL hT hS
  ·intro hc hL;refine r6 ?_;refine r1 ?_;exact Yo.Yp (Za3 _ _ hL ⟨_,_,rfl,hS.only .n,YH⟩)
 ·intro hc hL;refine r8 ?_;refine r3 ?_;exact rt hL hT hS
end Go.Proofs.Ytekpjgmhkkjhgaa
end
end
section
namespace Go.Proofs.Ytekpjgmhkkjhgaa
open Go.Lf
def Zmn (p0:Store) (p1:Zm):Option (PR Unit):=
 (KS p0.cells (Ze.mk p1.at_ p1.name) (Zb.mk 0 false 0 0 0 false)).bind fun x3=>(bif(p1.Xa==1) then(bif decide (p0.names >=12) then some (.Jc 3) else some (.ok ())) else(bif(p1.Xa==5) then(bif decide (p1.at_ >= (p0.notes.length:Int)) then some (.Jc 5) else some (.ok ())) else(bif(p1.Xa==4) then(bif((!x3.2) || (!x3.1.root)) then some (.Jc 7) else some (.ok ())) else(bif((!x3.2) || (!x3.1.use)) then some (.Jc 7) else some (.ok ())))))
def KZ (p0:Store) (p1:Zd):Option Store:=
 (app 40 p0.notes [p1]).bind fun z5=>some (Store.mk p0.machines p0.names p0.cells z5 p0.freed)
def Zml (p0:(List Zd)) (p1:Int) (p2:Int):Option (List Zd):=
 (slL p0 p1 p2).bind fun z1=>(bif(p1==p2) then some p0 else(slL p0 0 p1).bind fun z4=>(slL p0 p2 (p0.length:Int)).bind fun z13=>(app 40 z4 z13).bind fun z17=>some z17)
def Zmk (p0:Int):Option Zb:=
 some (Zb.mk p0 false (-1) 0 0 false)
end Go.Proofs.Ytekpjgmhkkjhgaa
end
section
set_option maxRecDepth 20000
noncomputable section
namespace Go.Proofs.Ytekpjgmhkkjhgaa
open Go.Yq Go.Lf
theorem ZpB {wm:Nat} {h:H} {p0:Store} {p1:Zm} {ZI:Option Nat} {Zt:Option Addr} {Zr:Nat} {Zz:Option Addr} {Zy Xh UA:Nat} {r:(PR Unit)} (ZF:wm <=h.size) (YP:At h Xh UA [.int .i64 p0.machines,.int .i64 p0.names,.map ZI,.slice Zt p0.notes.length Zr,.slice Zz p0.freed.length Zy]) (YO:K7 wm h Xh) (Zx:Ul Zi Zn wm h ZI p0.cells) (Yf:Sl Zh wm h Zt Zr p0.notes) (Yh:Sl (ZL .i64) wm h Zz Zy p0.freed) (hL:Zmn p0 p1=some r):
 WF XX 115 #[.pointer (some ⟨Xh,UA,none⟩),.agg [.int .i64 p1.Xa,.int .i64 p1.at_,.int .i64 p1.name,.int .i64 p1.ZG].toArray] wm h (PQ 32 (fun(r:Unit) (v:Value) (Gb:List (Ast wm))=>v= .tuple [].toArray∧Gb= []) [] h r):=by
 refine WF.ZfA (args:= [_,_]) (fn:=Try.f115) (by kernel_rfl) (by exact rfl) Try.ntmps115 (by simp) ?_;simp only [ZC,ZH,Nat.reduceAdd];obtain⟨T,hT,hS⟩:∃ T,T=Xv (wm:=wm) []∧Sp wm T h [] h:= ⟨_,rfl,Sp.start ZF ZQ.nil⟩
 unfold Zmn at hL;refine r3 ?_;rintro _ h2 ⟨b1,eb1,rfl,hS⟩;refine r3 ?_;refine WC.Yj mixed (by kernel_rfl) ?_;refine r3 ?_;refine WX.w gN rfl (ZW Zf8 (Zv fh rfl) (At.fz hS.fz YO YP) (j:=2) rfl (v:= .map ZI) rfl) ?_ rfl;refine r4 ?_;refine WX.w gN rfl (YV XJ (Zj lk (Zj lk ZE)) rfl (cs':= [.int .i64 p1.at_,.int .i64 p1.name]) rfl) ?_ rfl;obtain⟨x3,hx3,hL⟩:=bind_some hL;refine WX.w gN rfl (KG (kv:=Zi) (vv:=Zn) (k:= (Ze.mk p1.at_ p1.name)) (z:= (Zb.mk 0 false 0 0 0 false)) YG JZ Ue (Zv (Yc rfl (Zf rfl fh)) rfl) (Zv fh rfl) (hS.ms Zx).at_ hx3 (w:= .agg [.int .i64 x3.1.name,.bool x3.1.root,.int .i64 x3.1.from_,.int .i64 x3.1.has,.int .i64 x3.1.out,.bool x3.1.use].toArray) rfl) ?_ rfl;refine r3 ?_;refine WX.hn gN rfl (ZdQ hS Ue (vs:= [.int .i64 0,.bool false,.int .i64 0,.int .i64 0,.int .i64 0,.bool false]) rfl) ?_ rfl;rintro _ h5 ⟨b4,eb4,rfl,hS⟩;refine WX.hu gN (Uf hS k0 QR lk lk (vs:= [.int .i64 x3.1.name,.bool x3.1.root,.int .i64 x3.1.from_,.int .i64 x3.1.has,.int .i64 x3.1.out,.bool x3.1.use]) rfl rfl rfl rfl (cs':= [.int .i64 x3.1.name,.bool x3.1.root,.int .i64 x3.1.from_,.int .i64 x3.1.has,.int .i64 x3.1.out,.bool x3.1.use]) rfl) ?_ rfl rfl [] (by kernel_rfl) Z7.e;rintro h6 hS;refine WX.w gN rfl (ZR lk) ?_ (by kernel_rfl);refine Q6 ?_;refine r3 ?_;refine cn hL ?_ ?_
 ·intro hc hL;refine r4 ?_;refine r1 ?_;refine WO.w gN rfl (ZW Xf (Zv fh rfl) (At.fz hS.fz YO YP) (j:=1) rfl (v:= .int .i64 p0.names) rfl) ?_;refine r3 ?_;refine cn hL ?_ ?_
  ·intro hc hL;refine r1 ?_;refine WO.w gN rfl (ZfB lk (by kernel_rfl)) ?_;refine WO.pnc gN lk ?_;refine UX.panic ?_;refine XM.ofX ?_;refine ZaI.Jc ?_;have hr:=Option.some.inj hL;subst hr;exact⟨rfl,hT ▸ hS.only .n⟩
  ·intro hc hL;refine r2 ?_;refine XM.Yp ?_;have hr:=Option.some.inj hL;subst hr;exact XM.Zs6 rfl Zl rfl ⟨_,⟨rfl,rfl⟩,hT ▸ hS.only .n⟩
 ·intro hc hL;refine r6 ?_;refine cn hL ?_ ?_
  ·intro hc hL;refine r1 ?_;refine WC.Yj mixed (by kernel_rfl) ?_;refine r4 ?_;refine r1 ?_;refine WX.w gN rfl (ZW Zm0 (Zv fh rfl) (At.fz hS.fz YO YP) (j:=3) rfl (v:= .slice Zt p0.notes.length Zr) rfl) ?_ rfl;refine r4 ?_;refine cn hL ?_ ?_
   ·intro hc hL;refine r1 ?_;refine WO.w gN rfl (ZfB lk (by kernel_rfl)) ?_;refine WO.pnc gN lk ?_;refine UX.panic ?_;refine XM.ofX ?_;refine ZaI.Jc ?_;have hr:=Option.some.inj hL;subst hr;exact⟨rfl,hT ▸ hS.only .n⟩
   ·intro hc hL;refine r2 ?_;refine XM.Yp ?_;have hr:=Option.some.inj hL;subst hr;exact XM.Zs6 rfl Zl rfl ⟨_,⟨rfl,rfl⟩,hT ▸ hS.only .n⟩
  ·intro hc hL;refine r6 ?_;refine cn hL ?_ ?_
   ·intro hc hL;refine r8 ?_;refine r3 ?_;refine cn hL ?_ ?_
    ·intro hc hL;refine r1 ?_;refine WO.w gN rfl (ZfB lk (by kernel_rfl)) ?_;refine WO.pnc gN lk ?_;refine UX.panic ?_;refine XM.ofX ?_;refine ZaI.Jc ?_;have hr:=Option.some.inj hL;subst hr;exact⟨rfl,hT ▸ hS.only .n⟩
    ·intro hc hL;refine r2 ?_;refine XM.Yp ?_;have hr:=Option.some.inj hL;subst hr;exact XM.Zs6 rfl Zl rfl ⟨_,⟨rfl,rfl⟩,hT ▸ hS.only .n⟩
   ·intro hc hL;refine r8 ?_;refine r3 ?_;refine cn hL ?_ ?_
    ·intro hc hL;refine r1 ?_;refine WO.w gN rfl (ZfB lk (by kernel_rfl)) ?_;refine WO.pnc gN lk ?_;refine UX.panic ?_;refine XM.ofX ?_;refine ZaI.Jc ?_;have hr:=Option.some.inj hL;subst hr;exact⟨rfl,hT ▸ hS.only .n⟩
    ·intro hc hL;refine r2 ?_;refine XM.Yp ?_;have hr:=Option.some.inj hL;subst hr;exact XM.Zs6 rfl Zl rfl ⟨_,⟨rfl,rfl⟩,hT ▸ hS.only .n⟩
theorem ZgC {wm:Nat} {h:H} {p0:Store} {p1:Zd} {ZI:Nat} {Zt:Option Addr} {Zr Xi:Nat} {Zz:Option Addr} {Zy XD Xh:Nat} {r:Store} (ZF:wm <=h.size) (hO:ZQ (wm:=wm) [bx wm Xh [.int .i64 p0.machines,.int .i64 p0.names,.map (some ZI),.slice Zt Xi Zr,.slice Zz XD Zy],mp wm Zi Zn (some ZI) p0.cells,ow wm Zh Zt Xi Zr p0.notes,ow wm (ZL .i64) Zz XD Zy p0.freed] h) (hL:KZ p0 p1=some r):
 WR XX 117 #[.pointer (some ⟨Xh,0,none⟩),.agg [.int .i64 p1.kind,.int .i64 p1.ZG,.int .i64 p1.name,.int .i64 p1.via,.int .i64 p1.w].toArray] wm h (CP (fun(v:Value) (Gb:List (Ast wm))=>∃ (Jr:Nat) (Jw:Option Addr) (Jp:Nat) (Jt:Nat) (Jv:Option Addr) (Jo:Nat) (Js:Nat),v= .tuple [].toArray∧Gb= [bx wm Xh [.int .i64 r.machines,.int .i64 r.names,.map (some Jr),.slice Jw Jp Jt,.slice Jv Jo Js],mp wm Zi Zn (some Jr) r.cells,ow wm Zh Jw Jp Jt r.notes,ow wm (ZL .i64) Jv Jo Js r.freed]) [bx wm Xh [.int .i64 p0.machines,.int .i64 p0.names,.map (some ZI),.slice Zt Xi Zr,.slice Zz XD Zy],mp wm Zi Zn (some ZI) p0.cells,ow wm Zh Zt Xi Zr p0.notes,ow wm (ZL .i64) Zz XD Zy p0.freed] h):=by
 refine bg Try.ntmps117 ZF hO ?_;intro T hT hS;unfold KZ at hL;obtain rfl:=hS.on k2;obtain rfl:=hS.on k3;refine r3 ?_;rintro _ h2 ⟨b1,eb1,rfl,hS⟩;refine r2 ?_;refine WC.Yj mixed (by kernel_rfl) ?_;refine r6 ?_;refine WX.hn gN rfl (Zdd (e:=Zh) hS J2 Y2 ZeG rfl rfl rfl (Zj lk ZE) rfl [((),p1)] rfl (xs:= [p1]) rfl (by intro q hq;simp only [List.mem_cons,List.not_mem_nil,or_false] at hq;subst hq;exact trivial) rfl) ?_ rfl;rintro _ h4 ⟨b3,eb3,rfl,hS⟩;obtain⟨z5,hz5,hL⟩:=bind_some hL;refine WX.hv gN rfl (Zbv (e:=Zh) hS k4 Zib lk lk (hS.QZ k0) (hS.on k0) hz5) ?_ rfl rfl [] (by kernel_rfl) Z7.e;rintro _ h8 ⟨a6,c7,rfl,hS⟩;refine WX.w gN rfl (Zou lk) ?_ (by kernel_rfl);refine WX.w gN rfl (Xm Zki lk) ?_ (by kernel_rfl);refine WX.hu gN (Uf hS k3 Znk lk lk (vs:= [.slice a6 z5.length c7]) rfl rfl rfl rfl (cs':= [.int .i64 p0.machines,.int .i64 p0.names,.map (some ZI),.slice a6 z5.length c7,.slice Zz p0.freed.length Zy]) rfl) ?_ rfl (by kernel_rfl) [] (by kernel_rfl) Z7.e;rintro h9 hS;refine r1 ?_;refine ZN.Yp ?_;have hr:=Option.some.inj hL;subst hr;exact ZN.gen (vs:= []) rfl Zl rfl ⟨_,⟨ZI,a6,z5.length,c7,Zz,p0.freed.length,Zy,rfl,rfl⟩,hT ▸ hS.only (.c k0 (.c k3 (.c k0 (.c k2 .n))))⟩
theorem Zwm {wm:Nat} {h:H} {p0:(List Zd)} {p1 p2:Int} {Zp:Option Addr} {Zo Xo:Nat} {r:(List Zd)} (ZF:wm <=h.size) (hO:ZQ (wm:=wm) [ow wm Zh Zp Xo Zo p0] h) (hL:Zml p0 p1 p2=some r):
 WR XX 118 #[.slice Zp Xo Zo,.int .i64 p1,.int .i64 p2] wm h (CP (fun(v:Value) (Gb:List (Ast wm))=>∃ (Xe:Option Addr) (Xc:Nat) (Xd:Nat),v= .slice Xe Xc Xd∧Gb= [ow wm Zh Xe Xc Xd r]) [ow wm Zh Zp Xo Zo p0] h):=by
 refine bg Try.ntmps118 ZF hO ?_;intro T hT hS;unfold Zml at hL;obtain rfl:=hS.on k0;refine Q6 ?_;obtain⟨z1,hz1,hL⟩:=bind_some hL;refine WO.he gN rfl (ZrJ (hS.get k0).2 rfl J2 Y2 (Zv (Yc rfl fh) rfl) (Zv (ZP rfl (Zf rfl fh)) rfl) (Zv (ZP rfl fh) rfl) (Zv fh rfl) hz1) ?_;rintro v2 hv3;refine r8 ?_;refine r2 ?_;refine cn hL ?_ ?_
 ·intro hc hL;refine r8 ?_;have hr:=Option.some.inj hL;subst hr;exact ZN.X7 rfl (Zu lk Zl) ⟨_,⟨Zp,p0.length,Zo,rfl,rfl⟩,hT ▸ hS.only (.c k0 .n)⟩
 ·intro hc hL;refine r8 ?_;refine r2 ?_;refine WC.Yj mixed (by kernel_rfl) ?_;refine r2 ?_;obtain⟨z4,hz4,hL⟩:=bind_some hL;have Zhu:= (hS.get k0).2.cap;refine WX.he gN rfl (ZrI (hS.get k0).2 rfl J2 Y2 (Zv (Zf rfl fh) rfl) (Zv fh rfl) hz4) ?_ rfl;rintro _ ⟨a5,c6,ea7,ec8,rfl,ZyY⟩;have ZtJ:=ec8.symm;refine r2 ?_;obtain⟨z13,ZnB,hL⟩:=bind_some hL;refine WX.he gN rfl (ZlH (hS.get k0).2 rfl J2 Y2 (Zv (Zf rfl fh) rfl) (.inr ⟨_,Yu (Zv fh rfl)⟩) (.inl ⟨rfl,rfl⟩) ZnB) ?_ rfl;rintro _ ⟨a14,c15,rfl,ZyX⟩;obtain⟨z17,ZnA,hL⟩:=bind_some hL;have ZyN:= (ZyX.own (hS.get k0).2).src;have hS:=hS.sub k0 ZyY;refine WX.hv gN rfl (Zw9 (e:=Zh) hS k0 Zib lk lk ZyN rfl ZnA (ZtJ ▸ Nat.le_trans (ZgG hz1 hz4 ZnB ZnA) Zhu)) ?_ rfl rfl [] (by kernel_rfl) Z7.e;rintro _ h19 ⟨rfl,hS⟩;refine WX.w gN rfl (ZR lk) ?_ (by kernel_rfl);refine r8 ?_;refine WO.he gN rfl (ZrH (hS.get k0).2 J2 Y2 (Zv (ZP rfl (Zf rfl fh)) rfl) (Zv (Zf rfl fh) rfl) (Zv fh rfl) (ZgG hz1 hz4 ZnB ZnA) (ZtJ ▸ Zhu)) ?_;rintro _ ⟨a20,c21,rfl,Zy0⟩;refine WO.hw gN (Zw8 hS k0 Zy0 rfl J2 ZeG rfl (Zv fh rfl)) ?_;rintro h24 hS;refine r8 ?_;refine r1 ?_;have hr:=Option.some.inj hL;subst hr;exact ZN.X7 rfl (Zu lk Zl) ⟨_,⟨a5,z17.length,c6,rfl,rfl⟩,hT ▸ hS.only (.c k0 .n)⟩
theorem ZpA {wm:Nat} {h:H} {p0:Int} {r:Zb} (ZF:wm <=h.size) (hL:Zmk p0=some r):
 WR XX 119 #[.int .i64 p0] wm h (CP (fun(v:Value) (Gb:List (Ast wm))=>v= .agg [.int .i64 r.name,.bool r.root,.int .i64 r.from_,.int .i64 r.has,.int .i64 r.out,.bool r.use].toArray∧Gb= []) [] h):=by
 refine bg Try.ntmps119 ZF ZQ.nil ?_;intro T hT hS;unfold Zmk at hL;refine r3 ?_;rintro _ h2 ⟨b1,eb1,rfl,hS⟩;refine r4 ?_;refine r1 ?_;refine WO.w gN rfl (Y8 Zx1 (Zj lk (Zj lk ZE)) rfl (cs':= [.int .i64 p0,.bool false,.int .i64 (-1),.int .i64 0,.int .i64 0,.bool false]) rfl) ?_;refine r1 ?_;rintro h3 hS;refine r3 ?_;have hr:=Option.some.inj hL;subst hr;exact ZN.X7 rfl (ZK (ZP rfl fh) (ZT Zew QR (hS.XP k0) (j:=0) rfl rfl (ws:= [.int .i64 p0,.bool false,.int .i64 (-1),.int .i64 0,.int .i64 0,.bool false]) rfl) Zl) ⟨_,⟨rfl,rfl⟩,hT ▸ hS.only .n⟩
end Go.Proofs.Ytekpjgmhkkjhgaa
end
end
section
namespace Go.Proofs.Ytekpjgmhkkjhgaa
open Go.Lf
def ZhT (p0:Store) (p1:Int):Option Bool:=
 some ((decide (p1 >=0)) && (decide (p1 < p0.machines)))
def Zjl (p0:Int):Option Bool:=
 some (p0 !=p0)
end Go.Proofs.Ytekpjgmhkkjhgaa
end
section
set_option maxRecDepth 20000
noncomputable section
namespace Go.Proofs.Ytekpjgmhkkjhgaa
open Go.Yq Go.Lf
theorem ZkJ {wm:Nat} {h:H} {p0:Store} {p1:Int} {ZI:Option Nat} {Zt:Option Addr} {Zr:Nat} {Zz:Option Addr} {Zy Xh UA:Nat} {r:Bool} (ZF:wm <=h.size) (YP:At h Xh UA [.int .i64 p0.machines,.int .i64 p0.names,.map ZI,.slice Zt p0.notes.length Zr,.slice Zz p0.freed.length Zy]) (YO:K7 wm h Xh) (Zx:Ul Zi Zn wm h ZI p0.cells) (Yf:Sl Zh wm h Zt Zr p0.notes) (Yh:Sl (ZL .i64) wm h Zz Zy p0.freed) (hL:ZhT p0 p1=some r):
 WR XX 124 #[.pointer (some ⟨Xh,UA,none⟩),.int .i64 p1] wm h (CP (fun(v:Value) (Gb:List (Ast wm))=>v= .bool r∧Gb= []) [] h):=by
 refine bg Try.ntmps124 ZF ZQ.nil ?_;intro T hT hS;unfold ZhT at hL;refine Q6 ?_;refine r2 ?_;refine WO.gv (Zg.yes rfl rfl rfl (Yc rfl fh)) rfl (fun hg=>(ZW Xf (Xq fh rfl hg) (At.fz hS.fz YO YP) (j:=0) rfl (v:= .int .i64 p0.machines) rfl)) ?_;refine r6 ?_;exact rt hL hT hS
theorem Zwf {wm:Nat} {h:H} {p0:Int} {r:Bool} (ZF:wm <=h.size) (hL:Zjl p0=some r):
 WR XX 143 #[.int .i64 p0] wm h (CP (fun(v:Value) (Gb:List (Ast wm))=>v= .bool r∧Gb= []) [] h):=by
 refine bg Try.ntmps143 ZF ZQ.nil ?_;intro T hT hS;unfold Zjl at hL;refine Q6 ?_;refine r2 ?_;exact rt hL hT hS
theorem Zps {h:H} {p0:Int} {r:Bool} (hL:Zjl p0=some r):Pure XX 143 #[.int .i64 p0] h (.bool r):=
 WR.Qa rfl (Zwf (Nat.le_refl _) hL)
end Go.Proofs.Ytekpjgmhkkjhgaa
end
end
section
namespace Go.Proofs.Ytekpjgmhkkjhgaa
open Go.Lf
def ZqH (F:Nat) (p0:(List Qm)) (p1:Qm):Option Bool:=
 (Zz7 F p0 p1).bind fun x3=>some (decide (x3 >=0))
def Zdy (F:Nat) (p0:Za) (p1:Za):Bool ->Option Bool:=fun v7=>
 (gd v7 (ZqD F p0.notes p1.notes) default).bind fun x8=>(gd ((v7 && x8) && (p0.names==p1.names)) (ZqJ F p0.freed p1.freed) default).bind fun x9=>some (((v7 && x8) && (p0.names==p1.names)) && x9)
def ZhQ (F:Nat) (p0:Za) (p1:Za):Int ->(Int ->Option Bool) ->Option Bool:=fun v16 ZaX=>
 (bif decide (v16 < (p0.cells.length:Int)) then(Yb p0.cells v16).bind fun x19=>(Yb p1.cells v16).bind fun x24=>(Ztk F x19 x24).bind fun x29=>(bif(!x29) then(Zdy F p0 p1) false else ZaX (ZV (v16 + 1))) else(Zdy F p0 p1) true)
def Zob (F:Nat) (p0:Za) (p1:Za):Option Bool:=
 (bif((p0.cells.length:Int) != (p1.cells.length:Int)) then(Zdy F p0 p1) false else loop F (ZhQ F p0 p1) 0)
def Zfg (p0:Store) (x7:(List Zd)) (x13:(List Int)):(List (List Zb)) ->Option Za:=fun v31=>
 some (Za.mk v31 x7 p0.names x13)
def Zkx (p0:Store) (x7:(List Zd)) (x13:(List Int)) (v40:Int) (U5:(Int×(List (List Zb)) ->Option Za)):Int×(List (List Zb)) ->(Int×(List (List Zb)) ->Option Za) ->Option Za:=fun(v50,v52) ZbI=>
 (bif decide (v50 < p0.names) then(KS p0.cells (Ze.mk v40 v50) (Zb.mk 0 false 0 0 0 false)).bind fun x55=>(bif x55.2 then(Yb v52 v40).bind fun x66=>(app 48 x66 [x55.1]).bind fun z74=>(Yb v52 v40).bind fun x78=>(bif(!true) then(Zfg p0 x7 x13) (JI v52 v40 z74) else ZbI (ZV (v50 + 1),JI v52 v40 z74)) else ZbI (ZV (v50 + 1),v52)) else U5 (ZV (v40 + 1),v52))
def Zky (F:Nat) (p0:Store) (x7:(List Zd)) (x13:(List Int)):Int×(List (List Zb)) ->(Int×(List (List Zb)) ->Option Za) ->Option Za:=fun(v40,v42) U5=>
 (bif decide (v40 < p0.machines) then loop F (Zkx p0 x7 x13 v40 U5) (0,v42) else(Zfg p0 x7 x13) v42)
def ZhP (F:Nat) (p0:Store):Option Za:=
 (mkL ([]:(List Zb)) 24 p0.machines p0.machines).bind fun z3=>(Zn6 p0.notes).bind fun x7=>(Zn5 p0.freed).bind fun x13=>loop F (Zky F p0 x7 x13) (0,z3)
def Zae (v24:Int) (ZjT:(Int×(List (Ze×Zb)) ->Option Store)) (x28:(List Zb)):Int×(List (Ze×Zb)) ->(Int×(List (Ze×Zb)) ->Option Store) ->Option Store:=fun(v42,v44) Zr3=>
 (bif decide (v42 < (x28.length:Int)) then(Yb x28 v42).bind fun x46=>Zr3 (ZV (v42 + 1),YR v44 (Ze.mk v24 x46.name) x46) else ZjT (ZV (v24 + 1),v44))
def Zaf (F:Nat) (p0:Za) (x5:(List Zd)) (K8:(List Int)):Int×(List (Ze×Zb)) ->(Int×(List (Ze×Zb)) ->Option Store) ->Option Store:=fun(v24,v26) ZjT=>
 (bif decide (v24 < (p0.cells.length:Int)) then(Yb p0.cells v24).bind fun x28=>loop F (Zae v24 ZjT x28) (0,v26) else some (Store.mk (p0.cells.length:Int) p0.names v26 x5 K8))
def ZhJ (F:Nat) (p0:Za):Option Store:=
 (Zn6 p0.notes).bind fun x5=>(Zn5 p0.freed).bind fun K8=>loop F (Zaf F p0 x5 K8) (0,[])
end Go.Proofs.Ytekpjgmhkkjhgaa
end
