/- Last Part 9 of the proof. -/
import Derived.Test.YtekpjgmhkkjhgaaKa8
set_option linter.all false
section
noncomputable section
namespace Go.Yz
open Go.Lf
variable {X:Ctx} {n wm:Nat} {rd:Option Nat} {ops:Array Oper} {l:List Oper} {fr:Fr} {ds:List Deferred} {h h1 h2 h0:H} {ty:TypeId} {p:String} {af:Array Edge} {g:Option (Nat×Bool)} {m:Nat} {T:Nat ->Prop} {G Gr Ga Gb:List (Ast wm)} {d:Nat} {sf:ST}
def HW (X:Ctx) (wm:Nat) (o:Oper) (fr:Fr) (h:H) (K:H ->Prop):Prop:=∃ v E h1,Xi X h (ZV fr) o=some (.val v,E)∧E.apply wm h=some h1∧K h1
theorem WO.hw {Q:XX ->Fs ->Prop} {op:Op} {K:H ->Prop} (hg:ZO ops ⟨none,op,ty,p,af,g⟩ fr) (s:HW X wm ⟨none,op,ty,p,af,g⟩ fr h K) (k:∀ h',K h' ->WO X n wm rd ops l ⟨fr,ds,h',none⟩ Q):
 WO X n wm rd ops (⟨none,op,ty,p,af,g⟩::l) ⟨fr,ds,h,none⟩ Q:=let⟨_,_,h1,ha,hE,hk⟩:=s;WO.val hg rfl ha hE (k h1 hk)
theorem Ql {t:TypeId} {x:Operand} {lo hi mx:Option Operand} {a:Option Addr} {nn c:Nat} {vlo vhi vmx:Option Value} {v:Value} (hx:ZV fr x=some (.slice a nn c)) (el1:evo (ZV fr) lo=some vlo) (eh1:evo (ZV fr) hi=some vhi) (em1:evo (ZV fr) mx=some vmx) (hv:aslice X.P h t (.slice a nn c) vlo vhi vmx=some v):
 Xi X h (ZV fr) ⟨some d,.slice t x lo hi mx,ty,p,af,g⟩=some (.val v,.none):=by
 show(match ZV fr x,evo (ZV fr) lo,evo (ZV fr) hi,evo (ZV fr) mx with
  | some x,some lo,some hi,some mx=>bif plain x && not (ZmJ x) then(match lo,hi,mx with
     | lo,hi,mx=>bif Qw (lo.toList ++ hi.toList ++ mx.toList) then pN (Zav X.P (Instr.sliceAt t x lo hi mx)) else none)
    else vN (aslice X.P h t x lo hi mx)
  | _,_,_,_=>none)=_
 rw [hx,el1,eh1,em1];show(bif plain (.slice a nn c) && not (ZmJ (.slice a nn c)) then _ else vN (aslice X.P h t (.slice a nn c) vlo vhi vmx))=_;have:ZmJ (.slice a nn c)=true:=rfl;rw [this,Bool.not_true,Bool.and_false,cond_false,hv];rfl
section
variable {α:Type} {e:Ua α} {t el:TypeId} {x:Operand} {a:Option Addr} {nn c:Nat} {xs zs ws us:List α} {a1 a2 a3:Int}
theorem Zx3 {lo hi mx:Operand} (so:XC e wm wm h a c xs) (hn:nn=xs.length) (hu:X.P.underlying t=some (.slice el)) (hs:Z5 X.P el=some e.sz) (hx:ZV fr x=some (.slice a nn c))
 (hlo:ZV fr lo=some (.int .i64 a1)) (hhi:ZV fr hi=some (.int .i64 a2)) (hmx:ZV fr mx=some (.int .i64 (xs.length:Nat))) (hz:slL xs a1 a2=some zs):
 ∃ v,Xi X h (ZV fr) ⟨some d,.slice t x (some lo) (some hi) (some mx),ty,p,af,g⟩=some (.val v,.none):=by
 obtain⟨l,k,rfl,rfl,hlk,hkx,rfl⟩:=UQ hz;subst hn;have e1:obN (some (.int .i64 (l:Int))) 0=some l:=rfl;have e2:∀ q,obN (some (.int .i64 (k:Int))) q=some k:=fun q=>rfl
 have e3:Zb6 (.int .i64 ((xs.length:Nat):Int))=some xs.length:=rfl;rcases so.mem with⟨rfl,rfl,rfl⟩ | ⟨i,o,cs,rfl,q2,q3,q4,q5,q6⟩
 ·have hk0:k=0:=by simpa using hkx
  have hl0:l=0:=by omega
  subst hk0 hl0;refine⟨.slice none 0 0,Ql hx (YG hlo) (YG hhi) (YG hmx) ?_⟩
  have:aslice X.P h t (.slice none 0 0) (some (.int .i64 ((0:Nat):Int))) (some (.int .i64 ((0:Nat):Int))) (some (.int .i64 ((0:Nat):Int)))=some (.slice none 0 0):=by
   unfold aslice;simp only [hu,hs]
   rfl
  exact this
 ·refine⟨.slice (some ⟨i,bif Nat.beq xs.length l then o else o + l * e.sz,none⟩) (k - l) (2 * (xs.length - l)),Ql hx (YG hlo) (YG hhi) (YG hmx) ?_⟩;unfold aslice;simp only [hu,hs,e1,e2,e3];rw [Nat.ble_eq_true_of_le hlk,Nat.ble_eq_true_of_le hkx,Nat.ble_eq_true_of_le q4]
  rfl
theorem Zx2 {hi:Operand} (so:XC e wm wm h a c xs) (hn:nn=xs.length) (hu:X.P.underlying t=some (.slice el)) (hs:Z5 X.P el=some e.sz) (hx:ZV fr x=some (.slice a nn c))
 (hhi:ZV fr hi=some (.int .i64 a2)) (hz:slL xs 0 a2=some zs):
 ∃ a' c',a'=a∧c'=c∧Xi X h (ZV fr) ⟨some d,.slice t x none (some hi) none,ty,p,af,g⟩=some (.val (.slice a' zs.length c'),.none)∧Zjq e a c xs a' c' zs:=by
 obtain⟨l,k,hl0,rfl,hlk,hkx,rfl⟩:=UQ hz;have hl0:l=0:=by omega
 subst hl0 hn;have hlen:((xs.take k).drop 0).length=k:=by rw [List.drop_zero,List.length_take];omega
 have e2:∀ q,obN (some (.int .i64 (k:Int))) q=some k:=fun q=>rfl
 have e1:obN none 0=some 0:=rfl;refine⟨a,c,rfl,rfl,?_⟩;rcases so.mem with⟨rfl,rfl,rfl⟩ | ⟨i,o,cs,rfl,q2,q3,q4,q5,q6⟩
 ·have hk0:k=0:=by simpa using hkx
  subst hk0;refine⟨Ql hx rfl (YG hhi) rfl ?_,ZpJ rfl⟩
  have:aslice X.P h t (.slice none 0 0) none (some (.int .i64 ((0:Nat):Int))) none=some (.slice none 0 0):=by
   unfold aslice;simp only [hu,hs]
   rfl
  exact this
 ·refine⟨Ql hx rfl (YG hhi) rfl ?_,Zko hlk hkx (.inl ⟨by omega,by omega⟩)⟩;rw [hlen];unfold aslice;simp only [hu,hs,e1,e2];rw [Nat.ble_eq_true_of_le (Nat.zero_le k),Nat.ble_eq_true_of_le (Nat.le_trans hkx q4)];simp only [Bool.and_self,cond_true];cases hev:Nat.beq (c % 2) 0 with
  | true=>
    have:=Nat.eq_of_beq_eq_true hev;have hc:2 * (c / 2 - 0)=c:=by omega
    simp only [cond_true,Nat.zero_mul,Nat.add_zero,Nat.sub_zero];cases Nat.beq (c / 2) 0 <;> simp only [cond_true,cond_false] <;> congr 2 <;> omega
  | false=>
    simp only [cond_false]
    rfl
structure Tl (e:Ua α) (a:Option Addr) (c k n3:Nat) (a3:Option Addr):Prop where
 out:n3=0∨∃ i o,a=some ⟨i,o,none⟩∧a3=some ⟨i,o + k * e.sz,none⟩∧k + n3 <=c / 2
theorem Zx1 {lo hi:Operand} {mm:Nat} (so:XC e wm wm h a c zs) (hu:X.P.underlying t=some (.slice el)) (hs:Z5 X.P el=some e.sz) (hx:ZV fr x=some (.slice a zs.length c))
 (hlo:ZV fr lo=some (.int .i64 (zs.length:Nat))) (hhi:ZV fr hi=some (.int .i64 (mm:Nat))) (hm:zs.length <=mm) (hc:mm <=c / 2):
 ∃ a' c',Xi X h (ZV fr) ⟨some d,.slice t x (some lo) (some hi) none,ty,p,af,g⟩=some (.val (.slice a' (mm - zs.length) c'),.none)∧Tl e a c zs.length (mm - zs.length) a':=by
 have e1:obN (some (.int .i64 ((zs.length:Nat):Int))) 0=some zs.length:=rfl;have e2:∀ q,obN (some (.int .i64 (mm:Int))) q=some mm:=fun q=>rfl
 rcases so.mem with⟨rfl,rfl,rfl⟩ | ⟨i,o,cs,rfl,q2,q3,q4,q5,q6⟩
 ·have hk0:mm=0:=by omega
  subst hk0;refine⟨none,0,Ql hx (YG hlo) (YG hhi) rfl ?_,⟨.inl rfl⟩⟩
  have:aslice X.P h t (.slice none 0 0) (some (.int .i64 ((0:Nat):Int))) (some (.int .i64 ((0:Nat):Int))) none=some (.slice none 0 0):=by
   unfold aslice;simp only [hu,hs]
   rfl
  exact this
 ·have hmain:∀ v,(bif Nat.beq (c % 2) 0 then some (Value.slice (some ⟨i,bif Nat.beq (c / 2) zs.length then o else o + zs.length * e.sz,none⟩) (mm - zs.length) (2 * (c / 2 - zs.length)))
   else bif Nat.beq zs.length 0 then some (.slice (some ⟨i,o,none⟩) mm c)
   else some (.slice (some ⟨i,o + zs.length * e.sz,none⟩) (mm - zs.length) (2 * (c / 2 - zs.length) + 1)))=some v ->aslice X.P h t (.slice (some ⟨i,o,none⟩) zs.length c) (some (.int .i64 ((zs.length:Nat):Int))) (some (.int .i64 (mm:Int))) none=some v:=fun v hv=>by
   unfold aslice;simp only [hu,hs,e1,e2];rw [Nat.ble_eq_true_of_le hm,Nat.ble_eq_true_of_le hc,q3];have b2:(Nat.beq e.sz e.sz && Nat.ble 1 e.sz)=true:=by rw [Nat.beq_refl,Nat.ble_eq_true_of_le (show 1 <=e.sz from e.pos)];rfl
   simp only [b2,Bool.and_self,cond_true];exact hv
  cases hev:Nat.beq (c % 2) 0 with
  | true=>
    rw [hev] at hmain;refine⟨_,_,Ql hx (YG hlo) (YG hhi) rfl (hmain _ rfl),⟨?_⟩⟩;cases hcl:Nat.beq (c / 2) zs.length with
    | true=>have:=Nat.eq_of_beq_eq_true hcl;left;omega
    | false=>right;exact⟨i,o,rfl,rfl,by omega⟩
  | false=>
    rw [hev] at hmain;cases hl0:Nat.beq zs.length 0 with
    | true=>
      have h00:=Nat.eq_of_beq_eq_true hl0;rw [hl0] at hmain;refine⟨some ⟨i,o,none⟩,c,Ql hx (YG hlo) (YG hhi) rfl (hmain _ ?_),⟨.inr ⟨i,o,rfl,by rw [h00];simp,by omega⟩⟩⟩;rw [h00];rfl
    | false=>
      rw [hl0] at hmain;exact⟨_,_,Ql hx (YG hlo) (YG hhi) rfl (hmain _ rfl),⟨.inr ⟨i,o,rfl,rfl,by omega⟩⟩⟩
theorem Zl1 (z:List Value) (k:Nat):(Ub z k).length=k * z.length:=by unfold Ub;simp
theorem Zyu {ts:Array TypeId} {rest:List TypeId} {n3 c3:Nat} {z:Value} {a3':Option Addr} (hS:Sp wm T h0 G h) (pk:Pk G (ow wm e a nn c zs) Gr) (tl:Tl e a c zs.length n3 a3') (hts:ts.toList=t::rest) (hu:X.P.underlying t=some (.slice el)) (hz:YB X.P el=some z) (hzl:z.cells.toList.length=e.sz) (hx:ZV fr x=some (.slice a3' n3 c3)):
 HW X wm ⟨none,.call {callee:= .builtin .clear,args:=#[x],argTypes:=ts},ty,p,af,g⟩ fr h (fun h'=>Sp wm T h0 (ow wm e a nn c zs::Gr) h'):=by
 have key:∀ E,K6 X.P h t (.slice a3' n3 c3)=some E ->Xi X h (ZV fr) ⟨none,.call {callee:= .builtin .clear,args:=#[x],argTypes:=ts},ty,p,af,g⟩=some (.val (.tuple #[]),E):=fun E hE=>by
  have hev:evs (ZV fr) (#[x]:Array Operand).toList=some [.slice a3' n3 c3]:=Zc hx Zk;rw [QU,hev];show(match ts.toList with | t::_=>(match K6 X.P h t (.slice a3' n3 c3) with | some E=>some (AN.val (.tuple #[]),E) | none=>none) | []=>none)=_;rw [hts];dsimp only;rw [hE]
 obtain⟨h1,so⟩:=hS.get pk;by_cases h0':n3=0
 ·refine⟨_,.none,h,key _ ?_,rfl,hS.perm pk.perm⟩;unfold K6;simp only [hu,h0',Nat.beq_refl,cond_true]
 ·rcases tl.out with q | ⟨i,o,rfl,rfl,hcap⟩
  ·exact absurd q h0'
  ·rcases so.mem with⟨q,_⟩ | ⟨i',o',cs,q,q2,q3,q4,q5,q6⟩
   ·cases q
   ·cases q;have hb:Nat.beq n3 0=false:=by rw [Bool.eq_false_iff];intro q;exact h0' (Nat.eq_of_beq_eq_true q)
    have hfit:o + zs.length * e.sz + n3 * e.sz <=cs.length:=by
     have:(zs.length + n3) * e.sz <=c / 2 * e.sz:=Nat.mul_le_mul_right _ hcap;rw [Nat.add_mul] at this;omega
    have hzr:(Ub z.cells.toList n3).length=n3 * e.sz:=by rw [Zl1,hzl]
    have hl2:o + zs.length * e.sz + (Ub z.cells.toList n3).length <=cs.length:=by rw [hzr];exact hfit
    have hu':Up wm (fun j=>j=i) h (h.put i (.row (splice cs (o + zs.length * e.sz) (Ub z.cells.toList n3)) true e.sz)):=Up.put q2 (by rw [q3];rfl);refine⟨_,.upd i (.row (splice cs (o + zs.length * e.sz) (Ub z.cells.toList n3)) true e.sz),_,key _ ?_,?_,hS.one pk hu' (fun j q=>⟨o,by rw [q]⟩) ⟨h1,so.max,.inr ⟨i,o,_,rfl,q2,Yb (XF q3 rfl) _,q4,by rw [QY _ _ _ hl2];exact q5,?_⟩⟩ fun j q=>.inl q⟩
    ·unfold K6;simp only [hu,hb,cond_false,hz,q3,hzl];rw [Nat.ble_eq_true_of_le hfit];rfl
    ·show(bif Nat.ble wm i && (h.at i).own then some (h.put i _) else none)=_;rw [q3,Nat.ble_eq_true_of_le q2];rfl
    ·refine⟨by rw [QY _ _ _ hl2];exact q6.len,fun k x hk=>?_⟩;obtain⟨q,g1,g2⟩:=q6.get k x hk;refine⟨q,?_,e.mono (hu'.fz (Nat.le_refl _)) g2⟩;have hkl:= (List.getElem?_eq_some_iff.1 hk).1;have:(k + 1) * e.sz <=zs.length * e.sz:=Nat.mul_le_mul_right _ hkl;rw [Nat.succ_mul] at this;rw [Zdr hl2 (.inl (by omega)),g1]
theorem Zx8 {ts:Array TypeId} {x y:Operand} {J2:Nat} {b2:Option Addr} {c2:Nat} {ys:List α} (hi:ZgA X.P ts e.sz J2) (hx:ZV fr x=some (.slice a xs.length c)) (hy:ZV fr y=some (.slice b2 ys.length c2)) (so:XC e wm wm h a c xs) (sr:Src e wm h b2 c2 ys) (hr:xs.length + ys.length <=c / 2):
 ∃ E,Xi X h (ZV fr) ⟨some d,.call {callee:= .builtin .append,args:=#[x,y],argTypes:=ts},ty,p,af,g⟩=some (.val (.slice a (xs ++ ys).length c),E):=by
 obtain⟨el,z,hi⟩:=hi;obtain⟨new,n1,n2,n3⟩:=sr.reads;have n4:=n3.one n2;have hev:evs (ZV fr) (#[x,y]:Array Operand).toList=some [.slice a xs.length c,.slice b2 ys.length c2]:=Zc hx (Zc hy Zk);have hls:Qa (.slice b2 ys.length c2)=ys.length:=rfl
 have key:∀ (v:Value) (E:Eff),XU X.P h ts (.slice a xs.length c) (.slice b2 ys.length c2)=some (v,E) ->Xi X h (ZV fr) ⟨some d,.call {callee:= .builtin .append,args:=#[x,y],argTypes:=ts},ty,p,af,g⟩=some (.val v,E):=by
  intro v E hE;rw [QU,hev];show vE (XU X.P h ts (.slice a xs.length c) (.slice b2 ys.length c2))=_;rw [hE];rfl
 have hle2:(xs ++ ys).length=xs.length + ys.length:=List.length_append;by_cases hy0:ys= []
 ·subst hy0;refine⟨.none,key _ _ ?_⟩;unfold XU;rw [hi];dsimp only;rw [n1];dsimp only;rw [hls,Nat.ble_eq_true_of_le hr,hle2];rfl
 ·have hyl:0 < ys.length:=List.length_pos_iff.2 hy0;rcases so.mem with⟨rfl,rfl,rfl⟩ | ⟨i,o,cs,rfl,hlo2,hrow,hc1,hc2,hel⟩
  ·exfalso;simp at hr;exact hy0 hr
  ·refine⟨.upd i (.row (splice cs (o + xs.length * e.sz) new) true e.sz),key _ _ ?_⟩
   have hfit:o + xs.length * e.sz + new.length <=cs.length:=by
    rw [n2];have:(xs.length + ys.length) * e.sz <=c / 2 * e.sz:=Nat.mul_le_mul_right _ hr;rw [Nat.add_mul] at this;omega
   unfold XU;rw [hi];dsimp only;rw [n1];dsimp only;rw [hls,Nat.ble_eq_true_of_le hr];have b1:Nat.beq ys.length 0=false:=by rw [Bool.eq_false_iff];intro q;have:=Nat.eq_of_beq_eq_true q;omega
   rw [b1,hrow];simp only [cond_true,cond_false];rw [Nat.ble_eq_true_of_le hfit,n4,hle2];rfl
theorem Zyv {ts:Array TypeId} {x y:Operand} {J2:Nat} {b2:Option Addr} {n2 c2:Nat} {ys:List α} (hS:Sp wm T h0 G h) (pk:Pk G (ow wm e a nn c xs) Gr) (hi:ZgA X.P ts e.sz J2) (hx:ZV fr x=some (.slice a nn c)) (hy:ZV fr y=some (.slice b2 n2 c2)) (sr:Src e wm h b2 c2 ys) (hn:n2=ys.length) (ha:app J2 xs ys=some zs) (hr:zs.length <=c / 2):
 HV X wm ⟨some d,.call {callee:= .builtin .append,args:=#[x,y],argTypes:=ts},ty,p,af,g⟩ fr h (XL a) (fun v h'=>v= .slice a zs.length c∧Sp wm T h0 (ow wm e a zs.length c zs::Gr) h'):=by
 obtain⟨v,E,h1,e1,e2,e3,e4,a',c',rfl,hS'⟩:=Zec (d:=d) (ty:=ty) (p:=p) (af:=af) (g:=g) hS pk hi hx hy sr hn ha;obtain⟨h1',so⟩:=hS.get pk;obtain⟨rfl,_⟩:=ZiH ha;subst h1' hn;obtain⟨E',e5⟩:=Zx8 (d:=d) (ty:=ty) (p:=p) (af:=af) (g:=g) hi hx hy so sr (by rw [List.length_append] at hr;exact hr);rw [e5] at e1;cases e1;exact⟨_,_,h1,e5,e2,e3,e4,rfl,hS'⟩
theorem Zg7 {b:Nat} {i j:Int} {u v:List α} (h3:slL xs i j=some ws) (h1:slL xs 0 i=some u) (h2:slL xs j xs.length=some v) (ha:app b u v=some zs):zs.length <=xs.length:=by
 obtain⟨l,k,rfl,rfl,hlk,hkx,rfl⟩:=UQ h3;obtain⟨l1,k1,hl1,hk1,_,_,rfl⟩:=UQ h1;obtain⟨l2,k2,hl2,hk2,_,_,rfl⟩:=UQ h2;obtain⟨rfl,_⟩:=ZiH ha;simp only [List.length_append,List.length_drop,List.length_take];omega
end
section
variable {κ ν:Type} [DecidableEq κ] {kt vt:TypeId} {kv:κ ->Value} {vv:ν ->Value} {i:Nat} {ll:List (κ×ν)}
theorem ZzU {ts:Array TypeId} {t:TypeId} {rest:List TypeId} {x y:Operand} {k:κ} (hS:Sp wm T h0 G h) (pk:Pk G (mp wm kv vv (some i) ll) Gr) (K:ZbK X.P kt kv) (hts:ts.toList=t::rest) (hu:X.P.underlying t=some (.map kt vt)) (hx:ZV fr x=some (.map (some i))) (hy:ZV fr y=some (kv k)):
 HW X wm ⟨none,.call {callee:= .builtin .delete,args:=#[x,y],argTypes:=ts},ty,p,af,g⟩ fr h (fun h'=>Sp wm T h0 (mp wm kv vv (some i) (ZaR ll k)::Gr) h'):=by
 obtain⟨h',⟨E,ha,hE,_⟩,u,ho⟩:=ZBP (d:=none) (ty:=ty) (p:=p) (af:=af) (g:=g) K hts hu (Nat.le_refl wm) hx rfl hy (hS.get pk);exact⟨_,E,h',ha,hE,hS.one pk u (fun j e=>by cases e;rfl) ho fun j e=>.inl e⟩
end
end Go.Yz
end
end
section
noncomputable section
namespace Go.Yz
open Go.Lf
variable {X:Ctx} {n wm:Nat} {rd:Option Nat} {ops:Array Oper} {l:List Oper} {fr:Fr} {ds:List Deferred} {h h1 h2 h0:H} {ty:TypeId} {p:String} {af:Array Edge} {g:Option (Nat×Bool)} {m:Nat} {T:Nat ->Prop} {G Gr Ga Gb:List (Ast wm)} {d:Nat} {sf:ST}
def HE (X:Ctx) (o:Oper) (fr:Fr) (h:H) (K:Value ->Prop):Prop:=∃ v,Xi X h (ZV fr) o=some (.val v,.none)∧K v
theorem WO.he {Q:XX ->Fs ->Prop} {op:Op} {K:Value ->Prop} (hg:ZO ops ⟨some d,op,ty,p,af,g⟩ fr) (hd:Nat.blt d n=true) (s:HE X ⟨some d,op,ty,p,af,g⟩ fr h K) (k:∀ v,K v ->WO X n wm rd ops l ⟨Tr.set fr d v,ds,h,none⟩ Q):
 WO X n wm rd ops (⟨some d,op,ty,p,af,g⟩::l) ⟨fr,ds,h,none⟩ Q:=let⟨v,ha,hk⟩:=s;WO.w hg hd ha (k v hk)
theorem WX.he {Q:Fr ->H ->Prop} {op:Op} {K:Value ->Prop} (hg:ZO ops ⟨some d,op,ty,p,af,g⟩ fr) (hd:Nat.blt d n=true) (s:HE X ⟨some d,op,ty,p,af,g⟩ fr h K) (k:∀ v,K v ->WX X n wm rd ops sf (m + 1) h l (Tr.set fr d v) Q) (hM:okM ops sf m ⟨some d,op,ty,p,af,g⟩=true):
 WX X n wm rd ops sf m h (⟨some d,op,ty,p,af,g⟩::l) fr Q:=let⟨v,ha,hk⟩:=s;WX.w hg hd ha (k v hk) hM
section
variable {α:Type} {e:Ua α} {t el:TypeId} {x:Operand} {a:Option Addr} {nn c:Nat} {xs zs ws us:List α} {a1 a2 a3:Int}
theorem ZsW {lo hi:Option Operand} (so:XC e wm wm h a c xs) (hn:nn=xs.length) (hu:X.P.underlying t=some (.slice el)) (hs:Z5 X.P el=some e.sz) (hx:ZV fr x=some (.slice a nn c))
 (hlo:evo (ZV fr) lo=some none∧a1=0∨∃ k,evo (ZV fr) lo=some (some (.int k a1))) (hhi:evo (ZV fr) hi=some none∧a2=xs.length∨∃ k,evo (ZV fr) hi=some (some (.int k a2))) (hz:slL xs a1 a2=some zs):
 HE X ⟨some d,.slice t x lo hi none,ty,p,af,g⟩ fr h (fun v=>∃ a' c',v= .slice a' zs.length c'∧Zjq e a c xs a' c' zs):=
 let⟨a',c',h1,h2⟩:=Zvj (d:=d) (ty:=ty) (p:=p) (af:=af) (g:=g) so hn hu hs hx hlo hhi hz;⟨_,h1,a',c',rfl,h2⟩
theorem ZsV {lo hi mx:Operand} (so:XC e wm wm h a c xs) (hn:nn=xs.length) (hu:X.P.underlying t=some (.slice el)) (hs:Z5 X.P el=some e.sz) (hx:ZV fr x=some (.slice a nn c))
 (hlo:ZV fr lo=some (.int .i64 a1)) (hhi:ZV fr hi=some (.int .i64 a2)) (hmx:ZV fr mx=some (.int .i64 (xs.length:Nat))) (hz:slL xs a1 a2=some zs):
 HE X ⟨some d,.slice t x (some lo) (some hi) (some mx),ty,p,af,g⟩ fr h (fun _=>True):=let⟨v,hv⟩:=Zx3 (d:=d) (ty:=ty) (p:=p) (af:=af) (g:=g) so hn hu hs hx hlo hhi hmx hz;⟨v,hv,trivial⟩
theorem ZsT {hi:Operand} (so:XC e wm wm h a c xs) (hn:nn=xs.length) (hu:X.P.underlying t=some (.slice el)) (hs:Z5 X.P el=some e.sz) (hx:ZV fr x=some (.slice a nn c))
 (hhi:ZV fr hi=some (.int .i64 a2)) (hz:slL xs 0 a2=some zs):
 HE X ⟨some d,.slice t x none (some hi) none,ty,p,af,g⟩ fr h (fun v=>∃ a' c',a'=a∧c'=c∧v= .slice a' zs.length c'∧Zjq e a c xs a' c' zs):=
 let⟨a',c',h1,h2,h3,h4⟩:=Zx2 (d:=d) (ty:=ty) (p:=p) (af:=af) (g:=g) so hn hu hs hx hhi hz;⟨_,h3,a',c',h1,h2,rfl,h4⟩
theorem ZsS {lo hi:Operand} {mm:Nat} (so:XC e wm wm h a c zs) (hu:X.P.underlying t=some (.slice el)) (hs:Z5 X.P el=some e.sz) (hx:ZV fr x=some (.slice a zs.length c))
 (hlo:ZV fr lo=some (.int .i64 (zs.length:Nat))) (hhi:ZV fr hi=some (.int .i64 (mm:Nat))) (hm:zs.length <=mm) (hc:mm <=c / 2):
 HE X ⟨some d,.slice t x (some lo) (some hi) none,ty,p,af,g⟩ fr h (fun v=>∃ a' c',v= .slice a' (mm - zs.length) c'∧Tl e a c zs.length (mm - zs.length) a'):=
 let⟨a',c',h1,h2⟩:=Zx1 (d:=d) (ty:=ty) (p:=p) (af:=af) (g:=g) so hu hs hx hlo hhi hm hc;⟨_,h1,a',c',rfl,h2⟩
theorem ZzT {lo:Operand} {kk:IntKind} (so:XC e wm wm h a c xs) (hn:nn=xs.length) (hu:X.P.underlying t=some (.slice el)) (hs:Z5 X.P el=some e.sz) (hx:ZV fr x=some (.slice a nn c))
 (hlo:ZV fr lo=some (.int kk a1)) (hz:slL xs a1 xs.length=some zs):
 HE X ⟨some d,.slice t x (some lo) none none,ty,p,af,g⟩ fr h (fun v=>∃ a' c',v= .slice a' zs.length c'∧Zjq e a c xs a' c' zs∧Tl e a c a1.toNat zs.length a'):=by
 obtain⟨a',c',h1,h2⟩:=Zvj (lo:=some lo) (hi:=none) (d:=d) (ty:=ty) (p:=p) (af:=af) (g:=g) so hn hu hs hx (.inr ⟨_,YG hlo⟩) (.inl ⟨rfl,rfl⟩) hz;refine⟨_,h1,a',c',rfl,h2,⟨?_⟩⟩;obtain⟨l,k,rfl,hk,hlk,hkx,rfl⟩:=UQ hz;have hk:k=xs.length:=by omega
 subst hk;have hlen:((xs.take xs.length).drop l).length=xs.length - l:=by rw [List.length_drop,List.length_take];omega
 rw [hlen] at h1 ⊢;by_cases h00:xs.length - l=0
 ·exact .inl h00
 ·right;subst hn;have e1:obN (some (.int kk (l:Int))) 0=some l:=rfl;have e2:obN none xs.length=some xs.length:=rfl;rcases so.mem with⟨rfl,rfl,rfl⟩ | ⟨i,o,cs,rfl,q2,q3,q4,q5,q6⟩
  ·simp at h00
  ·refine⟨i,o,rfl,?_,by show l + _ <=_;omega⟩
   have key:∀ v,aslice X.P h t (.slice (some ⟨i,o,none⟩) xs.length c) (some (.int kk (l:Int))) none none=some v ->v= .slice a' (xs.length - l) c':=fun v hv=>by
    have:=Ql (lo:=some lo) (hi:=none) (mx:=none) (d:=d) (ty:=ty) (p:=p) (af:=af) (g:=g) hx (YG hlo) rfl rfl hv;rw [h1] at this;cases this;rfl
   unfold aslice at key;simp only [hu,hs,e1,e2] at key;rw [Nat.ble_eq_true_of_le hlk,Nat.ble_eq_true_of_le q4,q3] at key;have b2:(Nat.beq e.sz e.sz && Nat.ble 1 e.sz)=true:=by rw [Nat.beq_refl,Nat.ble_eq_true_of_le (show 1 <=e.sz from e.pos)];rfl
   simp only [b2,Bool.and_self,cond_true] at key;show a'=some ⟨i,o + l * e.sz,none⟩;cases hev:Nat.beq (c % 2) 0 with
   | true=>
     rw [hev] at key;have hcl:Nat.beq (c / 2) l=false:=by rw [Bool.eq_false_iff];intro q;have:=Nat.eq_of_beq_eq_true q;omega
     rw [hcl] at key;have:=key _ rfl;cases this;rfl
   | false=>
     rw [hev] at key;cases hl0:Nat.beq l 0 with
     | true=>
       have ZI7:=Nat.eq_of_beq_eq_true hl0;subst ZI7;rw [hl0] at key;have:=key _ rfl;cases this;simp
     | false=>
       rw [hl0] at key;have:=key _ rfl;cases this;rfl
theorem Zmg {cs vs:List Value} {q j k:Nat} (hl:q + vs.length <=cs.length) (hj:j + k <=vs.length):((splice cs q vs).drop (q + j)).take k= (vs.drop j).take k:=by
 apply List.ext_getElem?;intro t;by_cases ht:t < k
 ·rw [List.getElem?_take_of_lt ht,List.getElem?_take_of_lt ht,List.getElem?_drop,List.getElem?_drop,Zbb _ _ _ _ hl,if_pos (by omega)];congr 1;omega
 ·rw [List.getElem?_eq_none (by rw [List.length_take];omega),List.getElem?_eq_none (by rw [List.length_take];omega)]
theorem ZzV {ts:Array TypeId} {rest:List TypeId} {k n3 c3:Nat} {z:Value} {a3':Option Addr} {q0:e.Par} {x0:α} (hS:Sp wm T h0 G h) (pk:Pk G (ow wm e a nn c xs) Gr) (tl:Tl e a c k n3 a3') (hk:k + n3=xs.length) (hts:ts.toList=t::rest) (hu:X.P.underlying t=some (.slice el)) (hz:YB X.P el=some z) (hsh:z.cells.toList=e.sh q0 x0) (hF:∀ h',e.F wm h' q0 x0) (hx:ZV fr x=some (.slice a3' n3 c3)):
 HW X wm ⟨none,.call {callee:= .builtin .clear,args:=#[x],argTypes:=ts},ty,p,af,g⟩ fr h (fun h'=>Sp wm T h0 (ow wm e a nn c (xs.take k ++ List.replicate n3 x0)::Gr) h'):=by
 have hzl:z.cells.toList.length=e.sz:=by rw [hsh,e.len]
 have key:∀ E,K6 X.P h t (.slice a3' n3 c3)=some E ->Xi X h (ZV fr) ⟨none,.call {callee:= .builtin .clear,args:=#[x],argTypes:=ts},ty,p,af,g⟩=some (.val (.tuple #[]),E):=fun E hE=>by
  have hev:evs (ZV fr) (#[x]:Array Operand).toList=some [.slice a3' n3 c3]:=Zc hx Zk;rw [QU,hev];show(match ts.toList with | t::_=>(match K6 X.P h t (.slice a3' n3 c3) with | some E=>some (AN.val (.tuple #[]),E) | none=>none) | []=>none)=_;rw [hts];dsimp only;rw [hE]
 obtain⟨h1,so⟩:=hS.get pk;by_cases h0':n3=0
 ·refine⟨_,.none,h,key _ ?_,rfl,?_⟩
  ·unfold K6;simp only [hu,h0',Nat.beq_refl,cond_true]
  ·have:xs.take k ++ List.replicate n3 x0=xs:=by rw [h0',List.take_of_length_le (by omega)];simp
   rw [this];exact hS.perm pk.perm
 ·rcases tl.out with q | ⟨i,o,rfl,rfl,hcap⟩
  ·exact absurd q h0'
  ·rcases so.mem with⟨q,_⟩ | ⟨i',o',cs,q,q2,q3,q4,q5,q6⟩
   ·cases q
   ·cases q;have hb:Nat.beq n3 0=false:=by rw [Bool.eq_false_iff];intro q;exact h0' (Nat.eq_of_beq_eq_true q)
    have hle:=q6.len;have hkn:k * e.sz + n3 * e.sz=xs.length * e.sz:=by rw [← Nat.add_mul,hk]
    have hfit:o + k * e.sz + n3 * e.sz <=cs.length:=by omega
    have hzr:(Ub z.cells.toList n3).length=n3 * e.sz:=by rw [Zl1,hzl]
    have hl2:o + k * e.sz + (Ub z.cells.toList n3).length <=cs.length:=by rw [hzr];exact hfit
    have hlen:(xs.take k ++ List.replicate n3 x0).length=xs.length:=by rw [List.length_append,List.length_take,List.length_replicate];omega
    have hu':Up wm (fun j=>j=i) h (h.put i (.row (splice cs (o + k * e.sz) (Ub z.cells.toList n3)) true e.sz)):=Up.put q2 (by rw [q3];rfl);refine⟨_,.upd i (.row (splice cs (o + k * e.sz) (Ub z.cells.toList n3)) true e.sz),_,key _ ?_,?_,hS.one pk hu' (fun j q=>⟨o,by rw [q]⟩) ⟨h1.trans hlen.symm,by rw [hlen];exact so.max,.inr ⟨i,o,_,rfl,q2,Yb (XF q3 rfl) _,by rw [hlen];exact q4,by rw [QY _ _ _ hl2];exact q5,?_⟩⟩ fun j q=>.inl q⟩
    ·unfold K6;simp only [hu,hb,cond_false,hz,q3,hzl];rw [Nat.ble_eq_true_of_le hfit];rfl
    ·show(bif Nat.ble wm i && (h.at i).own then some (h.put i _) else none)=_;rw [q3,Nat.ble_eq_true_of_le q2];rfl
    ·refine⟨by rw [hlen,QY _ _ _ hl2];exact q6.len,fun j x hj=>?_⟩;by_cases hjk:j < k
     ·rw [List.getElem?_append_left (by rw [List.length_take];omega),List.getElem?_take_of_lt hjk] at hj;obtain⟨q,g1,g2⟩:=q6.get j x hj;refine⟨q,?_,e.mono (hu'.fz (Nat.le_refl _)) g2⟩;have:(j + 1) * e.sz <=k * e.sz:=Nat.mul_le_mul_right _ hjk;rw [Nat.succ_mul] at this;rw [Zdr hl2 (.inl (by omega)),g1]
     ·have hjl:j < xs.length:=by have:= (List.getElem?_eq_some_iff.1 hj).1;rwa [hlen] at this
      have hx0:x=x0:=by
       rw [List.getElem?_append_right (by rw [List.length_take];omega),List.getElem?_replicate] at hj;split at hj
       ·exact(Option.some.inj hj).symm
       ·cases hj
      refine⟨q0,?_,by rw [hx0];exact hF _⟩
      have e0:o + j * e.sz=o + k * e.sz + (j - k) * e.sz:=by
       have:k * e.sz + (j - k) * e.sz=j * e.sz:=by rw [← Nat.add_mul];congr 1;omega
       omega
      have e1:(j - k) * e.sz + e.sz <= (Ub z.cells.toList n3).length:=by
       rw [hzr];have:(j - k + 1) * e.sz <=n3 * e.sz:=Nat.mul_le_mul_right _ (by omega);rw [Nat.succ_mul] at this;exact this
      rw [e0,Zmg hl2 e1];have:=Zju z.cells.toList n3 (j - k) (by omega);rw [hzl] at this;rw [this,hsh,hx0]
end
theorem Zwa {α:Type} {xs zs:List α} {a1:Int} (hz:slL xs a1 xs.length=some zs):a1.toNat + zs.length=xs.length:=by
 obtain⟨l,k,rfl,hk,hlk,hkx,rfl⟩:=UQ hz;rw [List.length_drop,List.length_take];have:(l:Int).toNat=l:=rfl;omega
end Go.Yz
end
end
section
noncomputable section
namespace Go.Yz
open Go.Lf
variable {X:Ctx} {n wm UI:Nat} {fr:Fr} {h:H} {ty:TypeId} {p:String} {af:Array Edge} {g:Option (Nat×Bool)} {d:Nat}
section
variable {α:Type} {e:Ua α} {t el:TypeId} {x:Operand} {a:Option Addr} {nn c:Nat} {xs zs:List α} {a2:Int}
theorem Sl.pre {k:Nat} (s:Sl e wm h a c xs) (hk:k <=xs.length):Sl e wm h a c (xs.take k):=by
 have hlen:(xs.take k).length=k:=by rw [List.length_take];omega
 refine⟨by rw [hlen];exact Nat.le_trans hk s.max,by rw [hlen];exact Nat.le_trans hk s.cap,s.nl,?_⟩;rcases s.mem with q | ⟨i,o,cs,own,z,q1,q2,q3,q4⟩
 ·left;subst q;simp
 ·refine .inr ⟨i,o,cs,own,z,q1,q2,q3,?_⟩;have:=q4.piece (Nat.zero_le k) hk
  simpa using this
theorem XC.pre {k:Nat} (s:XC e wm wm h a c xs) (hk:k <=xs.length):XC e wm wm h a c (xs.take k):=by
 have hlen:(xs.take k).length=k:=by rw [List.length_take];omega
 refine⟨by rw [hlen];exact Nat.le_trans hk s.max,?_⟩;rcases s.mem with⟨q1,q2,q3⟩ | ⟨i,o,cs,q1,q2,q3,q4,q5,q6⟩
 ·left;subst q3;exact⟨q1,q2,by simp⟩
 ·refine .inr ⟨i,o,cs,q1,q2,q3,by rw [hlen];omega,q5,?_⟩;have:=q6.piece (Nat.zero_le k) hk
  simpa using this
theorem ZsU {hi:Operand} {kk:IntKind} (so:Sl e UI h a c xs) (hn:nn=xs.length) (hu:X.P.underlying t=some (.slice el)) (hs:Z5 X.P el=some e.sz) (hx:ZV fr x=some (.slice a nn c))
 (hhi:ZV fr hi=some (.int kk a2)) (hz:slL xs 0 a2=some zs):
 HE X ⟨some d,.slice t x none (some hi) none,ty,p,af,g⟩ fr h (fun v=>∃ a' c',v= .slice a' zs.length c'∧Zjq e a c xs a' c' zs):=by
 obtain⟨l,k,hl0,rfl,hlk,hkx,rfl⟩:=UQ hz;have hl0:l=0:=by omega
 subst hl0 hn;have hlen:((xs.take k).drop 0).length=k:=by rw [List.drop_zero,List.length_take];omega
 have e2:∀ q,obN (some (.int kk (k:Int))) q=some k:=fun q=>rfl
 have e1:obN none 0=some 0:=rfl
 have sub:Zjq e a c xs a c ((xs.take k).drop 0):=by
  rw [List.drop_zero];exact⟨fun s=>s.pre hkx,fun s=>s.pre hkx,fun i q=>q⟩
 refine⟨.slice a k c,?_,a,c,by rw [hlen],sub⟩;have hcap:=so.cap;rcases so.nl with⟨rfl,rfl⟩ | ⟨rfl,rfl⟩ | ⟨i,o,rfl⟩
 ·have hx0:xs= []:=List.length_eq_zero_iff.1 (by omega);subst hx0;have hk0:k=0:=by simpa using hkx
  subst hk0;refine Ql hx rfl (YG hhi) rfl ?_
  have:aslice X.P h t (.slice none 0 0) none (some (.int kk ((0:Nat):Int))) none=some (.slice none 0 0):=by
   unfold aslice;simp only [hu,hs]
   rfl
  exact this
 ·have hx0:xs= []:=List.length_eq_zero_iff.1 (by omega);subst hx0;have hk0:k=0:=by simpa using hkx
  subst hk0;refine Ql hx rfl (YG hhi) rfl ?_
  have:aslice X.P h t (.slice (some ⟨0,0,some 0⟩) 0 0) none (some (.int kk ((0:Nat):Int))) none=some (.slice (some ⟨0,0,some 0⟩) 0 0):=by
   unfold aslice;simp only [hu,hs]
   rfl
  exact this
 ·refine Ql hx rfl (YG hhi) rfl ?_;unfold aslice;simp only [hu,hs,e1,e2];rw [Nat.ble_eq_true_of_le (Nat.zero_le k),Nat.ble_eq_true_of_le (Nat.le_trans hkx hcap)];simp only [Bool.and_self,cond_true];cases hev:Nat.beq (c % 2) 0 with
  | true=>
    have:=Nat.eq_of_beq_eq_true hev;simp only [cond_true,Nat.zero_mul,Nat.add_zero,Nat.sub_zero];have hc:2 * (c / 2)=c:=by omega
    rw [hc];cases Nat.beq (c / 2) 0 <;> rfl
  | false=>
    simp only [cond_false]
    rfl
end
end Go.Yz
end
end
section
noncomputable section
namespace Go.Yz
open Go.Lf
variable {X:Ctx} {n wm:Nat} {rd:Option Nat} {ops:Array Oper} {l:List Oper} {fr:Fr} {ds:List Deferred} {h h1 h2 h0:H} {ty:TypeId} {p:String} {af:Array Edge} {g:Option (Nat×Bool)} {T:Nat ->Prop} {G Gr Ga Gb:List (Ast wm)} {d:Nat}
theorem Zs5 {α β:Type} {y:α} {p:Int ->Option β} {k:α ->Option β} {r:β} (h:prC (.ok y) p k=some r):k y=some r:=h
theorem ZpO {α β:Type} {e:Int} {p:Int ->Option β} {k:α ->Option β} {r:β} (h:prC (.Jk e) p k=some r):p e=some r:=h
theorem Ztc {α β:Type} {y:α} {p:Option β} {k:α ->Option β} {r:β} (h:opt (some y) p k=some r):k y=some r:=h
theorem Ztd {α β:Type} {p:Option β} {k:α ->Option β} {r:β} (h:opt none p k=some r):p=some r:=h
def pv (t:TypeId) (k:Int):Value:= .iface t (.int .i64 k)
def PQ {β:Type} {wm:Nat} (t:TypeId) (K:β ->Value ->List (Ast wm) ->Prop) (Ga:List (Ast wm)) (h:H) (r:PR β):WY ->H ->Prop:=fun e h'=>match r with
 | .ok b=>∃ v,e= .ret v∧CP (K b) Ga h v h'
 | .Jk k=>e= .Jk (pv t k)∧Sp wm (XD Ga) h [] h'
section
variable {β:Type} {t:TypeId} {K:β ->Value ->List (Ast wm) ->Prop} {f:FuncId} {args:Array Value}
theorem PQ.ok {b:β} (k:WF X f args wm h (PQ t K Ga h (.ok b))):WR X f args wm h (CP (K b) Ga h):=k
theorem PQ.Jk {k:Int} (w:WF X f args wm h (PQ t K Ga h (.Jk k))):∃ h',Sp wm (XD Ga) h [] h'∧Yt X (.call f args wm h) (.fin (.Jk (pv t k)) h'):=
 let⟨_,h',hq,hj⟩:=w;⟨h',hq.2,by have:=hq.1;subst this;exact hj⟩
theorem WO.clX {Q:XX ->Fs ->Prop} {op:Op} {k:Int} (hg:ZO ops ⟨some d,op,ty,p,af,g⟩ fr) (he:Y0 X fr ⟨some d,op,ty,p,af,g⟩ f args) (hS:Sp wm T h0 G h) (pk:Sel G Ga Gr)
 (hc:∀ g':H,g'.size=h.size ->Fz wm h g' ->ZT Ga g' ->WF X f args wm g' (PQ t K Ga g' (.Jk k))) (kk:∀ h',Sp wm T h0 Gr h' ->Q (.panic (pv t k)) ⟨fr,ds,h',none⟩):
 WO X n wm rd ops (⟨some d,op,ty,p,af,g⟩::l) ⟨fr,ds,h,none⟩ Q:=by
 obtain⟨h',hs,hj⟩:=PQ.Jk (hc h rfl (Fz.refl _ _) (hS.ZgY pk));exact WO.ZiB hg (he h) rfl hj (kk h' (hS.call pk hs))
theorem WO.ZJs {Q:XX ->Fs ->Prop} {op:Op} {k:Int} {K:β ->Value ->List (Ast h.size) ->Prop} (hg:ZO ops ⟨some d,op,ty,p,af,g⟩ fr) (he:Y0 X fr ⟨some d,op,ty,p,af,g⟩ f args) (hw:wm <=h.size) (hS:Sp wm T h0 G h)
 (hc:WF X f args h.size h (PQ t K [] h (.Jk k))) (kk:∀ h',Sp wm T h0 G h' ->Q (.panic (pv t k)) ⟨fr,ds,h',none⟩):
 WO X n wm rd ops (⟨some d,op,ty,p,af,g⟩::l) ⟨fr,ds,h,none⟩ Q:=by
 obtain⟨h',hs,hj⟩:=PQ.Jk hc;exact WO.ZiB hg (he h) rfl (hj.weaken hw (Nat.le_refl _)) (kk h' (Sp.clR (Gb:= []) hS hs .n))
theorem XV.Zuz {fn:Func} {rs:List ResultVar} {vs:List Value} {v:Value} {b:β} {h0:H} (hr:fn.results.toList=rs) (hv:Zda X.P fr h rs=some vs) (hl:(match vs with | [v]=>v | vs=>.tuple vs.toArray)=v) (k:CP (K b) Ga h0 v h):XV X fn wm (PQ t K Ga h0 (.ok b)) .ret ⟨fr,[],h,none⟩:=
 XV.gen (R:=fun v h'=>CP (K b) Ga h0 v h') hr hv hl k
end
def Za6 (X:Ctx) (fn:Func) (wm:Nat) (Q:WY ->H ->Prop) (pm:PM) (s:Fs):Prop:=∃ E h',Q E h'∧Yt X (.leave fn wm pm s) (.fin E h')
section
variable {fn:Func} {R:WY ->H ->Prop} {s:Fs} {v:Value} {pm:PM}
theorem XV.ofP (k:Za6 X fn wm R .ret s):XV X fn wm R .ret s:=let⟨E,h',h1,h2⟩:=k;⟨⟨.ret,E,h',rfl,h1,h2⟩⟩
theorem XV.ofX (k:Za6 X fn wm R (.Jk v) s):XV X fn wm R (.panic v) s:=let⟨E,h',h1,h2⟩:=k;⟨⟨.Jk v,E,h',rfl,h1,h2⟩⟩
theorem Za6.ofL (k:XV X fn wm R .ret s) (hp:pm= .ret):Za6 X fn wm R pm s:=by
 obtain⟨Kl,E,h',e,h1,h2⟩:=k.out;cases e;subst hp;exact⟨E,h',h1,h2⟩
theorem Za6.Jk (k:R (.Jk v) h):Za6 X fn wm R (.Jk v) ⟨fr,[],h,none⟩:=by
 refine⟨.Jk v,h,k,Jh (C:=cfg X fun _=>false) (ih:=fun _=>none) (fun _ _ h=>by cases h) ?_⟩;unfold Um
 rfl
def DC (X:Ctx) (n wm:Nat) (c:Code) (pm:PM) (s:Fs) (Q:XX ->PM ->Fs ->Prop):Prop:=∃ e Kl s',Q e Kl s'∧Yt X (.Xf c n wm pm s) (.Xf e Kl s')
structure DSq (X:Ctx) (n wm:Nat) (b:Code) (Q:XX ->PM ->Fs ->Prop) (e:XX) (pm:PM) (s:Fs):Prop where
 Yv:e= .normal
 k:DC X n wm b pm s Q
theorem DC.seq {a b:Code} {Q:XX ->PM ->Fs ->Prop} (k:DC X n wm a pm s (DSq X n wm b Q)):DC X n wm (.seq a b) pm s Q:=by
 obtain⟨e,pm1,s1,⟨rfl,e2,pm2,s2,hq,j2⟩,j1⟩:=k;obtain⟨_,_,_,q1,ka⟩:=XH.1 j1;cases q1;obtain⟨_,_,_,q2,kb⟩:=XH.1 j2;cases q2;refine⟨_,_,_,hq,XH.2 ⟨_,_,_,rfl,fun ρ a c0 cs w ZF hi hpm=>wpSIn_seq (QW (ka ρ a c0 cs w ZF hi hpm) ?_)⟩⟩;rintro e' a' cs' w' ⟨ρ',u',rfl,hp',he,hi',hst⟩;cases he;refine QW (kb ρ' a' {c0 with mode:=u'} cs w' (Nat.le_trans ZF hst.size) hi' hp') ?_;rintro e3 a3 cs3 w3 ⟨ρ3,u3,rfl,q1,q2,q3,q4⟩;exact⟨ρ3,u3,rfl,q1,q2,q3,hst.trans hi.rel.lt q4⟩
theorem DC.rgn {id:Nat} {ops:Array Oper} {dr:Bool} {Q:XX ->PM ->Fs ->Prop} (hn:(!dr && ops.toList.any isRecover)=false) (k:WC X n wm none (.region id ops dr) s (fun e s'=>Q e pm s')):DC X n wm (.region id ops dr) pm s Q:=by
 obtain⟨e,s',hq,j⟩:=k;refine⟨e,pm,s',hq,XH.2 (Ji (C:=cfg X fun _=>false) (ih:=W9 (.code (.region id ops dr) n wm none s) (.code e s')) (QH (Xg.2 ⟨_,_,rfl,j⟩)) ?_)⟩;unfold Kt;dsimp only;rw [hn];unfold ZaW;rw [QI];rfl
theorem DC.skip {Q:XX ->PM ->Fs ->Prop} (k:Q .normal pm s):DC X n wm .skip pm s Q:=by
 obtain⟨e,s',hq,j⟩:WC X n wm none .skip s (fun e s'=>Q e pm s'):=WC.skip k;refine⟨e,pm,s',hq,XH.2 (Ji (C:=cfg X fun _=>false) (ih:=W9 (.code .skip n wm none s) (.code e s')) (QH (Xg.2 ⟨_,_,rfl,j⟩)) ?_)⟩;unfold Kt ZaW;dsimp only;rw [QI];rfl
theorem DC.Zu4 {c:Operand} {a b:Code} {t:Bool} {Q:XX ->PM ->Fs ->Prop} {fr:Fr} (hc:ZV fr c=some (.bool t)) (ht:t=true) (k:DC X n wm a pm ⟨fr,ds,h,none⟩ Q):DC X n wm (.cond c a b) pm ⟨fr,ds,h,none⟩ Q:=by
 subst ht;obtain⟨e,Kl,s',hq,j⟩:=k;refine⟨e,Kl,s',hq,XH.2 (Ji (C:=cfg X fun _=>false) (ih:=W9 (.Xf a n wm pm ⟨fr,ds,h,none⟩) (.Xf e Kl s')) (QH j) ?_)⟩;unfold Kt;dsimp only;rw [hc];exact QI _ _
theorem DC.Zu5 {c:Operand} {a b:Code} {t:Bool} {Q:XX ->PM ->Fs ->Prop} {fr:Fr} (hc:ZV fr c=some (.bool t)) (ht:t=false) (k:DC X n wm b pm ⟨fr,ds,h,none⟩ Q):DC X n wm (.cond c a b) pm ⟨fr,ds,h,none⟩ Q:=by
 subst ht;obtain⟨e,Kl,s',hq,j⟩:=k;refine⟨e,Kl,s',hq,XH.2 (Ji (C:=cfg X fun _=>false) (ih:=W9 (.Xf b n wm pm ⟨fr,ds,h,none⟩) (.Xf e Kl s')) (QH j) ?_)⟩;unfold Kt;dsimp only;rw [hc];exact QI _ _
theorem DC.rec {id:Nat} {ops:Array Oper} {Q:XX ->PM ->Fs ->Prop} (Kl:PM) (fr':Fr) (hd:Znp X n wm ops.toList ops.toList pm ⟨fr,ds,h,none⟩=some (Kl,⟨fr',ds,h,none⟩)) (hn:ops.toList.any isRecover=true) (k:Q .normal Kl ⟨fr',ds,h,none⟩):DC X n wm (.region id ops false) pm ⟨fr,ds,h,none⟩ Q:=by
 refine⟨.normal,Kl,_,k,XH.2 (Ji (C:=cfg X fun _=>false) (ih:=fun _=>none) (fun _ _ h=>by cases h) ?_)⟩;unfold Kt;dsimp only;rw [hn];have hd':Znp (cfg X fun _=>false).X n wm ops.toList ops.toList pm ⟨fr,ds,h,none⟩=some (Kl,⟨fr',ds,h,none⟩):=hd;rw [hd'];rfl
structure DEn (X:Ctx) (fn:Func) (wm:Nat) (R:WY ->H ->Prop) (fr:Fr) (ds:List Deferred) (e:XX) (pm:PM) (s:Fs):Prop where
 Yv:e= .normal
 no:s.ds= []
 k:Za6 X fn wm R (ZgP pm) ⟨fr,ds,s.h,none⟩
theorem Za6.dfn {f:FuncId} {fn2:Func} {c:Code} {cap:List Value} {n2:Nat} (hf:X.fns.get f=some fn2) (hb:fn2.body=some c) (hnt:fn2.ntmps=n2) (hn:cap.length <=n2) (hr:fn2.results.toList= [])
 (k:DC X n2 wm c pm ⟨XG cap 0 .nil,[],h,none⟩ (DEn X fn wm R fr ds)):Za6 X fn wm R pm ⟨fr,⟨.fn (.func f) cap.toArray,#[]⟩::ds,h,none⟩:=by
 subst hnt;obtain⟨e,Kl,s',⟨rfl,hno,E,h',hR,jl⟩,jd⟩:=k;obtain⟨fr',ds',h2,wr'⟩:=s';dsimp only at hno jl;subst hno
 have jc:Yt X (.dcall f (([]:List Value) ++ cap).toArray pm wm h) (.Zc9 Kl h2):=by
  refine Zdj (C:=cfg X fun _=>false) (ih:=W9 (.Xf c fn2.ntmps wm pm ⟨XG cap 0 .nil,[],h,none⟩) (.Xf .normal Kl ⟨fr',[],h2,wr'⟩)) (QH jd) ?_;unfold Zew;have hf':(cfg X fun _=>false).X.fns.get f=some fn2:=hf;rw [hf'];dsimp only;rw [hb];dsimp only;have e1:Nat.ble (([]:List Value) ++ cap).toArray.toList.length fn2.ntmps=true:=Nat.ble_eq_true_of_le hn;rw [e1,cond_true];rw [List.nil_append,QI];unfold Zu3;dsimp only;have e3:QD (cfg X fun _=>false).X.P fn2 fr' h2=some (.tuple #[]):=by unfold QD;rw [hr];rfl
  rw [e3]
 refine⟨E,h',hR,?_⟩
 classical
 let ih:Q8 ->Option YD:=fun j=>if j= .dcall f (([]:List Value) ++ cap).toArray pm wm h then some (.Zc9 Kl h2) else if j= .leave fn wm (ZgP Kl) ⟨fr,ds,h2,none⟩ then some (.fin E h') else none
 refine Jh (C:=cfg X fun _=>false) (ih:=ih) ?_ ?_
 ·intro j r e;dsimp only [ih] at e;split at e
  ·rename_i hj;cases e;rw [hj];exact jc
  ·split at e
   ·rename_i hj;cases e;rw [hj];exact jl
   ·cases e
 ·unfold Um;dsimp only;have hf':(cfg X fun _=>false).X.fns.get f=some fn2:=hf;rw [hf'];dsimp only;have i1:ih (.dcall f ((#[]:Array Value).toList ++ cap.toArray.toList).toArray pm wm h)=some (.Zc9 Kl h2):=by dsimp only [ih];rw [if_pos rfl]
  rw [i1];dsimp only [ih];rw [if_neg (by intro q;cases q),if_pos rfl]
end
section
theorem WO.dfr {Q:XX ->Fs ->Prop} {fo:Operand} {ts:Array TypeId} {f:FuncId} {cap:Array Value} (hg:ZO ops ⟨none,.defer {callee:= .value fo,args:=#[],argTypes:=ts},ty,p,af,g⟩ fr) (hf:ZV fr fo=some (.func (.func f) #[] cap))
 (k:WO X n wm none ops l ⟨fr,⟨.fn (.func f) cap,#[]⟩::ds,h,none⟩ Q):WO X n wm none ops (⟨none,.defer {callee:= .value fo,args:=#[],argTypes:=ts},ty,p,af,g⟩::l) ⟨fr,ds,h,none⟩ Q:=by
 refine WO.cons (Zbo X) (s1:= ⟨fr,⟨.fn (.func f) cap,#[]⟩::ds,h,none⟩) ?_ k
 have ha:Xi X h (ZV fr) ⟨none,.defer {callee:= .value fo,args:=#[],argTypes:=ts},ty,p,af,g⟩=some (.dfr ⟨.fn (.func f) cap,#[]⟩,.none):=by
  show(match evs (ZV fr) [] with
   | some args=>(match ZV fr fo with
     | some (.func (.func g) first cap)=>some (AN.dfr {target:= .fn (.func g) cap,args:=first ++ args.toArray},Eff.none)
     | _=>none)
   | none=>none)=_
  rw [hf];rfl
 unfold WV;rw [hg.1,hg.2];dsimp only [Bool.not_true,cond_false,cond_true];rw [ha]
 rfl
theorem WO.pnc {Q:XX ->Fs ->Prop} {x:Operand} {t:TypeId} {v:Value} (hg:ZO ops ⟨none,.panic x,ty,p,af,g⟩ fr) (hx:ZV fr x=some (.iface t v)) (k:Q (.panic (.iface t v)) ⟨fr,ds,h,none⟩):WO X n wm rd ops (⟨none,.panic x,ty,p,af,g⟩::l) ⟨fr,ds,h,none⟩ Q:=by
 refine WO.panic (E:= .none) (h1:=h) hg ?_ rfl k
 show(match ZV fr x with
  | some (.iface t v)=>some (AN.panic (.iface t v),Eff.none)
  | _=>none)=_
 rw [hx]
theorem ZfX {x:Operand} {t:TypeId} {v:Value} (hx:ZV fr x=some v) (ht:(match X.P.underlying t with | some (.interface _)=>false | some _=>true | none=>false)=true):Xi X h (ZV fr) ⟨some d,.makeInterface t x,ty,p,af,g⟩=some (.val (.iface t v),.none):=by
 show(match ZV fr x,X.P.underlying t with
  | some _,some (.interface _)=>none
  | some v,some _=>some (AN.val (.iface t v),Eff.none)
  | _,_=>none)=_
 rw [hx];cases hh:X.P.underlying t with
 | none=>rw [hh] at ht;cases ht
 | some u=>
   rw [hh] at ht;cases u
   case interface=>cases ht
   all_goals rfl
end
end Go.Yz
end
end
section
noncomputable section
namespace Go.Yz
open Go.Lf
variable {X:Ctx} {n wm:Nat} {rd:Option Nat} {ops:Array Oper} {l:List Oper} {rest:Code}
theorem WO.body {s:Fs} {Q:XX ->Fs ->Prop} (k:WO X n wm rd ops l s (QB X n wm rd rest Q)):∃ e s',Q e s'∧∀ {ρ:Ren} {F:Fence} {a:Act} {w:World},Inv ρ n s a w ->wm <=s.h.size ->FR' ρ rd F ->∀ Q':Exit ->Act ->World ->Prop,(∀ e' a' w',Xw wm n ρ s.h w e s' e' a' w' ->Q' e' a' w') ->
 wpListIn F 0 X.P ops (Exit.then (rest.wpIn F 0 X.P Q') Q') l a w:=by
 obtain⟨e1,s1,hk,ho⟩:=k.out;have hk:=hk.out;cases e1 with
 | normal=>
   obtain⟨e,s',hq,hj⟩:=hk;obtain⟨_,_,q0,kb⟩:=Xg.1 hj;cases q0;refine⟨e,s',hq,fun{ρ F a w} hi hw hF Q' hQ=>ho _ hi hw hF fun e' a' w' hp=>?_⟩;obtain⟨ρ',he,hi',hst⟩:=hp;cases he;exact wpIn_mono (kb ρ' a' w' F (Nat.le_trans hw hst.size) hi' (hF.mono hst.ext)) fun e2 a2 w2 hp2=>hQ _ _ _ (Xw.trans hi.rel.lt hst hp2)
 | exit id=>
   refine⟨_,s1,hk,fun{ρ F a w} hi hw hF Q' hQ=>ho _ hi hw hF fun e' a' w' hp=>?_⟩;obtain⟨ρ',he,hi',hst⟩:=hp;cases he;exact hQ _ _ _ ⟨ρ',.exit id,hi',hst⟩
 | goto id=>
   refine⟨_,s1,hk,fun{ρ F a w} hi hw hF Q' hQ=>ho _ hi hw hF fun e' a' w' hp=>?_⟩;obtain⟨ρ',he,hi',hst⟩:=hp;cases he;exact hQ _ _ _ ⟨ρ',.goto id,hi',hst⟩
 | ret=>
   refine⟨_,s1,hk,fun{ρ F a w} hi hw hF Q' hQ=>ho _ hi hw hF fun e' a' w' hp=>?_⟩;obtain⟨ρ',he,hi',hst⟩:=hp;cases he;exact hQ _ _ _ ⟨ρ',.ret,hi',hst⟩
 | panic v=>
   refine⟨_,s1,hk,fun{ρ F a w} hi hw hF Q' hQ=>ho _ hi hw hF fun e' a' w' hp=>?_⟩;obtain⟨ρ',he,hi',hst⟩:=hp;cases he with
   | panic hv=>exact hQ _ _ _ ⟨ρ',.panic hv,hi',hst⟩
theorem EL.mem' {ρ:Ren} {es es':List MapEntry} (e:EL ρ es es') {x:MapEntry} (hx:x ∈ es):∃ x' ∈ es',x'.born=x.born:=by
 induction e with
 | nil=>cases hx
 | cons hk hp hb hv _ ih=>
   rcases List.mem_cons.1 hx with rfl | h
   ·exact⟨_,by simp,hb⟩
   ·obtain⟨x',h1,h2⟩:=ih h;exact⟨x',List.mem_cons_of_mem _ h1,h2⟩
theorem Ztz {s:Fs} {id:Nat} {o:Oper} {t it m Xb clock d:Nat} {es:List MapEntry} {T:List Nat} {v:Value} {e:XX} {s2:Fs} (Jk:Nat ->Bool)
 (hops:ops.toList=o::l) (hop:o.op= .next (.tmp t) false) (hgu:o.guard=none) (hfr:s.fr.at t= .pointer (some ⟨it,0,none⟩)) (hit:s.h.at it= .iter m clock Xb none) (hm:s.h.at m= .map es clock) (hck:clock <=Xb) (hborn:WA clock es=true) (Zov:wm <=it) (htT:t ∉ T) (hd:o.dst=some d) (hdn:d < n) (hdT:d ∈ T) (hv:plain v=true)
 (ZhY:∀ x ∈ es,∃ ex s3,(s3.ds=s.ds∧(∀ t,t ∉ T ->s3.fr.at t=s.fr.at t)∧(ex= .normal∧Jk x.born=false∨ex= .panic v∧Jk x.born=true))∧∀ {ρ:Ren} {F:Fence} {a:Act} {w:World},Inv ρ n {fr:=J4 (Ye T s.fr) o.dst (.tuple #[.bool true,x.key,x.val]),ds:=s.ds,h:=s.h.put it (.iter m clock clock (some x.born)),wr:=s.wr} a w ->s.h.size <= (s.h.put it (.iter m clock clock (some x.born))).size ->FR' ρ rd F ->∀ Q':Exit ->Act ->World ->Prop,
   (∀ e' a' w',Xw s.h.size n ρ (s.h.put it (.iter m clock clock (some x.born))) w ex s3 e' a' w' ->Q' e' a' w') ->wpListIn F 0 X.P ops (Exit.then (rest.wpIn F 0 X.P Q') Q') l a w)
 (hover:(∀ x ∈ es,Jk x.born=false) ->e ≠ .normal∧∀ {ρ:Ren} {F:Fence} {a:Act} {w:World},Inv ρ n {s with fr:=J4 (Ye T s.fr) o.dst U9,h:=s.h.put it .dead} a w ->wm <= (s.h.put it .dead).size ->FR' ρ rd F ->∀ Q':Exit ->Act ->World ->Prop,
   (∀ e' a' w',Xw wm n ρ (s.h.put it .dead) w e s2 e' a' w' ->Q' e' a' w') ->wpListIn F 0 X.P ops (Exit.then (rest.wpIn F 0 X.P Q') Q') l a w)
 (ZH5:(∃ x ∈ es,Jk x.born=true) ->e= .panic v∧s2= {s with fr:=Ye T s.fr,h:=s.h.put it .dead}):Yt X (.loop (.seq (.region id ops false) rest) n wm rd s) (.code e s2):=by
 refine Zca.2 ⟨e,s2,rfl,fun ρ a0 w0 F ZF hi0 hF=>?_⟩;obtain⟨dd,hdr⟩:∃ d,d=it:= ⟨_,rfl⟩
 have Zow:=hi0.fr.val t (by rw [hfr];rfl);rw [hfr] at Zow;generalize hpx:a0.tmps.getD t undef=px at Zow;cases Zow with
 | @ptr _ bi di _ ZdG=>
 have hoi:=hi0.rel.obj _ _ _ ZdG;rw [hit] at hoi;obtain⟨rfl,bm,ZC6,ZhT,ZtV,_,ZdH⟩:=hoi;have ZdH:=ZdH rfl;subst ZdH;have hom:=hi0.rel.obj _ _ _ ZhT;rw [hm] at hom;obtain⟨_,es',ZtT,hes⟩:=hom;have hilt:=hi0.rel.dom _ _ _ ZdG;have ZH8:=hi0.rel.dom _ _ _ ZhT;have ZoB:m ≠ it:=fun z=>by rw [z,hit] at hm;cases hm
 have hold:∀ x ∈ es'.toList,x.born < clock:=by
  intro x hx;obtain⟨y,hy,_,_,hyb,_⟩:=hes.mem hx;rw [hyb];exact ZiC hborn y hy
 have ZmP:∀ j b d,ρ j=some (b,d) ->b=bi ->j ≠ it ->((s.h.at j).live=true ->False):=by
  intro j b d hj hbb hne' hl;subst hbb;exact hne' (hi0.rel.inj it j b 0 d ZdG hj (by rw [hit];rfl) hl).symm
 have hbne:bm ≠ bi:=fun z=>ZmP m bm 0 ZhT z ZoB (by rw [hm];rfl)
 have ZD3:s.h.size= (s.h.put it .dead).size:=rfl
 have ZhV:∀ {a:Act} {w:World} {K:Act ->World ->Prop} {Q:Exit ->Act ->World ->Prop} {v:Value} {w1:World},a.tmps.getD t undef= .pointer (some ⟨bi,0,none⟩) ->(Instr.next (.pointer (some ⟨bi,0,none⟩)) false o.type).run X.P w= .ok v w1 ->
  K (a.put o.dst v) w1 ->(if Region.wanted o (yielded ops a.tmps) then o.wpIn F 0 X.P a w K Q else(∀ f,o.about X.P w a.eval=some f ->F.fn f)∧K (a.put o.dst undef) w):=by
  intro a w K Q v w1 ht hrun hK;have hw:Region.wanted o (yielded ops a.tmps)=true:=by unfold Region.wanted;rw [hgu]
  rw [if_pos hw];refine⟨fun f _=>WT hF f,?_⟩;have ZkI:o.semAt F.round a.eval=execOp a.eval o:=Oper.semAt_eq _ _ _ fun c hc=>by rw [hop] at hc;cases hc
  have he:a.eval (.tmp t)= .pointer (some ⟨bi,0,none⟩):=ht
  have hx:(execOp a.eval o).run X.P w= .ok (.value v) w1:=by
   unfold execOp;rw [hop];simp [he,hrun]
  rw [ZkI,hx];exact hK
 have ZDX:∀ t,t ∉ T ->t ≠ d:=fun t ht z=>by rw [z] at ht;exact ht hdT
 have ZmN:∀ (a:Act) (w:World),Inv ρ n {s with fr:=Ye T s.fr,h:=s.h.put it .dead} a w ->a.tmps.getD t undef= .pointer (some ⟨bi,0,none⟩):=by
  intro a w hi;have h0:VR ρ ((Ye T s.fr).at t) (a.tmps.getD t undef):=hi.fr.val t (by show QJ ((Ye T s.fr).at t)=false;rw [Xh,if_neg htT,hfr];rfl);rw [Xh,if_neg htT,hfr] at h0;generalize a.tmps.getD t undef=y at h0;cases h0 with
  | ptr _ h1=>rw [ZdG] at h1;cases h1;rfl
 have ZtP:(∀ x ∈ es,Jk x.born=false) ->∀ (a:Act) (w:World),Inv ρ n {s with fr:=Ye T s.fr,h:=s.h.put it .dead} a w ->Stp wm ρ s.h w0 ρ (s.h.put it .dead) w ->a.tmps.getD t undef= .pointer (some ⟨bi,0,none⟩) ->
  (Instr.next (.pointer (some ⟨bi,0,none⟩)) false o.type).run X.P w= .ok U9 w ->LoopIn F 0 X.P (.seq (.region id ops false) rest) (Xw wm n ρ s.h w0 e s2) a w:=by
  intro hall a w hi hst ht hrun;obtain⟨hne,hover⟩:=hover hall;refine XA (wpIn_seq (wpIn_region_list ?_));rw [hops];refine ZhV ht hrun ?_
  have hio:Inv ρ n {s with fr:=J4 (Ye T s.fr) o.dst U9,h:=s.h.put it .dead} (a.put o.dst U9) w:=by
   refine⟨hi.rel,?_,?_⟩
   ·rw [hd];exact hi.fr.set hdn (VR.ZK rfl)
   ·rw [hd];exact hi.ds
  refine hover hio ZF hF _ fun e3 a3 w3 hp=>?_
  have hp2:=Xw.trans hi0.rel.lt hst hp;obtain⟨ρ3,hx3,hi3,Wo⟩:=hp2;cases hx3 with
  | normal=>exact(hne rfl).elim
  | exit id=>exact⟨ρ3,.exit id,hi3,Wo⟩
  | goto id=>exact⟨ρ3,.goto id,hi3,Wo⟩
  | ret=>exact⟨ρ3,.ret,hi3,Wo⟩
  | panic hv=>exact⟨ρ3,.panic hv,hi3,Wo⟩
 have Zy3:∀ seen:Array Nat,(∀ b,seen.contains b=true ->Jk b=false) ->(leftOf es' seen).size=0 ->∀ x ∈ es,Jk x.born=false:=by
  intro seen ZjM h00 x hx;obtain⟨y,hy,hyb⟩:=hes.mem' hx;refine ZjM _ ?_;cases hc:seen.contains x.born with
  | true=>rfl
  | false=>
    exfalso;have:y ∈ leftOf es' seen:=Array.mem_filter.2 ⟨Array.mem_toList_iff.1 hy,by rw [hyb,hc];rfl⟩;rw [Array.eq_empty_of_size_eq_zero h00] at this;simp at this
 have head:∀ (k:Nat) (seen:Array Nat) (last:Nat) (a:Act) (w:World),(∀ b,seen.contains b=true ->Jk b=false) ->(leftOf es' seen).size <=k ->clock <=last ->w.heap[bi]? =some (.mapIter (some bm) clock seen last) ->w.heap[bm]? =some (.map es' clock) ->
  Inv ρ n {s with fr:=Ye T s.fr,h:=s.h.put it .dead} a w ->
  Stp wm ρ s.h w0 ρ (s.h.put it .dead) w ->LoopIn F 0 X.P (.seq (.region id ops false) rest) (Xw wm n ρ s.h w0 e s2) a w:=by
  intro k
  induction k with
  | zero=>
    intro seen last a w ZjM hk hlast hblk Zem hi hst;have ht:=ZmN a w hi;rcases ZgT (P:=X.P) o.type hblk Zem hold (hlast) with⟨h00,hrun⟩ | ⟨e',he',_⟩
    ·exact ZtP (Zy3 seen ZjM h00) a w hi hst ht hrun
    ·have:=Array.length_toList ▸ List.length_pos_of_mem he';omega
  | succ k ihk=>
    intro seen last a w ZjM hk hlast hblk Zem hi hst;have ht:=ZmN a w hi;rcases ZgT (P:=X.P) o.type hblk Zem hold (hlast) with⟨h00,hrun⟩ | ⟨e',he',w1,hw1,hsame,hrun⟩
    ·exact ZtP (Zy3 seen ZjM h00) a w hi hst ht hrun
    ·have hmem:= (mem_left he').1;obtain⟨x,hx,hkey,hkp,hbn,hval⟩:=hes.mem hmem;obtain⟨ex,s3,⟨ZAB,hwr,hpn⟩,hbody⟩:=ZhY x hx;have ZtU:bi < w.heap.size:= (hi.rel.dom _ _ _ ZdG).2;have ZD1:bm < w.heap.size:= (hi.rel.dom _ _ _ ZhT).2;obtain⟨w2,hw2⟩:∃ w2,w2=w1.putObj bi (.mapIter (some bm) clock (seen.push e'.born) clock):= ⟨_,rfl⟩
     rw [← hw2] at hrun;have hsz2:w2.heap.size=w.heap.size:=by rw [hw2,World.putObj_size,hw1]
     have hother:∀ k,k ≠ bi ->w2.heap[k]? =w.heap[k]?:=fun k hk=>by rw [hw2,World.putObj_heap_other hk,hw1]
     have ZtW:w2.heap[bi]? =some (.mapIter (some bm) clock (seen.push e'.born) clock):=by rw [hw2];exact World.putObj_heap_same (by rw [hw1];exact ZtU)
     have ZdI:Same w w2:=by rw [hw2];exact⟨hsame.os,hsame.tape,hsame.output⟩
     have hrel:Rel ρ (s.h.put it (.iter m clock clock (some x.born))) w2:=by
      refine Zhx hi.rel ZdG ZmP hother hsz2 ⟨rfl,bm,seen.push e'.born,ZhT,ZtW,fun z hz=>?_,fun z=>by cases z⟩;cases hz;rw [← hbn];simp
     have hie:Inv ρ n {fr:=J4 (Ye T s.fr) o.dst (.tuple #[.bool true,x.key,x.val]),ds:=s.ds,h:=s.h.put it (.iter m clock clock (some x.born)),wr:=s.wr} (a.put o.dst (.tuple #[.bool true,e'.key,e'.val])) w2:=by
      refine⟨hrel,?_,?_⟩
      ·rw [hd];refine hi.fr.set hdn (.tuple _ _ rfl fun j y y' p q=>?_)
       match j,p,q with
       | 0,p,q=>simp at p q;subst p q;exact .bool true
       | 1,p,q=>simp at p q;subst p q;rw [hkey];exact VR.ZK hkp
       | 2,p,q=>simp at p q;subst p q;exact hval
       | j + 3,p,q=>simp at p
      ·rw [hd];exact hi.ds
     refine XA (wpIn_seq (wpIn_region_list ?_));rw [hops];refine ZhV ht hrun ?_;refine hbody hie (Nat.le_refl _) hF _ fun e3 a3 w3 hp=>?_
     obtain⟨ρ3,hx3,hi3,Wo⟩:=hp;obtain⟨q1,q2⟩:=ZaX hrel Wo;have ZoC:∀ b,b < w2.heap.size ->w3.heap[b]? =w2.heap[b]?:=fun b hb=>Wo.frame b hb fun i d hi' e _=>by have:=hrel.lt i _ e;simp at this hi';omega
     have hinv:Inv ρ n {s with fr:=Ye T s.fr,h:=s.h.put it .dead} a3 w3:=by
      refine⟨?_,⟨hi3.fr.size,fun t hany=>?_⟩,?_⟩
      ·refine(ZbX (i:=it) q1).congr rfl fun i=>?_
       rw [H.Xu,H.Xu];by_cases hii:i=it∧i < s.h.size
       ·rw [if_pos hii,if_pos (by simpa using hii)]
       ·rw [if_neg hii,if_neg (by simpa using hii),H.Xu,if_neg hii]
      ·change QJ ((Ye T s.fr).at t)=false at hany
       show VR ρ ((Ye T s.fr).at t) _;rw [Xh] at hany ⊢;by_cases Zcc:t ∈ T
       ·rw [if_pos Zcc] at hany;cases hany
       ·rw [if_neg Zcc] at hany ⊢;have h0:=hi.fr.val t (by show QJ ((Ye T s.fr).at t)=false;rw [Xh,if_neg Zcc];exact hany);have h0:VR ρ ((Ye T s.fr).at t) _:=h0;rw [Xh,if_neg Zcc] at h0;have h1:=hi3.fr.val t (by rw [hwr t Zcc];exact hany);rw [hwr t Zcc] at h1;exact VR.back Wo.ext h0 h1
      ·have h0:DsR ρ s.ds a.defers:=hi.ds;have h1:=hi3.ds;rw [ZAB] at h1;exact DsR.back Wo.ext h0 h1
     have hstp:Stp wm ρ s.h w0 ρ (s.h.put it .dead) w3:=by
      refine⟨Ren.le_refl _,hst.size,hst.keep,hst.own,hst.live,Wo.os.trans (ZdI.os.trans hst.os),Wo.tape.trans (ZdI.tape.trans hst.tape),Wo.output.trans (ZdI.output.trans hst.output),
       Nat.le_trans hst.Y3 (by rw [← hsz2];exact Wo.Y3),fun b hb hno=>?_,fun i b d p q=>by rw [p] at q;cases q⟩
      have hbb:b ≠ bi:=fun z=>by subst z;exact hno it 0 Zov ZdG (by rw [hit];rfl)
      have:=hst.Y3;rw [ZoC b (by omega),hother b hbb,hst.frame b hb hno]
     rcases hpn with⟨rfl,hpf⟩ | ⟨rfl,hpt⟩
     ·cases hx3;show LoopIn F 0 X.P _ _ a3 w3
      exact ihk (seen.push e'.born) clock a3 w3 (fun b hb=>by
       rw [contains_push] at hb;rcases Bool.or_eq_true_iff.1 hb with z | z
       ·exact ZjM b z
       ·have:b=e'.born:=by simpa using z
        rw [this,hbn];exact hpf) (by have:=left_shrinks es' seen e' he';omega) (Nat.le_refl _) (by rw [ZoC bi (by omega)];exact ZtW) (by rw [ZoC bm (by omega),hother bm hbne];exact Zem) hinv hstp
     ·obtain⟨he,ZHZ⟩:=ZH5 ⟨x,hx,hpt⟩;cases hx3 with
      | panic hv3=>
        show Xw wm n ρ s.h w0 e s2 _ a3 w3;rw [he,ZHZ];have:=VR.YE hv hv3;subst this;exact⟨ρ,.panic (VR.ZK hv),hinv,hstp⟩
 have ZAq:Stp wm ρ s.h w0 ρ (s.h.put it .dead) w0:=by
  have kk:=Ui (h:=s.h) (A:= .dead) Zov (by rw [hit];rfl);exact⟨Ren.le_refl _,Nat.le_refl _,kk.keep,kk.own,kk.live,rfl,rfl,rfl,Nat.le_refl _,fun _ _ _=>rfl,fun i b d e e'=>by rw [e] at e';cases e'⟩
 refine head _ #[] Xb a0 w0 (fun b hb=>by simp at hb) (Nat.le_refl _) hck ZtV ZtT ⟨ZbX hi0.rel,⟨hi0.fr.size,fun t hany=>?_⟩,hi0.ds⟩ ZAq
 change QJ ((Ye T s.fr).at t)=false at hany
 show VR ρ ((Ye T s.fr).at t) _;rw [Xh] at hany ⊢;by_cases ht:t ∈ T
 ·rw [if_pos ht] at hany;cases hany
 ·rw [if_neg ht] at hany ⊢;exact hi0.fr.val t hany
def Agr (T:List Nat) (fr fr':Fr):Prop:=∀ t v,T.contains t=false ->fr.at t=v ->fr'.at t=v
theorem Agr.at {T:List Nat} {fr fr':Fr} (a:Agr T fr fr') {t:Nat} {v:Value} (ht:T.contains t=false) (h:fr.at t=v):fr'.at t=v:=a t v ht h
def MFr (T:List Nat) (fr f:Fr):Prop:=∀ t,t ∉ T ->f.at t=fr.at t
theorem MFr.z {T:List Nat} {fr:Fr}:MFr T fr fr:=fun _ _=>rfl
theorem MFr.s {T:List Nat} {fr f:Fr} {i:Nat} {v:Value} (hi:T.contains i=true) (h:MFr T fr f):MFr T fr (Tr.set f i v):=fun t ht=>by
 have hne:t ≠ i:=fun z=>ht (by subst z;rwa [List.contains_iff_mem] at hi)
 have:=ZcI (fr:=f) (d:=some i) (v:=v) (t:=t);rw [show J4 f (some i) v=Tr.set f i v from rfl] at this;rw [this,if_neg (fun z=>hne (Option.some.inj z).symm)];exact h t ht
structure ZpE (T:List Nat) (fr:Fr) (ds:List Deferred) (v:Value) (p:Bool) (e:XX) (s:Fs):Prop where
 ds:s.ds=ds
 fr:MFr T fr s.fr
 e:e= .normal∧p=false∨e= .panic v∧p=true
theorem ZpE.Yv {T:List Nat} {fr f:Fr} {ds:List Deferred} {v:Value} {h:H} (k:MFr T fr f):ZpE T fr ds v false .normal ⟨f,ds,h,none⟩:= ⟨rfl,k,.inl ⟨rfl,rfl⟩⟩
theorem ZpE.panic {T:List Nat} {fr f:Fr} {ds:List Deferred} {v:Value} {h:H} (k:MFr T fr f):ZpE T fr ds v true (.panic v) ⟨f,ds,h,none⟩:= ⟨rfl,k,.inr ⟨rfl,rfl⟩⟩
structure Zyj (Q:XX ->Fs ->Prop) (e:XX) (s:Fs):Prop where
 nn:e ≠ .normal
 k:Q e s
theorem Zyj.exit {Q:XX ->Fs ->Prop} {s:Fs} {id:Nat} (k:Q (.exit id) s):Zyj Q (.exit id) s:= ⟨(fun z=>by cases z),k⟩
def Zyo {κ ν:Type} (kv:κ ->Value) (vv:ν ->Value) (h:H) (it:Nat) (x:κ×ν):Prop:=ZdZ h (.pointer (some ⟨it,0,none⟩))=some (.tuple #[kv x.1,vv x.2])
section
variable {κ ν:Type} {kv:κ ->Value} {vv:ν ->Value} {ll:List (κ×ν)} {bs:List Nat}
theorem ZmD:∀ {ll:List (κ×ν)} {bs:List Nat} {x:MapEntry},x ∈ Yr kv vv ll bs ->∃ (j:Nat) (y:κ×ν) (b:Nat),ll[j]? =some y∧bs[j]? =some b∧x= ⟨kv y.1,vv y.2,b⟩:=by
 intro ll bs x hx;obtain⟨j,hj⟩:=List.mem_iff_getElem?.1 hx;unfold Yr at hj;rw [List.getElem?_zipWith] at hj;cases h1:ll[j]? with
 | none=>rw [h1] at hj;simp at hj
 | some y=>
   cases h2:bs[j]? with
   | none=>rw [h1,h2] at hj;simp at hj
   | some b=>rw [h1,h2] at hj;simp at hj;exact⟨j,y,b,h1,h2,hj.symm⟩
theorem Zwr {j:Nat} {y:κ×ν} {b:Nat} (h1:ll[j]? =some y) (h2:bs[j]? =some b):(⟨kv y.1,vv y.2,b⟩:MapEntry) ∈ Yr kv vv ll bs:=by
 refine List.mem_iff_getElem?.2 ⟨j,?_⟩;unfold Yr;rw [List.getElem?_zipWith,h1,h2]
theorem Zgg {b:Nat}:∀ {ll:List (κ×ν)} {bs:List Nat},b ∉ bs ->Zdy b (Yr kv vv ll bs)=true
 | [],_,_=>by unfold Yr;simp [Zdy]
 | _::_,[],_=>by unfold Yr;simp [Zdy]
 | x::ll,b'::bs,h=>by
   have ih:=Zgg (ll:=ll) (bs:=bs) (b:=b) (fun z=>h (by simp [z]));unfold Yr at ih ⊢;rw [List.zipWith_cons_cons];unfold Zdy;have:Nat.beq b' b=false:=by rw [Bool.eq_false_iff];intro q;exact h (by simp [Nat.eq_of_beq_eq_true q])
   dsimp only;rw [this];exact ih
theorem ZhK {Xb:Nat}:∀ {ll:List (κ×ν)} {bs:List Nat},bs.Nodup ->(∀ b ∈ bs,b < Xb) ->WA Xb (Yr kv vv ll bs)=true
 | [],_,_,_=>by unfold Yr;simp [WA]
 | _::_,[],_,_=>by unfold Yr;simp [WA]
 | x::ll,b::bs,hn,hl=>by
   rw [List.nodup_cons] at hn;have ih:=ZhK (ll:=ll) (bs:=bs) hn.2 (fun b hb=>hl b (by simp [hb]));have hno:Zdy b (Yr kv vv ll bs)=true:=Zgg (ll:=ll) hn.1;unfold Yr at ih hno ⊢;rw [List.zipWith_cons_cons];unfold WA;dsimp only;rw [hno,ih];have:Nat.blt b Xb=true:=by rw [Nat.blt_eq];exact hl b (by simp)
   rw [this];rfl
theorem ZjF:∀ {ll:List (κ×ν)} {bs:List Nat} {j:Nat} {y:κ×ν} {b:Nat},bs.Nodup ->ll[j]? =some y ->bs[j]? =some b ->Zj1 b (Yr kv vv ll bs)=some ⟨kv y.1,vv y.2,b⟩
 | [],_,_,_,_,_,h,_=>by simp at h
 | _::_,[],_,_,_,_,_,h=>by simp at h
 | x::ll,b'::bs,j,y,b,hn,h1,h2=>by
   rw [List.nodup_cons] at hn;unfold Yr;rw [List.zipWith_cons_cons];unfold Zj1;dsimp only;cases j with
   | zero=>
     simp at h1 h2;subst h1 h2;rw [Nat.beq_refl];rfl
   | succ j=>
     simp at h1 h2
     have:Nat.beq b' b=false:=by
      rw [Bool.eq_false_iff];intro q;have:=Nat.eq_of_beq_eq_true q;subst this;exact hn.1 (List.mem_iff_getElem?.2 ⟨j,h2⟩)
     rw [this];exact ZjF hn.2 h1 h2
end
section
variable {wm:Nat} {G Gr:List (Ast wm)} {h h0:H} {T0:Nat ->Prop} {fr:Fr} {ds:List Deferred} {ty:TypeId} {p:String} {af:Array Edge} {g:Option (Nat×Bool)} {κ ν:Type} {kv:κ ->Value} {vv:ν ->Value} {ll:List (κ×ν)} {d:Nat}
theorem WO.rng {Q:XX ->Fs ->Prop} {t kt vt:TypeId} {x:Operand} {i:Nat} (hg:ZO ops ⟨some d,.range t x,ty,p,af,g⟩ fr) (hd:Nat.blt d n=true) (hS:Sp wm T0 h0 G h) (hu:X.P.underlying t=some (.map kt vt)) (hx:ZV fr x=some (.map (some i))) (s:MapAt kv vv h (some i) ll)
 (k:∀ h' b bs Xb,Sp wm T0 h0 (ob wm b (.iter i Xb Xb none)::G) h' ->h'.at i= .map (Yr kv vv ll bs) Xb ->bs.length=ll.length∧bs.Nodup∧(∀ x ∈ bs,x < Xb) ->WO X n wm rd ops l ⟨Tr.set fr d (.pointer (some ⟨b,0,none⟩)),ds,h',none⟩ Q):
 WO X n wm rd ops (⟨some d,.range t x,ty,p,af,g⟩::l) ⟨fr,ds,h,none⟩ Q:=by
 rcases s.mem with⟨q,_⟩ | ⟨i',bs,Xb,q,h1,h2,h3,h4⟩
 ·cases q
 ·cases q;refine WO.v (v:=Jd h) (E:= .new (.iter i Xb Xb none)) (h1:=h.push (.iter i Xb Xb none)) hg hd ?_ (Zlv h rfl) (k (h.push (.iter i Xb Xb none)) h.size bs Xb (Zoc rfl hS) ?_ ⟨h2,h3,h4⟩)
  ·show(match ZV fr x with
    | some x=>vE (ZiG X.P h t x)
    | none=>none)=_
   rw [hx];dsimp only;unfold ZiG;simp only [hu,h1]
   rfl
  ·rw [Zao (XF h1 rfl),h1]
theorem Zvm {x:Operand} {it:Nat} {y:κ×ν} (hx:ZV fr x=some (.pointer (some ⟨it,0,none⟩))) (he:Zyo kv vv h it y):Xi X h (ZV fr) ⟨some d,.entry x,ty,p,af,g⟩=some (.val (.tuple #[kv y.1,vv y.2]),.none):=by
 show(match ZV fr x with
  | some it=>vN (ZdZ h it)
  | none=>none)=_
 rw [hx];dsimp only;rw [show ZdZ h (.pointer (some ⟨it,0,none⟩))=_ from he];rfl
theorem WL.ZHt {Q:XX ->Fs ->Prop} {id:Nat} {o:Oper} {t it m Xb:Nat} {bs:List Nat} {b:κ ->ν ->Option Bool} {q:Bool} (T:List Nat) (v:Value) (hq:ZjE b ll=some q) (hS:Sp wm T0 h0 G h) (pi:Pk G (ob wm it (.iter m Xb Xb none)) Gr) (hat:fr.at t= .pointer (some ⟨it,0,none⟩)) (hm:h.at m= .map (Yr kv vv ll bs) Xb) (hb:bs.length=ll.length∧bs.Nodup∧∀ x ∈ bs,x < Xb)
 (hops:ops.toList=o::l) (hop:o.op= .next (.tmp t) false) (hgu:o.guard=none) (hd:o.dst=some d) (hdn:Nat.blt d n=true) (hT:T.contains t=false) (hdT:T.contains d=true) (hv:plain v=true)
 (body:∀ (x:κ×ν) (p:Bool),b x.1 x.2=some p ->∀ h2 fr',Agr T fr fr' ->Sp h.size (XD ([]:List (Ast h.size))) h2 [] h2 ->Zyo kv vv h2 it x ->WO X n h.size rd ops l ⟨Tr.set fr' d (.tuple #[.bool true,kv x.1,vv x.2]),ds,h2,none⟩ (QB X n h.size rd rest (ZpE T fr' ds v p)))
 (over:q=false ->∀ h' fr',Agr T fr fr' ->Sp wm T0 h0 Gr h' ->WO X n wm rd ops l ⟨Tr.set fr' d (.tuple #[.bool false]),ds,h',none⟩ (QB X n wm rd rest (Zyj Q)))
 (Jk:q=true ->∀ h' fr',Agr T fr fr' ->Sp wm T0 h0 Gr h' ->Q (.panic v) ⟨fr',ds,h',none⟩):WL X n wm rd (.seq (.region id ops false) rest) ⟨fr,ds,h,none⟩ Q:=by
 obtain⟨hb1,hb2,hb3⟩:=hb;obtain⟨o1,o2,o3⟩:=hS.get pi;obtain⟨m1,m2⟩:=ZdD hq
 have ZAR:Agr T fr (Ye T fr):=fun t' v' ht' hv'=>by
  rw [Xh,if_neg (fun z=>by rw [← List.contains_iff_mem] at z;rw [z] at ht';cases ht'),hv']
 have htT:t ∉ T:=fun z=>by rw [← List.contains_iff_mem] at z;rw [z] at hT;cases hT
 have ZIk:d ∈ T:=List.contains_iff_mem.1 hdT;have ZH7:m ≠ it:=fun z=>by rw [z,o1] at hm;cases hm
 classical
 let pn:Nat ->Bool:=fun bn=>decide (∃ (j:Nat) (y:κ×ν),ll[j]? =some y∧bs[j]? =some bn∧b y.1 y.2=some true)
 have Zkv:∀ (j:Nat) (y:κ×ν) (bn:Nat),ll[j]? =some y ->bs[j]? =some bn ->∀ p,b y.1 y.2=some p ->pn bn=p:=by
  intro j y bn h1 h2 p hp;cases p with
  | true=>exact decide_eq_true ⟨j,y,h1,h2,hp⟩
  | false=>
    refine decide_eq_false ?_;rintro⟨j',y',h1',h2',hp'⟩
    have hj:j'=j:=by
     obtain⟨q1,e1⟩:=List.getElem?_eq_some_iff.1 h2';obtain⟨q2,e2⟩:=List.getElem?_eq_some_iff.1 h2;exact(List.getElem_inj hb2).1 (e1.trans e2.symm)
    subst hj;rw [h1] at h1';cases h1';rw [hp] at hp';cases hp'
 have ZyS:Sp wm T0 h0 Gr (h.put it .dead):=
  Sp.step (Ga:= [ob wm it (.iter m Xb Xb none)]) (Gb:= []) (hS.perm pi.perm) (Up.put o2 (by rw [o1];rfl)) (fun i e=>⟨_,List.mem_singleton.2 rfl,e⟩) ZT.nil fun i ⟨A,mm,f⟩=>by simp at mm
 have ZhY:∀ x ∈ Yr kv vv ll bs,∃ ex s3,(s3.ds=ds∧(∀ t,t ∉ T ->s3.fr.at t=fr.at t)∧(ex= .normal∧pn x.born=false∨ex= .panic v∧pn x.born=true))∧∀ {ρ:Ren} {F:Fence} {a:Act} {w:World},Inv ρ n {fr:=J4 (Ye T fr) o.dst (.tuple #[.bool true,x.key,x.val]),ds:=ds,h:=h.put it (.iter m Xb Xb (some x.born)),wr:=none} a w ->h.size <= (h.put it (.iter m Xb Xb (some x.born))).size ->FR' ρ rd F ->∀ Q':Exit ->Act ->World ->Prop,
  (∀ e' a' w',Xw h.size n ρ (h.put it (.iter m Xb Xb (some x.born))) w ex s3 e' a' w' ->Q' e' a' w') ->wpListIn F 0 X.P ops (Exit.then (rest.wpIn F 0 X.P Q') Q') l a w:=by
  intro x hx;obtain⟨j,y,bn,h1,h2,rfl⟩:=ZmD hx;obtain⟨p,hp⟩:=m1 y (List.mem_iff_getElem?.2 ⟨j,h1⟩);have hpn:=Zkv j y bn h1 h2 p hp;have hsz:(h.put it (.iter m Xb Xb (some bn))).size=h.size:=H.size_put _ _ _;have e1:(h.put it (.iter m Xb Xb (some bn))).at it= .iter m Xb Xb (some bn):=Yb (XF o1 rfl) _;have e2:(h.put it (.iter m Xb Xb (some bn))).at m= .map (Yr kv vv ll bs) Xb:=by rw [XR ZH7,hm]
  have hent:Zyo kv vv (h.put it (.iter m Xb Xb (some bn))) it y:=by
   unfold Zyo ZdZ;simp only [e1,e2,Nat.beq_refl,cond_true,ZjF hb2 h1 h2]
  obtain⟨ex,s3,⟨q1,q2,q3⟩,q4⟩:=WO.body (body y p hp (h.put it (.iter m Xb Xb (some bn))) (Ye T fr) ZAR (Sp.start (Nat.le_of_eq hsz.symm) ZT.nil) hent);refine⟨ex,s3,⟨q1,fun t' ht'=>?_,?_⟩,?_⟩
  ·rw [q2 t' ht',Xh,if_neg ht']
  ·dsimp only;rw [hpn];exact q3
  ·rw [hd];intro ρ F a w i1 i2 i3 Q' i4;exact q4 i1 i2 i3 Q' i4
 have key:=fun(e:XX) (s2:Fs)=>Ztz (X:=X) (n:=n) (wm:=wm) (rd:=rd) (rest:=rest) (id:=id) (s:= ⟨fr,ds,h,none⟩) (e:=e) (s2:=s2) (T:=T) (v:=v) pn hops hop hgu hat o1 hm (Nat.le_refl _) (ZhK hb2 hb3) o2 htT hd (by rwa [Nat.blt_eq] at hdn) ZIk hv ZhY
 cases q with
 | true=>
   refine⟨.panic v,⟨Ye T fr,ds,h.put it .dead,none⟩,Jk rfl _ _ ZAR ZyS,key _ _ (fun hall=>?_) fun _=>⟨rfl,rfl⟩⟩;exfalso;obtain⟨y,hy,hyb⟩:=m2.1 rfl;obtain⟨j,hj⟩:=List.mem_iff_getElem?.1 hy;have hjl:= (List.getElem?_eq_some_iff.1 hj).1;have h2:bs[j]? =some (bs[j]'(by omega)):=List.getElem?_eq_getElem _;have:=hall _ (Zwr hj h2);rw [Zkv j y _ hj h2 true hyb] at this;cases this
 | false=>
   obtain⟨e,s2,⟨q1,q2⟩,q3⟩:=WO.body (over rfl _ _ ZAR ZyS);refine⟨e,s2,q2,key e s2 (fun _=>⟨q1,?_⟩) fun⟨x,hx,hp⟩=>?_⟩
   ·rw [hd];intro ρ F a w i1 i2 i3 Q' i4;exact q3 i1 i2 i3 Q' i4
   ·exfalso;obtain⟨j,y,bn,h1,h2,rfl⟩:=ZmD hx;obtain⟨p,hp'⟩:=m1 y (List.mem_iff_getElem?.2 ⟨j,h1⟩);have hpn:=Zkv j y bn h1 h2 p hp';rw [show pn bn=true from hp] at hpn;subst hpn;exact absurd (m2.2 ⟨y,List.mem_iff_getElem?.2 ⟨j,h1⟩,hp'⟩) (by simp)
end
end Go.Yz
end
end
section
noncomputable section
namespace Go.Yz
open Go.Lf
variable {X:Ctx} {n wm:Nat} {rd:Option Nat} {ops:Array Oper} {l:List Oper} {fr:Fr} {ds:List Deferred} {h h1 h2 h0:H} {T:Nat ->Prop} {G Gr Ga Gb:List (Ast wm)}
inductive FzS (wm:Nat):H ->H ->Prop
 | refl (h:H):FzS wm h h
 | step {h h':H} {i:Nat} {cs:List Value} {z:Nat} (hw:wm <=i) (hr:h.at i= .row cs true z) (k:FzS wm (h.put i (.row cs false 0)) h'):FzS wm h h'
theorem FzS.trans {h h1 h2:H} (a:FzS wm h h1) (b:FzS wm h1 h2):FzS wm h h2:=by
 induction a with
 | refl _=>exact b
 | step hw hr _ ih=>exact .step hw hr (ih b)
theorem WO.fzS {Q:XX ->Fs ->Prop} {h h':H} (a:FzS wm h h') (k:WO X n wm rd ops l ⟨fr,ds,h',none⟩ Q):WO X n wm rd ops l ⟨fr,ds,h,none⟩ Q:=by
 induction a with
 | refl _=>exact k
 | step hw hr _ ih=>exact WO.ZjR hw hr (ih k)
theorem XC.fzs {α:Type} {e:Ua α} {a:Option Addr} {c:Nat} {xs:List α} (so:XC e wm wm h a c xs):∃ h',FzS wm h h'∧Up wm (XL a) h h'∧Sl e wm h' a c xs:=by
 rcases so.mem with⟨rfl,rfl,rfl⟩ | ⟨i,o,cs,rfl,h1,h2,h3,h4,h5⟩
 ·exact⟨h,.refl h,⟨Nat.le_refl _,fun _ _ _=>rfl,fun i hb=>by obtain⟨o,hb⟩:=hb;cases hb⟩,Sl.nil⟩
 ·have hown:(h.at i).own=true:=by rw [h2];rfl
  have hu:Up wm (XL (some ⟨i,o,none⟩)) h (h.put i (.row cs false 0)):=
   ⟨Nat.le_refl _,fun j _ hn=>XR (fun q=>hn ⟨o,by rw [q]⟩) _,fun j hb=>by obtain⟨o',hb⟩:=hb;cases hb;exact⟨h1,hown⟩⟩
  exact⟨_,.step h1 h2 (.refl _),hu,⟨so.max,so.cap,so.nl,.inr ⟨i,o,cs,false,0,rfl,Yb (XF h2 rfl) _,.inr rfl,h5.mono (hu.fz (Nat.le_refl _))⟩⟩⟩
theorem ZmX {α:Type} {e:Ua α} (ps:Nat ->Option Addr×Nat×Nat):∀ (xs:List (List α)) (k:Nat) (h:H) (Gr:List (Ast wm)),Sp wm T h0 (Ym (fun k x=>(Xq e).YK wm (ps k) x) k xs ++ Gr) h ->
 ∃ h',FzS wm h h'∧Fz wm h h'∧Sp wm T h0 Gr h'∧∀ j x,xs[j]? =some x ->(ps (k + j)).2.1=x.length∧Sl e wm h' (ps (k + j)).1 (ps (k + j)).2.2 x
 | [],k,h,Gr,hS=>⟨h,.refl h,Fz.refl _ _,hS,fun j x hj=>by simp at hj⟩
 | x::xs,k,h,Gr,hS=>by
   have hS:Sp wm T h0 (ow wm e (ps k).1 (ps k).2.1 (ps k).2.2 x::(Ym (fun k x=>(Xq e).YK wm (ps k) x) (k + 1) xs ++ Gr)) h:=hS;have hg:=hS.get k0;obtain⟨h1,f1,u1,s1⟩:=hg.2.fzs;have hS1:= (Zzf hS k0 u1 s1).2.drop k0;obtain⟨h2,f2,z2,hS2,hall⟩:=ZmX ps xs (k + 1) h1 Gr hS1;refine⟨h2,f1.trans f2,(u1.fz (Nat.le_refl _)).trans z2,hS2,fun j y hj=>?_⟩;cases j with
   | zero=>simp at hj;subst hj;exact⟨hg.1,s1.mono z2⟩
   | succ j=>
     have:=hall j y (by simpa using hj);have e1:k + 1 + j=k + (j + 1):=by omega
     rwa [e1] at this
theorem ZBl {α:Type} {e:Ua α} {a:Option Addr} {nn c:Nat} {ps:Nat ->Option Addr×Nat×Nat} {xs:List (List α)} (hS:Sp wm T h0 G h) (pk:Pk G (nst wm (Xq e) a nn c ps xs) Gr):∃ h',FzS wm h h'∧nn=xs.length∧Sp wm T h0 (fzA wm (Ke (Ke e)) (a,c) xs::Gr) h':=by
 obtain⟨g1,g2,g3,g4⟩:=hS.get pk
 let O:Ast wm:=ow wm (Zs1 (Xq e).sz (Xq e).pos) a ((Xq e).rows ps xs).length c ((Xq e).rows ps xs)
 have hS1:Sp wm T h0 ((Xq e).parts wm ps xs ++ (O::Gr)) h:=by
  have h1:Sp wm T h0 ((O::(Xq e).parts wm ps xs) ++ Gr) h:=by
   refine Sp.say (Ga:= [nst wm (Xq e) a nn c ps xs]) (Gr:=Gr) (hS.perm pk.perm) (ZT.cons ⟨rfl,g2⟩ g3 fun i f=>g4 i f) fun i f=>?_
   rcases XD.cons.1 f with f | f
   ·exact⟨_,List.mem_singleton.2 rfl,.inl f⟩
   ·exact⟨_,List.mem_singleton.2 rfl,.inr f⟩
  exact h1.perm (by
   rw [List.cons_append];exact(List.perm_middle).symm)
 obtain⟨h1,f1,z1,hS2,hall⟩:=ZmX ps xs 0 h (O::Gr) hS1;obtain⟨h2,f2,u2,s2⟩:= (hS2.get k0).2.fzs;refine⟨h2,f1.trans f2,g1,hS2.one k0 u2 (fun _ q=>q) ?_ fun _ z=>z.elim⟩;show Sl (Ke e) wm h2 a c xs;have hlen:((Xq e).rows ps xs).length=xs.length:=ZaI _ _ _;refine⟨by rw [← hlen];exact s2.max,by rw [← hlen];exact s2.cap,s2.nl,?_⟩;rcases s2.mem with q | ⟨i,o,cs,own,z,q1,q2,q3,q4⟩
 ·left;apply List.eq_nil_of_length_eq_zero;rw [← hlen,q];rfl
 ·refine .inr ⟨i,o,cs,own,z,q1,q2,q3,⟨by have:=q4.len;rw [hlen] at this;exact this,fun k x hk=>?_⟩⟩;obtain⟨n1,n2⟩:=hall k x hk;rw [Nat.zero_add] at n1 n2
  have hrow:((Xq e).rows ps xs)[k]? =some ((Xq e).raw (ps k) x):=by
   unfold Ne.rows;rw [Ux,hk,Nat.zero_add];rfl
  obtain⟨_,w1,_⟩:=q4.get k _ hrow;refine⟨((ps k).1,(ps k).2.2),?_,n2.mono (u2.fz (Nat.le_refl _))⟩;have w2:(cs.drop (o + k * 1)).take 1= [Value.slice (ps k).1 (ps k).2.1 (ps k).2.2]:=w1;rw [n1] at w2;exact w2
theorem WO.Zw6 {Q:XX ->Fs ->Prop} {α:Type} {e:Ua α} {a:Option Addr} {nn c:Nat} {ps:Nat ->Option Addr×Nat×Nat} {xs:List (List α)} (hS:Sp wm T h0 G h) (pk:Pk G (nst wm (Xq e) a nn c ps xs) Gr) (k:∀ h',nn=xs.length∧Sp wm T h0 (fzA wm (Ke (Ke e)) (a,c) xs::Gr) h' ->WO X n wm rd ops l ⟨fr,ds,h',none⟩ Q):WO X n wm rd ops l ⟨fr,ds,h,none⟩ Q:=
 let⟨h',f,hh⟩:=ZBl hS pk;WO.fzS f (k h' hh)
end Go.Yz
end
end
section
end
section
namespace Go.Proofs.Ytekpjgmhkkjhgaa
structure Za where
 name:Int
 root:Bool
 from_:Int
 has:Int
 out:Int
 use:Bool
 deriving DecidableEq,Inhabited
structure Zd where
 kind:Int
 Zy:Int
 name:Int
 via:Int
 w:Int
 deriving DecidableEq,Inhabited
structure Zb where
 cells:(List (List Za))
 notes:(List Zd)
 names:Int
 freed:(List Int)
 deriving DecidableEq,Inhabited
structure Zn where
 Z4:Int
 at_:Int
 name:Int
 Zy:Int
 deriving DecidableEq,Inhabited
structure Yy where
 at_:Int
 name:Int
 deriving DecidableEq,Inhabited
structure ZaF where
 Z4:Int
 at_:Int
 name:Int
 Zy:Int
 deriving DecidableEq,Inhabited
structure Ze where
 e0:Int
 e1:Int
 deriving DecidableEq,Inhabited
structure Store where
 machines:Int
 names:Int
 cells:(List (Ze×Za))
 notes:(List Zd)
 freed:(List Int)
 deriving DecidableEq,Inhabited
structure Model where
 uses:(List Yy)
 ways:(List Yy)
 deriving DecidableEq,Inhabited
def Zam (x y:Za):Bool:= [x.name==y.name,x.root==y.root,x.from_==y.from_,x.has==y.has,x.out==y.out,x.use==y.use].all id
def KW (x y:Yy):Bool:= [x.at_==y.at_,x.name==y.name].all id
def ZBK:Option Bool:=some true
def ZuU (x:Int):Option Int:=Go.Lf.Qa x
end Go.Proofs.Ytekpjgmhkkjhgaa
end
section
set_option maxRecDepth 100000
noncomputable section
namespace Go.Proofs.Ytekpjgmhkkjhgaa
open Go.Yz Go.Lf
def Zu:Ua Za where
 sz:=6
 pos:=by decide
 Par:=Unit
 dflt:= ()
 sh:=fun _ x=>[.int .i64 x.name,.bool x.root,.int .i64 x.from_,.int .i64 x.has,.int .i64 x.out,.bool x.use]
 len:=fun _ _=>rfl
 one:=fun _ _=>rfl
 F:=fun _ _ _ _=>True
 mono:=fun _ x=>x
 up:=fun _ x=>x
def Zj:Ua Zd where
 sz:=5
 pos:=by decide
 Par:=Unit
 dflt:= ()
 sh:=fun _ x=>[.int .i64 x.kind,.int .i64 x.Zy,.int .i64 x.name,.int .i64 x.via,.int .i64 x.w]
 len:=fun _ _=>rfl
 one:=fun _ _=>rfl
 F:=fun _ _ _ _=>True
 mono:=fun _ x=>x
 up:=fun _ x=>x
def Yg:Ua Yy where
 sz:=2
 pos:=by decide
 Par:=Unit
 dflt:= ()
 sh:=fun _ x=>[.int .i64 x.at_,.int .i64 x.name]
 len:=fun _ _=>rfl
 one:=fun _ _=>rfl
 F:=fun _ _ _ _=>True
 mono:=fun _ x=>x
 up:=fun _ x=>x
def Zs2:Ua ZaF where
 sz:=4
 pos:=by decide
 Par:=Unit
 dflt:= ()
 sh:=fun _ x=>[.int .u8 x.Z4,.int .u8 x.at_,.int .u8 x.name,.int .u8 x.Zy]
 len:=fun _ _=>rfl
 one:=fun _ _=>rfl
 F:=fun _ _ _ _=>True
 mono:=fun _ x=>x
 up:=fun _ x=>x
def Zg (x:Ze):Value:= .agg [.int .i64 x.e0,.int .i64 x.e1].toArray
def Zl (x:Za):Value:= .agg [.int .i64 x.name,.bool x.root,.int .i64 x.from_,.int .i64 x.has,.int .i64 x.out,.bool x.use].toArray
theorem Zkn:XX.P.underlying 3=some (.int .i64):=by kernel_rfl
theorem ZzI:XX.P.underlying 4=some .bool:=by kernel_rfl
theorem Zmb:XX.P.underlying 5=some (.int .u8):=by kernel_rfl
theorem Zf6:XX.P.underlying 22=some (.slice 59):=by kernel_rfl
theorem UM:XX.P.underlying 23=some (.slice 58):=by kernel_rfl
theorem Qn:XX.P.underlying 24=some (.slice 3):=by kernel_rfl
theorem ZC0:XX.P.underlying 38=some (.slice 29):=by kernel_rfl
theorem ZCZ:XX.P.underlying 43=some (.slice 91):=by kernel_rfl
theorem Zhk:XX.P.underlying 59=some (.slice 61):=by kernel_rfl
theorem ZsD:XX.P.underlying 62=some (.slice 80):=by kernel_rfl
theorem Qh:XX.P.underlying 63=some (.slice 73):=by kernel_rfl
theorem ZsC:XX.P.underlying 69=some (.slice 5):=by kernel_rfl
theorem Ud:XX.P.underlying 95=some (.map 113 61):=by kernel_rfl
theorem UN:XX.P.underlying 110=some (.map 113 3):=by kernel_rfl
theorem ZzJ:XX.P.underlying 160=some (.int .u64):=by kernel_rfl
theorem Xk:Yq XX.P 3=some false:=by kernel_rfl
theorem ZJM:Yq XX.P 4=some false:=by kernel_rfl
theorem ZB8:Yq XX.P 5=some false:=by kernel_rfl
theorem Zzp:Yq XX.P 22=some false:=by kernel_rfl
theorem ZnM:Yq XX.P 23=some false:=by kernel_rfl
theorem Zvz:Yq XX.P 24=some false:=by kernel_rfl
theorem K5:Yq XX.P 26=some true:=by kernel_rfl
theorem Zvy:Yq XX.P 27=some false:=by kernel_rfl
theorem ZiJ:Yq XX.P 29=some true:=by kernel_rfl
theorem Zvx:Yq XX.P 32=some false:=by kernel_rfl
theorem ZGs:Yq XX.P 56=some false:=by kernel_rfl
theorem ZeK:Yq XX.P 58=some true:=by kernel_rfl
theorem Zkc:Yq XX.P 59=some false:=by kernel_rfl
theorem Zgz:Yq XX.P 61=some true:=by kernel_rfl
theorem ZGr:Yq XX.P 63=some false:=by kernel_rfl
theorem WW:Yq XX.P 65=some true:=by kernel_rfl
theorem Zdm:Yq XX.P 73=some true:=by kernel_rfl
theorem Zzo:Yq XX.P 80=some true:=by kernel_rfl
theorem ZGq:Yq XX.P 91=some true:=by kernel_rfl
theorem Zvw:Yq XX.P 94=some false:=by kernel_rfl
theorem Zgy:Yq XX.P 95=some false:=by kernel_rfl
theorem ZlS:Yq XX.P 110=some false:=by kernel_rfl
theorem ZB9:Yq XX.P 113=some true:=by kernel_rfl
theorem Xc:Z5 XX.P 3=some 1:=by kernel_rfl
theorem Zyt:Z5 XX.P 4=some 1:=by kernel_rfl
theorem ZsL:Z5 XX.P 5=some 1:=by kernel_rfl
theorem ZzR:Z5 XX.P 22=some 1:=by kernel_rfl
theorem Zoa:Z5 XX.P 23=some 1:=by kernel_rfl
theorem ZzQ:Z5 XX.P 24=some 1:=by kernel_rfl
theorem X9:Z5 XX.P 26=some 4:=by kernel_rfl
theorem ZbR:Z5 XX.P 29=some 4:=by kernel_rfl
theorem ZzP:Z5 XX.P 32=some 1:=by kernel_rfl
theorem XI:Z5 XX.P 58=some 5:=by kernel_rfl
theorem Zbc:Z5 XX.P 59=some 1:=by kernel_rfl
theorem Jt:Z5 XX.P 61=some 6:=by kernel_rfl
theorem ZsK:Z5 XX.P 63=some 1:=by kernel_rfl
theorem XO:Z5 XX.P 65=some 2:=by kernel_rfl
theorem YQ:Z5 XX.P 73=some 2:=by kernel_rfl
theorem Zkq:Z5 XX.P 80=some 4:=by kernel_rfl
theorem ZzO:Z5 XX.P 91=some 4:=by kernel_rfl
theorem ZzN:Z5 XX.P 94=some 1:=by kernel_rfl
theorem Zkr:Z5 XX.P 110=some 1:=by kernel_rfl
theorem Zwb:Z5 XX.P 113=some 2:=by kernel_rfl
theorem Zxw:Zv XX.P 26 0 0:=Zv.of (by kernel_rfl)
theorem Zxv:Zv XX.P 26 1 1:=Zv.of (by kernel_rfl)
theorem Zxu:Zv XX.P 26 2 2:=Zv.of (by kernel_rfl)
theorem Zxt:Zv XX.P 26 3 3:=Zv.of (by kernel_rfl)
theorem Zk0:Zv XX.P 29 0 0:=Zv.of (by kernel_rfl)
theorem Zbx:Zv XX.P 29 1 1:=Zv.of (by kernel_rfl)
theorem ZcT:Zv XX.P 29 2 2:=Zv.of (by kernel_rfl)
theorem Zbw:Zv XX.P 29 3 3:=Zv.of (by kernel_rfl)
theorem Zxs:Zv XX.P 58 0 0:=Zv.of (by kernel_rfl)
theorem Zxr:Zv XX.P 58 1 1:=Zv.of (by kernel_rfl)
theorem Zxq:Zv XX.P 58 2 2:=Zv.of (by kernel_rfl)
theorem Zxp:Zv XX.P 58 3 3:=Zv.of (by kernel_rfl)
theorem Zqi:Zv XX.P 58 4 4:=Zv.of (by kernel_rfl)
theorem Zxo:Zv XX.P 61 0 0:=Zv.of (by kernel_rfl)
theorem Zxn:Zv XX.P 61 1 1:=Zv.of (by kernel_rfl)
theorem Zqh:Zv XX.P 61 2 2:=Zv.of (by kernel_rfl)
theorem ZkZ:Zv XX.P 61 3 3:=Zv.of (by kernel_rfl)
theorem Zxm:Zv XX.P 61 4 4:=Zv.of (by kernel_rfl)
theorem Zxl:Zv XX.P 61 5 5:=Zv.of (by kernel_rfl)
theorem Zqg:Zv XX.P 65 0 0:=Zv.of (by kernel_rfl)
theorem Zxk:Zv XX.P 65 1 1:=Zv.of (by kernel_rfl)
theorem Zxj:Zv XX.P 73 0 0:=Zv.of (by kernel_rfl)
theorem Zxi:Zv XX.P 73 1 1:=Zv.of (by kernel_rfl)
theorem Zxh:Zv XX.P 80 0 0:=Zv.of (by kernel_rfl)
theorem Zxg:Zv XX.P 80 1 1:=Zv.of (by kernel_rfl)
theorem Zxf:Zv XX.P 80 2 2:=Zv.of (by kernel_rfl)
theorem Zxe:Zv XX.P 80 3 3:=Zv.of (by kernel_rfl)
theorem Zxd:Zv XX.P 91 2 2:=Zv.of (by kernel_rfl)
theorem Zxc:Zv XX.P 91 3 3:=Zv.of (by kernel_rfl)
theorem Zxb:Zv XX.P 97 0 0:=Zv.of (by kernel_rfl)
theorem Zxa:Zv XX.P 97 1 1:=Zv.of (by kernel_rfl)
theorem Zw9:Zv XX.P 97 2 2:=Zv.of (by kernel_rfl)
theorem ZkY:Zv XX.P 97 3 3:=Zv.of (by kernel_rfl)
theorem Zw8:Zv XX.P 97 4 4:=Zv.of (by kernel_rfl)
theorem U7:YB XX.P 3=some (.int .i64 0):=by kernel_rfl
theorem Zzy:YB XX.P 24=some (.slice none 0 0):=by kernel_rfl
theorem ZnS:YB XX.P 26=some (.agg #[.slice none 0 0,.slice none 0 0,.int .i64 0,.slice none 0 0]):=by kernel_rfl
theorem ZnR:YB XX.P 29=some (.agg #[.int .i64 0,.int .i64 0,.int .i64 0,.int .i64 0]):=by kernel_rfl
theorem Zzx:YB XX.P 32=some (.int .i64 0):=by kernel_rfl
theorem ZeS:YB XX.P 58=some (.agg #[.int .i64 0,.int .i64 0,.int .i64 0,.int .i64 0,.int .i64 0]):=by kernel_rfl
theorem Zsw:YB XX.P 59=some (.slice none 0 0):=by kernel_rfl
theorem Uo:YB XX.P 61=some (.agg #[.int .i64 0,.bool false,.int .i64 0,.int .i64 0,.int .i64 0,.bool false]):=by kernel_rfl
theorem Zzw:YB XX.P 65=some (.agg #[.slice none 0 0,.slice none 0 0]):=by kernel_rfl
theorem Za8:YB XX.P 73=some (.agg #[.int .i64 0,.int .i64 0]):=by kernel_rfl
theorem Zzv:YB XX.P 80=some (.agg #[.int .u8 0,.int .u8 0,.int .u8 0,.int .u8 0]):=by kernel_rfl
theorem Zzu:YB XX.P 91=some (.agg #[.int .i64 0,.int .i64 0,.int .i64 0,.int .i64 0]):=by kernel_rfl
theorem Zzt:YB XX.P 94=some (.pointer none):=by kernel_rfl
theorem Zsv:YB XX.P 97=some (.agg #[.int .i64 0,.int .i64 0,.map none,.slice none 0 0,.slice none 0 0]):=by kernel_rfl
theorem Zv0:YB XX.P 110=some (.map none):=by kernel_rfl
theorem ZpH:YB XX.P 113=some (.agg #[.int .i64 0,.int .i64 0]):=by kernel_rfl
theorem ZnB:ZbH XX.P 26 [.slice none 0 0,.slice none 0 0,.int .i64 0,.slice none 0 0] [(0,1),(1,1),(2,1),(3,1)]:= ⟨_,_,ZnS,rfl,Try.underlying26,by kernel_rfl⟩
theorem Zgw:ZbH XX.P 29 [.int .i64 0,.int .i64 0,.int .i64 0,.int .i64 0] [(0,1),(1,1),(2,1),(3,1)]:= ⟨_,_,ZnR,rfl,Try.underlying29,by kernel_rfl⟩
theorem ZqD:ZbH XX.P 58 [.int .i64 0,.int .i64 0,.int .i64 0,.int .i64 0,.int .i64 0] [(0,1),(1,1),(2,1),(3,1),(4,1)]:= ⟨_,_,ZeS,rfl,Try.underlying58,by kernel_rfl⟩
theorem Zzl:ZbH XX.P 61 [.int .i64 0,.bool false,.int .i64 0,.int .i64 0,.int .i64 0,.bool false] [(0,1),(1,1),(2,1),(3,1),(4,1),(5,1)]:= ⟨_,_,Uo,rfl,Try.underlying61,by kernel_rfl⟩
theorem Zj8:ZbH XX.P 73 [.int .i64 0,.int .i64 0] [(0,1),(1,1)]:= ⟨_,_,Za8,rfl,Try.underlying73,by kernel_rfl⟩
theorem Zvf:ZbH XX.P 97 [.int .i64 0,.int .i64 0,.map none,.slice none 0 0,.slice none 0 0] [(0,1),(1,1),(2,1),(3,1),(4,1)]:= ⟨_,_,Zsv,rfl,Try.underlying97,by kernel_rfl⟩
theorem XQ:ZqP XX.P 113 [.int .i64 0,.int .i64 0] 1:= ⟨_,_,_,ZpH,rfl,Try.underlying113,by kernel_rfl⟩
theorem ZiI:ZgA XX.P #[23,23] 5 40:= ⟨58,.agg #[.int .i64 0,.int .i64 0,.int .i64 0,.int .i64 0,.int .i64 0],by kernel_rfl⟩
theorem ZeG:ZgA XX.P #[24,24] 1 8:= ⟨3,.int .i64 0,by kernel_rfl⟩
theorem Zvq:ZgA XX.P #[59,59] 6 48:= ⟨61,.agg #[.int .i64 0,.bool false,.int .i64 0,.int .i64 0,.int .i64 0,.bool false],by kernel_rfl⟩
theorem K4:ZgA XX.P #[63,63] 2 16:= ⟨73,.agg #[.int .i64 0,.int .i64 0],by kernel_rfl⟩
theorem ZF0 (x y:Za):Zyn XX.P 61 (Zu.sh () x) (Zu.sh () y) (Zam x y):=
 ⟨by kernel_rfl,Zj0 (d:=9999) (bs:= [x.name==y.name,x.root==y.root,x.from_==y.from_,x.has==y.has,x.out==y.out,x.use==y.use]) Try.underlying61 (by kernel_rfl) ⟨⟨by decide,_,_,YI (by kernel_rfl) rfl,YI (by kernel_rfl) rfl,eq_int (by kernel_rfl)⟩,⟨by decide,_,_,YI (by kernel_rfl) rfl,YI (by kernel_rfl) rfl,Zlt (by kernel_rfl)⟩,⟨by decide,_,_,YI (by kernel_rfl) rfl,YI (by kernel_rfl) rfl,eq_int (by kernel_rfl)⟩,⟨by decide,_,_,YI (by kernel_rfl) rfl,YI (by kernel_rfl) rfl,eq_int (by kernel_rfl)⟩,⟨by decide,_,_,YI (by kernel_rfl) rfl,YI (by kernel_rfl) rfl,eq_int (by kernel_rfl)⟩,⟨by decide,_,_,YI (by kernel_rfl) rfl,YI (by kernel_rfl) rfl,Zlt (by kernel_rfl)⟩,trivial⟩⟩
theorem Zqz (x y:Yy):Zyn XX.P 73 (Yg.sh () x) (Yg.sh () y) (KW x y):=
 ⟨by kernel_rfl,Zj0 (d:=9999) (bs:= [x.at_==y.at_,x.name==y.name]) Try.underlying73 (by kernel_rfl) ⟨⟨by decide,_,_,YI (by kernel_rfl) rfl,YI (by kernel_rfl) rfl,eq_int (by kernel_rfl)⟩,⟨by decide,_,_,YI (by kernel_rfl) rfl,YI (by kernel_rfl) rfl,eq_int (by kernel_rfl)⟩,trivial⟩⟩
theorem YR:ZbK XX.P 113 Zg:=ZbK.ZJL (et:=3) (by kernel_rfl) (by kernel_rfl) (by kernel_rfl) (fun x=>x.e0) (fun x=>x.e1) (fun _=>rfl) (fun x y=>by cases x;cases y;simp)
theorem ZBZ:ZdV XX.P 59=some 24:=by kernel_rfl
theorem ZEt:(XX.fns.get 14).isSome=true:=by kernel_rfl
theorem ZEs:(XX.fns.get 15).isSome=true:=by kernel_rfl
theorem Zt4:(XX.fns.get 17).isSome=true:=by kernel_rfl
theorem ZEr:(XX.fns.get 38).isSome=true:=by kernel_rfl
theorem Zt3:(XX.fns.get 39).isSome=true:=by kernel_rfl
theorem Zy1:(XX.fns.get 40).isSome=true:=by kernel_rfl
theorem Zt2:(XX.fns.get 41).isSome=true:=by kernel_rfl
theorem ZEq:(XX.fns.get 42).isSome=true:=by kernel_rfl
theorem Zt1:(XX.fns.get 43).isSome=true:=by kernel_rfl
theorem Zy0:(XX.fns.get 44).isSome=true:=by kernel_rfl
theorem ZEp:(XX.fns.get 45).isSome=true:=by kernel_rfl
theorem Zt0:(XX.fns.get 52).isSome=true:=by kernel_rfl
theorem ZEo:(XX.fns.get 54).isSome=true:=by kernel_rfl
theorem ZEn:(XX.fns.get 55).isSome=true:=by kernel_rfl
theorem ZtZ:(XX.fns.get 56).isSome=true:=by kernel_rfl
theorem ZyZ:(XX.fns.get 57).isSome=true:=by kernel_rfl
theorem ZEm:(XX.fns.get 66).isSome=true:=by kernel_rfl
theorem ZyY:(XX.fns.get 68).isSome=true:=by kernel_rfl
theorem ZtY:(XX.fns.get 71).isSome=true:=by kernel_rfl
theorem ZEl:(XX.fns.get 73).isSome=true:=by kernel_rfl
theorem ZEk:(XX.fns.get 74).isSome=true:=by kernel_rfl
theorem ZmT:(XX.fns.get 75).isSome=true:=by kernel_rfl
theorem ZEj:(XX.fns.get 76).isSome=true:=by kernel_rfl
theorem ZyX:(XX.fns.get 77).isSome=true:=by kernel_rfl
theorem ZEi:(XX.fns.get 78).isSome=true:=by kernel_rfl
theorem ZEh:(XX.fns.get 79).isSome=true:=by kernel_rfl
theorem ZEg:(XX.fns.get 80).isSome=true:=by kernel_rfl
theorem ZyW:(XX.fns.get 86).isSome=true:=by kernel_rfl
theorem ZyV:(XX.fns.get 87).isSome=true:=by kernel_rfl
theorem ZEf:(XX.fns.get 88).isSome=true:=by kernel_rfl
theorem ZtX:(XX.fns.get 89).isSome=true:=by kernel_rfl
theorem ZEe:(XX.fns.get 90).isSome=true:=by kernel_rfl
theorem ZEd:(XX.fns.get 91).isSome=true:=by kernel_rfl
theorem Zp7:(XX.fns.get 92).isSome=true:=by kernel_rfl
theorem ZEc:(XX.fns.get 94).isSome=true:=by kernel_rfl
theorem ZyU:(XX.fns.get 95).isSome=true:=by kernel_rfl
theorem ZkQ:(XX.fns.get 103).isSome=true:=by kernel_rfl
theorem Zh0:(XX.fns.get 104).isSome=true:=by kernel_rfl
theorem Zua:(XX.fns.get 105).isSome=true:=by kernel_rfl
theorem ZoJ:(XX.fns.get 106).isSome=true:=by kernel_rfl
theorem ZoI:(XX.fns.get 110).isSome=true:=by kernel_rfl
theorem Zt9:(XX.fns.get 111).isSome=true:=by kernel_rfl
theorem ZAQ:(XX.fns.get 112).isSome=true:=by kernel_rfl
theorem ZAP:(XX.fns.get 113).isSome=true:=by kernel_rfl
theorem ZAO:(XX.fns.get 114).isSome=true:=by kernel_rfl
theorem Zt8:(XX.fns.get 115).isSome=true:=by kernel_rfl
theorem ZAN:(XX.fns.get 116).isSome=true:=by kernel_rfl
theorem ZkP:(XX.fns.get 117).isSome=true:=by kernel_rfl
theorem ZAM:(XX.fns.get 118).isSome=true:=by kernel_rfl
theorem Zt7:(XX.fns.get 119).isSome=true:=by kernel_rfl
theorem ZAL:(XX.fns.get 120).isSome=true:=by kernel_rfl
theorem ZoH:(XX.fns.get 124).isSome=true:=by kernel_rfl
theorem ZAK:(XX.fns.get 125).isSome=true:=by kernel_rfl
theorem ZAJ:(XX.fns.get 126).isSome=true:=by kernel_rfl
theorem ZAI:(XX.fns.get 127).isSome=true:=by kernel_rfl
theorem ZAH:(XX.fns.get 128).isSome=true:=by kernel_rfl
theorem ZoG:(XX.fns.get 133).isSome=true:=by kernel_rfl
theorem Zt6:(XX.fns.get 138).isSome=true:=by kernel_rfl
theorem Zt5:(XX.fns.get 143).isSome=true:=by kernel_rfl
end Go.Proofs.Ytekpjgmhkkjhgaa
end
end
section
noncomputable section
namespace Go.Yz
open Go.Lf
class Zd3 (P:Program) (t:TypeId):Prop where
 out:Yq P t=some false
class Zjt (P:Program) (t:TypeId):Prop where
 out:Yq P t=some true
class SzF (P:Program) (t:TypeId) (n:outParam Nat):Prop where
 out:Z5 P t=some n
class JP (P:Program) (t:TypeId) (f:Nat) (o:outParam Nat):Prop where
 out:Zv P t f o
class Zjr (P:Program) (t:TypeId) (e:outParam TypeId):Prop where
 out:P.underlying t=some (.slice e)
class ZCk (P:Program) (t:TypeId):Prop where
 out:P.underlying t=some .bool
class ZcC (P:Program) (t:TypeId) (v:outParam Value):Prop where
 out:YB P t=some v
theorem ia {v:Value} (h:QJ v=false):QJ v=false:=h
theorem K8 {fr:Fr} {t:Nat} {c:Bool} {v:Value} (h:fr.at t=cond c v undef) (ha:QJ v=false) (hc:c=true):ZV fr (.tmp t)=some v:=XE h ha hc
section
variable {X:Ctx} {h:H} {fr:Fr} {ty:TypeId} {p':String} {af:Array Edge} {g:Option (Nat×Bool)} {d:Option Tmp} {wm:Nat} {T:Nat ->Prop} {h0:H} {G Gr:List (Ast wm)}
theorem ZGh {x:Operand} {t:TypeId} {f off b o:Nat} [hf:JP X.P t f off] (hx:ZV fr x=some (.pointer (some ⟨b,o,none⟩))):Xi X h (ZV fr) ⟨d,.fieldAddr t x f,ty,p',af,g⟩=some (.val (.pointer (some ⟨b,o + off,none⟩)),.none):=Xt hf.out hx
theorem ZJI {x:Operand} {t:TypeId} {b oo:Nat} {vs:List Value} {v:Value} [ht:Zd3 X.P t] (hx:ZV fr x=some (.pointer (some ⟨b,oo,none⟩))) (hS:Sp wm T h0 G h) (pp:Pk G (bx wm b vs) Gr) (hv:vs[oo]? =some v):
 Xi X h (ZV fr) ⟨d,.load t x,ty,p',af,g⟩=some (.val v,.none):=ZR ht.out hx (hS.Qj pp) (Nat.zero_add _).symm hv
theorem ZGg {x:Operand} {t:TypeId} {b oo sz:Nat} {vs ws:List Value} [ht:Zjt X.P t] [hs:SzF X.P t sz] (hx:ZV fr x=some (.pointer (some ⟨b,oo,none⟩))) (hS:Sp wm T h0 G h) (pp:Pk G (bx wm b vs) Gr) (hj:Nat.ble (oo + sz) vs.length=true) (hv:(vs.drop oo).take sz=ws):
 Xi X h (ZV fr) ⟨d,.load t x,ty,p',af,g⟩=some (.val (.agg ws.toArray),.none):=Xa ht.out hs.out hx (hS.Qj pp) (Nat.zero_add _).symm hj hv
theorem ZGi {dd:Tmp} {x:Operand} {t:TypeId} {v:Value} {vs:List Value} (hx:ZV fr x=some v) (hS:Sp wm T h0 G h) (hv:v.cells.toList=vs):
 HN X wm ⟨some dd,.box t x,ty,p',af,g⟩ fr h (fun v h'=>∃ b,h.size=b∧v= .pointer (some ⟨b,0,none⟩)∧Sp wm T h0 (bx wm b vs::G) h'):=ZpL hS hx hv
theorem ZGj {dd:Tmp} {t:TypeId} {v:Value} {vs:List Value} [hz:ZcC X.P t v] (hS:Sp wm T h0 G h) (hv:v.cells.toList=vs):
 HN X wm ⟨some dd,.alloc t,ty,p',af,g⟩ fr h (fun v h'=>∃ b,h.size=b∧v= .pointer (some ⟨b,0,none⟩)∧Sp wm T h0 (bx wm b vs::G) h'):=Zhv hS hz.out hv
theorem ZJH {x y:Operand} {t:TypeId} {b o sz:Nat} {cs cs' vs:List Value} {v:Value} [hs:SzF X.P t sz] (hx:ZV fr x=some (.pointer (some ⟨b,o,none⟩))) (hS:Sp wm T h0 G h) (pk:Pk G (bx wm b cs) Gr) (hy:ZV fr y=some v)
 (hvs:v.cells.toList=vs) (hn:Nat.beq vs.length sz=true) (hl:Nat.ble (o + sz) cs.length=true) (hc:vs.all Value.oneCell'=true) (hv:splice cs o vs=cs'):
 HU X wm ⟨none,.store t x y,ty,p',af,g⟩ fr h (fun i=>i=b) (fun h'=>Sp wm T h0 (bx wm b cs'::Gr) h'):=J5 hS pk hs.out hx hy hvs hn hl hc hv
theorem ZGf {x:Operand} {t e':TypeId} {a:Option Addr} {mm cc dd:Nat} [hu:Zjr X.P t e'] (hx:ZV fr x=some (.slice a mm cc)):
 Xi X h (ZV fr) ⟨some dd,.call {callee:= .builtin .len,args:=#[x],argTypes:=#[t]},ty,p',af,g⟩=some (.val (.int .i64 (mm:Int)),.none):=ZlM hu.out hx rfl
end
section
variable {X:Ctx} {n wm:Nat} {rd:Option Nat} {ops:Array Oper} {l:List Oper} {fr:Fr} {ds:List Deferred} {h:H} {ty:TypeId} {p:String} {af:Array Edge} {g:Option (Nat×Bool)} {sf:ST} {m:Nat}
theorem WX.w2 {Q:Fr ->H ->Prop} {d:Nat} {op:Op} {v:Value} (hg:ZO ops ⟨some d,op,ty,p,af,g⟩ fr) (hd:Nat.blt d n=true) (hM:okM ops sf m ⟨some d,op,ty,p,af,g⟩=true) (ha:Xi X h (ZV fr) ⟨some d,op,ty,p,af,g⟩=some (.val v,.none)) (k:WX X n wm rd ops sf (m + 1) h l (Tr.set fr d v) Q):
 WX X n wm rd ops sf m h (⟨some d,op,ty,p,af,g⟩::l) fr Q:=WX.w hg hd ha k hM
theorem WX.gv2 {Q:Fr ->H ->Prop} {d:Nat} {op:Op} {c:Bool} {v:Value} (hg:Zi ops ⟨some d,op,ty,p,af,g⟩ fr c) (hd:Nat.blt d n=true) (hM:okM ops sf m ⟨some d,op,ty,p,af,g⟩=true) (ha:c=true ->Xi X h (ZV fr) ⟨some d,op,ty,p,af,g⟩=some (.val v,.none)) (k:WX X n wm rd ops sf (m + 1) h l (Tr.set fr d (cond c v undef)) Q):
 WX X n wm rd ops sf m h (⟨some d,op,ty,p,af,g⟩::l) fr Q:=WX.gv hg hd ha k hM
end
structure Kp (q:Prop):Prop where
 out:q
section
variable {X:Ctx} {n wm:Nat} {rd:Option Nat} {Q:XX ->Fs ->Prop}
theorem E0 {p:Prop}(h:p:=by(focus (repeat (first | with_reducible exact fh | ((with_reducible apply ZN);exact rfl) | ((with_reducible apply Yi);exact rfl) | ((with_reducible apply ZP);exact rfl) | ((with_reducible apply Zf);exact rfl) | with_reducible assumption));first|done|fail)):p:=h
theorem cn {c:Operand} {a b:Code} {t:Bool} {fr:Fr} {ds:List Deferred} {h:H} {α:Type} {x y r:α} (hL:(bif t then x else y)=r) (h1:t=true ->x=r ->WC X n wm rd a ⟨fr,ds,h,none⟩ Q) (h2:t=false ->y=r ->WC X n wm rd b ⟨fr,ds,h,none⟩ Q) (hc:ZV fr c=some (.bool t):=by(first | exact Jr rfl | (apply Zt;exact E0;(first | exact ia rfl | assumption)) | (apply K8;exact E0;(first | exact ia rfl | assumption);assumption) | fail)):WC X n wm rd (.cond c a b) ⟨fr,ds,h,none⟩ Q:=
 WC.Znu hc (fun e=>h1 e (Wy e hL)) (fun e=>h2 e (Wz e hL))
theorem rt {fn:Func} {fr:Fr} {h h0:H} {T:Nat ->Prop} {G G':List (Ast wm)} {wr:Option Nat} {t:Tmp} {β:Type} {x r:β} {g:β ->Value} (hL:some x=some r) (hT:T=XD G) (hS:Sp wm T h0 G' h) (hr:fn.results.toList= [.tmp t]:=by exact rfl) (hv:ZV fr (.tmp t)=some (g x):=by(first | exact Jr rfl | (apply Zt;exact E0;(first | exact ia rfl | assumption)) | (apply K8;exact E0;(first | exact ia rfl | assumption);assumption) | fail)):
 ZQ X fn (fun e h'=>∃ v,e= .ret v∧CP (fun v Gb=>v=g r∧Gb= []) G h0 v h') .ret ⟨fr,[],h,wr⟩:=by
 cases hL;exact ZQ.QN hr (ZB hv Zm) ⟨_,⟨rfl,rfl⟩,hT ▸ hS.only .n⟩
theorem bg {f:FuncId} {fn:Func} {c:Code} {args:List Value} {n:Nat} {K:Value ->List (Ast wm) ->Prop} {G:List (Ast wm)} {h:H} {fr:Fr} (hnt:fn.ntmps=n) (ZF:wm <=h.size) (hO:ZT G h)
 (k:∀ T,T=XD (wm:=wm) G ->Sp wm T h G h ->WC X n wm none c ⟨fr,[],h,none⟩ (ZQ X fn (fun e h'=>∃ v,e= .ret v∧CP K G h v h'))) (hf:X.fns.get f=some fn:=by kernel_rfl) (hb:fn.body=some c:=by exact rfl) (hn:args.length <=n:=by simp)
 (hfr:XG args 0 .nil=fr:=by(simp only [ZC,ZI,Nat.reduceAdd];exact rfl)):WR X f args.toArray wm h (CP K G h):=by
 subst hfr;exact WF.begin hf hb hnt hn (k _ rfl (Sp.start ZF hO))
end
theorem lk {p:Prop} (h:p:=by(first | exact Jr rfl | (apply Zt;exact E0;(first | exact ia rfl | assumption)) | (apply K8;exact E0;(first | exact ia rfl | assumption);assumption) | fail)):p:=h
theorem lks {p:Prop} (h:p:=by
 repeat (first | exact Zk | (apply Zc;(focus (first | exact Jr rfl | (apply Zt;exact E0;(first | exact ia rfl | assumption)) | (apply K8;exact E0;(first | exact ia rfl | assumption);assumption) | fail);done)))
 done):p:=h
theorem YN {p:Prop} (h:p:=by
 repeat (first | with_reducible exact fh | ((with_reducible apply ZN);exact rfl) | ((with_reducible apply Yi);exact rfl) | ((with_reducible apply ZP);exact rfl) | ((with_reducible apply Zf);exact rfl) | with_reducible assumption | refine⟨?_,?_⟩)
 done):p:=h
theorem r1 {p q:Prop} (k:q) (h:Kp q ->p:=by
 intro k
 first
 | refine WO.nil ?_
 | refine QB.Yv ?_
 | refine WC.seq ?_
 | refine WC.region ?_
 | ((first | apply WO.w gN rfl | (apply WO.gv;(focus (first | (apply Zi.yes rfl rfl rfl;exact E0) | (apply Zi.no rfl rfl rfl;exact E0) | (apply Zi.ZqR rfl rfl rfl;exact E0) | (apply Zi.no2 rfl rfl rfl;exact E0) | fail);done);rfl;intro hg) | (apply WX.w2 gN;rfl;rfl) | (apply WX.gv2;(focus (first | (apply Zi.yes rfl rfl rfl;exact E0) | (apply Zi.no rfl rfl rfl;exact E0) | (apply Zi.ZqR rfl rfl rfl;exact E0) | (apply Zi.no2 rfl rfl rfl;exact E0) | fail);done);rfl;rfl;intro hg));(focus (first
   | ((with_reducible apply YC);(first | exact Jr rfl | (apply Zt;exact E0;(first | exact ia rfl | assumption)) | (apply K8;exact E0;(first | exact ia rfl | assumption);assumption) | fail))
   | ((with_reducible apply ZJI);(focus (first | exact Jr rfl | (apply Zt;exact E0;(first | exact ia rfl | assumption)) | (apply K8;exact E0;(first | exact ia rfl | assumption);assumption) | fail);done);assumption;(focus (first | exact k0 | exact k1 | exact k2 | exact k3 | exact k4 | exact k5 | exact k6 | exact k7 | (repeat (first | exact k7 | apply Pk.s)));done);rfl)
   | ((with_reducible apply ZGh);(first | exact Jr rfl | (apply Zt;exact E0;(first | exact ia rfl | assumption)) | (apply K8;exact E0;(first | exact ia rfl | assumption);assumption) | fail))
   | ((with_reducible apply Z7);(first | exact Jr rfl | (apply Zt;exact E0;(first | exact ia rfl | assumption)) | (apply K8;exact E0;(first | exact ia rfl | assumption);assumption) | fail))
   | ((with_reducible apply Z9);(focus (first | exact Jr rfl | (apply Zt;exact E0;(first | exact ia rfl | assumption)) | (apply K8;exact E0;(first | exact ia rfl | assumption);assumption) | fail);done);(focus (first | exact Jr rfl | (apply Zt;exact E0;(first | exact ia rfl | assumption)) | (apply K8;exact E0;(first | exact ia rfl | assumption);assumption) | fail);done);(first | with_reducible exact Zsi | with_reducible exact JN | with_reducible exact ZcB | with_reducible exact ZiL | with_reducible exact Zsg | with_reducible exact ZvF | with_reducible exact U3 | with_reducible exact ZvE | with_reducible exact Zsh | with_reducible exact Zkg ZCk.out | with_reducible exact Zkf ZCk.out))
   | ((with_reducible apply ZGg);(focus (first | exact Jr rfl | (apply Zt;exact E0;(first | exact ia rfl | assumption)) | (apply K8;exact E0;(first | exact ia rfl | assumption);assumption) | fail);done);assumption;(focus (first | exact k0 | exact k1 | exact k2 | exact k3 | exact k4 | exact k5 | exact k6 | exact k7 | (repeat (first | exact k7 | apply Pk.s)));done);rfl;(focus simp only [Nat.zero_add,Nat.reduceAdd,List.drop_succ_cons,List.drop_zero,List.take_succ_cons,List.take_zero,List.take_nil];rfl))
   | ((with_reducible apply ZGf);(first | exact Jr rfl | (apply Zt;exact E0;(first | exact ia rfl | assumption)) | (apply K8;exact E0;(first | exact ia rfl | assumption);assumption) | fail))
   | ((with_reducible apply Wq);(focus (first | exact Jr rfl | (apply Zt;exact E0;(first | exact ia rfl | assumption)) | (apply K8;exact E0;(first | exact ia rfl | assumption);assumption) | fail);done);rfl)
   | ((with_reducible apply ZlL);(first | exact Jr rfl | (apply Zt;exact E0;(first | exact ia rfl | assumption)) | (apply K8;exact E0;(first | exact ia rfl | assumption);assumption) | fail))
   | ((with_reducible apply Zpn);(first | exact Jr rfl | (apply Zt;exact E0;(first | exact ia rfl | assumption)) | (apply K8;exact E0;(first | exact ia rfl | assumption);assumption) | fail))
   | ((with_reducible apply QL);(focus (first | exact Jr rfl | (apply Zt;exact E0;(first | exact ia rfl | assumption)) | (apply K8;exact E0;(first | exact ia rfl | assumption);assumption) | fail);done);(focus (apply Zcn;exact E0);done);(first | exact Jr rfl | (apply Zt;exact E0;(first | exact ia rfl | assumption)) | (apply K8;exact E0;(first | exact ia rfl | assumption);assumption) | fail))
   | ((with_reducible apply Zzm);(focus (first | exact Jr rfl | (apply Zt;exact E0;(first | exact ia rfl | assumption)) | (apply K8;exact E0;(first | exact ia rfl | assumption);assumption) | fail);done);(focus (first | exact Jr rfl | (apply Zt;exact E0;(first | exact ia rfl | assumption)) | (apply K8;exact E0;(first | exact ia rfl | assumption);assumption) | fail);done);(apply Zcn;exact E0))
   | fail)))
 | (apply WO.hu gN;(focus (first | (((with_reducible apply ZJH));(focus (first | exact Jr rfl | (apply Zt;exact E0;(first | exact ia rfl | assumption)) | (apply K8;exact E0;(first | exact ia rfl | assumption);assumption) | fail);done);assumption;(focus (first | exact k0 | exact k1 | exact k2 | exact k3 | exact k4 | exact k5 | exact k6 | exact k7 | (repeat (first | exact k7 | apply Pk.s)));done);(focus (first | exact Jr rfl | (apply Zt;exact E0;(first | exact ia rfl | assumption)) | (apply K8;exact E0;(first | exact ia rfl | assumption);assumption) | fail);done);(focus (first | (simp only [ZfS,ZdU,Zcq,ZfQ,ZfR,ZfU,ZbD,cells_func,ZaE,KX,Zcr];exact rfl) | exact rfl));exact rfl;exact rfl;exact rfl;(focus simp only [splice,List.take_succ_cons,List.take_zero,List.drop_succ_cons,List.drop_zero,List.cons_append,List.nil_append,List.append_nil,List.length_cons,List.length_nil,Nat.reduceAdd,Nat.zero_add,List.take_nil,List.drop_nil];exact rfl)) | fail)))
 | (apply WO.hn gN rfl;(focus (first | (((with_reducible apply ZGi));(focus (first | exact Jr rfl | (apply Zt;exact E0;(first | exact ia rfl | assumption)) | (apply K8;exact E0;(first | exact ia rfl | assumption);assumption) | fail);done);assumption;(focus (first | (simp only [ZfS,ZdU,Zcq,ZfQ,ZfR,ZfU,ZbD,cells_func,ZaE,KX,Zcr];exact rfl) | exact rfl))) | (((with_reducible apply ZGj));assumption;(focus (first | (simp only [ZfS,ZdU,Zcq,ZfQ,ZfR,ZfU,ZbD,cells_func,ZaE,KX,Zcr];exact rfl) | exact rfl))) | fail)))
 | refine WC.skip ?_
 | refine WC.ret ?_
 | refine WC.block ?_
 | refine WC.exit ?_
 | refine QB.ret ?_
 | refine QB.exit ?_
 | refine U6.ret ?_
 | refine U6.Yv ?_
 | refine U6.here ?_
 | refine Yw.exit ?_
 | refine Yw.ret ?_
 | refine WX.nil ?_
 | fail
 exact k.out):p:=h ⟨k⟩
theorem r2 {p q:Prop} (k:q) (h:Kp q ->p:=by
 intro k
 iterate 2 (refine r1 ?_)
 exact k.out):p:=h ⟨k⟩
theorem r3 {p q:Prop} (k:q) (h:Kp q ->p:=by
 intro k
 iterate 3 (refine r1 ?_)
 exact k.out):p:=h ⟨k⟩
theorem r4 {p q:Prop} (k:q) (h:Kp q ->p:=by
 intro k
 iterate 4 (refine r1 ?_)
 exact k.out):p:=h ⟨k⟩
theorem r6 {p q:Prop} (k:q) (h:Kp q ->p:=by
 intro k
 iterate 6 (refine r1 ?_)
 exact k.out):p:=h ⟨k⟩
theorem r8 {p q:Prop} (k:q) (h:Kp q ->p:=by
 intro k
 iterate 8 (refine r1 ?_)
 exact k.out):p:=h ⟨k⟩
theorem J6 {p q:Prop} (k:q) (h:Kp q ->p:=by
 intro k
 iterate 12 (refine r1 ?_)
 exact k.out):p:=h ⟨k⟩
theorem r16 {p q:Prop} (k:q) (h:Kp q ->p:=by
 intro k
 iterate 16 (refine r1 ?_)
 exact k.out):p:=h ⟨k⟩
end Go.Yz
end
end
section
noncomputable section
namespace Go.Proofs.Ytekpjgmhkkjhgaa
open Go.Yz Go.Lf
instance:Zd3 XX.P 3:= ⟨Xk⟩
instance:Zd3 XX.P 4:= ⟨ZJM⟩
instance:Zd3 XX.P 5:= ⟨ZB8⟩
instance:Zd3 XX.P 22:= ⟨Zzp⟩
instance:Zd3 XX.P 23:= ⟨ZnM⟩
instance:Zd3 XX.P 24:= ⟨Zvz⟩
instance:Zjt XX.P 26:= ⟨K5⟩
instance:Zd3 XX.P 27:= ⟨Zvy⟩
instance:Zjt XX.P 29:= ⟨ZiJ⟩
instance:Zd3 XX.P 32:= ⟨Zvx⟩
instance:Zd3 XX.P 56:= ⟨ZGs⟩
instance:Zjt XX.P 58:= ⟨ZeK⟩
instance:Zd3 XX.P 59:= ⟨Zkc⟩
instance:Zjt XX.P 61:= ⟨Zgz⟩
instance:Zd3 XX.P 63:= ⟨ZGr⟩
instance:Zjt XX.P 65:= ⟨WW⟩
instance:Zjt XX.P 73:= ⟨Zdm⟩
instance:Zjt XX.P 80:= ⟨Zzo⟩
instance:Zjt XX.P 91:= ⟨ZGq⟩
instance:Zd3 XX.P 94:= ⟨Zvw⟩
instance:Zd3 XX.P 95:= ⟨Zgy⟩
instance:Zd3 XX.P 110:= ⟨ZlS⟩
instance:Zjt XX.P 113:= ⟨ZB9⟩
instance:SzF XX.P 3 1:= ⟨Xc⟩
instance:SzF XX.P 4 1:= ⟨Zyt⟩
instance:SzF XX.P 5 1:= ⟨ZsL⟩
instance:SzF XX.P 22 1:= ⟨ZzR⟩
instance:SzF XX.P 23 1:= ⟨Zoa⟩
instance:SzF XX.P 24 1:= ⟨ZzQ⟩
instance:SzF XX.P 26 4:= ⟨X9⟩
instance:SzF XX.P 29 4:= ⟨ZbR⟩
instance:SzF XX.P 32 1:= ⟨ZzP⟩
instance:SzF XX.P 58 5:= ⟨XI⟩
instance:SzF XX.P 59 1:= ⟨Zbc⟩
instance:SzF XX.P 61 6:= ⟨Jt⟩
instance:SzF XX.P 63 1:= ⟨ZsK⟩
instance:SzF XX.P 65 2:= ⟨XO⟩
instance:SzF XX.P 73 2:= ⟨YQ⟩
instance:SzF XX.P 80 4:= ⟨Zkq⟩
instance:SzF XX.P 91 4:= ⟨ZzO⟩
instance:SzF XX.P 94 1:= ⟨ZzN⟩
instance:SzF XX.P 110 1:= ⟨Zkr⟩
instance:SzF XX.P 113 2:= ⟨Zwb⟩
instance:JP XX.P 26 0 0:= ⟨Zxw⟩
instance:JP XX.P 26 1 1:= ⟨Zxv⟩
instance:JP XX.P 26 2 2:= ⟨Zxu⟩
instance:JP XX.P 26 3 3:= ⟨Zxt⟩
instance:JP XX.P 29 0 0:= ⟨Zk0⟩
instance:JP XX.P 29 1 1:= ⟨Zbx⟩
instance:JP XX.P 29 2 2:= ⟨ZcT⟩
instance:JP XX.P 29 3 3:= ⟨Zbw⟩
instance:JP XX.P 58 0 0:= ⟨Zxs⟩
instance:JP XX.P 58 1 1:= ⟨Zxr⟩
instance:JP XX.P 58 2 2:= ⟨Zxq⟩
instance:JP XX.P 58 3 3:= ⟨Zxp⟩
instance:JP XX.P 58 4 4:= ⟨Zqi⟩
instance:JP XX.P 61 0 0:= ⟨Zxo⟩
instance:JP XX.P 61 1 1:= ⟨Zxn⟩
instance:JP XX.P 61 2 2:= ⟨Zqh⟩
instance:JP XX.P 61 3 3:= ⟨ZkZ⟩
instance:JP XX.P 61 4 4:= ⟨Zxm⟩
instance:JP XX.P 61 5 5:= ⟨Zxl⟩
instance:JP XX.P 65 0 0:= ⟨Zqg⟩
instance:JP XX.P 65 1 1:= ⟨Zxk⟩
instance:JP XX.P 73 0 0:= ⟨Zxj⟩
instance:JP XX.P 73 1 1:= ⟨Zxi⟩
instance:JP XX.P 80 0 0:= ⟨Zxh⟩
instance:JP XX.P 80 1 1:= ⟨Zxg⟩
instance:JP XX.P 80 2 2:= ⟨Zxf⟩
instance:JP XX.P 80 3 3:= ⟨Zxe⟩
instance:JP XX.P 91 2 2:= ⟨Zxd⟩
instance:JP XX.P 91 3 3:= ⟨Zxc⟩
instance:JP XX.P 97 0 0:= ⟨Zxb⟩
instance:JP XX.P 97 1 1:= ⟨Zxa⟩
instance:JP XX.P 97 2 2:= ⟨Zw9⟩
instance:JP XX.P 97 3 3:= ⟨ZkY⟩
instance:JP XX.P 97 4 4:= ⟨Zw8⟩
instance:Zjr XX.P 22 59:= ⟨Zf6⟩
instance:Zjr XX.P 23 58:= ⟨UM⟩
instance:Zjr XX.P 24 3:= ⟨Qn⟩
instance:Zjr XX.P 38 29:= ⟨ZC0⟩
instance:Zjr XX.P 43 91:= ⟨ZCZ⟩
instance:Zjr XX.P 59 61:= ⟨Zhk⟩
instance:Zjr XX.P 62 80:= ⟨ZsD⟩
instance:Zjr XX.P 63 73:= ⟨Qh⟩
instance:Zjr XX.P 69 5:= ⟨ZsC⟩
instance:ZCk XX.P 4:= ⟨ZzI⟩
instance:ZcC XX.P 3 (.int .i64 0):= ⟨U7⟩
instance:ZcC XX.P 24 (.slice none 0 0):= ⟨Zzy⟩
instance:ZcC XX.P 26 (.agg #[.slice none 0 0,.slice none 0 0,.int .i64 0,.slice none 0 0]):= ⟨ZnS⟩
instance:ZcC XX.P 29 (.agg #[.int .i64 0,.int .i64 0,.int .i64 0,.int .i64 0]):= ⟨ZnR⟩
instance:ZcC XX.P 32 (.int .i64 0):= ⟨Zzx⟩
instance:ZcC XX.P 58 (.agg #[.int .i64 0,.int .i64 0,.int .i64 0,.int .i64 0,.int .i64 0]):= ⟨ZeS⟩
instance:ZcC XX.P 59 (.slice none 0 0):= ⟨Zsw⟩
instance:ZcC XX.P 61 (.agg #[.int .i64 0,.bool false,.int .i64 0,.int .i64 0,.int .i64 0,.bool false]):= ⟨Uo⟩
instance:ZcC XX.P 65 (.agg #[.slice none 0 0,.slice none 0 0]):= ⟨Zzw⟩
instance:ZcC XX.P 73 (.agg #[.int .i64 0,.int .i64 0]):= ⟨Za8⟩
instance:ZcC XX.P 80 (.agg #[.int .u8 0,.int .u8 0,.int .u8 0,.int .u8 0]):= ⟨Zzv⟩
instance:ZcC XX.P 91 (.agg #[.int .i64 0,.int .i64 0,.int .i64 0,.int .i64 0]):= ⟨Zzu⟩
instance:ZcC XX.P 94 (.pointer none):= ⟨Zzt⟩
instance:ZcC XX.P 97 (.agg #[.int .i64 0,.int .i64 0,.map none,.slice none 0 0,.slice none 0 0]):= ⟨Zsv⟩
instance:ZcC XX.P 110 (.map none):= ⟨Zv0⟩
instance:ZcC XX.P 113 (.agg #[.int .i64 0,.int .i64 0]):= ⟨ZpH⟩
end Go.Proofs.Ytekpjgmhkkjhgaa
end
end
section
namespace Go.Proofs.Ytekpjgmhkkjhgaa
open Go.Lf
end Go.Proofs.Ytekpjgmhkkjhgaa
end
section
set_option maxRecDepth 20000
noncomputable section
namespace Go.Proofs.Ytekpjgmhkkjhgaa
open Go.Yz Go.Lf
end Go.Proofs.Ytekpjgmhkkjhgaa
end
end
section
namespace Go.Proofs.Ytekpjgmhkkjhgaa
open Go.Lf
def ZxB (p0:(List Yy)):Option (List Yy):=
 (app 16 ([]:List Yy) p0).bind fun z3=>some z3
def ZfB (p0:ZaF) (p1:Int) (p2:Int) (p3:Int) (x5:Int) (v14:Int) (v26:Int) (x28:Int):Bool ->Option (Zn×Bool):=fun v41=>
 (bif v41 then some ((Zn.mk 2 x5 v14 v26),((decide (p2 > 0)) && (decide (p1 > 1)))) else(bif(x28==3) then some ((Zn.mk 3 x5 v14 0),decide (p2 > 0)) else(bif(x28==4) then some ((Zn.mk 4 x5 v14 v26),((decide (p2 > 0)) && (decide (p1 > 1)))) else(bif(p3==0) then some ((Zn.mk 0 0 0 0),false) else(ZbV (ZJ p0.at_) p3).bind fun x47=>some ((Zn.mk 5 x47 0 0),true)))))
def ZfC (p0:ZaF) (p1:Int) (p2:Int) (p3:Int) (x5:Int) (v14:Int):Int ->Option (Zn×Bool):=fun v26=>
 (ZbV p0.Z4 9).bind fun x28=>(bif(x28==0) then some ((Zn.mk 1 x5 0 0),decide (p2 < 12)) else(bif(x28==1) then(ZfB p0 p1 p2 p3 x5 v14 v26 x28) (x28==1) else(ZfB p0 p1 p2 p3 x5 v14 v26 x28) (x28==2)))
def ZfD (p0:ZaF) (p1:Int) (p2:Int) (p3:Int) (x5:Int):Int ->Option (Zn×Bool):=fun v14=>
 (bif decide (p1 > 1) then(ZbV (ZJ p0.Zy) (ZJ (p1 - 1))).bind fun x49=>(ZbV (ZJ ((ZJ (x5 + 1)) + x49)) p1).bind fun x50=>(ZfC p0 p1 p2 p3 x5 v14) x50 else(ZfC p0 p1 p2 p3 x5 v14) 0)
def ZuP (p0:ZaF) (p1:Int) (p2:Int) (p3:Int):Option (Zn×Bool):=
 (ZbV (ZJ p0.at_) p1).bind fun x5=>(bif decide (p2 > 0) then(ZbV (ZJ p0.name) p2).bind fun x51=>(ZfD p0 p1 p2 p3 x5) x51 else(ZfD p0 p1 p2 p3 x5) 0)
def Zid (p0:Zn) (p1:Int):Bool ->Option Bool:=fun v10=>
 (bif v10 then(bif((decide (p0.at_ >=0)) && (decide (p0.at_ < p1))) then some ((((decide (p0.Zy >=0)) && (decide (p0.Zy < p1))) && (p0.at_ !=p0.Zy)) && (decide (p0.name >=0))) else some ((false && (p0.at_ !=p0.Zy)) && (decide (p0.name >=0)))) else(bif(p0.Z4==3) then some ((((decide (p0.at_ >=0)) && (decide (p0.at_ < p1))) && (decide (p0.name >=0))) && (p0.Zy==0)) else some ((((p0.Z4==5) && (decide (p0.at_ >=0))) && (p0.name==0)) && (p0.Zy==0))))
def ZrJ (p0:Zn) (p1:Int):Option Bool:=
 (bif(p0.Z4==1) then some ((((decide (p0.at_ >=0)) && (decide (p0.at_ < p1))) && (p0.name==0)) && (p0.Zy==0)) else(bif(p0.Z4==2) then(Zid p0 p1) (p0.Z4==2) else(Zid p0 p1) (p0.Z4==4)))
end Go.Proofs.Ytekpjgmhkkjhgaa
end
section
set_option maxRecDepth 20000
noncomputable section
namespace Go.Proofs.Ytekpjgmhkkjhgaa
open Go.Yz Go.Lf
theorem ZBF {wm:Nat} {h:H} {p0:(List Yy)} {Zr:Option Addr} {Zq:Nat} {r:(List Yy)} (ZF:wm <=h.size) (ZG:Sl Yg wm h Zr Zq p0) (hL:ZxB p0=some r):
 WR XX 42 #[.slice Zr p0.length Zq] wm h (CP (fun(v:Value) (Gb:List (Ast wm))=>∃ (Xz:Option Addr) (XY:Nat) (Xy:Nat),v= .slice Xz XY Xy∧Gb= [ow wm Yg Xz XY Xy r]) [] h):=by
 refine bg Try.ntmps42 ZF ZT.nil ?_;intro T hT hS;unfold ZxB at hL;refine r8 ?_;rcases Sl.cases ZG with⟨rfl,rfl,rfl⟩ | ⟨qa,rfl⟩
 ·
  refine r1 ?_;refine WO.w gN rfl (Z9 (Zt fh rfl) (Jr rfl) (Zf3 Qh)) ?_;refine r2 ?_;refine WC.ZlB lk rfl ?_;rw [Zpq _ (by decide)] at hL;replace hL:some []=some r:=hL;refine r6 ?_;refine r1 ?_;have hS:=hS.nil (e:=Yg);have hr:=Option.some.inj hL;subst hr;exact ZQ.QN rfl (ZB lk Zm) ⟨_,⟨none,0,0,rfl,rfl⟩,hT ▸ hS.only (.c k0 .n)⟩
 ·
  refine r1 ?_;refine WO.w gN rfl (Z9 (Zt fh rfl) (Jr rfl) (Zf4 Qh)) ?_;refine r2 ?_;refine WC.ZdT lk rfl ?_;refine r4 ?_;refine WO.hn gN rfl (ZgD (e:=Yg) hS Qh YQ Za8 rfl rfl rfl ZE rfl [] rfl (xs:= ([]:List Yy)) rfl (by intro q hq;cases hq) rfl) ?_;rintro _ h2 ⟨b1,eb1,rfl,hS⟩;refine r1 ?_;obtain⟨z3,hz3,hL⟩:=bind_some hL;refine WO.hv gN rfl (Zec (e:=Yg) hS k0 K4 lk lk (Sl.src (hS.sl ZG)) rfl hz3) ?_;rintro _ h6 ⟨a4,c5,rfl,hS⟩;refine r4 ?_;have hr:=Option.some.inj hL;subst hr;exact ZQ.QN rfl (ZB lk Zm) ⟨_,⟨a4,z3.length,c5,rfl,rfl⟩,hT ▸ hS.only (.c k0 .n)⟩
theorem ZBD {wm:Nat} {h:H} {p0:ZaF} {p1 p2 p3:Int} {r:(Zn×Bool)} (ZF:wm <=h.size) (hL:ZuP p0 p1 p2 p3=some r):
 WR XX 45 #[.agg [.int .u8 p0.Z4,.int .u8 p0.at_,.int .u8 p0.name,.int .u8 p0.Zy].toArray,.int .i64 p1,.int .i64 p2,.int .i64 p3] wm h (CP (fun(v:Value) (Gb:List (Ast wm))=>v= .tuple [.agg [.int .i64 r.1.Z4,.int .i64 r.1.at_,.int .i64 r.1.name,.int .i64 r.1.Zy].toArray,.bool r.2].toArray∧Gb= []) [] h):=by
 refine bg Try.ntmps45 ZF ZT.nil ?_;intro T hT hS;unfold ZuP at hL;refine r3 ?_;rintro _ h2 ⟨b1,eb1,rfl,hS⟩;refine r1 ?_;rintro _ h4 ⟨b3,eb3,rfl,hS⟩;refine r6 ?_;refine r1 ?_;refine WO.w gN rfl (ZbE Zmb Zkn lk) ?_;refine r1 ?_;obtain⟨x5,hx5,hL⟩:=bind_some hL;refine WO.w gN rfl (Z9 (Zt (Zf rfl fh) rfl) (Zt fh rfl) (Qm hx5)) ?_;refine r4 ?_;refine r1 ?_;refine WC.KH (r:=r) (fun(v14:Int) (s:Fs)=>∃ (fr7:Fr) (h6:H),s= ⟨fr7,[],h6,none⟩∧Sp wm T h [bx wm b1 [.int .u8 p0.Z4,.int .u8 p0.at_,.int .u8 p0.name,.int .u8 p0.Zy],bx wm b3 [.int .i64 0,.int .i64 0,.int .i64 0,.int .i64 0]] h6∧fr7.at 1= .int .i64 p1∧fr7.at 2= .int .i64 p2∧fr7.at 3= .int .i64 p3∧fr7.at 4= .pointer (some ⟨b1,0,none⟩)∧fr7.at 8= .pointer (some ⟨b3,0,none⟩)∧fr7.at 10= .int .i64 x5∧fr7.at 11= .int .i64 v14∧fr7.at 12= .int .i64 0) (ZfD p0 p1 p2 p3 x5) ?_ ?_
 ·clear hL hS;rintro v14 s hL ⟨fr7,h6,rfl,hS,e8,e9,e10,e11,e12,e13,e15,e16⟩;dsimp only [ZfD] at hL;refine WC.KH (r:=r) (fun(v26:Int) (s:Fs)=>∃ (KS:Fr) (h17:H),s= ⟨KS,[],h17,none⟩∧Sp wm T h [bx wm b1 [.int .u8 p0.Z4,.int .u8 p0.at_,.int .u8 p0.name,.int .u8 p0.Zy],bx wm b3 [.int .i64 0,.int .i64 0,.int .i64 0,.int .i64 0]] h17∧KS.at 1= .int .i64 p1∧KS.at 2= .int .i64 p2∧KS.at 3= .int .i64 p3∧KS.at 4= .pointer (some ⟨b1,0,none⟩)∧KS.at 8= .pointer (some ⟨b3,0,none⟩)∧KS.at 10= .int .i64 x5∧KS.at 11= .int .i64 v14∧KS.at 12= .int .i64 v26) (ZfC p0 p1 p2 p3 x5 v14) ?_ ?_
  ·clear hL hS;rintro v26 s hL ⟨KS,h17,rfl,hS,e19,e20,e21,e22,e23,e24,e25,e27⟩;dsimp only [ZfC] at hL;refine r4 ?_;refine r1 ?_;obtain⟨x28,hx28,hL⟩:=bind_some hL;refine WO.w gN rfl (Z9 (Zt fh rfl) (Jr rfl) (Qm hx28)) ?_;refine r8 ?_;refine r1 ?_;refine cn hL ?_ ?_
   ·intro hc hL;refine r3 ?_;refine WO.w gN rfl (Xj Zgw (Zh lk (Zh lk ZE)) rfl (cs':= [.int .i64 1,.int .i64 x5,.int .i64 0,.int .i64 0]) rfl) ?_;refine r3 ?_;rintro h29 hS;refine r6 ?_;have hr:=Option.some.inj hL;subst hr;exact ZQ.gen (vs:= [.agg [.int .i64 1,.int .i64 x5,.int .i64 0,.int .i64 0].toArray,.bool (decide (p2 < 12))]) rfl (ZL (ZN rfl (ZP rfl e23)) (ZW ZiJ ZbR (hS.Qj k0) (j:=0) rfl rfl (ws:= [.int .i64 1,.int .i64 x5,.int .i64 0,.int .i64 0]) rfl) (ZB lk Zm)) rfl ⟨_,⟨rfl,rfl⟩,hT ▸ hS.only .n⟩
   ·intro hc hL;refine WC.KH (r:=r) (fun(v41:Bool) (s:Fs)=>∃ (ZgJ:Fr) (h30:H),s= ⟨ZgJ,[],h30,none⟩∧Sp wm T h [bx wm b1 [.int .u8 p0.Z4,.int .u8 p0.at_,.int .u8 p0.name,.int .u8 p0.Zy],bx wm b3 [.int .i64 0,.int .i64 0,.int .i64 0,.int .i64 0]] h30∧ZgJ.at 1= .int .i64 p1∧ZgJ.at 2= .int .i64 p2∧ZgJ.at 3= .int .i64 p3∧ZgJ.at 4= .pointer (some ⟨b1,0,none⟩)∧ZgJ.at 8= .pointer (some ⟨b3,0,none⟩)∧ZgJ.at 10= .int .i64 x5∧ZgJ.at 11= .int .i64 v14∧ZgJ.at 12= .int .i64 v26∧ZgJ.at 40= .int .u8 x28∧ZgJ.at 47= .bool v41) (ZfB p0 p1 p2 p3 x5 v14 v26 x28) ?_ ?_
    ·clear hL hS;rintro v41 s hL ⟨ZgJ,h30,rfl,hS,e32,e33,e34,e35,e36,e37,e38,e39,e40,e42⟩;dsimp only [ZfB] at hL;refine cn hL ?_ ?_
     ·intro hc hL;refine r4 ?_;refine r1 ?_;refine WO.w gN rfl (Xj Zgw (Zh lk (Zh lk (Zh lk (Zh lk ZE)))) rfl (cs':= [.int .i64 2,.int .i64 x5,.int .i64 v14,.int .i64 v26]) rfl) ?_;refine r6 ?_;refine r1 ?_;rintro h43 hS;refine r6 ?_;have hr:=Option.some.inj hL;subst hr;exact ZQ.gen (vs:= [.agg [.int .i64 2,.int .i64 x5,.int .i64 v14,.int .i64 v26].toArray,.bool ((decide (p2 > 0)) && (decide (p1 > 1)))]) rfl (ZL (ZN rfl (ZP rfl (Zf rfl e36))) (ZW ZiJ ZbR (hS.Qj k0) (j:=0) rfl rfl (ws:= [.int .i64 2,.int .i64 x5,.int .i64 v14,.int .i64 v26]) rfl) (ZB lk Zm)) rfl ⟨_,⟨rfl,rfl⟩,hT ▸ hS.only .n⟩
     ·intro hc hL;refine r6 ?_;refine cn hL ?_ ?_
      ·intro hc hL;refine r4 ?_;refine WO.w gN rfl (Xj Zgw (Zh lk (Zh lk (Zh lk ZE))) rfl (cs':= [.int .i64 3,.int .i64 x5,.int .i64 v14,.int .i64 0]) rfl) ?_;refine r3 ?_;rintro h44 hS;refine r6 ?_;have hr:=Option.some.inj hL;subst hr;exact ZQ.gen (vs:= [.agg [.int .i64 3,.int .i64 x5,.int .i64 v14,.int .i64 0].toArray,.bool (decide (p2 > 0))]) rfl (ZL (ZN rfl e36) (ZW ZiJ ZbR (hS.Qj k0) (j:=0) rfl rfl (ws:= [.int .i64 3,.int .i64 x5,.int .i64 v14,.int .i64 0]) rfl) (ZB lk Zm)) rfl ⟨_,⟨rfl,rfl⟩,hT ▸ hS.only .n⟩
      ·intro hc hL;refine r6 ?_;refine cn hL ?_ ?_
       ·intro hc hL;refine r4 ?_;refine r1 ?_;refine WO.w gN rfl (Xj Zgw (Zh lk (Zh lk (Zh lk (Zh lk ZE)))) rfl (cs':= [.int .i64 4,.int .i64 x5,.int .i64 v14,.int .i64 v26]) rfl) ?_;refine r6 ?_;refine r1 ?_;rintro h45 hS;refine r6 ?_;have hr:=Option.some.inj hL;subst hr;exact ZQ.gen (vs:= [.agg [.int .i64 4,.int .i64 x5,.int .i64 v14,.int .i64 v26].toArray,.bool ((decide (p2 > 0)) && (decide (p1 > 1)))]) rfl (ZL (ZN rfl (Yi rfl (ZP rfl (Zf rfl e36)))) (ZW ZiJ ZbR (hS.Qj k0) (j:=0) rfl rfl (ws:= [.int .i64 4,.int .i64 x5,.int .i64 v14,.int .i64 v26]) rfl) (ZB lk Zm)) rfl ⟨_,⟨rfl,rfl⟩,hT ▸ hS.only .n⟩
       ·intro hc hL;refine r8 ?_;refine r2 ?_;refine cn hL ?_ ?_
        ·intro hc hL;refine r2 ?_;refine WO.w gN rfl (Xj Zgw ZE rfl (cs':= [.int .i64 0,.int .i64 0,.int .i64 0,.int .i64 0]) rfl) ?_;refine r1 ?_;rintro h46 hS;refine r4 ?_;refine r1 ?_;have hr:=Option.some.inj hL;subst hr;exact ZQ.gen (vs:= [.agg [.int .i64 0,.int .i64 0,.int .i64 0,.int .i64 0].toArray,.bool false]) rfl (ZL (ZN rfl e36) (ZW ZiJ ZbR (hS.Qj k0) (j:=0) rfl rfl (ws:= [.int .i64 0,.int .i64 0,.int .i64 0,.int .i64 0]) rfl) (ZB lk Zm)) rfl ⟨_,⟨rfl,rfl⟩,hT ▸ hS.only .n⟩
        ·intro hc hL;refine r6 ?_;refine WO.w gN rfl (ZbE Zmb Zkn lk) ?_;refine r1 ?_;obtain⟨x47,ZAg,hL⟩:=bind_some hL;refine WO.w gN rfl (Z9 (Zt (Zf rfl fh) rfl) (Zt fh rfl) (Qm ZAg)) ?_;refine WO.w gN rfl (Xj Zgw (Zh lk (Zh lk ZE)) rfl (cs':= [.int .i64 5,.int .i64 x47,.int .i64 0,.int .i64 0]) rfl) ?_;refine r1 ?_;rintro h48 hS;refine r4 ?_;have hr:=Option.some.inj hL;subst hr;exact ZQ.gen (vs:= [.agg [.int .i64 5,.int .i64 x47,.int .i64 0,.int .i64 0].toArray,.bool true]) rfl (ZL (ZN rfl (Yi rfl (Zf rfl e36))) (ZW ZiJ ZbR (hS.Qj k0) (j:=0) rfl rfl (ws:= [.int .i64 5,.int .i64 x47,.int .i64 0,.int .i64 0]) rfl) (ZB lk Zm)) rfl ⟨_,⟨rfl,rfl⟩,hT ▸ hS.only .n⟩
    ·skip;refine r6 ?_;refine cn hL ?_ ?_
     ·intro hc hL;refine r1 ?_;exact YH.Yv _ hL ⟨_,_,rfl,hS.only (.c k0 (.c k0 .n)),YN⟩
     ·intro hc hL;refine r4 ?_;exact YH.Yv _ hL ⟨_,_,rfl,hS.only (.c k0 (.c k0 .n)),YN⟩
  ·skip;refine r6 ?_;refine cn hL ?_ ?_
   ·intro hc hL;refine r4 ?_;refine r1 ?_;refine WO.w gN rfl (ZbE Zmb Zkn lk) ?_;refine r2 ?_;obtain⟨x49,Zrj,hL⟩:=bind_some hL;refine WO.w gN rfl (Z9 (Zt (ZP rfl fh) rfl) (Zt fh rfl) (Qm Zrj)) ?_;refine r2 ?_;obtain⟨x50,ZAf,hL⟩:=bind_some hL;refine WO.w gN rfl (Z9 (Zt (Zf rfl fh) rfl) (Zt fh rfl) (Qm ZAf)) ?_;refine r2 ?_;exact YH.Yv _ hL ⟨_,_,rfl,hS.only (.c k0 (.c k0 .n)),YN⟩
   ·intro hc hL;refine r1 ?_;exact YH.Yv _ hL ⟨_,_,rfl,hS.only (.c k0 (.c k0 .n)),YN⟩
 ·skip;refine r6 ?_;refine cn hL ?_ ?_
  ·intro hc hL;refine r3 ?_;refine WO.w gN rfl (ZbE Zmb Zkn lk) ?_;refine r1 ?_;obtain⟨x51,ZAe,hL⟩:=bind_some hL;refine WO.w gN rfl (Z9 (Zt (Zf rfl fh) rfl) (Zt fh rfl) (Qm ZAe)) ?_;refine r2 ?_;exact YH.Yv _ hL ⟨_,_,rfl,hS.only (.c k1 (.c k0 .n)),YN⟩
  ·intro hc hL;refine r1 ?_;exact YH.Yv _ hL ⟨_,_,rfl,hS.only (.c k1 (.c k0 .n)),YN⟩
theorem ZBA {wm:Nat} {h:H} {p0:Zn} {p1:Int} {r:Bool} (ZF:wm <=h.size) (hL:ZrJ p0 p1=some r):
 WR XX 55 #[.agg [.int .i64 p0.Z4,.int .i64 p0.at_,.int .i64 p0.name,.int .i64 p0.Zy].toArray,.int .i64 p1] wm h (CP (fun(v:Value) (Gb:List (Ast wm))=>v= .bool r∧Gb= []) [] h):=by
 refine WF.begin (args:= [_,_]) (fn:=Try.f55) (by kernel_rfl) (by exact rfl) Try.ntmps55 (by simp) ?_;simp only [ZC,ZI,Nat.reduceAdd];obtain⟨T,hT,hS⟩:∃ T,T=XD (wm:=wm) []∧Sp wm T h [] h:= ⟨_,rfl,Sp.start ZF ZT.nil⟩
 unfold ZrJ at hL;refine WC.seq ?_;refine WC.region ?_;refine WO.hn gN rfl (ZpL hS (Zt (Zf rfl fh) rfl) (vs:= [.int .i64 p0.Z4,.int .i64 p0.at_,.int .i64 p0.name,.int .i64 p0.Zy]) rfl) ?_;rintro _ h2 ⟨b1,eb1,rfl,hS⟩;refine WO.hn gN rfl (ZpL hS (Zt (Zf rfl fh) rfl) (vs:= [.int .i64 p1]) rfl) ?_;rintro _ h4 ⟨b3,eb3,rfl,hS⟩;refine WO.w gN rfl (Z7 (Jr rfl)) ?_;refine WO.nil ?_;refine QB.Yv ?_;refine WC.seq ?_;refine WC.region ?_;refine WO.w gN rfl (Zcu (Zc (Zt (Zf rfl fh) rfl) Zk)) ?_;refine WO.w gN rfl (Z7 (Zt fh rfl)) ?_;refine WO.nil ?_;refine QB.Yv ?_;refine WC.seq ?_;refine WC.seq ?_;refine WC.region ?_;refine WO.w gN rfl (Xt Zk0 (Zt (Yi rfl fh) rfl)) ?_;refine WO.w gN rfl (ZR Zvy (Zt fh rfl) (hS.Qj k1) (j:=0) rfl (v:= .int .i64 p0.Z4) rfl) ?_;refine WO.nil ?_;refine QB.Yv ?_;refine WC.block ?_;refine WC.seq ?_;refine WC.region ?_;refine WO.w gN rfl (Z9 (Zt fh rfl) (Jr rfl) JN) ?_;refine WO.w gN rfl (Z7 (Zt fh rfl)) ?_;refine WO.nil ?_;refine QB.Yv ?_;refine WC.Znu (Zt fh rfl) (fun hc=>?_) (fun hc=>?_)
 ·replace hL:=Wy hc hL;refine WC.seq ?_;refine WC.region ?_;refine WO.w gN rfl (YC (Zt (Yi rfl fh) rfl)) ?_;refine WO.w gN rfl (Xt Zbx (Zt (ZN rfl (Zf rfl fh)) rfl)) ?_;refine WO.w gN rfl (ZR Xk (Zt fh rfl) (hS.Qj k1) (j:=1) rfl (v:= .int .i64 p0.at_) rfl) ?_;refine WO.inl gN rfl (Y0.clo (first:= []) (cap:= [.pointer (some ⟨b3,0,none⟩)]) (Zt (ZP rfl fh) rfl) Zp7 (Zc (Zt fh rfl) Zk) rfl) (WF.begin (args:= [_,_]) (fn:=Try.f92) (by kernel_rfl) (by exact rfl) Try.ntmps92 (by simp) ?_);simp only [ZC,ZI,Nat.reduceAdd];refine WC.seq ?_;refine WC.region ?_;refine WO.w gN rfl (Z7 (Jr rfl)) ?_;refine WO.nil ?_;refine QB.Yv ?_;refine WC.seq ?_;refine WC.region ?_;refine WO.w gN rfl (YC (Zt (ZP rfl fh) rfl)) ?_;refine WO.w gN rfl (Z9 (Zt fh rfl) (Jr rfl) U3) ?_;refine WO.w gN rfl (YC (Zt fh rfl)) ?_;refine WO.gv (Zi.yes rfl rfl rfl fh) rfl (fun hg=>(YC (Zt (Yi rfl (Zf rfl fh)) rfl))) ?_;refine WO.gv (Zi.yes rfl rfl rfl (Zf rfl fh)) rfl (fun hg=>(ZR Xk (Zt (Yi rfl (Zf rfl fh)) rfl) (hS.Qj k0) (j:=0) rfl (v:= .int .i64 p1) rfl)) ?_;refine WO.gv (Zi.yes rfl rfl rfl (ZP rfl fh)) rfl (fun hg=>(Z9 (XE (Zf rfl fh) rfl hg) (XE fh rfl hg) ZcB)) ?_;refine WO.w gN rfl (QL (Zt (ZP rfl (Zf rfl fh)) rfl) (Zcn fh) (Jr rfl)) ?_;refine WO.w gN rfl (Z7 (Zt fh rfl)) ?_;refine WO.nil ?_;refine QB.Yv ?_;refine WC.ret ?_;refine ZQ.QN rfl (ZB (Zt fh rfl) Zm) ?_;refine WO.w gN rfl (YC (Zt fh rfl)) ?_;refine WO.gv (Zi.yes rfl rfl rfl fh) rfl (fun hg=>(Xt ZcT (Zt (ZN rfl (Yi rfl (Zf rfl fh))) rfl))) ?_;refine WO.gv (Zi.yes rfl rfl rfl (Zf rfl fh)) rfl (fun hg=>(ZR Xk (XE fh rfl hg) (hS.Qj k1) (j:=2) rfl (v:= .int .i64 p0.name) rfl)) ?_;refine WO.gv (Zi.yes rfl rfl rfl (ZP rfl fh)) rfl (fun hg=>(Z9 (XE fh rfl hg) (Jr rfl) JN)) ?_;refine WO.w gN rfl (QL (Zt (ZP rfl (Zf rfl fh)) rfl) (Zcn fh) (Jr rfl)) ?_;refine WO.w gN rfl (YC (Zt fh rfl)) ?_;refine WO.gv (Zi.yes rfl rfl rfl fh) rfl (fun hg=>(Xt Zbw (Zt (ZN rfl (ZN rfl (ZP rfl fh))) rfl))) ?_;refine WO.gv (Zi.yes rfl rfl rfl (Zf rfl fh)) rfl (fun hg=>(ZR Xk (XE fh rfl hg) (hS.Qj k1) (j:=3) rfl (v:= .int .i64 p0.Zy) rfl)) ?_;refine WO.gv (Zi.yes rfl rfl rfl (ZP rfl fh)) rfl (fun hg=>(Z9 (XE fh rfl hg) (Jr rfl) JN)) ?_;refine WO.w gN rfl (QL (Zt (ZP rfl (Zf rfl fh)) rfl) (Zcn fh) (Jr rfl)) ?_;refine WO.w gN rfl (Z7 (Zt fh rfl)) ?_;refine WO.nil ?_;refine QB.Yv ?_;refine WC.ret ?_;refine U6.ret ?_;refine QB.ret ?_;have hr:=Option.some.inj hL;subst hr;exact ZQ.QN rfl (ZB (Zt fh rfl) Zm) ⟨_,⟨rfl,rfl⟩,hT ▸ hS.only .n⟩
 ·replace hL:=Wz hc hL;refine WC.KH (r:=r) (fun(v10:Bool) (s:Fs)=>∃ (fr6:Fr) (h5:H),s= ⟨fr6,[],h5,none⟩∧Sp wm T h [bx wm b1 [.int .i64 p0.Z4,.int .i64 p0.at_,.int .i64 p0.name,.int .i64 p0.Zy],bx wm b3 [.int .i64 p1]] h5∧fr6.at 2= .pointer (some ⟨b1,0,none⟩)∧fr6.at 5= .func (.func 92) #[] [.pointer (some ⟨b3,0,none⟩)].toArray∧fr6.at 8= .int .i64 p0.Z4∧fr6.at 25= .bool v10) (Zid p0 p1) ?_ ?_
  ·clear hL hS;rintro v10 s hL ⟨fr6,h5,rfl,hS,e7,e8,e9,e11⟩;dsimp only [Zid] at hL;refine WC.Znu (Zt e11 rfl) (fun hc=>?_) (fun hc=>?_)
   ·replace hL:=Wy hc hL;refine WC.seq ?_;refine WC.region ?_;refine WO.w gN rfl (YC (Zt e8 rfl)) ?_;refine WO.w gN rfl (Xt Zbx (Zt (Zf rfl e7) rfl)) ?_;refine WO.w gN rfl (ZR Xk (Zt fh rfl) (hS.Qj k0) (j:=1) rfl (v:= .int .i64 p0.at_) rfl) ?_;refine WO.inl gN rfl (Y0.clo (first:= []) (cap:= [.pointer (some ⟨b3,0,none⟩)]) (Zt (ZP rfl fh) rfl) Zp7 (Zc (Zt fh rfl) Zk) rfl) (WF.begin (args:= [_,_]) (fn:=Try.f92) (by kernel_rfl) (by exact rfl) Try.ntmps92 (by simp) ?_);simp only [ZC,ZI,Nat.reduceAdd];refine WC.seq ?_;refine WC.region ?_;refine WO.w gN rfl (Z7 (Jr rfl)) ?_;refine WO.nil ?_;refine QB.Yv ?_;refine WC.seq ?_;refine WC.region ?_;refine WO.w gN rfl (YC (Zt (ZP rfl fh) rfl)) ?_;refine WO.w gN rfl (Z9 (Zt fh rfl) (Jr rfl) U3) ?_;refine WO.w gN rfl (YC (Zt fh rfl)) ?_;refine WO.gv (Zi.yes rfl rfl rfl fh) rfl (fun hg=>(YC (Zt (Yi rfl (Zf rfl fh)) rfl))) ?_;refine WO.gv (Zi.yes rfl rfl rfl (Zf rfl fh)) rfl (fun hg=>(ZR Xk (Zt (Yi rfl (Zf rfl fh)) rfl) (hS.Qj k1) (j:=0) rfl (v:= .int .i64 p1) rfl)) ?_;refine WO.gv (Zi.yes rfl rfl rfl (ZP rfl fh)) rfl (fun hg=>(Z9 (XE (Zf rfl fh) rfl hg) (XE fh rfl hg) ZcB)) ?_;refine WO.w gN rfl (QL (Zt (ZP rfl (Zf rfl fh)) rfl) (Zcn fh) (Jr rfl)) ?_;refine WO.w gN rfl (Z7 (Zt fh rfl)) ?_;refine WO.nil ?_;refine QB.Yv ?_;refine WC.ret ?_;refine ZQ.QN rfl (ZB (Zt fh rfl) Zm) ?_;refine WO.w gN rfl (YC (Zt fh rfl)) ?_;refine WO.gv (Zi.yes rfl rfl rfl fh) rfl (fun hg=>(YC (Zt (Yi rfl (Zf rfl e8)) rfl))) ?_;refine WO.gv (Zi.yes rfl rfl rfl (Zf rfl fh)) rfl (fun hg=>(Xt Zbw (Zt (Yi rfl (ZP rfl e7)) rfl))) ?_;refine WO.gv (Zi.yes rfl rfl rfl (ZP rfl fh)) rfl (fun hg=>(ZR Xk (XE fh rfl hg) (hS.Qj k0) (j:=3) rfl (v:= .int .i64 p0.Zy) rfl)) ?_;refine WO.ZkR (Zi.yes rfl rfl rfl (ZP rfl (Zf rfl fh))) (fun ZkO=>?_) (fun ZkO=>?_)
    ·replace hL:=Wy ZkO hL;refine WO.inl (Zi.on (Zi.yes rfl rfl rfl (ZP rfl (Zf rfl fh))) ZkO) rfl (Y0.clo (first:= []) (cap:= [.pointer (some ⟨b3,0,none⟩)]) (XE (ZP rfl fh) rfl ZkO) Zp7 (Zc (XE fh rfl ZkO) Zk) rfl) (WF.begin (args:= [_,_]) (fn:=Try.f92) (by kernel_rfl) (by exact rfl) Try.ntmps92 (by simp) ?_);simp only [ZC,ZI,Nat.reduceAdd];refine WC.seq ?_;refine WC.region ?_;refine WO.w gN rfl (Z7 (Jr rfl)) ?_;refine WO.nil ?_;refine QB.Yv ?_;refine WC.seq ?_;refine WC.region ?_;refine WO.w gN rfl (YC (Zt (ZP rfl fh) rfl)) ?_;refine WO.w gN rfl (Z9 (Zt fh rfl) (Jr rfl) U3) ?_;refine WO.w gN rfl (YC (Zt fh rfl)) ?_;refine WO.gv (Zi.yes rfl rfl rfl fh) rfl (fun hg=>(YC (Zt (Yi rfl (Zf rfl fh)) rfl))) ?_;refine WO.gv (Zi.yes rfl rfl rfl (Zf rfl fh)) rfl (fun hg=>(ZR Xk (Zt (Yi rfl (Zf rfl fh)) rfl) (hS.Qj k1) (j:=0) rfl (v:= .int .i64 p1) rfl)) ?_;refine WO.gv (Zi.yes rfl rfl rfl (ZP rfl fh)) rfl (fun hg=>(Z9 (XE (Zf rfl fh) rfl hg) (XE fh rfl hg) ZcB)) ?_;refine WO.w gN rfl (QL (Zt (ZP rfl (Zf rfl fh)) rfl) (Zcn fh) (Jr rfl)) ?_;refine WO.w gN rfl (Z7 (Zt fh rfl)) ?_;refine WO.nil ?_;refine QB.Yv ?_;refine WC.ret ?_;refine ZQ.QN rfl (ZB (Zt fh rfl) Zm) ?_;refine WO.w gN rfl (ZlJ (Zt (Yi rfl fh) rfl) ZkO (Zt fh rfl)) ?_;refine WO.w gN rfl (YC (Zt fh rfl)) ?_;refine WO.gv (Zi.yes rfl rfl rfl fh) rfl (fun hg=>(Xt Zbx (Zt (ZN rfl (ZP rfl (Zf rfl e7))) rfl))) ?_;refine WO.gv (Zi.yes rfl rfl rfl (Zf rfl fh)) rfl (fun hg=>(ZR Xk (XE fh rfl hg) (hS.Qj k0) (j:=1) rfl (v:= .int .i64 p0.at_) rfl)) ?_;refine WO.gv (Zi.yes rfl rfl rfl (ZP rfl fh)) rfl (fun hg=>(Xt Zbw (Zt (ZN rfl (Yi rfl (Zf rfl e7))) rfl))) ?_;refine WO.gv (Zi.yes rfl rfl rfl (ZP rfl (Zf rfl fh))) rfl (fun hg=>(ZR Xk (XE fh rfl hg) (hS.Qj k0) (j:=3) rfl (v:= .int .i64 p0.Zy) rfl)) ?_;refine WO.gv (Zi.yes rfl rfl rfl (Yi rfl fh)) rfl (fun hg=>(Z9 (XE (ZP rfl fh) rfl hg) (XE fh rfl hg) ZiL)) ?_;refine WO.w gN rfl (QL (Zt (Yi rfl (Zf rfl fh)) rfl) (Zcn fh) (Jr rfl)) ?_;refine WO.w gN rfl (YC (Zt fh rfl)) ?_;refine WO.gv (Zi.yes rfl rfl rfl fh) rfl (fun hg=>(Xt ZcT (Zt (ZN rfl (ZN rfl (ZP rfl e7))) rfl))) ?_;refine WO.gv (Zi.yes rfl rfl rfl (Zf rfl fh)) rfl (fun hg=>(ZR Xk (XE fh rfl hg) (hS.Qj k0) (j:=2) rfl (v:= .int .i64 p0.name) rfl)) ?_;refine WO.gv (Zi.yes rfl rfl rfl (ZP rfl fh)) rfl (fun hg=>(Z9 (XE fh rfl hg) (Jr rfl) U3)) ?_;refine WO.w gN rfl (QL (Zt (ZP rfl (Zf rfl fh)) rfl) (Zcn fh) (Jr rfl)) ?_;refine WO.w gN rfl (Z7 (Zt fh rfl)) ?_;refine WO.nil ?_;refine QB.Yv ?_;refine WC.ret ?_;refine U6.ret ?_;refine QB.ret ?_;have hr:=Option.some.inj hL;subst hr;exact ZQ.QN rfl (ZB (Zt fh rfl) Zm) ⟨_,⟨rfl,rfl⟩,hT ▸ hS.only .n⟩
    ·replace hL:=Wz ZkO hL;refine WO.ZmB (Zi.yes rfl rfl rfl (ZP rfl (Zf rfl fh))) ZkO rfl ?_;refine WO.w gN rfl (ZlK (Zt (Yi rfl fh) rfl) ZkO (Jr rfl)) ?_;refine WO.w gN rfl (YC (Zt fh rfl)) ?_;refine WO.gv (Zi.yes rfl rfl rfl fh) rfl (fun hg=>(Xt Zbx (Zt (ZN rfl (ZP rfl (Zf rfl e7))) rfl))) ?_;refine WO.gv (Zi.yes rfl rfl rfl (Zf rfl fh)) rfl (fun hg=>(ZR Xk (XE fh rfl hg) (hS.Qj k0) (j:=1) rfl (v:= .int .i64 p0.at_) rfl)) ?_;refine WO.gv (Zi.yes rfl rfl rfl (ZP rfl fh)) rfl (fun hg=>(Xt Zbw (Zt (ZN rfl (Yi rfl (Zf rfl e7))) rfl))) ?_;refine WO.gv (Zi.yes rfl rfl rfl (ZP rfl (Zf rfl fh))) rfl (fun hg=>(ZR Xk (XE fh rfl hg) (hS.Qj k0) (j:=3) rfl (v:= .int .i64 p0.Zy) rfl)) ?_;refine WO.gv (Zi.yes rfl rfl rfl (Yi rfl fh)) rfl (fun hg=>(Z9 (XE (ZP rfl fh) rfl hg) (XE fh rfl hg) ZiL)) ?_;refine WO.w gN rfl (QL (Zt (Yi rfl (Zf rfl fh)) rfl) (Zcn fh) (Jr rfl)) ?_;refine WO.w gN rfl (YC (Zt fh rfl)) ?_;refine WO.gv (Zi.yes rfl rfl rfl fh) rfl (fun hg=>(Xt ZcT (Zt (ZN rfl (ZN rfl (ZP rfl e7))) rfl))) ?_;refine WO.gv (Zi.yes rfl rfl rfl (Zf rfl fh)) rfl (fun hg=>(ZR Xk (XE fh rfl hg) (hS.Qj k0) (j:=2) rfl (v:= .int .i64 p0.name) rfl)) ?_;refine WO.gv (Zi.yes rfl rfl rfl (ZP rfl fh)) rfl (fun hg=>(Z9 (XE fh rfl hg) (Jr rfl) U3)) ?_;refine WO.w gN rfl (QL (Zt (ZP rfl (Zf rfl fh)) rfl) (Zcn fh) (Jr rfl)) ?_;refine WO.w gN rfl (Z7 (Zt fh rfl)) ?_;refine WO.nil ?_;refine QB.Yv ?_;refine WC.ret ?_;refine U6.ret ?_;refine QB.ret ?_;have hr:=Option.some.inj hL;subst hr;exact ZQ.QN rfl (ZB (Zt fh rfl) Zm) ⟨_,⟨rfl,rfl⟩,hT ▸ hS.only .n⟩
   ·replace hL:=Wz hc hL;refine WC.seq ?_;refine WC.region ?_;refine WO.w gN rfl (Z9 (Zt e9 rfl) (Jr rfl) JN) ?_;refine WO.w gN rfl (Z7 (Zt fh rfl)) ?_;refine WO.nil ?_;refine QB.Yv ?_;refine WC.Znu (Zt fh rfl) (fun hc=>?_) (fun hc=>?_)
    ·replace hL:=Wy hc hL;refine WC.seq ?_;refine WC.region ?_;refine WO.w gN rfl (YC (Zt (ZP rfl e8) rfl)) ?_;refine WO.w gN rfl (Xt Zbx (Zt (ZP rfl (Zf rfl e7)) rfl)) ?_;refine WO.w gN rfl (ZR Xk (Zt fh rfl) (hS.Qj k0) (j:=1) rfl (v:= .int .i64 p0.at_) rfl) ?_;refine WO.inl gN rfl (Y0.clo (first:= []) (cap:= [.pointer (some ⟨b3,0,none⟩)]) (Zt (ZP rfl fh) rfl) Zp7 (Zc (Zt fh rfl) Zk) rfl) (WF.begin (args:= [_,_]) (fn:=Try.f92) (by kernel_rfl) (by exact rfl) Try.ntmps92 (by simp) ?_);simp only [ZC,ZI,Nat.reduceAdd];refine WC.seq ?_;refine WC.region ?_;refine WO.w gN rfl (Z7 (Jr rfl)) ?_;refine WO.nil ?_;refine QB.Yv ?_;refine WC.seq ?_;refine WC.region ?_;refine WO.w gN rfl (YC (Zt (ZP rfl fh) rfl)) ?_;refine WO.w gN rfl (Z9 (Zt fh rfl) (Jr rfl) U3) ?_;refine WO.w gN rfl (YC (Zt fh rfl)) ?_;refine WO.gv (Zi.yes rfl rfl rfl fh) rfl (fun hg=>(YC (Zt (Yi rfl (Zf rfl fh)) rfl))) ?_;refine WO.gv (Zi.yes rfl rfl rfl (Zf rfl fh)) rfl (fun hg=>(ZR Xk (Zt (Yi rfl (Zf rfl fh)) rfl) (hS.Qj k1) (j:=0) rfl (v:= .int .i64 p1) rfl)) ?_;refine WO.gv (Zi.yes rfl rfl rfl (ZP rfl fh)) rfl (fun hg=>(Z9 (XE (Zf rfl fh) rfl hg) (XE fh rfl hg) ZcB)) ?_;refine WO.w gN rfl (QL (Zt (ZP rfl (Zf rfl fh)) rfl) (Zcn fh) (Jr rfl)) ?_;refine WO.w gN rfl (Z7 (Zt fh rfl)) ?_;refine WO.nil ?_;refine QB.Yv ?_;refine WC.ret ?_;refine ZQ.QN rfl (ZB (Zt fh rfl) Zm) ?_;refine WO.w gN rfl (YC (Zt fh rfl)) ?_;refine WO.gv (Zi.yes rfl rfl rfl fh) rfl (fun hg=>(Xt ZcT (Zt (Yi rfl (ZP rfl (Zf rfl e7))) rfl))) ?_;refine WO.gv (Zi.yes rfl rfl rfl (Zf rfl fh)) rfl (fun hg=>(ZR Xk (XE fh rfl hg) (hS.Qj k0) (j:=2) rfl (v:= .int .i64 p0.name) rfl)) ?_;refine WO.gv (Zi.yes rfl rfl rfl (ZP rfl fh)) rfl (fun hg=>(Z9 (XE fh rfl hg) (Jr rfl) U3)) ?_;refine WO.w gN rfl (QL (Zt (ZP rfl (Zf rfl fh)) rfl) (Zcn fh) (Jr rfl)) ?_;refine WO.w gN rfl (YC (Zt fh rfl)) ?_;refine WO.gv (Zi.yes rfl rfl rfl fh) rfl (fun hg=>(Xt Zbw (Zt (ZN rfl (Yi rfl e7)) rfl))) ?_;refine WO.gv (Zi.yes rfl rfl rfl (Zf rfl fh)) rfl (fun hg=>(ZR Xk (XE fh rfl hg) (hS.Qj k0) (j:=3) rfl (v:= .int .i64 p0.Zy) rfl)) ?_;refine WO.gv (Zi.yes rfl rfl rfl (ZP rfl fh)) rfl (fun hg=>(Z9 (XE fh rfl hg) (Jr rfl) JN)) ?_;refine WO.w gN rfl (QL (Zt (ZP rfl (Zf rfl fh)) rfl) (Zcn fh) (Jr rfl)) ?_;refine WO.w gN rfl (Z7 (Zt fh rfl)) ?_;refine WO.nil ?_;refine QB.Yv ?_;refine WC.ret ?_;refine U6.ret ?_;refine QB.ret ?_;have hr:=Option.some.inj hL;subst hr;exact ZQ.QN rfl (ZB (Zt fh rfl) Zm) ⟨_,⟨rfl,rfl⟩,hT ▸ hS.only .n⟩
    ·replace hL:=Wz hc hL;refine WC.skip ?_;refine U6.Yv ?_;refine QB.Yv ?_;refine WC.seq ?_;refine WC.region ?_;refine WO.w gN rfl (Xt Zk0 (Zt (ZP rfl e7) rfl)) ?_;refine WO.w gN rfl (ZR Zvy (Zt fh rfl) (hS.Qj k0) (j:=0) rfl (v:= .int .i64 p0.Z4) rfl) ?_;refine WO.w gN rfl (Z9 (Zt fh rfl) (Jr rfl) JN) ?_;refine WO.w gN rfl (YC (Zt fh rfl)) ?_;refine WO.gv (Zi.yes rfl rfl rfl fh) rfl (fun hg=>(Xt Zbx (Zt (Yi rfl (ZP rfl e7)) rfl))) ?_;refine WO.gv (Zi.yes rfl rfl rfl (Zf rfl fh)) rfl (fun hg=>(ZR Xk (XE fh rfl hg) (hS.Qj k0) (j:=1) rfl (v:= .int .i64 p0.at_) rfl)) ?_;refine WO.gv (Zi.yes rfl rfl rfl (ZP rfl fh)) rfl (fun hg=>(Z9 (XE fh rfl hg) (Jr rfl) U3)) ?_;refine WO.w gN rfl (QL (Zt (ZP rfl (Zf rfl fh)) rfl) (Zcn fh) (Jr rfl)) ?_;refine WO.w gN rfl (YC (Zt fh rfl)) ?_;refine WO.gv (Zi.yes rfl rfl rfl fh) rfl (fun hg=>(Xt ZcT (Zt (ZN rfl (ZP rfl (Zf rfl e7))) rfl))) ?_;refine WO.gv (Zi.yes rfl rfl rfl (Zf rfl fh)) rfl (fun hg=>(ZR Xk (XE fh rfl hg) (hS.Qj k0) (j:=2) rfl (v:= .int .i64 p0.name) rfl)) ?_;refine WO.gv (Zi.yes rfl rfl rfl (ZP rfl fh)) rfl (fun hg=>(Z9 (XE fh rfl hg) (Jr rfl) JN)) ?_;refine WO.w gN rfl (QL (Zt (ZP rfl (Zf rfl fh)) rfl) (Zcn fh) (Jr rfl)) ?_;refine WO.w gN rfl (YC (Zt fh rfl)) ?_;refine WO.gv (Zi.yes rfl rfl rfl fh) rfl (fun hg=>(Xt Zbw (Zt (ZN rfl (ZN rfl e7)) rfl))) ?_;refine WO.gv (Zi.yes rfl rfl rfl (Zf rfl fh)) rfl (fun hg=>(ZR Xk (XE fh rfl hg) (hS.Qj k0) (j:=3) rfl (v:= .int .i64 p0.Zy) rfl)) ?_;refine WO.gv (Zi.yes rfl rfl rfl (ZP rfl fh)) rfl (fun hg=>(Z9 (XE fh rfl hg) (Jr rfl) JN)) ?_;refine WO.w gN rfl (QL (Zt (ZP rfl (Zf rfl fh)) rfl) (Zcn fh) (Jr rfl)) ?_;refine WO.w gN rfl (Z7 (Zt fh rfl)) ?_;refine WO.nil ?_;refine QB.Yv ?_;refine WC.ret ?_;have hr:=Option.some.inj hL;subst hr;exact ZQ.QN rfl (ZB (Zt fh rfl) Zm) ⟨_,⟨rfl,rfl⟩,hT ▸ hS.only .n⟩
  ·skip;refine WC.seq ?_;refine WC.region ?_;refine WO.w gN rfl (Z9 (Zt (ZP rfl fh) rfl) (Jr rfl) JN) ?_;refine WO.w gN rfl (Z7 (Zt fh rfl)) ?_;refine WO.nil ?_;refine QB.Yv ?_;refine WC.Znu (Zt fh rfl) (fun hc=>?_) (fun hc=>?_)
   ·replace hL:=Wy hc hL;refine WC.skip ?_;exact YH.Yv _ hL ⟨_,_,rfl,hS.only (.c k1 (.c k0 .n)),(ZN rfl (ZP rfl fh)),(Yi rfl (ZP rfl fh)),(Yi rfl fh),fh⟩
   ·replace hL:=Wz hc hL;refine WC.region ?_;refine WO.w gN rfl (Z9 (Zt (Yi rfl fh) rfl) (Jr rfl) JN) ?_;refine WO.w gN rfl (Z7 (Zt fh rfl)) ?_;refine WO.nil ?_;exact YH.Yv _ hL ⟨_,_,rfl,hS.only (.c k1 (.c k0 .n)),(ZN rfl (Yi rfl fh)),(ZN rfl fh),(Yi rfl (ZP rfl fh)),fh⟩
theorem ZBB {h:H} {p0:Zn} {p1:Int} {r:Bool} (hL:ZrJ p0 p1=some r):Pure XX 55 #[.agg [.int .i64 p0.Z4,.int .i64 p0.at_,.int .i64 p0.name,.int .i64 p0.Zy].toArray,.int .i64 p1] h (.bool r):=
 WR.QF rfl (ZBA (Nat.le_refl _) hL)
end Go.Proofs.Ytekpjgmhkkjhgaa
end
end
section
namespace Go.Proofs.Ytekpjgmhkkjhgaa
open Go.Lf
def Zfx (v29:Int) (Kb:(Int×(List (Ze×Int))×(List (Ze×Int)) ->Option ((List (Ze×Int))×(List (Ze×Int))))):(List (Ze×Int))×(List (Ze×Int)) ->Option ((List (Ze×Int))×(List (Ze×Int))):=fun(v41,v42)=>
 Kb (ZJ (v29 + 1),v41,v42)
def Zic (p0:Store):Int×(List (Ze×Int))×(List (Ze×Int)) ->(Int×(List (Ze×Int))×(List (Ze×Int)) ->Option ((List (Ze×Int))×(List (Ze×Int)))) ->Option ((List (Ze×Int))×(List (Ze×Int))):=fun(v29,v31,v32) Kb=>
 (bif decide (v29 < (p0.notes.length:Int)) then(Yh p0.notes v29).bind fun x43=>(bif(x43.kind==1) then(Zaw v32 (Ze.mk x43.via x43.name) 0).bind fun x49=>(Zfx v29 Kb) (v31,Y4 (WN v32 (Ze.mk x43.via x43.name) 0) (Ze.mk x43.via x43.name) (ZJ (x49 + x43.w))) else(bif(x43.kind==2) then(Zaw v32 (Ze.mk x43.Zy x43.name) 0).bind fun x53=>(Zfx v29 Kb) (v31,Y4 (WN v32 (Ze.mk x43.Zy x43.name) 0) (Ze.mk x43.Zy x43.name) (ZJ (x53 + x43.w))) else(Zaw v31 (Ze.mk x43.Zy x43.name) 0).bind fun x57=>(Zfx v29 Kb) (Y4 (WN v31 (Ze.mk x43.Zy x43.name) 0) (Ze.mk x43.Zy x43.name) (ZJ (x57 + 16)),v32))) else some (v31,v32))
def Zfy (F:Nat) (p0:Store):(List (Ze×Int))×(List (Ze×Int)) ->Option ((List (Ze×Int))×(List (Ze×Int))):=fun(v20,v21)=>
 loop F (Zic p0) (0,v20,v21)
def Zk7 (F:Nat) (p0:Store) (v80:Int) (Zdz:(Int×(List (Ze×Int))×(List (Ze×Int)) ->Option ((List (Ze×Int))×(List (Ze×Int))))):(List (Ze×Int))×(List (Ze×Int)) ->Option ((List (Ze×Int))×(List (Ze×Int))):=fun(v96,v97)=>
 (bif(!true) then(Zfy F p0) (v96,v97) else Zdz (ZJ (v80 + 1),v96,v97))
def ZoX (F:Nat) (p0:Store) (v70:Int) (ZdB:(Int×(List (Ze×Int))×(List (Ze×Int)) ->Option ((List (Ze×Int))×(List (Ze×Int))))):Int×(List (Ze×Int))×(List (Ze×Int)) ->(Int×(List (Ze×Int))×(List (Ze×Int)) ->Option ((List (Ze×Int))×(List (Ze×Int)))) ->Option ((List (Ze×Int))×(List (Ze×Int))):=fun(v80,v82,v83) Zdz=>
 (bif decide (v80 < p0.names) then(Zae p0.cells (Ze.mk v70 v80) (Za.mk 0 false 0 0 0 false)).bind fun x85=>(bif x85.2 then(Zaw v82 (Ze.mk v70 x85.1.name) 0).bind fun x99=>(bif decide (x85.1.from_ >=0) then(Zaw v83 (Ze.mk x85.1.from_ x85.1.name) 0).bind fun x103=>(Zk7 F p0 v80 Zdz) (Y4 (WN v82 (Ze.mk v70 x85.1.name) 0) (Ze.mk v70 x85.1.name) (ZJ (x99 + x85.1.out)),Y4 (WN v83 (Ze.mk x85.1.from_ x85.1.name) 0) (Ze.mk x85.1.from_ x85.1.name) (ZJ (x103 + x85.1.has))) else(Zk7 F p0 v80 Zdz) (Y4 (WN v82 (Ze.mk v70 x85.1.name) 0) (Ze.mk v70 x85.1.name) (ZJ (x99 + x85.1.out)),v83)) else Zdz (ZJ (v80 + 1),v82,v83)) else ZdB (ZJ (v70 + 1),v82,v83))
def ZoY (F:Nat) (p0:Store):Int×(List (Ze×Int))×(List (Ze×Int)) ->(Int×(List (Ze×Int))×(List (Ze×Int)) ->Option ((List (Ze×Int))×(List (Ze×Int)))) ->Option ((List (Ze×Int))×(List (Ze×Int))):=fun(v70,v72,v73) ZdB=>
 (bif decide (v70 < p0.machines) then loop F (ZoX F p0 v70 ZdB) (0,v72,v73) else(Zfy F p0) (v72,v73))
def ZrH (F:Nat) (p0:Store):Option ((List (Ze×Int))×(List (Ze×Int))):=
 loop F (ZoY F p0) (0,[],[])
def ZuK (p0:(List Yy)) (p1:Int) (p2:Int):Option (List Yy):=
 (slL p0 p1 p2).bind fun z1=>(bif(p1==p2) then some p0 else(slL p0 0 p1).bind fun z4=>(slL p0 p2 (p0.length:Int)).bind fun z13=>(app 16 z4 z13).bind fun z17=>some z17)
def Zfw (p0:(List Yy)) (p1:Yy):Int ->(Int ->Option Int) ->Option Int:=fun v8 ZhH=>
 (bif decide (v8 < (p0.length:Int)) then(Yh p0 v8).bind fun x11=>(bif KW p1 x11 then some v8 else ZhH (ZJ (v8 + 1))) else some (-1))
def ZxA (F:Nat) (p0:(List Yy)) (p1:Yy):Option Int:=
 loop F (Zfw p0 p1) 0
end Go.Proofs.Ytekpjgmhkkjhgaa
end
section
set_option maxRecDepth 20000
noncomputable section
namespace Go.Proofs.Ytekpjgmhkkjhgaa
open Go.Yz Go.Lf
theorem ZuL {F wm:Nat} {h:H} {p0:Store} {ZH:Option Nat} {Zp:Option Addr} {Zo:Nat} {Zx:Option Addr} {Zw Xm UJ:Nat} {r:((List (Ze×Int))×(List (Ze×Int)))} (ZF:wm <=h.size) (Y2:At h Xm UJ [.int .i64 p0.machines,.int .i64 p0.names,.map ZH,.slice Zp p0.notes.length Zo,.slice Zx p0.freed.length Zw]) (Y1:Stb wm h Xm) (ZG:Uv Zg Zl wm h ZH p0.cells) (Yo:Sl Zj wm h Zp Zo p0.notes) (Yn:Sl (ZM .i64) wm h Zx Zw p0.freed) (hL:ZrH F p0=some r):
 WR XX 68 #[.pointer (some ⟨Xm,UJ,none⟩)] wm h (CP (fun(v:Value) (Gb:List (Ast wm))=>∃ (ZbU:Nat) (Zyw:Nat),v= .tuple [.map (some ZbU),.map (some Zyw)].toArray∧Gb= [mp wm Zg (Value.int .i64) (some ZbU) r.1,mp wm Zg (Value.int .i64) (some Zyw) r.2]) [] h):=by
 refine WF.ZfW (args:= [_]) (fn:=Try.f68) (by kernel_rfl) (by exact rfl) Try.ntmps68 (by simp) ?_;simp only [ZC,ZI,Nat.reduceAdd];obtain⟨T,hT,hS⟩:∃ T,T=XD (wm:=wm) []∧Sp wm T h [] h:= ⟨_,rfl,Sp.start ZF ZT.nil⟩
 unfold ZrH at hL;refine r3 ?_;rintro _ h2 ⟨b1,eb1,rfl,hS⟩;refine r1 ?_;rintro _ h4 ⟨b3,eb3,rfl,hS⟩;refine r4 ?_;refine WO.hn gN rfl (ZsX Zg (Value.int .i64) hS) ?_;rintro _ h5 ⟨b6,eb6,rfl,hS⟩;refine WO.hn gN rfl (ZsX Zg (Value.int .i64) hS) ?_;rintro _ h7 ⟨b8,eb8,rfl,hS⟩;refine r1 ?_;rintro h9 hS;refine r1 ?_;rintro h10 hS;refine r6 ?_;refine WO.inl gN rfl (Y0.fn ZtY (Zc lk Zk)) (WF.begin (args:= [_]) (fn:=Try.f71) (by kernel_rfl) (by exact rfl) Try.ntmps71 (by simp) ?_);simp only [ZC,ZI,Nat.reduceAdd];refine r3 ?_;rintro _ h12 ⟨b11,ZNF,rfl,hS⟩;refine r4 ?_;refine r1 ?_;refine WO.w gN rfl (Zcu (Zc lk Zk)) ?_;refine r4 ?_;refine ZQ.QN rfl (ZB lk Zm) ?_;refine r3 ?_;refine WC.Zob (first:= []) (cap:= [.pointer (some ⟨b11,0,none⟩)]) hS lk ZoI ?_;intro h13 l14 Znr Zyk Zqb hS;refine WR.Zon (r:=r) (fun(p:(List (Ze×Int))×(List (Ze×Int))) (v:Value) (h18:H)=>match p with | (v20,v21)=>v= .tuple [].toArray∧Sp wm T h [bx wm b1 [.map (some b6)],bx wm b3 [.map (some b8)],bx wm b11 [.pointer (some ⟨Xm,UJ,none⟩)],mp wm Zg (Value.int .i64) (some b6) v20,mp wm Zg (Value.int .i64) (some b8) v21,ob wm l14 Zyk,ob wm Znr .deferred] h18) (Zfy F p0) ?_ (WF.begin (args:= [_,_]) (fn:=Try.f110) (by kernel_rfl) (by exact rfl) Try.ntmps110 (by simp) ?_)
 ·clear hL hS;rintro⟨v20,v21⟩ v h18 hL ⟨rfl,hS⟩;dsimp only [Zfy] at hL;refine RgE.sp Zqb hS k5 ?_;rintro h22 hS;refine r8 ?_;refine WO.w gN rfl (ZR ZnM (Zt fh rfl) (At.fz hS.fz Y1 Y2) (j:=3) rfl (v:= .slice Zp p0.notes.length Zo) rfl) ?_;refine r4 ?_;refine r1 ?_;refine WC.loop (WL.lift hL (fun(p:Int×(List (Ze×Int))×(List (Ze×Int))) (s:Fs)=>match p with | (v29,v31,v32)=>∃ (ZoO:Fr) (h23:H),s= ⟨ZoO,[⟨.collected Znr,#[]⟩],h23,none⟩∧Sp wm T h [bx wm b1 [.map (some b6)],bx wm b3 [.map (some b8)],mp wm Zg (Value.int .i64) (some b6) v31,mp wm Zg (Value.int .i64) (some b8) v32,ob wm Znr .deferred] h23∧ZoO.at 2= .pointer (some ⟨b1,0,none⟩)∧ZoO.at 3= .pointer (some ⟨b3,0,none⟩)∧ZoO.at 43= .slice Zp p0.notes.length Zo∧ZoO.at 44= .int .i64 (p0.notes.length:Int)∧ZoO.at 45= .int .i64 v29) ⟨_,_,rfl,hS.only (.c k0 (.c k0 (.c k1 (.c k1 (.c k1 .n))))),YN⟩ ?_);clear hL hS;rintro Kb ⟨v29,v31,v32⟩ s ZkL hL ⟨ZoO,h23,rfl,hS,e25,e26,e27,e28,e30⟩;dsimp only [Zic] at hL;refine r6 ?_;refine cn hL ?_ ?_
  ·intro hc hL;refine r2 ?_;refine WC.KH (r:=r) (fun(p:(List (Ze×Int))×(List (Ze×Int))) (s:Fs)=>match p with | (v41,v42)=>∃ (ZoN:Fr) (h34:H),s= ⟨ZoN,[⟨.collected Znr,#[]⟩],h34,none⟩∧Sp wm T h [bx wm b1 [.map (some b6)],bx wm b3 [.map (some b8)],mp wm Zg (Value.int .i64) (some b6) v41,mp wm Zg (Value.int .i64) (some b8) v42,ob wm Znr .deferred] h34∧ZoN.at 2= .pointer (some ⟨b1,0,none⟩)∧ZoN.at 3= .pointer (some ⟨b3,0,none⟩)∧ZoN.at 43= .slice Zp p0.notes.length Zo∧ZoN.at 44= .int .i64 (p0.notes.length:Int)∧ZoN.at 45= .int .i64 v29) (Zfx v29 Kb) ?_ ?_
   ·clear hL hS;rintro⟨v41,v42⟩ s hL ⟨ZoN,h34,rfl,hS,e36,e37,e38,e39,e40⟩;dsimp only [Zfx] at hL;refine r4 ?_;exact Yw.Yv (ZkL _ _ hL ⟨_,_,rfl,hS.only (.c k0 (.c k0 (.c k0 (.c k0 (.c k0 .n))))),YN⟩)
   ·skip;refine r3 ?_;obtain⟨x43,Zor,hL⟩:=bind_some hL;obtain⟨b44,o45,_,Zuc,Zun,Zui,ZET⟩:=Sl.at_ Yo Zor;refine WO.w gN rfl (ZY UM XI lk lk rfl Zuc Zor) ?_;refine WO.w gN rfl (Xa ZeK XI (Zt fh rfl) (At.fz hS.fz Zui Zun) (j:=0) rfl rfl (ws:= [.int .i64 x43.kind,.int .i64 x43.Zy,.int .i64 x43.name,.int .i64 x43.via,.int .i64 x43.w]) rfl) ?_;refine r1 ?_;rintro _ h47 ⟨b46,ZJf,rfl,hS⟩;refine r1 ?_;rintro h48 hS;refine J6 ?_;refine r3 ?_;refine cn hL ?_ ?_
    ·intro hc hL;refine WC.Yp mixed (by kernel_rfl) ?_;refine r4 ?_;refine r1 ?_;refine WX.w gN rfl (Y8 XQ (Zh lk (Zh lk ZE)) rfl (cs':= [.int .i64 x43.via,.int .i64 x43.name]) rfl) ?_ rfl;obtain⟨x49,Zrj,hL⟩:=bind_some hL;refine WX.ZtC (kv:=Zg) (vv:= (Value.int .i64)) (k:= (Ze.mk x43.via x43.name)) (z:=0) gN rfl YR UN U7 (Zt (Yi rfl (Zf rfl fh)) rfl) (Zt fh rfl) (hS.get k4).at_ Zrj 10 (w:= .int .i64 x49) rfl (fun _=>rfl) ?_ rfl;refine r3 ?_;refine WX.ZuY (kv:=Zg) (vv:= (Value.int .i64)) (k:= (Ze.mk x43.via x43.name)) (z:=0) gN rfl hS k4 YR UN U7 (Zt (ZN rfl (Zf rfl fh)) rfl) (Zt (Yi rfl fh) rfl) ?_ rfl 6 (by kernel_rfl) (by kernel_rfl) (by simp);rintro _ h50 ⟨b51,rfl,hS⟩;refine WX.w gN rfl (Wq lk (v:= .int .i64 (b51:Nat)) rfl) ?_ (by kernel_rfl);refine WX.hu gN (Zml (kv:=Zg) (vv:= (Value.int .i64)) (v:=ZJ (x49 + x43.w)) hS k0 (Zt (ZN rfl (ZP rfl (Zf rfl fh))) rfl) (Zt fh rfl) (Zt (ZP rfl fh) rfl)) ?_ rfl (by kernel_rfl) [] (by kernel_rfl) Z8.e;rintro h52 hS;refine r3 ?_;exact YH.Yv _ hL ⟨_,_,rfl,hS.only (.c k2 (.c k2 (.c k2 (.c k0 (.c k1 .n))))),YN⟩
    ·intro hc hL;refine r6 ?_;refine cn hL ?_ ?_
     ·intro hc hL;refine WC.Yp mixed (by kernel_rfl) ?_;refine r4 ?_;refine r1 ?_;refine WX.w gN rfl (Y8 XQ (Zh lk (Zh lk ZE)) rfl (cs':= [.int .i64 x43.Zy,.int .i64 x43.name]) rfl) ?_ rfl;obtain⟨x53,ZAd,hL⟩:=bind_some hL;refine WX.ZtC (kv:=Zg) (vv:= (Value.int .i64)) (k:= (Ze.mk x43.Zy x43.name)) (z:=0) gN rfl YR UN U7 (Zt (Yi rfl (Zf rfl fh)) rfl) (Zt fh rfl) (hS.get k4).at_ ZAd 10 (w:= .int .i64 x53) rfl (fun _=>rfl) ?_ rfl;refine r3 ?_;refine WX.ZuY (kv:=Zg) (vv:= (Value.int .i64)) (k:= (Ze.mk x43.Zy x43.name)) (z:=0) gN rfl hS k4 YR UN U7 (Zt (ZN rfl (Zf rfl fh)) rfl) (Zt (Yi rfl fh) rfl) ?_ rfl 6 (by kernel_rfl) (by kernel_rfl) (by simp);rintro _ h54 ⟨b55,rfl,hS⟩;refine WX.w gN rfl (Wq lk (v:= .int .i64 (b55:Nat)) rfl) ?_ (by kernel_rfl);refine WX.hu gN (Zml (kv:=Zg) (vv:= (Value.int .i64)) (v:=ZJ (x53 + x43.w)) hS k0 (Zt (ZN rfl (ZP rfl (Zf rfl fh))) rfl) (Zt fh rfl) (Zt (ZP rfl fh) rfl)) ?_ rfl (by kernel_rfl) [] (by kernel_rfl) Z8.e;rintro h56 hS;refine r3 ?_;exact YH.Yv _ hL ⟨_,_,rfl,hS.only (.c k2 (.c k2 (.c k2 (.c k0 (.c k1 .n))))),YN⟩
     ·intro hc hL;refine WC.Yp mixed (by kernel_rfl) ?_;refine r4 ?_;refine r1 ?_;refine WX.w gN rfl (Y8 XQ (Zh lk (Zh lk ZE)) rfl (cs':= [.int .i64 x43.Zy,.int .i64 x43.name]) rfl) ?_ rfl;obtain⟨x57,ZHQ,hL⟩:=bind_some hL;refine WX.ZtC (kv:=Zg) (vv:= (Value.int .i64)) (k:= (Ze.mk x43.Zy x43.name)) (z:=0) gN rfl YR UN U7 (Zt (Yi rfl (Zf rfl fh)) rfl) (Zt fh rfl) (hS.get k3).at_ ZHQ 8 (w:= .int .i64 x57) rfl (fun _=>rfl) ?_ rfl;refine r1 ?_;refine WX.ZuY (kv:=Zg) (vv:= (Value.int .i64)) (k:= (Ze.mk x43.Zy x43.name)) (z:=0) gN rfl hS k3 YR UN U7 (Zt (Yi rfl (ZP rfl (Zf rfl fh))) rfl) (Zt (ZP rfl fh) rfl) ?_ rfl 6 (by kernel_rfl) (by kernel_rfl) (by simp);rintro _ h58 ⟨b59,rfl,hS⟩;refine WX.w gN rfl (Wq lk (v:= .int .i64 (b59:Nat)) rfl) ?_ (by kernel_rfl);refine WX.hu gN (Zml (kv:=Zg) (vv:= (Value.int .i64)) (v:=ZJ (x57 + 16)) hS k0 (Zt (ZN rfl (Zf rfl fh)) rfl) (Zt fh rfl) (Zt (ZP rfl fh) rfl)) ?_ rfl (by kernel_rfl) [] (by kernel_rfl) Z8.e;rintro h60 hS;refine r3 ?_;exact YH.Yv _ hL ⟨_,_,rfl,hS.only (.c k2 (.c k2 (.c k0 (.c k1 (.c k1 .n))))),YN⟩
  ·intro hc hL;refine r6 ?_;refine WC.Yp mixed (by kernel_rfl) ?_;refine r1 ?_;refine WX.wr (fun x=>x=b3) hS gN rfl (fun _ _ hR=>ZR ZlS (Zt (ZP rfl e26) rfl) (At.eqv (hR b3 rfl) (hS.Qj k1)) (j:=0) rfl (v:= .map (some b8)) rfl) ?_ rfl rfl;rintro h61 e62 hS;refine WX.hu gN (J5 hS k0 Zkr lk lk (vs:= [.map (some b6)]) rfl rfl rfl rfl (cs':= [.map (some b6)]) rfl) ?_ rfl rfl [1] (by kernel_rfl) (.c .z (hS.dj (.c k0 (.c k0 .n))) Z8.e);rintro h63 hS;refine WX.hu gN (J5 hS k1 Zkr lk lk (vs:= [.map (some b8)]) rfl rfl rfl rfl (cs':= [.map (some b8)]) rfl) ?_ rfl (by kernel_rfl) [] (by kernel_rfl) Z8.e;rintro h64 hS;refine r3 ?_;refine XV.ZBQ hS k4 ?_;rintro h65 hS;have hr:=Option.some.inj hL;subst hr;exact XV.gen rfl (ZL (ZP rfl (Zf rfl e25)) (KA ZlS (hS.Qj k1) (j:=0) rfl (v:= .map (some b6)) rfl) (ZL (ZP rfl (Zf rfl e26)) (KA ZlS (hS.Qj k0) (j:=0) rfl (v:= .map (some b8)) rfl) Zm)) rfl ⟨_,⟨b6,b8,rfl,rfl⟩,hT ▸ hS.only (.c k2 (.c k2 .n))⟩
 ·skip;simp only [ZC,ZI,Nat.reduceAdd];refine r6 ?_;refine WC.loop (WL.lift hL (fun(p:Int×(List (Ze×Int))×(List (Ze×Int))) (s:Fs)=>match p with | (v70,v72,v73)=>∃ (ZuA:Fr) (h66:H),s= ⟨ZuA,[],h66,none⟩∧Sp wm T h [bx wm b11 [.pointer (some ⟨Xm,UJ,none⟩)],bx wm b1 [.map (some b6)],bx wm b3 [.map (some b8)],mp wm Zg (Value.int .i64) (some b6) v72,mp wm Zg (Value.int .i64) (some b8) v73,ob wm l14 Zyk,ob wm Znr .deferred] h66∧ZuA.at 0= .func (.yield l14) #[] #[]∧ZuA.at 1= .pointer (some ⟨b11,0,none⟩)∧ZuA.at 3= .int .i64 v70) ⟨_,_,rfl,hS.only (.c k2 (.c k3 (.c k2 (.c k3 (.c k2 (.c k0 (.c k0 .n))))))),YN⟩ ?_);clear hL hS;rintro ZdB ⟨v70,v72,v73⟩ s ZkJ hL ⟨ZuA,h66,rfl,hS,e68,e69,e71⟩;dsimp only [ZoY] at hL;refine r6 ?_;refine r1 ?_;refine WO.w gN rfl (ZR Xk (Zt fh rfl) (At.fz hS.fz Y1 Y2) (j:=0) rfl (v:= .int .i64 p0.machines) rfl) ?_;refine r3 ?_;refine cn hL ?_ ?_
  ·intro hc hL;refine r8 ?_;refine r2 ?_;refine WC.loop (WL.lift hL (fun(p:Int×(List (Ze×Int))×(List (Ze×Int))) (s:Fs)=>match p with | (v80,v82,v83)=>∃ (Zrw:Fr) (h75:H),s= ⟨Zrw,[],h75,none⟩∧Sp wm T h [bx wm b11 [.pointer (some ⟨Xm,UJ,none⟩)],bx wm b1 [.map (some b6)],bx wm b3 [.map (some b8)],mp wm Zg (Value.int .i64) (some b6) v82,mp wm Zg (Value.int .i64) (some b8) v83,ob wm l14 Zyk,ob wm Znr .deferred] h75∧Zrw.at 0= .func (.yield l14) #[] #[]∧Zrw.at 1= .pointer (some ⟨b11,0,none⟩)∧Zrw.at 3= .int .i64 v70∧Zrw.at 4= .int .i64 v80) ⟨_,_,rfl,hS.only (.c k0 (.c k0 (.c k0 (.c k0 (.c k0 (.c k0 (.c k0 .n))))))),YN⟩ ?_);clear hL hS;rintro Zdz ⟨v80,v82,v83⟩ s Zp5 hL ⟨Zrw,h75,rfl,hS,e77,e78,e79,e81⟩;dsimp only [ZoX] at hL;refine r6 ?_;refine r1 ?_;refine WO.w gN rfl (ZR Xk (Zt fh rfl) (At.fz hS.fz Y1 Y2) (j:=1) rfl (v:= .int .i64 p0.names) rfl) ?_;refine r3 ?_;refine cn hL ?_ ?_
   ·intro hc hL;refine r8 ?_;refine r1 ?_;refine WO.w gN rfl (ZR Zgy (Zt fh rfl) (At.fz hS.fz Y1 Y2) (j:=2) rfl (v:= .map ZH) rfl) ?_;refine r2 ?_;refine WO.w gN rfl (Y8 XQ (Zh lk (Zh lk ZE)) rfl (cs':= [.int .i64 v70,.int .i64 v80]) rfl) ?_;obtain⟨x85,ZHL,hL⟩:=bind_some hL;refine WO.w gN rfl (K3 (kv:=Zg) (vv:=Zl) (k:= (Ze.mk v70 v80)) (z:= (Za.mk 0 false 0 0 0 false)) YR Ud Uo (Zt (ZP rfl (Zf rfl fh)) rfl) (Zt fh rfl) (hS.ms ZG).at_ ZHL (w:= .agg [.int .i64 x85.1.name,.bool x85.1.root,.int .i64 x85.1.from_,.int .i64 x85.1.has,.int .i64 x85.1.out,.bool x85.1.use].toArray) rfl) ?_;refine r4 ?_;rintro _ h87 ⟨b86,ZNi,rfl,hS⟩;refine r1 ?_;rintro h88 hS;refine r8 ?_;refine r2 ?_;refine WO.ZkR (Zi.yes rfl rfl rfl (ZP rfl (Zf rfl fh))) (fun ZgE=>?_) (fun ZgE=>?_)
    ·replace hL:=Wy ZgE hL;refine WO.Zzz (Zi.on (Zi.yes rfl rfl rfl (ZP rfl (Zf rfl fh))) ZgE) rfl (XE (ZP rfl fh) rfl ZgE) (Zc (XE (Zf rfl fh) rfl ZgE) (Zc (XE fh rfl ZgE) Zk)) hS k6 Zqb rfl rfl ?_;refine r6 ?_;refine r1 ?_;rintro _ h91 ⟨b90,ZNh,rfl,hS⟩;refine r1 ?_;rintro h92 hS;refine r1 ?_;refine AsK.sp Zqb hS k7 ?_;rintro h93 hS;refine WC.jn (r:=r) (fun(p:(List (Ze×Int))×(List (Ze×Int))) (s:Fs)=>match p with | (v96,v97)=>∃ (ZFR:Fr) (h94:H),s= ⟨ZFR,[],h94,none⟩∧Sp wm T h [bx wm b1 [.map (some b6)],bx wm b3 [.map (some b8)],bx wm b11 [.pointer (some ⟨Xm,UJ,none⟩)],bx wm b86 [.int .i64 x85.1.name,.bool x85.1.root,.int .i64 x85.1.from_,.int .i64 x85.1.has,.int .i64 x85.1.out,.bool x85.1.use],mp wm Zg (Value.int .i64) (some b6) v96,mp wm Zg (Value.int .i64) (some b8) v97,ob wm l14 (bsy Zyk),ob wm Znr .deferred] h94) (Zk7 F p0 v80 Zdz) ?_ ?_
     ·clear hL hS;rintro⟨v96,v97⟩ s hL ⟨ZFR,h94,rfl,hS⟩;dsimp only [Zk7] at hL;refine BdK.sp Zqb hS k6 ?_;rintro h98 hS;refine WO.w (Zi.on (Zi.yes rfl rfl rfl (Yi rfl fh)) ZgE) rfl (ZlL lk) ?_;refine WO.w gN rfl (ZlJ lk ZgE lk) ?_;refine r2 ?_;refine cn hL ?_ ?_
      ·intro hc hL;refine r8 ?_;refine r1 ?_;exact ZQ.gen (vs:= []) rfl Zm rfl ⟨_,hL,⟨rfl,hS.only (.c k1 (.c k1 (.c k1 (.c k2 (.c k2 (.c k0 (.c k1 .n)))))))⟩⟩
      ·intro hc hL;refine r8 ?_;exact Yw.Yv (Zp5 _ _ hL ⟨_,_,rfl,hS.only (.c k3 (.c k1 (.c k1 (.c k2 (.c k2 (.c k0 (.c k1 .n))))))),YN⟩)
     ·skip;refine r2 ?_;refine WC.Yp mixed (by kernel_rfl) ?_;refine r4 ?_;refine WX.w gN rfl (Y8 XQ (Zh lk (Zh lk ZE)) rfl (cs':= [.int .i64 v70,.int .i64 x85.1.name]) rfl) ?_ rfl;obtain⟨x99,hx99,hL⟩:=bind_some hL;refine WX.ZtC (kv:=Zg) (vv:= (Value.int .i64)) (k:= (Ze.mk v70 x85.1.name)) (z:=0) gN rfl YR UN U7 (Zt (Yi rfl fh) rfl) (Zt fh rfl) (hS.get k6).at_ hx99 9 (w:= .int .i64 x99) rfl (fun _=>rfl) ?_ rfl;refine r3 ?_;refine WX.ZuY (kv:=Zg) (vv:= (Value.int .i64)) (k:= (Ze.mk v70 x85.1.name)) (z:=0) gN rfl hS k6 YR UN U7 (Zt (ZN rfl fh) rfl) (Zt (Yi rfl fh) rfl) ?_ rfl 5 (by kernel_rfl) (by kernel_rfl) (by simp);rintro _ ZI6 ⟨ZGl,rfl,hS⟩;refine WX.w gN rfl (Wq lk (v:= .int .i64 (ZGl:Nat)) rfl) ?_ (by kernel_rfl);refine WX.hu gN (Zml (kv:=Zg) (vv:= (Value.int .i64)) (v:=ZJ (x99 + x85.1.out)) hS k0 (Zt (ZN rfl (ZP rfl fh)) rfl) (Zt fh rfl) (Zt (ZP rfl fh) rfl)) ?_ rfl (by kernel_rfl) [] (by kernel_rfl) Z8.e;rintro ZoK hS;refine r8 ?_;refine r1 ?_;refine cn hL ?_ ?_
      ·intro hc hL;refine WC.Yp mixed (by kernel_rfl) ?_;refine r4 ?_;refine r1 ?_;refine WX.w gN rfl (Y8 XQ (Zh lk (Zh lk ZE)) rfl (cs':= [.int .i64 x85.1.from_,.int .i64 x85.1.name]) rfl) ?_ rfl;obtain⟨x103,ZjL,hL⟩:=bind_some hL;refine WX.ZtC (kv:=Zg) (vv:= (Value.int .i64)) (k:= (Ze.mk x85.1.from_ x85.1.name)) (z:=0) gN rfl YR UN U7 (Zt (Yi rfl (Zf rfl fh)) rfl) (Zt fh rfl) (hS.get k7).at_ ZjL 10 (w:= .int .i64 x103) rfl (fun _=>rfl) ?_ rfl;refine r3 ?_;refine WX.ZuY (kv:=Zg) (vv:= (Value.int .i64)) (k:= (Ze.mk x85.1.from_ x85.1.name)) (z:=0) gN rfl hS k7 YR UN U7 (Zt (ZN rfl (Zf rfl fh)) rfl) (Zt (Yi rfl fh) rfl) ?_ rfl 6 (by kernel_rfl) (by kernel_rfl) (by simp);rintro _ ZM5 ⟨ZGk,rfl,hS⟩;refine WX.w gN rfl (Wq lk (v:= .int .i64 (ZGk:Nat)) rfl) ?_ (by kernel_rfl);refine WX.hu gN (Zml (kv:=Zg) (vv:= (Value.int .i64)) (v:=ZJ (x103 + x85.1.has)) hS k0 (Zt (ZN rfl (ZP rfl (Zf rfl fh))) rfl) (Zt fh rfl) (Zt (ZP rfl fh) rfl)) ?_ rfl (by kernel_rfl) [] (by kernel_rfl) Z8.e;rintro ZI5 hS;refine r2 ?_;exact JnK.Yv _ hL ⟨_,_,rfl,hS.only (.c k6 (.c k6 (.c k5 (.c k4 (.c k1 (.c k0 (.c k0 (.c k1 .n))))))))⟩
      ·intro hc hL;refine r2 ?_;exact JnK.Yv _ hL ⟨_,_,rfl,hS.only (.c k5 (.c k5 (.c k4 (.c k3 (.c k0 (.c k2 (.c k0 (.c k1 .n))))))))⟩
    ·replace hL:=Wz ZgE hL;refine WO.ZmB (Zi.yes rfl rfl rfl (ZP rfl (Zf rfl fh))) ZgE rfl ?_;refine WO.ZmB (Zi.yes rfl rfl rfl (Yi rfl fh)) ZgE rfl ?_;refine WO.w gN rfl (ZlK lk ZgE lk) ?_;refine r2 ?_;refine WC.ZdT lk rfl ?_;refine r8 ?_;exact Yw.Yv (Zp5 _ _ hL ⟨_,_,rfl,hS.only (.c k1 (.c k1 (.c k1 (.c k1 (.c k1 (.c k1 (.c k1 .n))))))),YN⟩)
   ·intro hc hL;refine r8 ?_;refine r3 ?_;exact Yw.Yv (ZkJ _ _ hL ⟨_,_,rfl,hS.only (.c k0 (.c k0 (.c k0 (.c k0 (.c k0 (.c k0 (.c k0 .n))))))),YN⟩)
  ·intro hc hL;refine r4 ?_;refine ZQ.Yv ?_;exact ZQ.gen (vs:= []) rfl Zm rfl ⟨_,hL,⟨rfl,hS.only (.c k1 (.c k1 (.c k0 (.c k0 (.c k0 (.c k0 (.c k0 .n)))))))⟩⟩
theorem ZBx {wm:Nat} {h:H} {p0:(List Yy)} {p1 p2:Int} {Zr:Option Addr} {Zq Xv:Nat} {r:(List Yy)} (ZF:wm <=h.size) (hO:ZT (wm:=wm) [ow wm Yg Zr Xv Zq p0] h) (hL:ZuK p0 p1 p2=some r):
 WR XX 78 #[.slice Zr Xv Zq,.int .i64 p1,.int .i64 p2] wm h (CP (fun(v:Value) (Gb:List (Ast wm))=>∃ (Xz:Option Addr) (XY:Nat) (Xy:Nat),v= .slice Xz XY Xy∧Gb= [ow wm Yg Xz XY Xy r]) [ow wm Yg Zr Xv Zq p0] h):=by
 refine bg Try.ntmps78 ZF hO ?_;intro T hT hS;unfold ZuK at hL;obtain rfl:=hS.on k0;refine J6 ?_;obtain⟨z1,hz1,hL⟩:=bind_some hL;refine WO.he gN rfl (ZsV (hS.get k0).2 rfl Qh YQ (Zt (Yi rfl fh) rfl) (Zt (ZP rfl (Zf rfl fh)) rfl) (Zt (ZP rfl fh) rfl) (Zt fh rfl) hz1) ?_;rintro v2 hv3;refine r8 ?_;refine r2 ?_;refine cn hL ?_ ?_
 ·intro hc hL;refine r8 ?_;have hr:=Option.some.inj hL;subst hr;exact ZQ.QN rfl (ZB lk Zm) ⟨_,⟨Zr,p0.length,Zq,rfl,rfl⟩,hT ▸ hS.only (.c k0 .n)⟩
 ·intro hc hL;refine r8 ?_;refine r2 ?_;refine WC.Yp mixed (by kernel_rfl) ?_;refine r2 ?_;obtain⟨z4,hz4,hL⟩:=bind_some hL;have ZhZ:= (hS.get k0).2.cap;refine WX.he gN rfl (ZsT (hS.get k0).2 rfl Qh YQ (Zt (Zf rfl fh) rfl) (Zt fh rfl) hz4) ?_ rfl;rintro _ ⟨a5,c6,ea7,ec8,rfl,ZAm⟩;have ZuZ:=ec8.symm;refine r2 ?_;obtain⟨z13,Zop,hL⟩:=bind_some hL;refine WX.he gN rfl (ZsW (hS.get k0).2 rfl Qh YQ (Zt (Zf rfl fh) rfl) (.inr ⟨_,YG (Zt fh rfl)⟩) (.inl ⟨rfl,rfl⟩) Zop) ?_ rfl;rintro _ ⟨a14,c15,rfl,ZAl⟩;obtain⟨z17,Zoo,hL⟩:=bind_some hL;have Zz9:= (ZAl.own (hS.get k0).2).src;have hS:=hS.sub k0 ZAm;refine WX.hv gN rfl (Zyv (e:=Yg) hS k0 K4 lk lk Zz9 rfl Zoo (ZuZ ▸ Nat.le_trans (Zg7 hz1 hz4 Zop Zoo) ZhZ)) ?_ rfl rfl [] (by kernel_rfl) Z8.e;rintro _ h19 ⟨rfl,hS⟩;refine WX.w gN rfl (Z7 lk) ?_ (by kernel_rfl);refine r8 ?_;refine WO.he gN rfl (ZsS (hS.get k0).2 Qh YQ (Zt (ZP rfl (Zf rfl fh)) rfl) (Zt (Zf rfl fh) rfl) (Zt fh rfl) (Zg7 hz1 hz4 Zop Zoo) (ZuZ ▸ ZhZ)) ?_;rintro _ ⟨a20,c21,rfl,ZAp⟩;refine WO.hw gN (Zyu hS k0 ZAp rfl Qh Za8 rfl (Zt fh rfl)) ?_;rintro h24 hS;refine r8 ?_;refine r1 ?_;have hr:=Option.some.inj hL;subst hr;exact ZQ.QN rfl (ZB lk Zm) ⟨_,⟨a5,z17.length,c6,rfl,rfl⟩,hT ▸ hS.only (.c k0 .n)⟩
theorem ZBw {F wm:Nat} {h:H} {p0:(List Yy)} {p1:Yy} {Zr:Option Addr} {Zq:Nat} {r:Int} (ZF:wm <=h.size) (ZG:Sl Yg wm h Zr Zq p0) (hL:ZxA F p0 p1=some r):
 WR XX 79 #[.slice Zr p0.length Zq,.agg [.int .i64 p1.at_,.int .i64 p1.name].toArray] wm h (CP (fun(v:Value) (Gb:List (Ast wm))=>v= .int .i64 r∧Gb= []) [] h):=by
 refine bg Try.ntmps79 ZF ZT.nil ?_;intro T hT hS;unfold ZxA at hL;refine r3 ?_;rintro _ h2 ⟨b1,eb1,rfl,hS⟩;refine J6 ?_;refine WC.loop (WL.lift hL (fun(v8:Int) (s:Fs)=>∃ (fr4:Fr) (h3:H),s= ⟨fr4,[],h3,none⟩∧Sp wm T h [bx wm b1 [.int .i64 p1.at_,.int .i64 p1.name]] h3∧fr4.at 0= .slice Zr p0.length Zq∧fr4.at 3= .pointer (some ⟨b1,0,none⟩)∧fr4.at 7= .int .i64 (p0.length:Int)∧fr4.at 8= .int .i64 v8) ⟨_,_,rfl,hS.only (.c k0 .n),YN⟩ ?_);clear hL hS;rintro ZhH v8 s ZkN hL ⟨fr4,h3,rfl,hS,e5,e6,e7,e9⟩;dsimp only [Zfw] at hL;refine r6 ?_;refine cn hL ?_ ?_
 ·intro hc hL;refine r8 ?_;refine r3 ?_;refine WC.Yp mixed (by kernel_rfl) ?_;refine r3 ?_;obtain⟨x11,ZkH,hL⟩:=bind_some hL;obtain⟨b12,o13,_,Zug,Zut,Zul,ZEY⟩:=Sl.at_ ZG ZkH;refine WX.w gN rfl (ZY Qh YQ lk lk rfl Zug ZkH) ?_ rfl;refine WX.w gN rfl (Xa Zdm YQ (Zt fh rfl) (At.fz hS.fz Zul Zut) (j:=0) rfl rfl (ws:= [.int .i64 x11.at_,.int .i64 x11.name]) rfl) ?_ rfl;refine WX.w gN rfl (Z9 (Zt (Yi rfl fh) rfl) (Zt fh rfl) (ZiM (xs:= [.int .i64 p1.at_,.int .i64 p1.name]) (ys:= [.int .i64 x11.at_,.int .i64 x11.name]) (Zqz p1 x11) rfl rfl)) ?_ rfl;refine r2 ?_;refine cn hL ?_ ?_
  ·intro hc hL;refine J6 ?_;exact rt hL hT hS
  ·intro hc hL;refine r6 ?_;refine r1 ?_;exact Yw.Yv (ZkN _ _ hL ⟨_,_,rfl,hS.only (.c k0 .n),YN⟩)
 ·intro hc hL;refine r8 ?_;refine r3 ?_;exact rt hL hT hS
end Go.Proofs.Ytekpjgmhkkjhgaa
end
end
section
namespace Go.Proofs.Ytekpjgmhkkjhgaa
open Go.Lf
def Zk6 (p0:(List Yy)) (p1:(List Yy)):Int ->(Int ->Option Bool) ->Option Bool:=fun v6 ZmC=>
 (bif decide (v6 < (p0.length:Int)) then(Yh p0 v6).bind fun x9=>(Yh p1 v6).bind fun x12=>(bif(!(KW x9 x12)) then some false else ZmC (ZJ (v6 + 1))) else some true)
def ZrG (F:Nat) (p0:(List Yy)) (p1:(List Yy)):Option Bool:=
 (bif((p0.length:Int) != (p1.length:Int)) then some false else loop F (Zk6 p0 p1) 0)
def ZoW (p0:(List Zd)):Option (List Zd):=
 (app 40 ([]:List Zd) p0).bind fun z3=>some z3
def ZoV (p0:(List Int)):Option (List Int):=
 (app 8 ([]:List Int) p0).bind fun z3=>some z3
def Zh7 (v25:Int) (Ze8:(Int×(List Int) ->Option (List Int))):(List Int) ->Option (List Int):=fun v39=>
 Ze8 (ZJ (v25 + 1),v39)
def Zh8 (p0:Store) (p1:Int):Int×(List Int) ->(Int×(List Int) ->Option (List Int)) ->Option (List Int):=fun(v25,v27) Ze8=>
 (bif decide (v25 < (p0.notes.length:Int)) then(Yh p0.notes v25).bind fun x43=>(bif((x43.kind==3) && (x43.name==p1)) then(app 8 v27 [x43.Zy]).bind fun z51=>(Zh7 v25 Ze8) z51 else(Zh7 v25 Ze8) v27) else some v27)
def Zft (F:Nat) (p0:Store) (p1:Int):(List Int) ->Option (List Int):=fun v14=>
 loop F (Zh8 p0 p1) (0,v14)
def Zk5 (F:Nat) (p0:Store) (p1:Int) (v73:Int) (ZdA:(Int×(List Int) ->Option (List Int))):(List Int) ->Option (List Int):=fun v91=>
 (bif(!true) then(Zft F p0 p1) v91 else ZdA (ZJ (v73 + 1),v91))
def ZoS (F:Nat) (p0:Store) (p1:Int) (v61:Int) (Zkz:(Int×(List Int) ->Option (List Int))):Int×(List Int) ->(Int×(List Int) ->Option (List Int)) ->Option (List Int):=fun(v73,v75) ZdA=>
 (bif decide (v73 < p0.names) then(Zae p0.cells (Ze.mk v61 v73) (Za.mk 0 false 0 0 0 false)).bind fun x80=>(bif x80.2 then(bif((x80.1.name==p1) && x80.1.root) then(app 8 v75 [v61]).bind fun z98=>(Zk5 F p0 p1 v73 ZdA) z98 else(Zk5 F p0 p1 v73 ZdA) v75) else ZdA (ZJ (v73 + 1),v75)) else Zkz (ZJ (v61 + 1),v75))
def ZoT (F:Nat) (p0:Store) (p1:Int):Int×(List Int) ->(Int×(List Int) ->Option (List Int)) ->Option (List Int):=fun(v61,v63) Zkz=>
 (bif decide (v61 < p0.machines) then loop F (ZoS F p0 p1 v61 Zkz) (0,v63) else(Zft F p0 p1) v63)
def ZuG (F:Nat) (p0:Store) (p1:Int):Option (List Int):=
 loop F (ZoT F p0 p1) (0,[])
def Zh4 (v7:Int) (Uf:(Int ->Option Bool)):Unit ->Option Bool:=fun _=>
 Uf (ZJ (v7 + 1))
def Zh5 (p0:Store) (p1:Int) (p2:Int) (v7:Int) (Uf:(Int ->Option Bool)):Int×Bool×Int×Int×Bool×Int×Int×Int×Bool ->(Int×Bool×Int×Int×Bool×Int×Int×Int×Bool ->Option Bool) ->Option Bool:=fun(v26,v29,v34,v36,v37,v38,v39,v40,v41) Zto=>
 (bif decide (v34 < p0.machines) then(bif(v26==p2) then(Zh4 v7 Uf) () else(bif((!v29) || (decide (v38 < 0))) then some false else(Zae p0.cells (Ze.mk v38 p1) (Za.mk 0 false 0 0 0 false)).bind fun x43=>Zto (v38,x43.2,ZJ (v34 + 1),x43.1.name,x43.1.root,x43.1.from_,x43.1.has,x43.1.out,x43.1.use))) else(bif(v26 !=p2) then some false else(Zh4 v7 Uf) ()))
def Zh6 (F:Nat) (p0:Store) (p1:Int) (p2:Int):Int ->(Int ->Option Bool) ->Option Bool:=fun v7 Uf=>
 (bif decide (v7 < p0.machines) then(Zae p0.cells (Ze.mk v7 p1) (Za.mk 0 false 0 0 0 false)).bind fun x17=>(bif(!x17.2) then(Zh4 v7 Uf) () else loop F (Zh5 p0 p1 p2 v7 Uf) (v7,x17.2,0,x17.1.name,x17.1.root,x17.1.from_,x17.1.has,x17.1.out,x17.1.use)) else some true)
def ZrF (F:Nat) (p0:Store) (p1:Int) (p2:Int):Option Bool:=
 loop F (Zh6 F p0 p1 p2) 0
end Go.Proofs.Ytekpjgmhkkjhgaa
end
section
set_option maxRecDepth 20000
noncomputable section
namespace Go.Proofs.Ytekpjgmhkkjhgaa
open Go.Yz Go.Lf
theorem ZBu {F wm:Nat} {h:H} {p0 p1:(List Yy)} {Zr:Option Addr} {Zq:Nat} {Yk:Option Addr} {Yj:Nat} {r:Bool} (ZF:wm <=h.size) (ZG:Sl Yg wm h Zr Zq p0) (QZ:Sl Yg wm h Yk Yj p1) (hL:ZrG F p0 p1=some r):
 WR XX 80 #[.slice Zr p0.length Zq,.slice Yk p1.length Yj] wm h (CP (fun(v:Value) (Gb:List (Ast wm))=>v= .bool r∧Gb= []) [] h):=by
 refine bg Try.ntmps80 ZF ZT.nil ?_;intro T hT hS;unfold ZrG at hL;refine J6 ?_;refine r3 ?_;refine cn hL ?_ ?_
 ·intro hc hL;refine r6 ?_;refine r1 ?_;exact rt hL hT hS
 ·intro hc hL;refine r8 ?_;refine r3 ?_;refine WC.loop (WL.lift hL (fun(v6:Int) (s:Fs)=>∃ (J8:Fr) (h1:H),s= ⟨J8,[],h1,none⟩∧Sp wm T h [] h1∧J8.at 0= .slice Zr p0.length Zq∧J8.at 1= .slice Yk p1.length Yj∧J8.at 12= .int .i64 (p0.length:Int)∧J8.at 13= .int .i64 v6) ⟨_,_,rfl,hS.only .n,YN⟩ ?_);clear hL hS;rintro ZmC v6 s ZoA hL ⟨J8,h1,rfl,hS,e3,e4,e5,e7⟩;dsimp only [Zk6] at hL;refine r6 ?_;refine cn hL ?_ ?_
  ·intro hc hL;refine r8 ?_;refine r3 ?_;refine WC.Yp mixed (by kernel_rfl) ?_;refine r2 ?_;obtain⟨x9,hx9,hL⟩:=bind_some hL;obtain⟨b10,o11,_,Zuh,Zuu,Zum,ZEZ⟩:=Sl.at_ ZG hx9;refine WX.w gN rfl (ZY Qh YQ lk lk rfl Zuh hx9) ?_ rfl;refine WX.w gN rfl (Xa Zdm YQ (Zt fh rfl) (At.fz hS.fz Zum Zuu) (j:=0) rfl rfl (ws:= [.int .i64 x9.at_,.int .i64 x9.name]) rfl) ?_ rfl;refine r2 ?_;obtain⟨x12,Zot,hL⟩:=bind_some hL;obtain⟨b13,o14,_,Zuf,Zus,Zuk,Zza⟩:=Sl.at_ QZ Zot;refine WX.w gN rfl (ZY Qh YQ lk lk rfl Zuf Zot) ?_ rfl;refine WX.w gN rfl (Xa Zdm YQ (Zt fh rfl) (At.fz hS.fz Zuk Zus) (j:=0) rfl rfl (ws:= [.int .i64 x12.at_,.int .i64 x12.name]) rfl) ?_ rfl;refine WX.w gN rfl (Z9 (Zt (Yi rfl fh) rfl) (Zt fh rfl) (ZnO (xs:= [.int .i64 x9.at_,.int .i64 x9.name]) (ys:= [.int .i64 x12.at_,.int .i64 x12.name]) (Zqz x9 x12) rfl rfl)) ?_ rfl;refine r2 ?_;refine cn hL ?_ ?_
   ·intro hc hL;refine r8 ?_;refine r3 ?_;exact rt hL hT hS
   ·intro hc hL;refine r6 ?_;refine r1 ?_;exact Yw.Yv (ZoA _ _ hL ⟨_,_,rfl,hS.only .n,YN⟩)
  ·intro hc hL;refine r8 ?_;refine r3 ?_;exact rt hL hT hS
theorem ZBv {F:Nat} {h:H} {p0 p1:(List Yy)} {Zr:Option Addr} {Zq:Nat} {Yk:Option Addr} {Yj:Nat} {r:Bool} (ZG:Sl Yg h.size h Zr Zq p0) (QZ:Sl Yg h.size h Yk Yj p1) (hL:ZrG F p0 p1=some r):Pure XX 80 #[.slice Zr p0.length Zq,.slice Yk p1.length Yj] h (.bool r):=
 WR.QF rfl (ZBu (Nat.le_refl _) ZG QZ hL)
theorem ZuJ {wm:Nat} {h:H} {p0:(List Zd)} {Zr:Option Addr} {Zq:Nat} {r:(List Zd)} (ZF:wm <=h.size) (ZG:Sl Zj wm h Zr Zq p0) (hL:ZoW p0=some r):
 WR XX 86 #[.slice Zr p0.length Zq] wm h (CP (fun(v:Value) (Gb:List (Ast wm))=>∃ (Xz:Option Addr) (XY:Nat) (Xy:Nat),v= .slice Xz XY Xy∧Gb= [ow wm Zj Xz XY Xy r]) [] h):=by
 refine bg Try.ntmps86 ZF ZT.nil ?_;intro T hT hS;unfold ZoW at hL;refine r8 ?_;rcases Sl.cases ZG with⟨rfl,rfl,rfl⟩ | ⟨qa,rfl⟩
 ·
  refine r1 ?_;refine WO.w gN rfl (Z9 (Zt fh rfl) (Jr rfl) (Zf3 UM)) ?_;refine r2 ?_;refine WC.ZlB lk rfl ?_;rw [Zpq _ (by decide)] at hL;replace hL:some []=some r:=hL;refine r6 ?_;refine r1 ?_;have hS:=hS.nil (e:=Zj);have hr:=Option.some.inj hL;subst hr;exact ZQ.QN rfl (ZB lk Zm) ⟨_,⟨none,0,0,rfl,rfl⟩,hT ▸ hS.only (.c k0 .n)⟩
 ·
  refine r1 ?_;refine WO.w gN rfl (Z9 (Zt fh rfl) (Jr rfl) (Zf4 UM)) ?_;refine r2 ?_;refine WC.ZdT lk rfl ?_;refine r4 ?_;refine WO.hn gN rfl (ZgD (e:=Zj) hS UM XI ZeS rfl rfl rfl ZE rfl [] rfl (xs:= ([]:List Zd)) rfl (by intro q hq;cases hq) rfl) ?_;rintro _ h2 ⟨b1,eb1,rfl,hS⟩;refine r1 ?_;obtain⟨z3,hz3,hL⟩:=bind_some hL;refine WO.hv gN rfl (Zec (e:=Zj) hS k0 ZiI lk lk (Sl.src (hS.sl ZG)) rfl hz3) ?_;rintro _ h6 ⟨a4,c5,rfl,hS⟩;refine r4 ?_;have hr:=Option.some.inj hL;subst hr;exact ZQ.QN rfl (ZB lk Zm) ⟨_,⟨a4,z3.length,c5,rfl,rfl⟩,hT ▸ hS.only (.c k0 .n)⟩
theorem ZuI {wm:Nat} {h:H} {p0:(List Int)} {Zr:Option Addr} {Zq:Nat} {r:(List Int)} (ZF:wm <=h.size) (ZG:Sl (ZM .i64) wm h Zr Zq p0) (hL:ZoV p0=some r):
 WR XX 87 #[.slice Zr p0.length Zq] wm h (CP (fun(v:Value) (Gb:List (Ast wm))=>∃ (Xz:Option Addr) (XY:Nat) (Xy:Nat),v= .slice Xz XY Xy∧Gb= [ow wm (ZM .i64) Xz XY Xy r]) [] h):=by
 refine bg Try.ntmps87 ZF ZT.nil ?_;intro T hT hS;unfold ZoV at hL;refine r8 ?_;rcases Sl.cases ZG with⟨rfl,rfl,rfl⟩ | ⟨qa,rfl⟩
 ·
  refine r1 ?_;refine WO.w gN rfl (Z9 (Zt fh rfl) (Jr rfl) (Zf3 Qn)) ?_;refine r2 ?_;refine WC.ZlB lk rfl ?_;rw [Zpq _ (by decide)] at hL;replace hL:some []=some r:=hL;refine r6 ?_;refine r1 ?_;have hS:=hS.nil (e:= (ZM .i64));have hr:=Option.some.inj hL;subst hr;exact ZQ.QN rfl (ZB lk Zm) ⟨_,⟨none,0,0,rfl,rfl⟩,hT ▸ hS.only (.c k0 .n)⟩
 ·
  refine r1 ?_;refine WO.w gN rfl (Z9 (Zt fh rfl) (Jr rfl) (Zf4 Qn)) ?_;refine r2 ?_;refine WC.ZdT lk rfl ?_;refine r4 ?_;refine WO.hn gN rfl (ZgD (e:= (ZM .i64)) hS Qn Xc U7 rfl rfl rfl ZE rfl [] rfl (xs:= ([]:List Int)) rfl (by intro q hq;cases hq) rfl) ?_;rintro _ h2 ⟨b1,eb1,rfl,hS⟩;refine r1 ?_;obtain⟨z3,hz3,hL⟩:=bind_some hL;refine WO.hv gN rfl (Zec (e:= (ZM .i64)) hS k0 ZeG lk lk (Sl.src (hS.sl ZG)) rfl hz3) ?_;rintro _ h6 ⟨a4,c5,rfl,hS⟩;refine r4 ?_;have hr:=Option.some.inj hL;subst hr;exact ZQ.QN rfl (ZB lk Zm) ⟨_,⟨a4,z3.length,c5,rfl,rfl⟩,hT ▸ hS.only (.c k0 .n)⟩
theorem ZBr {F wm:Nat} {h:H} {p0:Store} {p1:Int} {ZH:Option Nat} {Zp:Option Addr} {Zo:Nat} {Zx:Option Addr} {Zw Xm UJ:Nat} {r:(List Int)} (ZF:wm <=h.size) (Y2:At h Xm UJ [.int .i64 p0.machines,.int .i64 p0.names,.map ZH,.slice Zp p0.notes.length Zo,.slice Zx p0.freed.length Zw]) (Y1:Stb wm h Xm) (ZG:Uv Zg Zl wm h ZH p0.cells) (Yo:Sl Zj wm h Zp Zo p0.notes) (Yn:Sl (ZM .i64) wm h Zx Zw p0.freed) (hL:ZuG F p0 p1=some r):
 WR XX 90 #[.pointer (some ⟨Xm,UJ,none⟩),.int .i64 p1] wm h (CP (fun(v:Value) (Gb:List (Ast wm))=>∃ (Xz:Option Addr) (XY:Nat) (Xy:Nat),v= .slice Xz XY Xy∧Gb= [ow wm (ZM .i64) Xz XY Xy r]) [] h):=by
 refine WF.ZfW (args:= [_,_]) (fn:=Try.f90) (by kernel_rfl) (by exact rfl) Try.ntmps90 (by simp) ?_;simp only [ZC,ZI,Nat.reduceAdd];obtain⟨T,hT,hS⟩:∃ T,T=XD (wm:=wm) []∧Sp wm T h [] h:= ⟨_,rfl,Sp.start ZF ZT.nil⟩
 unfold ZuG at hL;refine r3 ?_;rintro _ h2 ⟨b1,eb1,rfl,hS⟩;refine r6 ?_;rintro _ h4 ⟨b3,eb3,rfl,hS⟩;refine r6 ?_;refine WO.inl gN rfl (Y0.fn ZtY (Zc lk Zk)) (WF.begin (args:= [_]) (fn:=Try.f71) (by kernel_rfl) (by exact rfl) Try.ntmps71 (by simp) ?_);simp only [ZC,ZI,Nat.reduceAdd];refine r3 ?_;rintro _ h6 ⟨b5,eb5,rfl,hS⟩;refine r4 ?_;refine r1 ?_;refine WO.w gN rfl (Zcu (Zc lk Zk)) ?_;refine r4 ?_;refine ZQ.QN rfl (ZB lk Zm) ?_;refine r3 ?_;refine WC.Zob (first:= []) (cap:= [.pointer (some ⟨b5,0,none⟩)]) hS lk ZoI ?_;intro h7 l8 df9 Zyl Zqc hS;refine WR.Zon (r:=r) (fun(v14:(List Int)) (v:Value) (h12:H)=>∃ (a15:Option Addr) (c16:Nat) (n17:Nat),v= .tuple [].toArray∧Sp wm T h [bx wm b1 [.int .i64 p1],ow wm (ZM .i64) a15 n17 c16 v14,bx wm b3 [.slice a15 n17 c16],bx wm b5 [.pointer (some ⟨Xm,UJ,none⟩)],ob wm l8 Zyl,ob wm df9 .deferred] h12) (Zft F p0 p1) ?_ (WF.begin (args:= [_,_]) (fn:=Try.f110) (by kernel_rfl) (by exact rfl) Try.ntmps110 (by simp) ?_)
 ·clear hL hS;rintro v14 v h12 hL ⟨a15,c16,n17,rfl,hS⟩;obtain rfl:=hS.on k1;dsimp only [Zft] at hL;refine RgE.sp Zqc hS k4 ?_;rintro h18 hS;refine r8 ?_;refine WO.w gN rfl (ZR ZnM (Zt fh rfl) (At.fz hS.fz Y1 Y2) (j:=3) rfl (v:= .slice Zp p0.notes.length Zo) rfl) ?_;refine r4 ?_;refine r1 ?_;refine WC.loop (WL.lift hL (fun(p:Int×(List Int)) (s:Fs)=>match p with | (v25,v27)=>∃ (Jq:Fr) (h19:H) (a28:Option Addr) (c29:Nat) (n30:Nat),s= ⟨Jq,[⟨.collected df9,#[]⟩],h19,none⟩∧Sp wm T h [bx wm b1 [.int .i64 p1],ow wm (ZM .i64) a28 n30 c29 v27,bx wm b3 [.slice a28 n30 c29],ob wm df9 .deferred] h19∧Jq.at 3= .pointer (some ⟨b1,0,none⟩)∧Jq.at 5= .pointer (some ⟨b3,0,none⟩)∧Jq.at 29= .slice Zp p0.notes.length Zo∧Jq.at 30= .int .i64 (p0.notes.length:Int)∧Jq.at 31= .int .i64 v25) ⟨_,_,a15,c16,v14.length,rfl,hS.only (.c k0 (.c k0 (.c k0 (.c k1 .n)))),YN⟩ ?_);clear hL hS;rintro Ze8 ⟨v25,v27⟩ s ZwR hL ⟨Jq,h19,a28,c29,n30,rfl,hS,e21,e22,e23,e24,e26⟩;obtain rfl:=hS.on k1;dsimp only [Zh8] at hL;refine r6 ?_;refine cn hL ?_ ?_
  ·intro hc hL;refine r2 ?_;refine WC.KH (r:=r) (fun(v39:(List Int)) (s:Fs)=>∃ (Zch:Fr) (h32:H) (a40:Option Addr) (c41:Nat) (n42:Nat),s= ⟨Zch,[⟨.collected df9,#[]⟩],h32,none⟩∧Sp wm T h [bx wm b1 [.int .i64 p1],ow wm (ZM .i64) a40 n42 c41 v39,bx wm b3 [.slice a40 n42 c41],ob wm df9 .deferred] h32∧Zch.at 3= .pointer (some ⟨b1,0,none⟩)∧Zch.at 5= .pointer (some ⟨b3,0,none⟩)∧Zch.at 29= .slice Zp p0.notes.length Zo∧Zch.at 30= .int .i64 (p0.notes.length:Int)∧Zch.at 31= .int .i64 v25) (Zh7 v25 Ze8) ?_ ?_
   ·clear hL hS;rintro v39 s hL ⟨Zch,h32,a40,c41,n42,rfl,hS,e34,e35,e36,e37,e38⟩;obtain rfl:=hS.on k1;dsimp only [Zh7] at hL;refine r4 ?_;exact Yw.Yv (ZwR _ _ hL ⟨_,_,a40,c41,v39.length,rfl,hS.only (.c k0 (.c k0 (.c k0 (.c k0 .n)))),YN⟩)
   ·skip;refine r3 ?_;obtain⟨x43,Zor,hL⟩:=bind_some hL;obtain⟨b44,o45,_,Zuc,Zun,Zui,ZET⟩:=Sl.at_ Yo Zor;refine WO.w gN rfl (ZY UM XI lk lk rfl Zuc Zor) ?_;refine WO.w gN rfl (Xa ZeK XI (Zt fh rfl) (At.fz hS.fz Zui Zun) (j:=0) rfl rfl (ws:= [.int .i64 x43.kind,.int .i64 x43.Zy,.int .i64 x43.name,.int .i64 x43.via,.int .i64 x43.w]) rfl) ?_;refine r1 ?_;rintro _ h47 ⟨b46,ZJf,rfl,hS⟩;refine r1 ?_;rintro h48 hS;refine J6 ?_;refine r3 ?_;refine cn hL ?_ ?_
    ·intro hc hL;refine r4 ?_;refine WO.hn gN rfl (ZgD (e:= (ZM .i64)) hS Qn Xc U7 rfl rfl rfl (Zh lk ZE) rfl [((),x43.Zy)] rfl (xs:= [x43.Zy]) rfl (by intro q hq;simp only [List.mem_cons,List.not_mem_nil,or_false] at hq;subst hq;exact trivial) rfl) ?_;rintro _ h50 ⟨b49,ZJe,rfl,hS⟩;obtain⟨z51,ZHD,hL⟩:=bind_some hL;refine WO.hv gN rfl (Zec (e:= (ZM .i64)) hS k3 ZeG lk lk (hS.Ja k0) (hS.on k0) ZHD) ?_;rintro _ h54 ⟨a52,c53,rfl,hS⟩;refine r1 ?_;rintro h55 hS;refine r2 ?_;exact YH.Yv _ hL ⟨_,_,a52,c53,z51.length,rfl,hS.only (.c k4 (.c k1 (.c k0 (.c k2 .n)))),YN⟩
    ·intro hc hL;refine r2 ?_;exact YH.Yv _ hL ⟨_,_,a28,c29,v27.length,rfl,hS.only (.c k1 (.c k1 (.c k1 (.c k1 .n)))),YN⟩
  ·intro hc hL;refine J6 ?_;refine XV.ZBQ hS k3 ?_;rintro h56 hS;have hr:=Option.some.inj hL;subst hr;exact XV.gen rfl (ZB lk Zm) rfl ⟨_,⟨a28,v27.length,c29,rfl,rfl⟩,hT ▸ hS.only (.c k1 .n)⟩
 ·skip;simp only [ZC,ZI,Nat.reduceAdd];refine r6 ?_;have hS:=hS.nil (e:= (ZM .i64));refine WC.loop (WL.lift hL (fun(p:Int×(List Int)) (s:Fs)=>match p with | (v61,v63)=>∃ (Zaz:Fr) (h57:H) (a64:Option Addr) (c65:Nat) (n66:Nat),s= ⟨Zaz,[],h57,none⟩∧Sp wm T h [bx wm b5 [.pointer (some ⟨Xm,UJ,none⟩)],bx wm b1 [.int .i64 p1],ow wm (ZM .i64) a64 n66 c65 v63,bx wm b3 [.slice a64 n66 c65],ob wm l8 Zyl,ob wm df9 .deferred] h57∧Zaz.at 0= .func (.yield l8) #[] #[]∧Zaz.at 1= .pointer (some ⟨b5,0,none⟩)∧Zaz.at 3= .int .i64 v61) ⟨_,_,none,0,0,rfl,hS.only (.c k3 (.c k4 (.c k0 (.c k2 (.c k0 (.c k0 .n)))))),YN⟩ ?_);clear hL hS;rintro Zkz ⟨v61,v63⟩ s ZwJ hL ⟨Zaz,h57,a64,c65,n66,rfl,hS,e59,e60,e62⟩;obtain rfl:=hS.on k2;dsimp only [ZoT] at hL;refine r6 ?_;refine r1 ?_;refine WO.w gN rfl (ZR Xk (Zt fh rfl) (At.fz hS.fz Y1 Y2) (j:=0) rfl (v:= .int .i64 p0.machines) rfl) ?_;refine r3 ?_;refine cn hL ?_ ?_
  ·intro hc hL;refine r8 ?_;refine r2 ?_;refine WC.loop (WL.lift hL (fun(p:Int×(List Int)) (s:Fs)=>match p with | (v73,v75)=>∃ (Zrx:Fr) (h68:H) (a76:Option Addr) (c77:Nat) (n78:Nat),s= ⟨Zrx,[],h68,none⟩∧Sp wm T h [bx wm b5 [.pointer (some ⟨Xm,UJ,none⟩)],bx wm b1 [.int .i64 p1],ow wm (ZM .i64) a76 n78 c77 v75,bx wm b3 [.slice a76 n78 c77],ob wm l8 Zyl,ob wm df9 .deferred] h68∧Zrx.at 0= .func (.yield l8) #[] #[]∧Zrx.at 1= .pointer (some ⟨b5,0,none⟩)∧Zrx.at 3= .int .i64 v61∧Zrx.at 4= .int .i64 v73) ⟨_,_,a64,c65,v63.length,rfl,hS.only (.c k0 (.c k0 (.c k0 (.c k0 (.c k0 (.c k0 .n)))))),YN⟩ ?_);clear hL hS;rintro ZdA ⟨v73,v75⟩ s Zp6 hL ⟨Zrx,h68,a76,c77,n78,rfl,hS,e70,e71,e72,e74⟩;obtain rfl:=hS.on k2;dsimp only [ZoS] at hL;refine r6 ?_;refine r1 ?_;refine WO.w gN rfl (ZR Xk (Zt fh rfl) (At.fz hS.fz Y1 Y2) (j:=1) rfl (v:= .int .i64 p0.names) rfl) ?_;refine r3 ?_;refine cn hL ?_ ?_
   ·intro hc hL;refine r8 ?_;refine r1 ?_;refine WO.w gN rfl (ZR Zgy (Zt fh rfl) (At.fz hS.fz Y1 Y2) (j:=2) rfl (v:= .map ZH) rfl) ?_;refine r2 ?_;refine WO.w gN rfl (Y8 XQ (Zh lk (Zh lk ZE)) rfl (cs':= [.int .i64 v61,.int .i64 v73]) rfl) ?_;obtain⟨x80,ZAa,hL⟩:=bind_some hL;refine WO.w gN rfl (K3 (kv:=Zg) (vv:=Zl) (k:= (Ze.mk v61 v73)) (z:= (Za.mk 0 false 0 0 0 false)) YR Ud Uo (Zt (ZP rfl (Zf rfl fh)) rfl) (Zt fh rfl) (hS.ms ZG).at_ ZAa (w:= .agg [.int .i64 x80.1.name,.bool x80.1.root,.int .i64 x80.1.from_,.int .i64 x80.1.has,.int .i64 x80.1.out,.bool x80.1.use].toArray) rfl) ?_;refine r4 ?_;rintro _ h82 ⟨b81,ZNk,rfl,hS⟩;refine r1 ?_;rintro h83 hS;refine r8 ?_;refine r2 ?_;refine WO.ZkR (Zi.yes rfl rfl rfl (ZP rfl (Zf rfl fh))) (fun ZgF=>?_) (fun ZgF=>?_)
    ·replace hL:=Wy ZgF hL;refine WO.Zzz (Zi.on (Zi.yes rfl rfl rfl (ZP rfl (Zf rfl fh))) ZgF) rfl (XE (ZP rfl fh) rfl ZgF) (Zc (XE (Zf rfl fh) rfl ZgF) (Zc (XE fh rfl ZgF) Zk)) hS k5 Zqc rfl rfl ?_;refine r6 ?_;refine r1 ?_;rintro _ h86 ⟨b85,ZNj,rfl,hS⟩;refine r1 ?_;rintro h87 hS;refine r1 ?_;refine AsK.sp Zqc hS k6 ?_;rintro h88 hS;refine WC.jn (r:=r) (fun(v91:(List Int)) (s:Fs)=>∃ (ZFS:Fr) (h89:H) (a92:Option Addr) (c93:Nat) (n94:Nat),s= ⟨ZFS,[],h89,none⟩∧Sp wm T h [bx wm b1 [.int .i64 p1],ow wm (ZM .i64) a92 n94 c93 v91,bx wm b3 [.slice a92 n94 c93],bx wm b5 [.pointer (some ⟨Xm,UJ,none⟩)],bx wm b81 [.int .i64 x80.1.name,.bool x80.1.root,.int .i64 x80.1.from_,.int .i64 x80.1.has,.int .i64 x80.1.out,.bool x80.1.use],ob wm l8 (bsy Zyl),ob wm df9 .deferred] h89) (Zk5 F p0 p1 v73 ZdA) ?_ ?_
     ·clear hL hS;rintro v91 s hL ⟨ZFS,h89,a92,c93,n94,rfl,hS⟩;obtain rfl:=hS.on k1;dsimp only [Zk5] at hL;refine BdK.sp Zqc hS k5 ?_;rintro h95 hS;refine WO.w (Zi.on (Zi.yes rfl rfl rfl (Yi rfl fh)) ZgF) rfl (ZlL lk) ?_;refine WO.w gN rfl (ZlJ lk ZgF lk) ?_;refine r2 ?_;refine cn hL ?_ ?_
      ·intro hc hL;refine r8 ?_;refine r1 ?_;exact ZQ.gen (vs:= []) rfl Zm rfl ⟨_,hL,⟨a92,c93,v91.length,rfl,hS.only (.c k1 (.c k1 (.c k1 (.c k1 (.c k0 (.c k1 .n))))))⟩⟩
      ·intro hc hL;refine r8 ?_;exact Yw.Yv (Zp6 _ _ hL ⟨_,_,a92,c93,v91.length,rfl,hS.only (.c k4 (.c k1 (.c k1 (.c k1 (.c k0 (.c k1 .n)))))),YN⟩)
     ·skip;refine J6 ?_;refine r1 ?_;refine cn hL ?_ ?_
      ·intro hc hL;refine r3 ?_;refine WO.hn gN rfl (ZgD (e:= (ZM .i64)) hS Qn Xc U7 rfl rfl rfl (Zh lk ZE) rfl [((),v61)] rfl (xs:= [v61]) rfl (by intro q hq;simp only [List.mem_cons,List.not_mem_nil,or_false] at hq;subst hq;exact trivial) rfl) ?_;rintro _ h97 ⟨b96,ZNe,rfl,hS⟩;obtain⟨z98,ZHA,hL⟩:=bind_some hL;refine WO.hv gN rfl (Zec (e:= (ZM .i64)) hS k6 ZeG lk lk (hS.Ja k0) (hS.on k0) ZHA) ?_;rintro _ ZFP ⟨a99,Zr0,rfl,hS⟩;refine r1 ?_;rintro ZoK hS;refine r2 ?_;exact JnK.Yv _ hL ⟨_,_,a99,Zr0,z98.length,rfl,hS.only (.c k7 (.c k1 (.c k0 (.c k4 (.c k3 (.c k1 (.c k2 .n)))))))⟩
      ·intro hc hL;refine r2 ?_;exact JnK.Yv _ hL ⟨_,_,a76,c77,v75.length,rfl,hS.only (.c k4 (.c k4 (.c k4 (.c k3 (.c k2 (.c k0 (.c k1 .n)))))))⟩
    ·replace hL:=Wz ZgF hL;refine WO.ZmB (Zi.yes rfl rfl rfl (ZP rfl (Zf rfl fh))) ZgF rfl ?_;refine WO.ZmB (Zi.yes rfl rfl rfl (Yi rfl fh)) ZgF rfl ?_;refine WO.w gN rfl (ZlK lk ZgF lk) ?_;refine r2 ?_;refine WC.ZdT lk rfl ?_;refine r8 ?_;exact Yw.Yv (Zp6 _ _ hL ⟨_,_,a76,c77,v75.length,rfl,hS.only (.c k1 (.c k1 (.c k1 (.c k1 (.c k1 (.c k1 .n)))))),YN⟩)
   ·intro hc hL;refine r8 ?_;refine r3 ?_;exact Yw.Yv (ZwJ _ _ hL ⟨_,_,a76,c77,v75.length,rfl,hS.only (.c k0 (.c k0 (.c k0 (.c k0 (.c k0 (.c k0 .n)))))),YN⟩)
  ·intro hc hL;refine r4 ?_;refine ZQ.Yv ?_;exact ZQ.gen (vs:= []) rfl Zm rfl ⟨_,hL,⟨a64,c65,v63.length,rfl,hS.only (.c k1 (.c k1 (.c k1 (.c k0 (.c k0 (.c k0 .n))))))⟩⟩
theorem ZBp {F wm:Nat} {h:H} {p0:Store} {p1 p2:Int} {ZH:Option Nat} {Zp:Option Addr} {Zo:Nat} {Zx:Option Addr} {Zw Xm UJ:Nat} {r:Bool} (ZF:wm <=h.size) (Y2:At h Xm UJ [.int .i64 p0.machines,.int .i64 p0.names,.map ZH,.slice Zp p0.notes.length Zo,.slice Zx p0.freed.length Zw]) (Y1:Stb wm h Xm) (ZG:Uv Zg Zl wm h ZH p0.cells) (Yo:Sl Zj wm h Zp Zo p0.notes) (Yn:Sl (ZM .i64) wm h Zx Zw p0.freed) (hL:ZrF F p0 p1 p2=some r):
 WR XX 91 #[.pointer (some ⟨Xm,UJ,none⟩),.int .i64 p1,.int .i64 p2] wm h (CP (fun(v:Value) (Gb:List (Ast wm))=>v= .bool r∧Gb= []) [] h):=by
 refine bg Try.ntmps91 ZF ZT.nil ?_;intro T hT hS;unfold ZrF at hL;refine r4 ?_;refine r1 ?_;refine WC.scope ?_;refine r1 ?_;refine WC.label ?_;refine r6 ?_;refine r1 ?_;refine WO.w gN rfl (ZR Xk (Zt fh rfl) (At.fz hS.fz Y1 Y2) (j:=0) rfl (v:= .int .i64 p0.machines) rfl) ?_;refine r4 ?_;refine WC.loop (WL.lift hL (fun(v7:Int) (s:Fs)=>∃ (J8:Fr) (h1:H),s= ⟨J8,[],h1,none⟩∧Sp wm T h [] h1∧J8.at 0= .pointer (some ⟨Xm,UJ,none⟩)∧J8.at 1= .int .i64 p1∧J8.at 2= .int .i64 p2∧J8.at 13= .int .i64 p0.machines∧J8.at 14= .int .i64 v7) ⟨_,_,rfl,hS.only .n,YN⟩ ?_);clear hL hS;rintro Uf v7 s ZhW hL ⟨J8,h1,rfl,hS,e3,e4,e5,e6,e8⟩;dsimp only [Zh6] at hL;refine r6 ?_;refine cn hL ?_ ?_
 ·intro hc hL;refine r2 ?_;refine WC.KH (r:=r) (fun(_:Unit) (s:Fs)=>∃ (UL:Fr) (h10:H),s= ⟨UL,[],h10,none⟩∧Sp wm T h [] h10∧UL.at 0= .pointer (some ⟨Xm,UJ,none⟩)∧UL.at 1= .int .i64 p1∧UL.at 2= .int .i64 p2∧UL.at 13= .int .i64 p0.machines∧UL.at 14= .int .i64 v7) (Zh4 v7 Uf) ?_ ?_
  ·clear hL hS;rintro _ s hL ⟨UL,h10,rfl,hS,e12,e13,e14,e15,e16⟩;dsimp only [Zh4] at hL;refine r4 ?_;exact Yw.Yv (ZhW _ _ hL ⟨_,_,rfl,hS.only .n,YN⟩)
  ·skip;refine J6 ?_;refine WO.w gN rfl (ZR Zgy (Zt fh rfl) (At.fz hS.fz Y1 Y2) (j:=2) rfl (v:= .map ZH) rfl) ?_;refine r2 ?_;refine WO.w gN rfl (Y8 XQ (Zh lk (Zh lk ZE)) rfl (cs':= [.int .i64 v7,.int .i64 p1]) rfl) ?_;obtain⟨x17,ZAk,hL⟩:=bind_some hL;refine WO.w gN rfl (K3 (kv:=Zg) (vv:=Zl) (k:= (Ze.mk v7 p1)) (z:= (Za.mk 0 false 0 0 0 false)) YR Ud Uo (Zt (ZP rfl (Zf rfl fh)) rfl) (Zt fh rfl) (hS.ms ZG).at_ ZAk (w:= .agg [.int .i64 x17.1.name,.bool x17.1.root,.int .i64 x17.1.from_,.int .i64 x17.1.has,.int .i64 x17.1.out,.bool x17.1.use].toArray) rfl) ?_;refine r4 ?_;rintro _ h19 ⟨b18,ZNC,rfl,hS⟩;refine r1 ?_;rintro h20 hS;refine r8 ?_;refine r2 ?_;refine cn hL ?_ ?_
   ·intro hc hL;refine r3 ?_;exact YH.Yv _ hL ⟨_,_,rfl,hS.only .n,YN⟩
   ·intro hc hL;refine r8 ?_;refine WO.w gN rfl (ZR Xk (Zt fh rfl) (At.fz hS.fz Y1 Y2) (j:=0) rfl (v:= .int .i64 p0.machines) rfl) ?_;refine r4 ?_;refine WC.loop (WL.lift hL (fun(p:Int×Bool×Int×Int×Bool×Int×Int×Int×Bool) (s:Fs)=>match p with | (v26,v29,v34,v36,v37,v38,v39,v40,v41)=>∃ (ZgK:Fr) (h21:H),s= ⟨ZgK,[],h21,none⟩∧Sp wm T h [bx wm b18 [.int .i64 v36,.bool v37,.int .i64 v38,.int .i64 v39,.int .i64 v40,.bool v41]] h21∧ZgK.at 0= .pointer (some ⟨Xm,UJ,none⟩)∧ZgK.at 1= .int .i64 p1∧ZgK.at 2= .int .i64 p2∧ZgK.at 7= .int .i64 v26∧ZgK.at 8= .pointer (some ⟨b18,0,none⟩)∧ZgK.at 9= .bool v29∧ZgK.at 13= .int .i64 p0.machines∧ZgK.at 14= .int .i64 v7∧ZgK.at 33= .int .i64 p0.machines∧ZgK.at 34= .int .i64 v34) ⟨_,_,rfl,hS.only (.c k0 .n),YN⟩ ?_);clear hL hS;rintro Zto ⟨v26,v29,v34,v36,v37,v38,v39,v40,v41⟩ s ZwP hL ⟨ZgK,h21,rfl,hS,e23,e24,e25,e27,e28,e30,e31,e32,e33,e35⟩;dsimp only [Zh5] at hL;refine r6 ?_;refine cn hL ?_ ?_
    ·intro hc hL;refine J6 ?_;refine cn hL ?_ ?_
     ·intro hc hL;refine r2 ?_;refine U6.other rfl ?_;refine r2 ?_;refine U6.other rfl ?_;refine r2 ?_;exact YH.Yv _ hL ⟨_,_,rfl,hS.only .n,YN⟩
     ·intro hc hL;refine J6 ?_;refine r2 ?_;refine cn hL ?_ ?_
      ·intro hc hL;refine J6 ?_;refine r1 ?_;refine YH.ret ?_;refine r3 ?_;refine Zsl.ret ?_;exact rt hL hT hS
      ·intro hc hL;refine J6 ?_;refine r1 ?_;refine WO.w gN rfl (ZR Zgy (Zt fh rfl) (At.fz hS.fz Y1 Y2) (j:=2) rfl (v:= .map ZH) rfl) ?_;refine r2 ?_;refine WO.w gN rfl (Y8 XQ (Zh lk (Zh lk ZE)) rfl (cs':= [.int .i64 v38,.int .i64 p1]) rfl) ?_;obtain⟨x43,Zor,hL⟩:=bind_some hL;refine WO.w gN rfl (K3 (kv:=Zg) (vv:=Zl) (k:= (Ze.mk v38 p1)) (z:= (Za.mk 0 false 0 0 0 false)) YR Ud Uo (Zt (ZP rfl (Zf rfl fh)) rfl) (Zt fh rfl) (hS.ms ZG).at_ Zor (w:= .agg [.int .i64 x43.1.name,.bool x43.1.root,.int .i64 x43.1.from_,.int .i64 x43.1.has,.int .i64 x43.1.out,.bool x43.1.use].toArray) rfl) ?_;refine r4 ?_;rintro h44 hS;refine r8 ?_;exact Yw.Yv (ZwP _ _ hL ⟨_,_,rfl,hS.only (.c k0 .n),YN⟩)
    ·intro hc hL;refine J6 ?_;refine cn hL ?_ ?_
     ·intro hc hL;refine r6 ?_;refine r1 ?_;refine YH.ret ?_;refine r3 ?_;refine Zsl.ret ?_;exact rt hL hT hS
     ·intro hc hL;refine r2 ?_;exact YH.Yv _ hL ⟨_,_,rfl,hS.only .n,YN⟩
 ·intro hc hL;refine r8 ?_;refine r3 ?_;refine Zsl.ret ?_;exact rt hL hT hS
theorem ZBq {F:Nat} {h:H} {p0:Store} {p1 p2:Int} {ZH:Option Nat} {Zp:Option Addr} {Zo:Nat} {Zx:Option Addr} {Zw Xm UJ:Nat} {r:Bool} (Y2:At h Xm UJ [.int .i64 p0.machines,.int .i64 p0.names,.map ZH,.slice Zp p0.notes.length Zo,.slice Zx p0.freed.length Zw]) (Y1:Stb h.size h Xm) (ZG:Uv Zg Zl h.size h ZH p0.cells) (Yo:Sl Zj h.size h Zp Zo p0.notes) (Yn:Sl (ZM .i64) h.size h Zx Zw p0.freed) (hL:ZrF F p0 p1 p2=some r):Pure XX 91 #[.pointer (some ⟨Xm,UJ,none⟩),.int .i64 p1,.int .i64 p2] h (.bool r):=
 WR.QF rfl (ZBp (Nat.le_refl _) Y2 Y1 ZG Yo Yn hL)
end Go.Proofs.Ytekpjgmhkkjhgaa
end
end
section
namespace Go.Proofs.Ytekpjgmhkkjhgaa
open Go.Lf
def ZcW (p0:(List Int)) (p1:Int):Int ->(Int ->Option Int) ->Option Int:=fun v6 ZmC=>
 (bif decide (v6 < (p0.length:Int)) then(Yh p0 v6).bind fun x9=>(bif(p1==x9) then some v6 else ZmC (ZJ (v6 + 1))) else some (-1))
def Zqu (F:Nat) (p0:(List Int)) (p1:Int):Option Int:=
 loop F (ZcW p0 p1) 0
end Go.Proofs.Ytekpjgmhkkjhgaa
end
section
set_option maxRecDepth 20000
noncomputable section
namespace Go.Proofs.Ytekpjgmhkkjhgaa
open Go.Yz Go.Lf
theorem ZxN {F wm:Nat} {h:H} {p0:(List Int)} {p1:Int} {Zr:Option Addr} {Zq:Nat} {r:Int} (ZF:wm <=h.size) (ZG:Sl (ZM .i64) wm h Zr Zq p0) (hL:Zqu F p0 p1=some r):
 WR XX 112 #[.slice Zr p0.length Zq,.int .i64 p1] wm h (CP (fun(v:Value) (Gb:List (Ast wm))=>v= .int .i64 r∧Gb= []) [] h):=by
 refine bg Try.ntmps112 ZF ZT.nil ?_;intro T hT hS;unfold Zqu at hL;refine J6 ?_;refine r2 ?_;refine WC.loop (WL.lift hL (fun(v6:Int) (s:Fs)=>∃ (J8:Fr) (h1:H),s= ⟨J8,[],h1,none⟩∧Sp wm T h [] h1∧J8.at 0= .slice Zr p0.length Zq∧J8.at 1= .int .i64 p1∧J8.at 7= .int .i64 (p0.length:Int)∧J8.at 8= .int .i64 v6) ⟨_,_,rfl,hS.only .n,YN⟩ ?_);clear hL hS;rintro ZmC v6 s ZoA hL ⟨J8,h1,rfl,hS,e3,e4,e5,e7⟩;dsimp only [ZcW] at hL;refine r6 ?_;refine cn hL ?_ ?_
 ·intro hc hL;refine J6 ?_;refine r3 ?_;obtain⟨x9,hx9,hL⟩:=bind_some hL;obtain⟨b10,o11,_,Zuh,Zuu,Zum,ZEZ⟩:=Sl.at_ ZG hx9;refine WO.w gN rfl (ZY Qn Xc lk lk rfl Zuh hx9) ?_;refine WO.w gN rfl (ZR Xk (Zt fh rfl) (At.fz hS.fz Zum Zuu) (j:=0) rfl (v:= .int .i64 x9) rfl) ?_;refine r3 ?_;refine cn hL ?_ ?_
  ·intro hc hL;refine J6 ?_;exact rt hL hT hS
  ·intro hc hL;refine r6 ?_;refine r1 ?_;exact Yw.Yv (ZoA _ _ hL ⟨_,_,rfl,hS.only .n,YN⟩)
 ·intro hc hL;refine r8 ?_;refine r3 ?_;exact rt hL hT hS
end Go.Proofs.Ytekpjgmhkkjhgaa
end
end
section
namespace Go.Proofs.Ytekpjgmhkkjhgaa
open Go.Lf
def Znb (p0:Store) (p1:Zn):Option (PR Unit):=
 (Zae p0.cells (Ze.mk p1.at_ p1.name) (Za.mk 0 false 0 0 0 false)).bind fun x3=>(bif(p1.Z4==1) then(bif decide (p0.names >=12) then some (.Jk 3) else some (.ok ())) else(bif(p1.Z4==5) then(bif decide (p1.at_ >= (p0.notes.length:Int)) then some (.Jk 5) else some (.ok ())) else(bif(p1.Z4==4) then(bif((!x3.2) || (!x3.1.root)) then some (.Jk 7) else some (.ok ())) else(bif((!x3.2) || (!x3.1.use)) then some (.Jk 7) else some (.ok ())))))
def Zal (p0:Store) (p1:Zd):Option Store:=
 (app 40 p0.notes [p1]).bind fun z5=>some (Store.mk p0.machines p0.names p0.cells z5 p0.freed)
def Zm9 (p0:(List Zd)) (p1:Int) (p2:Int):Option (List Zd):=
 (slL p0 p1 p2).bind fun z1=>(bif(p1==p2) then some p0 else(slL p0 0 p1).bind fun z4=>(slL p0 p2 (p0.length:Int)).bind fun z13=>(app 40 z4 z13).bind fun z17=>some z17)
def Zm8 (p0:Int):Option Za:=
 some (Za.mk p0 false (-1) 0 0 false)
end Go.Proofs.Ytekpjgmhkkjhgaa
end
section
set_option maxRecDepth 20000
noncomputable section
namespace Go.Proofs.Ytekpjgmhkkjhgaa
open Go.Yz Go.Lf
theorem Zqt {wm:Nat} {h:H} {p0:Store} {p1:Zn} {ZH:Option Nat} {Zp:Option Addr} {Zo:Nat} {Zx:Option Addr} {Zw Xm UJ:Nat} {r:(PR Unit)} (ZF:wm <=h.size) (Y2:At h Xm UJ [.int .i64 p0.machines,.int .i64 p0.names,.map ZH,.slice Zp p0.notes.length Zo,.slice Zx p0.freed.length Zw]) (Y1:Stb wm h Xm) (ZG:Uv Zg Zl wm h ZH p0.cells) (Yo:Sl Zj wm h Zp Zo p0.notes) (Yn:Sl (ZM .i64) wm h Zx Zw p0.freed) (hL:Znb p0 p1=some r):
 WF XX 115 #[.pointer (some ⟨Xm,UJ,none⟩),.agg [.int .i64 p1.Z4,.int .i64 p1.at_,.int .i64 p1.name,.int .i64 p1.Zy].toArray] wm h (PQ 32 (fun(r:Unit) (v:Value) (Gb:List (Ast wm))=>v= .tuple [].toArray∧Gb= []) [] h r):=by
 refine WF.ZfW (args:= [_,_]) (fn:=Try.f115) (by kernel_rfl) (by exact rfl) Try.ntmps115 (by simp) ?_;simp only [ZC,ZI,Nat.reduceAdd];obtain⟨T,hT,hS⟩:∃ T,T=XD (wm:=wm) []∧Sp wm T h [] h:= ⟨_,rfl,Sp.start ZF ZT.nil⟩
 unfold Znb at hL;refine r3 ?_;rintro _ h2 ⟨b1,eb1,rfl,hS⟩;refine r3 ?_;refine WC.Yp mixed (by kernel_rfl) ?_;refine r3 ?_;refine WX.w gN rfl (ZR Zgy (Zt fh rfl) (At.fz hS.fz Y1 Y2) (j:=2) rfl (v:= .map ZH) rfl) ?_ rfl;refine r4 ?_;refine WX.w gN rfl (Y8 XQ (Zh lk (Zh lk ZE)) rfl (cs':= [.int .i64 p1.at_,.int .i64 p1.name]) rfl) ?_ rfl;obtain⟨x3,hx3,hL⟩:=bind_some hL;refine WX.w gN rfl (K3 (kv:=Zg) (vv:=Zl) (k:= (Ze.mk p1.at_ p1.name)) (z:= (Za.mk 0 false 0 0 0 false)) YR Ud Uo (Zt (Yi rfl (Zf rfl fh)) rfl) (Zt fh rfl) (hS.ms ZG).at_ hx3 (w:= .agg [.int .i64 x3.1.name,.bool x3.1.root,.int .i64 x3.1.from_,.int .i64 x3.1.has,.int .i64 x3.1.out,.bool x3.1.use].toArray) rfl) ?_ rfl;refine r3 ?_;refine WX.hn gN rfl (Zhv hS Uo (vs:= [.int .i64 0,.bool false,.int .i64 0,.int .i64 0,.int .i64 0,.bool false]) rfl) ?_ rfl;rintro _ h5 ⟨b4,eb4,rfl,hS⟩;refine WX.hu gN (J5 hS k0 Jt lk lk (vs:= [.int .i64 x3.1.name,.bool x3.1.root,.int .i64 x3.1.from_,.int .i64 x3.1.has,.int .i64 x3.1.out,.bool x3.1.use]) rfl rfl rfl rfl (cs':= [.int .i64 x3.1.name,.bool x3.1.root,.int .i64 x3.1.from_,.int .i64 x3.1.has,.int .i64 x3.1.out,.bool x3.1.use]) rfl) ?_ rfl rfl [] (by kernel_rfl) Z8.e;rintro h6 hS;refine WX.w gN rfl (Z7 lk) ?_ (by kernel_rfl);refine J6 ?_;refine r3 ?_;refine cn hL ?_ ?_
 ·intro hc hL;refine r4 ?_;refine r1 ?_;refine WO.w gN rfl (ZR Xk (Zt fh rfl) (At.fz hS.fz Y1 Y2) (j:=1) rfl (v:= .int .i64 p0.names) rfl) ?_;refine r3 ?_;refine cn hL ?_ ?_
  ·intro hc hL;refine r1 ?_;refine WO.w gN rfl (ZfX lk (by kernel_rfl)) ?_;refine WO.pnc gN lk ?_;refine U6.panic ?_;refine XV.ofX ?_;refine Za6.Jk ?_;have hr:=Option.some.inj hL;subst hr;exact⟨rfl,hT ▸ hS.only .n⟩
  ·intro hc hL;refine r2 ?_;refine XV.Yv ?_;have hr:=Option.some.inj hL;subst hr;exact XV.Zuz rfl Zm rfl ⟨_,⟨rfl,rfl⟩,hT ▸ hS.only .n⟩
 ·intro hc hL;refine r6 ?_;refine cn hL ?_ ?_
  ·intro hc hL;refine r1 ?_;refine WC.Yp mixed (by kernel_rfl) ?_;refine r4 ?_;refine r1 ?_;refine WX.w gN rfl (ZR ZnM (Zt fh rfl) (At.fz hS.fz Y1 Y2) (j:=3) rfl (v:= .slice Zp p0.notes.length Zo) rfl) ?_ rfl;refine r4 ?_;refine cn hL ?_ ?_
   ·intro hc hL;refine r1 ?_;refine WO.w gN rfl (ZfX lk (by kernel_rfl)) ?_;refine WO.pnc gN lk ?_;refine U6.panic ?_;refine XV.ofX ?_;refine Za6.Jk ?_;have hr:=Option.some.inj hL;subst hr;exact⟨rfl,hT ▸ hS.only .n⟩
   ·intro hc hL;refine r2 ?_;refine XV.Yv ?_;have hr:=Option.some.inj hL;subst hr;exact XV.Zuz rfl Zm rfl ⟨_,⟨rfl,rfl⟩,hT ▸ hS.only .n⟩
  ·intro hc hL;refine r6 ?_;refine cn hL ?_ ?_
   ·intro hc hL;refine r8 ?_;refine r3 ?_;refine cn hL ?_ ?_
    ·intro hc hL;refine r1 ?_;refine WO.w gN rfl (ZfX lk (by kernel_rfl)) ?_;refine WO.pnc gN lk ?_;refine U6.panic ?_;refine XV.ofX ?_;refine Za6.Jk ?_;have hr:=Option.some.inj hL;subst hr;exact⟨rfl,hT ▸ hS.only .n⟩
    ·intro hc hL;refine r2 ?_;refine XV.Yv ?_;have hr:=Option.some.inj hL;subst hr;exact XV.Zuz rfl Zm rfl ⟨_,⟨rfl,rfl⟩,hT ▸ hS.only .n⟩
   ·intro hc hL;refine r8 ?_;refine r3 ?_;refine cn hL ?_ ?_
    ·intro hc hL;refine r1 ?_;refine WO.w gN rfl (ZfX lk (by kernel_rfl)) ?_;refine WO.pnc gN lk ?_;refine U6.panic ?_;refine XV.ofX ?_;refine Za6.Jk ?_;have hr:=Option.some.inj hL;subst hr;exact⟨rfl,hT ▸ hS.only .n⟩
    ·intro hc hL;refine r2 ?_;refine XV.Yv ?_;have hr:=Option.some.inj hL;subst hr;exact XV.Zuz rfl Zm rfl ⟨_,⟨rfl,rfl⟩,hT ▸ hS.only .n⟩
theorem Zg3 {wm:Nat} {h:H} {p0:Store} {p1:Zd} {ZH:Nat} {Zp:Option Addr} {Zo Xo:Nat} {Zx:Option Addr} {Zw XK Xm:Nat} {r:Store} (ZF:wm <=h.size) (hO:ZT (wm:=wm) [bx wm Xm [.int .i64 p0.machines,.int .i64 p0.names,.map (some ZH),.slice Zp Xo Zo,.slice Zx XK Zw],mp wm Zg Zl (some ZH) p0.cells,ow wm Zj Zp Xo Zo p0.notes,ow wm (ZM .i64) Zx XK Zw p0.freed] h) (hL:Zal p0 p1=some r):
 WR XX 117 #[.pointer (some ⟨Xm,0,none⟩),.agg [.int .i64 p1.kind,.int .i64 p1.Zy,.int .i64 p1.name,.int .i64 p1.via,.int .i64 p1.w].toArray] wm h (CP (fun(v:Value) (Gb:List (Ast wm))=>∃ (Jz:Nat) (JE:Option Addr) (Jw:Nat) (JB:Nat) (JD:Option Addr) (Jv:Nat) (JA:Nat),v= .tuple [].toArray∧Gb= [bx wm Xm [.int .i64 r.machines,.int .i64 r.names,.map (some Jz),.slice JE Jw JB,.slice JD Jv JA],mp wm Zg Zl (some Jz) r.cells,ow wm Zj JE Jw JB r.notes,ow wm (ZM .i64) JD Jv JA r.freed]) [bx wm Xm [.int .i64 p0.machines,.int .i64 p0.names,.map (some ZH),.slice Zp Xo Zo,.slice Zx XK Zw],mp wm Zg Zl (some ZH) p0.cells,ow wm Zj Zp Xo Zo p0.notes,ow wm (ZM .i64) Zx XK Zw p0.freed] h):=by
 refine bg Try.ntmps117 ZF hO ?_;intro T hT hS;unfold Zal at hL;obtain rfl:=hS.on k2;obtain rfl:=hS.on k3;refine r3 ?_;rintro _ h2 ⟨b1,eb1,rfl,hS⟩;refine r2 ?_;refine WC.Yp mixed (by kernel_rfl) ?_;refine r6 ?_;refine WX.hn gN rfl (ZgD (e:=Zj) hS UM XI ZeS rfl rfl rfl (Zh lk ZE) rfl [((),p1)] rfl (xs:= [p1]) rfl (by intro q hq;simp only [List.mem_cons,List.not_mem_nil,or_false] at hq;subst hq;exact trivial) rfl) ?_ rfl;rintro _ h4 ⟨b3,eb3,rfl,hS⟩;obtain⟨z5,hz5,hL⟩:=bind_some hL;refine WX.hv gN rfl (Zec (e:=Zj) hS k4 ZiI lk lk (hS.Ja k0) (hS.on k0) hz5) ?_ rfl rfl [] (by kernel_rfl) Z8.e;rintro _ h8 ⟨a6,c7,rfl,hS⟩;refine WX.w gN rfl (Zpn lk) ?_ (by kernel_rfl);refine WX.w gN rfl (Xt ZkY lk) ?_ (by kernel_rfl);refine WX.hu gN (J5 hS k3 Zoa lk lk (vs:= [.slice a6 z5.length c7]) rfl rfl rfl rfl (cs':= [.int .i64 p0.machines,.int .i64 p0.names,.map (some ZH),.slice a6 z5.length c7,.slice Zx p0.freed.length Zw]) rfl) ?_ rfl (by kernel_rfl) [] (by kernel_rfl) Z8.e;rintro h9 hS;refine r1 ?_;refine ZQ.Yv ?_;have hr:=Option.some.inj hL;subst hr;exact ZQ.gen (vs:= []) rfl Zm rfl ⟨_,⟨ZH,a6,z5.length,c7,Zx,p0.freed.length,Zw,rfl,rfl⟩,hT ▸ hS.only (.c k0 (.c k3 (.c k0 (.c k2 .n))))⟩
theorem ZxJ {wm:Nat} {h:H} {p0:(List Zd)} {p1 p2:Int} {Zr:Option Addr} {Zq Xv:Nat} {r:(List Zd)} (ZF:wm <=h.size) (hO:ZT (wm:=wm) [ow wm Zj Zr Xv Zq p0] h) (hL:Zm9 p0 p1 p2=some r):
 WR XX 118 #[.slice Zr Xv Zq,.int .i64 p1,.int .i64 p2] wm h (CP (fun(v:Value) (Gb:List (Ast wm))=>∃ (Xz:Option Addr) (XY:Nat) (Xy:Nat),v= .slice Xz XY Xy∧Gb= [ow wm Zj Xz XY Xy r]) [ow wm Zj Zr Xv Zq p0] h):=by
 refine bg Try.ntmps118 ZF hO ?_;intro T hT hS;unfold Zm9 at hL;obtain rfl:=hS.on k0;refine J6 ?_;obtain⟨z1,hz1,hL⟩:=bind_some hL;refine WO.he gN rfl (ZsV (hS.get k0).2 rfl UM XI (Zt (Yi rfl fh) rfl) (Zt (ZP rfl (Zf rfl fh)) rfl) (Zt (ZP rfl fh) rfl) (Zt fh rfl) hz1) ?_;rintro v2 hv3;refine r8 ?_;refine r2 ?_;refine cn hL ?_ ?_
 ·intro hc hL;refine r8 ?_;have hr:=Option.some.inj hL;subst hr;exact ZQ.QN rfl (ZB lk Zm) ⟨_,⟨Zr,p0.length,Zq,rfl,rfl⟩,hT ▸ hS.only (.c k0 .n)⟩
 ·intro hc hL;refine r8 ?_;refine r2 ?_;refine WC.Yp mixed (by kernel_rfl) ?_;refine r2 ?_;obtain⟨z4,hz4,hL⟩:=bind_some hL;have ZhZ:= (hS.get k0).2.cap;refine WX.he gN rfl (ZsT (hS.get k0).2 rfl UM XI (Zt (Zf rfl fh) rfl) (Zt fh rfl) hz4) ?_ rfl;rintro _ ⟨a5,c6,ea7,ec8,rfl,ZAm⟩;have ZuZ:=ec8.symm;refine r2 ?_;obtain⟨z13,Zop,hL⟩:=bind_some hL;refine WX.he gN rfl (ZsW (hS.get k0).2 rfl UM XI (Zt (Zf rfl fh) rfl) (.inr ⟨_,YG (Zt fh rfl)⟩) (.inl ⟨rfl,rfl⟩) Zop) ?_ rfl;rintro _ ⟨a14,c15,rfl,ZAl⟩;obtain⟨z17,Zoo,hL⟩:=bind_some hL;have Zz9:= (ZAl.own (hS.get k0).2).src;have hS:=hS.sub k0 ZAm;refine WX.hv gN rfl (Zyv (e:=Zj) hS k0 ZiI lk lk Zz9 rfl Zoo (ZuZ ▸ Nat.le_trans (Zg7 hz1 hz4 Zop Zoo) ZhZ)) ?_ rfl rfl [] (by kernel_rfl) Z8.e;rintro _ h19 ⟨rfl,hS⟩;refine WX.w gN rfl (Z7 lk) ?_ (by kernel_rfl);refine r8 ?_;refine WO.he gN rfl (ZsS (hS.get k0).2 UM XI (Zt (ZP rfl (Zf rfl fh)) rfl) (Zt (Zf rfl fh) rfl) (Zt fh rfl) (Zg7 hz1 hz4 Zop Zoo) (ZuZ ▸ ZhZ)) ?_;rintro _ ⟨a20,c21,rfl,ZAp⟩;refine WO.hw gN (Zyu hS k0 ZAp rfl UM ZeS rfl (Zt fh rfl)) ?_;rintro h24 hS;refine r8 ?_;refine r1 ?_;have hr:=Option.some.inj hL;subst hr;exact ZQ.QN rfl (ZB lk Zm) ⟨_,⟨a5,z17.length,c6,rfl,rfl⟩,hT ▸ hS.only (.c k0 .n)⟩
theorem Zqs {wm:Nat} {h:H} {p0:Int} {r:Za} (ZF:wm <=h.size) (hL:Zm8 p0=some r):
 WR XX 119 #[.int .i64 p0] wm h (CP (fun(v:Value) (Gb:List (Ast wm))=>v= .agg [.int .i64 r.name,.bool r.root,.int .i64 r.from_,.int .i64 r.has,.int .i64 r.out,.bool r.use].toArray∧Gb= []) [] h):=by
 refine bg Try.ntmps119 ZF ZT.nil ?_;intro T hT hS;unfold Zm8 at hL;refine r3 ?_;rintro _ h2 ⟨b1,eb1,rfl,hS⟩;refine r4 ?_;refine r1 ?_;refine WO.w gN rfl (Xj Zzl (Zh lk (Zh lk ZE)) rfl (cs':= [.int .i64 p0,.bool false,.int .i64 (-1),.int .i64 0,.int .i64 0,.bool false]) rfl) ?_;refine r1 ?_;rintro h3 hS;refine r3 ?_;have hr:=Option.some.inj hL;subst hr;exact ZQ.QN rfl (ZL (ZP rfl fh) (ZW Zgz Jt (hS.Qj k0) (j:=0) rfl rfl (ws:= [.int .i64 p0,.bool false,.int .i64 (-1),.int .i64 0,.int .i64 0,.bool false]) rfl) Zm) ⟨_,⟨rfl,rfl⟩,hT ▸ hS.only .n⟩
end Go.Proofs.Ytekpjgmhkkjhgaa
end
end
section
namespace Go.Proofs.Ytekpjgmhkkjhgaa
open Go.Lf
def Ziq (p0:Store) (p1:Int):Option Bool:=
 some ((decide (p1 >=0)) && (decide (p1 < p0.machines)))
def ZjX (p0:Int):Option Bool:=
 some (p0 !=p0)
end Go.Proofs.Ytekpjgmhkkjhgaa
end
section
set_option maxRecDepth 20000
noncomputable section
namespace Go.Proofs.Ytekpjgmhkkjhgaa
open Go.Yz Go.Lf
theorem Zlj {wm:Nat} {h:H} {p0:Store} {p1:Int} {ZH:Option Nat} {Zp:Option Addr} {Zo:Nat} {Zx:Option Addr} {Zw Xm UJ:Nat} {r:Bool} (ZF:wm <=h.size) (Y2:At h Xm UJ [.int .i64 p0.machines,.int .i64 p0.names,.map ZH,.slice Zp p0.notes.length Zo,.slice Zx p0.freed.length Zw]) (Y1:Stb wm h Xm) (ZG:Uv Zg Zl wm h ZH p0.cells) (Yo:Sl Zj wm h Zp Zo p0.notes) (Yn:Sl (ZM .i64) wm h Zx Zw p0.freed) (hL:Ziq p0 p1=some r):
 WR XX 124 #[.pointer (some ⟨Xm,UJ,none⟩),.int .i64 p1] wm h (CP (fun(v:Value) (Gb:List (Ast wm))=>v= .bool r∧Gb= []) [] h):=by
 refine bg Try.ntmps124 ZF ZT.nil ?_;intro T hT hS;unfold Ziq at hL;refine J6 ?_;refine r2 ?_;refine WO.gv (Zi.yes rfl rfl rfl (Yi rfl fh)) rfl (fun hg=>(ZR Xk (XE fh rfl hg) (At.fz hS.fz Y1 Y2) (j:=0) rfl (v:= .int .i64 p0.machines) rfl)) ?_;refine r6 ?_;exact rt hL hT hS
theorem ZxC {wm:Nat} {h:H} {p0:Int} {r:Bool} (ZF:wm <=h.size) (hL:ZjX p0=some r):
 WR XX 143 #[.int .i64 p0] wm h (CP (fun(v:Value) (Gb:List (Ast wm))=>v= .bool r∧Gb= []) [] h):=by
 refine bg Try.ntmps143 ZF ZT.nil ?_;intro T hT hS;unfold ZjX at hL;refine J6 ?_;refine r2 ?_;exact rt hL hT hS
theorem Zqk {h:H} {p0:Int} {r:Bool} (hL:ZjX p0=some r):Pure XX 143 #[.int .i64 p0] h (.bool r):=
 WR.QF rfl (ZxC (Nat.le_refl _) hL)
end Go.Proofs.Ytekpjgmhkkjhgaa
end
end
section
namespace Go.Proofs.Ytekpjgmhkkjhgaa
open Go.Lf
def Zlc (F:Nat) (p0:(List Yy)) (p1:Yy):Option Bool:=
 (ZxA F p0 p1).bind fun x3=>some (decide (x3 >=0))
def ZfA (p0:Store) (x7:(List Zd)) (x13:(List Int)):(List (List Za)) ->Option Zb:=fun v31=>
 some (Zb.mk v31 x7 p0.names x13)
def Zk8 (p0:Store) (x7:(List Zd)) (x13:(List Int)) (v40:Int) (Wm:(Int×(List (List Za)) ->Option Zb)):Int×(List (List Za)) ->(Int×(List (List Za)) ->Option Zb) ->Option Zb:=fun(v50,v52) Zb5=>
 (bif decide (v50 < p0.names) then(Zae p0.cells (Ze.mk v40 v50) (Za.mk 0 false 0 0 0 false)).bind fun x55=>(bif x55.2 then(Yh v52 v40).bind fun x66=>(app 48 x66 [x55.1]).bind fun z74=>(Yh v52 v40).bind fun x78=>(bif(!true) then(ZfA p0 x7 x13) (Ju v52 v40 z74) else Zb5 (ZJ (v50 + 1),Ju v52 v40 z74)) else Zb5 (ZJ (v50 + 1),v52)) else Wm (ZJ (v40 + 1),v52))
def Zk9 (F:Nat) (p0:Store) (x7:(List Zd)) (x13:(List Int)):Int×(List (List Za)) ->(Int×(List (List Za)) ->Option Zb) ->Option Zb:=fun(v40,v42) Wm=>
 (bif decide (v40 < p0.machines) then loop F (Zk8 p0 x7 x13 v40 Wm) (0,v42) else(ZfA p0 x7 x13) v42)
def Zm6 (F:Nat) (p0:Store):Option Zb:=
 (mkL ([]:(List Za)) 24 p0.machines p0.machines).bind fun z3=>(ZoW p0.notes).bind fun x7=>(ZoV p0.freed).bind fun x13=>loop F (Zk9 F p0 x7 x13) (0,z3)
def ZaB (v24:Int) (ZkA:(Int×(List (Ze×Za)) ->Option Store)) (x28:(List Za)):Int×(List (Ze×Za)) ->(Int×(List (Ze×Za)) ->Option Store) ->Option Store:=fun(v42,v44) Ztn=>
 (bif decide (v42 < (x28.length:Int)) then(Yh x28 v42).bind fun x46=>Ztn (ZJ (v42 + 1),Y4 v44 (Ze.mk v24 x46.name) x46) else ZkA (ZJ (v24 + 1),v44))
def ZaC (F:Nat) (p0:Zb) (x5:(List Zd)) (x11:(List Int)):Int×(List (Ze×Za)) ->(Int×(List (Ze×Za)) ->Option Store) ->Option Store:=fun(v24,v26) ZkA=>
 (bif decide (v24 < (p0.cells.length:Int)) then(Yh p0.cells v24).bind fun x28=>loop F (ZaB v24 ZkA x28) (0,v26) else some (Store.mk (p0.cells.length:Int) p0.names v26 x5 x11))
def Zja (F:Nat) (p0:Zb):Option Store:=
 (ZoW p0.notes).bind fun x5=>(ZoV p0.freed).bind fun x11=>loop F (ZaC F p0 x5 x11) (0,[])
end Go.Proofs.Ytekpjgmhkkjhgaa
end
