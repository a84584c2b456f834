/- Plays Part 9 of the proof. -/
import Derived.Test.YtekpjgmhkkjhgaaPa8
set_option linter.all false
section
noncomputable section
namespace Go.YD
open Go.Lf
variable {X:Ctx} {n wm:Nat} {rd:Option Nat} {ops:Array Oper} {l:List Oper} {fr:Fr} {ds:List Deferred} {h h1 h2 h0:H} {ty:TypeId} {p:String} {af:Array Edge} {g:Option (Nat×Bool)} {m:Nat} {T:Nat ->Prop} {G Gr Ga Gb:List (Ast wm)} {d:Nat} {sf:ST}
def HW (X:Ctx) (wm:Nat) (o:Oper) (fr:Fr) (h:H) (K:H ->Prop):Prop:=∃ v E h1,Xz X h (Z4 fr) o=some (.val v,E)∧E.apply wm h=some h1∧K h1
theorem WO.hw {Q:XX ->Fs ->Prop} {op:Op} {K:H ->Prop} (hg:ZY ops ⟨none,op,ty,p,af,g⟩ fr) (s:HW X wm ⟨none,op,ty,p,af,g⟩ fr h K) (k:∀ h',K h' ->WO X n wm rd ops l ⟨fr,ds,h',none⟩ Q):
 WO X n wm rd ops (⟨none,op,ty,p,af,g⟩::l) ⟨fr,ds,h,none⟩ Q:=let⟨_,_,h1,ha,hE,hk⟩:=s;WO.val hg rfl ha hE (k h1 hk)
theorem UO {t:TypeId} {x:Operand} {lo hi mx:Option Operand} {a:Option Addr} {nn c:Nat} {vlo vhi vmx:Option Value} {v:Value} (hx:Z4 fr x=some (.slice a nn c)) (el1:evo (Z4 fr) lo=some vlo) (eh1:evo (Z4 fr) hi=some vhi) (em1:evo (Z4 fr) mx=some vmx) (hv:aslice X.P h t (.slice a nn c) vlo vhi vmx=some v):
 Xz X h (Z4 fr) ⟨some d,.slice t x lo hi mx,ty,p,af,g⟩=some (.val v,.none):=by
 show(match Z4 fr x,evo (Z4 fr) lo,evo (Z4 fr) hi,evo (Z4 fr) mx with
  | some x,some lo,some hi,some mx=>bif plain x && not (Znj x) then(match lo,hi,mx with
     | lo,hi,mx=>bif QZ (lo.toList ++ hi.toList ++ mx.toList) then pN (Zbt X.P (Instr.sliceAt t x lo hi mx)) else none)
    else vN (aslice X.P h t x lo hi mx)
  | _,_,_,_=>none)=_
 rw [hx,el1,eh1,em1];show(bif plain (.slice a nn c) && not (Znj (.slice a nn c)) then _ else vN (aslice X.P h t (.slice a nn c) vlo vhi vmx))=_;have:Znj (.slice a nn c)=true:=rfl;rw [this,Bool.not_true,Bool.and_false,Cq0,hv];rfl
section
variable {α:Type} {e:Ww α} {t el:TypeId} {x:Operand} {a:Option Addr} {nn c:Nat} {xs zs ws us:List α} {a1 a2 a3:Int}
theorem ZzW {lo hi mx:Operand} (so:Qp e wm wm h a c xs) (hn:nn=xs.length) (hu:X.P.underlying t=some (.slice el)) (hs:Z7 X.P el=some e.sz) (hx:Z4 fr x=some (.slice a nn c))
 (hlo:Z4 fr lo=some (.int .i64 a1)) (hhi:Z4 fr hi=some (.int .i64 a2)) (hmx:Z4 fr mx=some (.int .i64 (xs.length:Nat))) (hz:slL xs a1 a2=some zs):
 ∃ v,Xz X h (Z4 fr) ⟨some d,.slice t x (some lo) (some hi) (some mx),ty,p,af,g⟩=some (.val v,.none):=by
 obtain⟨l,k,rfl,rfl,hlk,hkx,rfl⟩:=ZaP hz;subst hn;have e1:obN (some (.int .i64 (l:Int))) 0=some l:=rfl;have e2:∀ q,obN (some (.int .i64 (k:Int))) q=some k:=fun q=>rfl
 have e3:Zcn (.int .i64 ((xs.length:Nat):Int))=some xs.length:=rfl;rcases so.mem with⟨rfl,rfl,rfl⟩ | ⟨i,o,cs,rfl,q2,q3,q4,q5,q6⟩
 ·have hk0:k=0:=by simpa using hkx
  have hl0:l=0:=by omega
  subst hk0 hl0;refine⟨.slice none 0 0,UO hx (XD hlo) (XD hhi) (XD hmx) ?_⟩
  have:aslice X.P h t (.slice none 0 0) (some (.int .i64 ((0:Nat):Int))) (some (.int .i64 ((0:Nat):Int))) (some (.int .i64 ((0:Nat):Int)))=some (.slice none 0 0):=by
   unfold aslice;simp only [hu,hs]
   rfl
  exact this
 ·refine⟨.slice (some ⟨i,bif Nat.beq xs.length l then o else o + l * e.sz,none⟩) (k - l) (2 * (xs.length - l)),UO hx (XD hlo) (XD hhi) (XD hmx) ?_⟩;unfold aslice;simp only [hu,hs,e1,e2,e3];rw [Nat.ble_eq_true_of_le hlk,Nat.ble_eq_true_of_le hkx,Nat.ble_eq_true_of_le q4]
  rfl
theorem ZzV {hi:Operand} (so:Qp e wm wm h a c xs) (hn:nn=xs.length) (hu:X.P.underlying t=some (.slice el)) (hs:Z7 X.P el=some e.sz) (hx:Z4 fr x=some (.slice a nn c))
 (hhi:Z4 fr hi=some (.int .i64 a2)) (hz:slL xs 0 a2=some zs):
 ∃ a' c',a'=a∧c'=c∧Xz X h (Z4 fr) ⟨some d,.slice t x none (some hi) none,ty,p,af,g⟩=some (.val (.slice a' zs.length c'),.none)∧ZqI e a c xs a' c' zs:=by
 obtain⟨l,k,hl0,rfl,hlk,hkx,rfl⟩:=ZaP hz;have hl0:l=0:=by omega
 subst hl0 hn;have hlen:((xs.take k).drop 0).length=k:=by rw [List.drop_zero,List.length_take];omega
 have e2:∀ q,obN (some (.int .i64 (k:Int))) q=some k:=fun q=>rfl
 have e1:obN none 0=some 0:=rfl;refine⟨a,c,rfl,rfl,?_⟩;rcases so.mem with⟨rfl,rfl,rfl⟩ | ⟨i,o,cs,rfl,q2,q3,q4,q5,q6⟩
 ·have hk0:k=0:=by simpa using hkx
  subst hk0;refine⟨UO hx rfl (XD hhi) rfl ?_,ZqR rfl⟩
  have:aslice X.P h t (.slice none 0 0) none (some (.int .i64 ((0:Nat):Int))) none=some (.slice none 0 0):=by
   unfold aslice;simp only [hu,hs]
   rfl
  exact this
 ·refine⟨UO hx rfl (XD hhi) rfl ?_,Zle hlk hkx (.inl ⟨by omega,by omega⟩)⟩;rw [hlen];unfold aslice;simp only [hu,hs,e1,e2];rw [Nat.ble_eq_true_of_le (Nat.zero_le k),Nat.ble_eq_true_of_le (Nat.le_trans hkx q4)];simp only [Bool.and_self,Cq1];cases hev:Nat.beq (c % 2) 0 with
  | true=>
    have:=Nat.eq_of_beq_eq_true hev;have hc:2 * (c / 2 - 0)=c:=by omega
    simp only [Cq1,Nat.zero_mul,Nat.add_zero,Nat.sub_zero];cases Nat.beq (c / 2) 0 <;> simp only [Cq1,Cq0] <;> congr 2 <;> omega
  | false=>
    simp only [Cq0]
    rfl
structure Tl (e:Ww α) (a:Option Addr) (c k n3:Nat) (a3:Option Addr):Prop where
 out:n3=0∨∃ i o,a=some ⟨i,o,none⟩∧a3=some ⟨i,o + k * e.sz,none⟩∧k + n3 <=c / 2
theorem ZzU {lo hi:Operand} {mm:Nat} (so:Qp e wm wm h a c zs) (hu:X.P.underlying t=some (.slice el)) (hs:Z7 X.P el=some e.sz) (hx:Z4 fr x=some (.slice a zs.length c))
 (hlo:Z4 fr lo=some (.int .i64 (zs.length:Nat))) (hhi:Z4 fr hi=some (.int .i64 (mm:Nat))) (hm:zs.length <=mm) (hc:mm <=c / 2):
 ∃ a' c',Xz X h (Z4 fr) ⟨some d,.slice t x (some lo) (some hi) none,ty,p,af,g⟩=some (.val (.slice a' (mm - zs.length) c'),.none)∧Tl e a c zs.length (mm - zs.length) a':=by
 have e1:obN (some (.int .i64 ((zs.length:Nat):Int))) 0=some zs.length:=rfl;have e2:∀ q,obN (some (.int .i64 (mm:Int))) q=some mm:=fun q=>rfl
 rcases so.mem with⟨rfl,rfl,rfl⟩ | ⟨i,o,cs,rfl,q2,q3,q4,q5,q6⟩
 ·have hk0:mm=0:=by omega
  subst hk0;refine⟨none,0,UO hx (XD hlo) (XD hhi) rfl ?_,⟨.inl rfl⟩⟩
  have:aslice X.P h t (.slice none 0 0) (some (.int .i64 ((0:Nat):Int))) (some (.int .i64 ((0:Nat):Int))) none=some (.slice none 0 0):=by
   unfold aslice;simp only [hu,hs]
   rfl
  exact this
 ·have hmain:∀ v,(bif Nat.beq (c % 2) 0 then some (Value.slice (some ⟨i,bif Nat.beq (c / 2) zs.length then o else o + zs.length * e.sz,none⟩) (mm - zs.length) (2 * (c / 2 - zs.length)))
   else bif Nat.beq zs.length 0 then some (.slice (some ⟨i,o,none⟩) mm c)
   else some (.slice (some ⟨i,o + zs.length * e.sz,none⟩) (mm - zs.length) (2 * (c / 2 - zs.length) + 1)))=some v ->aslice X.P h t (.slice (some ⟨i,o,none⟩) zs.length c) (some (.int .i64 ((zs.length:Nat):Int))) (some (.int .i64 (mm:Int))) none=some v:=fun v hv=>by
   unfold aslice;simp only [hu,hs,e1,e2];rw [Nat.ble_eq_true_of_le hm,Nat.ble_eq_true_of_le hc,q3];have b2:(Nat.beq e.sz e.sz && Nat.ble 1 e.sz)=true:=by rw [Nat.beq_refl,Nat.ble_eq_true_of_le (show 1 <=e.sz from e.pos)];rfl
   simp only [b2,Bool.and_self,Cq1];exact hv
  cases hev:Nat.beq (c % 2) 0 with
  | true=>
    rw [hev] at hmain;refine⟨_,_,UO hx (XD hlo) (XD hhi) rfl (hmain _ rfl),⟨?_⟩⟩;cases hcl:Nat.beq (c / 2) zs.length with
    | true=>have:=Nat.eq_of_beq_eq_true hcl;left;omega
    | false=>right;exact⟨i,o,rfl,rfl,by omega⟩
  | false=>
    rw [hev] at hmain;cases hl0:Nat.beq zs.length 0 with
    | true=>
      have h00:=Nat.eq_of_beq_eq_true hl0;rw [hl0] at hmain;refine⟨some ⟨i,o,none⟩,c,UO hx (XD hlo) (XD hhi) rfl (hmain _ ?_),⟨.inr ⟨i,o,rfl,by rw [h00];simp,by omega⟩⟩⟩;rw [h00];rfl
    | false=>
      rw [hl0] at hmain;exact⟨_,_,UO hx (XD hlo) (XD hhi) rfl (hmain _ rfl),⟨.inr ⟨i,o,rfl,rfl,by omega⟩⟩⟩
theorem Ztr (z:List Value) (k:Nat):(Uu z k).length=k * z.length:=by unfold Uu;simp
theorem ZE8 {ts:Array TypeId} {rest:List TypeId} {n3 c3:Nat} {z:Value} {a3':Option Addr} (hS:Sp wm T h0 G h) (pk:Pk G (ow wm e a nn c zs) Gr) (tl:Tl e a c zs.length n3 a3') (hts:ts.toList=t::rest) (hu:X.P.underlying t=some (.slice el)) (hz:YL X.P el=some z) (hzl:z.cells.toList.length=e.sz) (hx:Z4 fr x=some (.slice a3' n3 c3)):
 HW X wm ⟨none,.call {callee:= .builtin .clear,args:=#[x],argTypes:=ts},ty,p,af,g⟩ fr h (fun h'=>Sp wm T h0 (ow wm e a nn c zs::Gr) h'):=by
 have key:∀ E,Zel X.P h t (.slice a3' n3 c3)=some E ->Xz X h (Z4 fr) ⟨none,.call {callee:= .builtin .clear,args:=#[x],argTypes:=ts},ty,p,af,g⟩=some (.val (.tuple #[]),E):=fun E hE=>by
  have hev:evs (Z4 fr) (#[x]:Array Operand).toList=some [.slice a3' n3 c3]:=Zc hx Zj;rw [UQ,hev];show(match ts.toList with | t::_=>(match Zel X.P h t (.slice a3' n3 c3) with | some E=>some (AN.val (.tuple #[]),E) | none=>none) | []=>none)=_;rw [hts];dsimp only;rw [hE]
 obtain⟨h1,so⟩:=hS.get pk;by_cases h0':n3=0
 ·refine⟨_,.none,h,key _ ?_,rfl,hS.perm pk.perm⟩;unfold Zel;simp only [hu,h0',Nat.beq_refl,Cq1]
 ·rcases tl.out with q | ⟨i,o,rfl,rfl,hcap⟩
  ·exact absurd q h0'
  ·rcases so.mem with⟨q,_⟩ | ⟨i',o',cs,q,q2,q3,q4,q5,q6⟩
   ·cases q
   ·cases q;have hb:Nat.beq n3 0=false:=by rw [Bool.eq_false_iff];intro q;exact h0' (Nat.eq_of_beq_eq_true q)
    have hfit:o + zs.length * e.sz + n3 * e.sz <=cs.length:=by
     have:(zs.length + n3) * e.sz <=c / 2 * e.sz:=Nat.mul_le_mul_right _ hcap;rw [Nat.add_mul] at this;omega
    have hzr:(Uu z.cells.toList n3).length=n3 * e.sz:=by rw [Ztr,hzl]
    have hl2:o + zs.length * e.sz + (Uu z.cells.toList n3).length <=cs.length:=by rw [hzr];exact hfit
    have hu':Up wm (fun j=>j=i) h (h.put i (.row (splice cs (o + zs.length * e.sz) (Uu z.cells.toList n3)) true e.sz)):=Up.put q2 (by rw [q3];rfl);refine⟨_,.upd i (.row (splice cs (o + zs.length * e.sz) (Uu z.cells.toList n3)) true e.sz),_,key _ ?_,?_,hS.one pk hu' (fun j q=>⟨o,by rw [q]⟩) ⟨h1,so.max,.inr ⟨i,o,_,rfl,q2,YJ (Je q3 rfl) _,q4,by rw [Uw _ _ _ hl2];exact q5,?_⟩⟩ fun j q=>.inl q⟩
    ·unfold Zel;simp only [hu,hb,Cq0,hz,q3,hzl];rw [Nat.ble_eq_true_of_le hfit];rfl
    ·show(bif Nat.ble wm i && (h.at i).own then some (h.put i _) else none)=_;rw [q3,Nat.ble_eq_true_of_le q2];rfl
    ·refine⟨by rw [Uw _ _ _ hl2];exact q6.len,fun k x hk=>?_⟩;obtain⟨q,g1,g2⟩:=q6.get k x hk;refine⟨q,?_,e.mono (hu'.fz (Nat.le_refl _)) g2⟩;have hkl:= (List.getElem?_eq_some_iff.1 hk).1;have:(k + 1) * e.sz <=zs.length * e.sz:=Nat.mul_le_mul_right _ hkl;rw [Nat.succ_mul] at this;rw [ZhP hl2 (.inl (by omega)),g1]
theorem Zz2 {ts:Array TypeId} {x y:Operand} {JK:Nat} {b2:Option Addr} {c2:Nat} {ys:List α} (hi:Zfz X.P ts e.sz JK) (hx:Z4 fr x=some (.slice a xs.length c)) (hy:Z4 fr y=some (.slice b2 ys.length c2)) (so:Qp e wm wm h a c xs) (sr:Src e wm h b2 c2 ys) (hr:xs.length + ys.length <=c / 2):
 ∃ E,Xz X h (Z4 fr) ⟨some d,.call {callee:= .builtin .append,args:=#[x,y],argTypes:=ts},ty,p,af,g⟩=some (.val (.slice a (xs ++ ys).length c),E):=by
 obtain⟨el,z,hi⟩:=hi;obtain⟨new,n1,n2,n3⟩:=sr.reads;have n4:=n3.one n2;have hev:evs (Z4 fr) (#[x,y]:Array Operand).toList=some [.slice a xs.length c,.slice b2 ys.length c2]:=Zc hx (Zc hy Zj);have hls:Qk (.slice b2 ys.length c2)=ys.length:=rfl
 have key:∀ (v:Value) (E:Eff),X9 X.P h ts (.slice a xs.length c) (.slice b2 ys.length c2)=some (v,E) ->Xz X h (Z4 fr) ⟨some d,.call {callee:= .builtin .append,args:=#[x,y],argTypes:=ts},ty,p,af,g⟩=some (.val v,E):=by
  intro v E hE;rw [UQ,hev];show vE (X9 X.P h ts (.slice a xs.length c) (.slice b2 ys.length c2))=_;rw [hE];rfl
 have hle2:(xs ++ ys).length=xs.length + ys.length:=List.length_append;by_cases hy0:ys= []
 ·subst hy0;refine⟨.none,key _ _ ?_⟩;unfold X9;rw [hi];dsimp only;rw [n1];dsimp only;rw [hls,Nat.ble_eq_true_of_le hr,hle2];rfl
 ·have hyl:0 < ys.length:=List.length_pos_iff.2 hy0;rcases so.mem with⟨rfl,rfl,rfl⟩ | ⟨i,o,cs,rfl,hlo2,hrow,hc1,hc2,hel⟩
  ·exfalso;simp at hr;exact hy0 hr
  ·refine⟨.upd i (.row (splice cs (o + xs.length * e.sz) new) true e.sz),key _ _ ?_⟩
   have hfit:o + xs.length * e.sz + new.length <=cs.length:=by
    rw [n2];have:(xs.length + ys.length) * e.sz <=c / 2 * e.sz:=Nat.mul_le_mul_right _ hr;rw [Nat.add_mul] at this;omega
   unfold X9;rw [hi];dsimp only;rw [n1];dsimp only;rw [hls,Nat.ble_eq_true_of_le hr];have b1:Nat.beq ys.length 0=false:=by rw [Bool.eq_false_iff];intro q;have:=Nat.eq_of_beq_eq_true q;omega
   rw [b1,hrow];simp only [Cq1,Cq0];rw [Nat.ble_eq_true_of_le hfit,n4,hle2];rfl
theorem ZFc {ts:Array TypeId} {x y:Operand} {JK:Nat} {b2:Option Addr} {n2 c2:Nat} {ys:List α} (hS:Sp wm T h0 G h) (pk:Pk G (ow wm e a nn c xs) Gr) (hi:Zfz X.P ts e.sz JK) (hx:Z4 fr x=some (.slice a nn c)) (hy:Z4 fr y=some (.slice b2 n2 c2)) (sr:Src e wm h b2 c2 ys) (hn:n2=ys.length) (ha:app JK xs ys=some zs) (hr:zs.length <=c / 2):
 HV X wm ⟨some d,.call {callee:= .builtin .append,args:=#[x,y],argTypes:=ts},ty,p,af,g⟩ fr h (Qd a) (fun v h'=>v= .slice a zs.length c∧Sp wm T h0 (ow wm e a zs.length c zs::Gr) h'):=by
 obtain⟨v,E,h1,e1,e2,e3,e4,a',c',rfl,hS'⟩:=KE (d:=d) (ty:=ty) (p:=p) (af:=af) (g:=g) hS pk hi hx hy sr hn ha;obtain⟨h1',so⟩:=hS.get pk;obtain⟨rfl,_⟩:=Zfq ha;subst h1' hn;obtain⟨E',e5⟩:=Zz2 (d:=d) (ty:=ty) (p:=p) (af:=af) (g:=g) hi hx hy so sr (by rw [List.length_append] at hr;exact hr);rw [e5] at e1;cases e1;exact⟨_,_,h1,e5,e2,e3,e4,rfl,hS'⟩
theorem ZrL {b:Nat} {i j:Int} {u v:List α} (h3:slL xs i j=some ws) (h1:slL xs 0 i=some u) (h2:slL xs j xs.length=some v) (ha:app b u v=some zs):zs.length <=xs.length:=by
 obtain⟨l,k,rfl,rfl,hlk,hkx,rfl⟩:=ZaP h3;obtain⟨l1,k1,hl1,hk1,_,_,rfl⟩:=ZaP h1;obtain⟨l2,k2,hl2,hk2,_,_,rfl⟩:=ZaP h2;obtain⟨rfl,_⟩:=Zfq ha;simp only [List.length_append,List.length_drop,List.length_take];omega
end
section
variable {κ ν:Type} [DecidableEq κ] {kt vt:TypeId} {kv:κ ->Value} {vv:ν ->Value} {i:Nat} {ll:List (κ×ν)}
theorem ZB6 {ts:Array TypeId} {t:TypeId} {rest:List TypeId} {x y:Operand} {k:κ} (hS:Sp wm T h0 G h) (pk:Pk G (mp wm kv vv (some i) ll) Gr) (K:ZbZ X.P kt kv) (hts:ts.toList=t::rest) (hu:X.P.underlying t=some (.map kt vt)) (hx:Z4 fr x=some (.map (some i))) (hy:Z4 fr y=some (kv k)):
 HW X wm ⟨none,.call {callee:= .builtin .delete,args:=#[x,y],argTypes:=ts},ty,p,af,g⟩ fr h (fun h'=>Sp wm T h0 (mp wm kv vv (some i) (ZaY ll k)::Gr) h'):=by
 obtain⟨h',⟨E,ha,hE,_⟩,u,ho⟩:=ZD1 (d:=none) (ty:=ty) (p:=p) (af:=af) (g:=g) K hts hu (Nat.le_refl wm) hx rfl hy (hS.get pk);exact⟨_,E,h',ha,hE,hS.one pk u (fun j e=>by cases e;rfl) ho fun j e=>.inl e⟩
end
end Go.YD
end
end
section
noncomputable section
namespace Go.YD
open Go.Lf
variable {X:Ctx} {n wm:Nat} {rd:Option Nat} {ops:Array Oper} {l:List Oper} {fr:Fr} {ds:List Deferred} {h h1 h2 h0:H} {ty:TypeId} {p:String} {af:Array Edge} {g:Option (Nat×Bool)} {m:Nat} {T:Nat ->Prop} {G Gr Ga Gb:List (Ast wm)} {d:Nat} {sf:ST}
def HE (X:Ctx) (o:Oper) (fr:Fr) (h:H) (K:Value ->Prop):Prop:=∃ v,Xz X h (Z4 fr) o=some (.val v,.none)∧K v
theorem WO.he {Q:XX ->Fs ->Prop} {op:Op} {K:Value ->Prop} (hg:ZY ops ⟨some d,op,ty,p,af,g⟩ fr) (hd:Nat.blt d n=true) (s:HE X ⟨some d,op,ty,p,af,g⟩ fr h K) (k:∀ v,K v ->WO X n wm rd ops l ⟨Tr.set fr d v,ds,h,none⟩ Q):
 WO X n wm rd ops (⟨some d,op,ty,p,af,g⟩::l) ⟨fr,ds,h,none⟩ Q:=let⟨v,ha,hk⟩:=s;WO.w hg hd ha (k v hk)
theorem WX.he {Q:Fr ->H ->Prop} {op:Op} {K:Value ->Prop} (hg:ZY ops ⟨some d,op,ty,p,af,g⟩ fr) (hd:Nat.blt d n=true) (s:HE X ⟨some d,op,ty,p,af,g⟩ fr h K) (k:∀ v,K v ->WX X n wm rd ops sf (m + 1) h l (Tr.set fr d v) Q) (hM:okM ops sf m ⟨some d,op,ty,p,af,g⟩=true):
 WX X n wm rd ops sf m h (⟨some d,op,ty,p,af,g⟩::l) fr Q:=let⟨v,ha,hk⟩:=s;WX.w hg hd ha (k v hk) hM
section
variable {α:Type} {e:Ww α} {t el:TypeId} {x:Operand} {a:Option Addr} {nn c:Nat} {xs zs ws us:List α} {a1 a2 a3:Int}
theorem ZAo {lo hi:Option Operand} (so:Qp e wm wm h a c xs) (hn:nn=xs.length) (hu:X.P.underlying t=some (.slice el)) (hs:Z7 X.P el=some e.sz) (hx:Z4 fr x=some (.slice a nn c))
 (hlo:evo (Z4 fr) lo=some none∧a1=0∨∃ k,evo (Z4 fr) lo=some (some (.int k a1))) (hhi:evo (Z4 fr) hi=some none∧a2=xs.length∨∃ k,evo (Z4 fr) hi=some (some (.int k a2))) (hz:slL xs a1 a2=some zs):
 HE X ⟨some d,.slice t x lo hi none,ty,p,af,g⟩ fr h (fun v=>∃ a' c',v= .slice a' zs.length c'∧ZqI e a c xs a' c' zs):=
 let⟨a',c',h1,h2⟩:=ZEe (d:=d) (ty:=ty) (p:=p) (af:=af) (g:=g) so hn hu hs hx hlo hhi hz;⟨_,h1,a',c',rfl,h2⟩
theorem ZB5 {lo hi mx:Operand} (so:Qp e wm wm h a c xs) (hn:nn=xs.length) (hu:X.P.underlying t=some (.slice el)) (hs:Z7 X.P el=some e.sz) (hx:Z4 fr x=some (.slice a nn c))
 (hlo:Z4 fr lo=some (.int .i64 a1)) (hhi:Z4 fr hi=some (.int .i64 a2)) (hmx:Z4 fr mx=some (.int .i64 (xs.length:Nat))) (hz:slL xs a1 a2=some zs):
 HE X ⟨some d,.slice t x (some lo) (some hi) (some mx),ty,p,af,g⟩ fr h (fun _=>True):=let⟨v,hv⟩:=ZzW (d:=d) (ty:=ty) (p:=p) (af:=af) (g:=g) so hn hu hs hx hlo hhi hmx hz;⟨v,hv,trivial⟩
theorem ZB4 {hi:Operand} (so:Qp e wm wm h a c xs) (hn:nn=xs.length) (hu:X.P.underlying t=some (.slice el)) (hs:Z7 X.P el=some e.sz) (hx:Z4 fr x=some (.slice a nn c))
 (hhi:Z4 fr hi=some (.int .i64 a2)) (hz:slL xs 0 a2=some zs):
 HE X ⟨some d,.slice t x none (some hi) none,ty,p,af,g⟩ fr h (fun v=>∃ a' c',a'=a∧c'=c∧v= .slice a' zs.length c'∧ZqI e a c xs a' c' zs):=
 let⟨a',c',h1,h2,h3,h4⟩:=ZzV (d:=d) (ty:=ty) (p:=p) (af:=af) (g:=g) so hn hu hs hx hhi hz;⟨_,h3,a',c',h1,h2,rfl,h4⟩
theorem ZB3 {lo hi:Operand} {mm:Nat} (so:Qp e wm wm h a c zs) (hu:X.P.underlying t=some (.slice el)) (hs:Z7 X.P el=some e.sz) (hx:Z4 fr x=some (.slice a zs.length c))
 (hlo:Z4 fr lo=some (.int .i64 (zs.length:Nat))) (hhi:Z4 fr hi=some (.int .i64 (mm:Nat))) (hm:zs.length <=mm) (hc:mm <=c / 2):
 HE X ⟨some d,.slice t x (some lo) (some hi) none,ty,p,af,g⟩ fr h (fun v=>∃ a' c',v= .slice a' (mm - zs.length) c'∧Tl e a c zs.length (mm - zs.length) a'):=
 let⟨a',c',h1,h2⟩:=ZzU (d:=d) (ty:=ty) (p:=p) (af:=af) (g:=g) so hu hs hx hlo hhi hm hc;⟨_,h1,a',c',rfl,h2⟩
end
end Go.YD
end
end
section
noncomputable section
namespace Go.YD
open Go.Lf
variable {X:Ctx} {n wm U0:Nat} {fr:Fr} {h:H} {ty:TypeId} {p:String} {af:Array Edge} {g:Option (Nat×Bool)} {d:Nat}
section
variable {α:Type} {e:Ww α} {t el:TypeId} {x:Operand} {a:Option Addr} {nn c:Nat} {xs zs:List α} {a2:Int}
end
end Go.YD
end
end
section
noncomputable section
namespace Go.YD
open Go.Lf
variable {X:Ctx} {n wm:Nat} {rd:Option Nat} {ops:Array Oper} {l:List Oper} {fr:Fr} {ds:List Deferred} {h h1 h2 h0:H} {ty:TypeId} {p:String} {af:Array Edge} {g:Option (Nat×Bool)} {T:Nat ->Prop} {G Gr Ga Gb:List (Ast wm)} {d:Nat}
theorem ZtR {α β:Type} {y:α} {p:Int ->Option β} {k:α ->Option β} {r:β} (h:prC (.ok y) p k=some r):k y=some r:=h
theorem Zq0 {α β:Type} {e:Int} {p:Int ->Option β} {k:α ->Option β} {r:β} (h:prC (.Jz e) p k=some r):p e=some r:=h
theorem ZtZ {α β:Type} {y:α} {p:Option β} {k:α ->Option β} {r:β} (h:opt (some y) p k=some r):k y=some r:=h
theorem Zt0 {α β:Type} {p:Option β} {k:α ->Option β} {r:β} (h:opt none p k=some r):p=some r:=h
def pv (t:TypeId) (k:Int):Value:= .iface t (.int .i64 k)
def PQ {β:Type} {wm:Nat} (t:TypeId) (K:β ->Value ->List (Ast wm) ->Prop) (Ga:List (Ast wm)) (h:H) (r:PR β):Kt ->H ->Prop:=fun e h'=>match r with
 | .ok b=>∃ v,e= .ret v∧CP (K b) Ga h v h'
 | .Jz k=>e= .Jz (pv t k)∧Sp wm (XL Ga) h [] h'
section
variable {β:Type} {t:TypeId} {K:β ->Value ->List (Ast wm) ->Prop} {f:FuncId} {args:Array Value}
theorem PQ.ok {b:β} (k:WF X f args wm h (PQ t K Ga h (.ok b))):WR X f args wm h (CP (K b) Ga h):=k
theorem PQ.Jz {k:Int} (w:WF X f args wm h (PQ t K Ga h (.Jz k))):∃ h',Sp wm (XL Ga) h [] h'∧Yw X (.call f args wm h) (.fin (.Jz (pv t k)) h'):=
 let⟨_,h',hq,hj⟩:=w;⟨h',hq.2,by have:=hq.1;subst this;exact hj⟩
theorem WO.clX {Q:XX ->Fs ->Prop} {op:Op} {k:Int} (hg:ZY ops ⟨some d,op,ty,p,af,g⟩ fr) (he:Yx X fr ⟨some d,op,ty,p,af,g⟩ f args) (hS:Sp wm T h0 G h) (pk:Sel G Ga Gr)
 (hc:∀ g':H,g'.size=h.size ->Fz wm h g' ->ZT Ga g' ->WF X f args wm g' (PQ t K Ga g' (.Jz k))) (kk:∀ h',Sp wm T h0 Gr h' ->Q (.panic (pv t k)) ⟨fr,ds,h',none⟩):
 WO X n wm rd ops (⟨some d,op,ty,p,af,g⟩::l) ⟨fr,ds,h,none⟩ Q:=by
 obtain⟨h',hs,hj⟩:=PQ.Jz (hc h rfl (Fz.refl _ _) (hS.Zhy pk));exact WO.Zjo hg (he h) rfl hj (kk h' (hS.call pk hs))
theorem WO.ZLn {Q:XX ->Fs ->Prop} {op:Op} {k:Int} {K:β ->Value ->List (Ast h.size) ->Prop} (hg:ZY ops ⟨some d,op,ty,p,af,g⟩ fr) (he:Yx X fr ⟨some d,op,ty,p,af,g⟩ f args) (hw:wm <=h.size) (hS:Sp wm T h0 G h)
 (hc:WF X f args h.size h (PQ t K [] h (.Jz k))) (kk:∀ h',Sp wm T h0 G h' ->Q (.panic (pv t k)) ⟨fr,ds,h',none⟩):
 WO X n wm rd ops (⟨some d,op,ty,p,af,g⟩::l) ⟨fr,ds,h,none⟩ Q:=by
 obtain⟨h',hs,hj⟩:=PQ.Jz hc;exact WO.Zjo hg (he h) rfl (hj.weaken hw (Nat.le_refl _)) (kk h' (Sp.clR (Gb:= []) hS hs .n))
theorem Qa.Zv0 {fn:Func} {rs:List ResultVar} {vs:List Value} {v:Value} {b:β} {h0:H} (hr:fn.results.toList=rs) (hv:Zdy X.P fr h rs=some vs) (hl:(match vs with | [v]=>v | vs=>.tuple vs.toArray)=v) (k:CP (K b) Ga h0 v h):Qa X fn wm (PQ t K Ga h0 (.ok b)) .ret ⟨fr,[],h,none⟩:=
 Qa.gen (R:=fun v h'=>CP (K b) Ga h0 v h') hr hv hl k
end
def Zbl (X:Ctx) (fn:Func) (wm:Nat) (Q:Kt ->H ->Prop) (pm:PM) (s:Fs):Prop:=∃ E h',Q E h'∧Yw X (.leave fn wm pm s) (.fin E h')
section
variable {fn:Func} {R:Kt ->H ->Prop} {s:Fs} {v:Value} {pm:PM}
theorem Qa.ofP (k:Zbl X fn wm R .ret s):Qa X fn wm R .ret s:=let⟨E,h',h1,h2⟩:=k;⟨⟨.ret,E,h',rfl,h1,h2⟩⟩
theorem Qa.ofX (k:Zbl X fn wm R (.Jz v) s):Qa X fn wm R (.panic v) s:=let⟨E,h',h1,h2⟩:=k;⟨⟨.Jz v,E,h',rfl,h1,h2⟩⟩
theorem Zbl.ofL (k:Qa X fn wm R .ret s) (hp:pm= .ret):Zbl X fn wm R pm s:=by
 obtain⟨KF,E,h',e,h1,h2⟩:=k.out;cases e;subst hp;exact⟨E,h',h1,h2⟩
theorem Zbl.Jz (k:R (.Jz v) h):Zbl X fn wm R (.Jz v) ⟨fr,[],h,none⟩:=by
 refine⟨.Jz v,h,k,Jv (C:=cfg X fun _=>false) (ih:=fun _=>none) (fun _ _ h=>by cases h) ?_⟩;unfold Us
 rfl
def DC (X:Ctx) (n wm:Nat) (c:Code) (pm:PM) (s:Fs) (Q:XX ->PM ->Fs ->Prop):Prop:=∃ e KF s',Q e KF s'∧Yw X (.Xu c n wm pm s) (.Xu e KF s')
structure DSq (X:Ctx) (n wm:Nat) (b:Code) (Q:XX ->PM ->Fs ->Prop) (e:XX) (pm:PM) (s:Fs):Prop where
 Yp:e= .normal
 k:DC X n wm b pm s Q
theorem DC.seq {a b:Code} {Q:XX ->PM ->Fs ->Prop} (k:DC X n wm a pm s (DSq X n wm b Q)):DC X n wm (.seq a b) pm s Q:=by
 obtain⟨e,pm1,s1,⟨rfl,e2,pm2,s2,hq,j2⟩,j1⟩:=k;obtain⟨_,_,_,q1,ka⟩:=XY.1 j1;cases q1;obtain⟨_,_,_,q2,kb⟩:=XY.1 j2;cases q2;refine⟨_,_,_,hq,XY.2 ⟨_,_,_,rfl,fun ρ a c0 cs w ZK hi hpm=>wpSIn_seq (Q9 (ka ρ a c0 cs w ZK hi hpm) ?_)⟩⟩;rintro e' a' cs' w' ⟨ρ',u',rfl,hp',he,hi',hst⟩;cases he;refine Q9 (kb ρ' a' {c0 with mode:=u'} cs w' (Nat.le_trans ZK hst.size) hi' hp') ?_;rintro e3 a3 cs3 w3 ⟨ρ3,u3,rfl,q1,q2,q3,q4⟩;exact⟨ρ3,u3,rfl,q1,q2,q3,hst.trans hi.rel.lt q4⟩
theorem DC.rgn {id:Nat} {ops:Array Oper} {dr:Bool} {Q:XX ->PM ->Fs ->Prop} (hn:(!dr && ops.toList.any isRecover)=false) (k:WC X n wm none (.region id ops dr) s (fun e s'=>Q e pm s')):DC X n wm (.region id ops dr) pm s Q:=by
 obtain⟨e,s',hq,j⟩:=k;refine⟨e,pm,s',hq,XY.2 (Jw (C:=cfg X fun _=>false) (ih:=Ku (.code (.region id ops dr) n wm none s) (.code e s')) (QU (Xv.2 ⟨_,_,rfl,j⟩)) ?_)⟩;unfold KM;dsimp only;rw [hn];unfold Za9;rw [QV];rfl
theorem DC.skip {Q:XX ->PM ->Fs ->Prop} (k:Q .normal pm s):DC X n wm .skip pm s Q:=by
 obtain⟨e,s',hq,j⟩:WC X n wm none .skip s (fun e s'=>Q e pm s'):=WC.skip k;refine⟨e,pm,s',hq,XY.2 (Jw (C:=cfg X fun _=>false) (ih:=Ku (.code .skip n wm none s) (.code e s')) (QU (Xv.2 ⟨_,_,rfl,j⟩)) ?_)⟩;unfold KM Za9;dsimp only;rw [QV];rfl
theorem DC.ZwM {c:Operand} {a b:Code} {t:Bool} {Q:XX ->PM ->Fs ->Prop} {fr:Fr} (hc:Z4 fr c=some (.bool t)) (ht:t=true) (k:DC X n wm a pm ⟨fr,ds,h,none⟩ Q):DC X n wm (.cond c a b) pm ⟨fr,ds,h,none⟩ Q:=by
 subst ht;obtain⟨e,KF,s',hq,j⟩:=k;refine⟨e,KF,s',hq,XY.2 (Jw (C:=cfg X fun _=>false) (ih:=Ku (.Xu a n wm pm ⟨fr,ds,h,none⟩) (.Xu e KF s')) (QU j) ?_)⟩;unfold KM;dsimp only;rw [hc];exact QV _ _
theorem DC.ZwN {c:Operand} {a b:Code} {t:Bool} {Q:XX ->PM ->Fs ->Prop} {fr:Fr} (hc:Z4 fr c=some (.bool t)) (ht:t=false) (k:DC X n wm b pm ⟨fr,ds,h,none⟩ Q):DC X n wm (.cond c a b) pm ⟨fr,ds,h,none⟩ Q:=by
 subst ht;obtain⟨e,KF,s',hq,j⟩:=k;refine⟨e,KF,s',hq,XY.2 (Jw (C:=cfg X fun _=>false) (ih:=Ku (.Xu b n wm pm ⟨fr,ds,h,none⟩) (.Xu e KF s')) (QU j) ?_)⟩;unfold KM;dsimp only;rw [hc];exact QV _ _
theorem DC.rec {id:Nat} {ops:Array Oper} {Q:XX ->PM ->Fs ->Prop} (KF:PM) (fr':Fr) (hd:Zoq X n wm ops.toList ops.toList pm ⟨fr,ds,h,none⟩=some (KF,⟨fr',ds,h,none⟩)) (hn:ops.toList.any isRecover=true) (k:Q .normal KF ⟨fr',ds,h,none⟩):DC X n wm (.region id ops false) pm ⟨fr,ds,h,none⟩ Q:=by
 refine⟨.normal,KF,_,k,XY.2 (Jw (C:=cfg X fun _=>false) (ih:=fun _=>none) (fun _ _ h=>by cases h) ?_)⟩;unfold KM;dsimp only;rw [hn];have hd':Zoq (cfg X fun _=>false).X n wm ops.toList ops.toList pm ⟨fr,ds,h,none⟩=some (KF,⟨fr',ds,h,none⟩):=hd;rw [hd'];rfl
structure DEn (X:Ctx) (fn:Func) (wm:Nat) (R:Kt ->H ->Prop) (fr:Fr) (ds:List Deferred) (e:XX) (pm:PM) (s:Fs):Prop where
 Yp:e= .normal
 no:s.ds= []
 k:Zbl X fn wm R (Zhr pm) ⟨fr,ds,s.h,none⟩
theorem Zbl.dfn {f:FuncId} {fn2:Func} {c:Code} {cap:List Value} {n2:Nat} (hf:X.fns.get f=some fn2) (hb:fn2.body=some c) (hnt:fn2.ntmps=n2) (hn:cap.length <=n2) (hr:fn2.results.toList= [])
 (k:DC X n2 wm c pm ⟨XV cap 0 .nil,[],h,none⟩ (DEn X fn wm R fr ds)):Zbl X fn wm R pm ⟨fr,⟨.fn (.func f) cap.toArray,#[]⟩::ds,h,none⟩:=by
 subst hnt;obtain⟨e,KF,s',⟨rfl,hno,E,h',hR,jl⟩,jd⟩:=k;obtain⟨fr',ds',h2,wr'⟩:=s';dsimp only at hno jl;subst hno
 have jc:Yw X (.dcall f (([]:List Value) ++ cap).toArray pm wm h) (.Zdx KF h2):=by
  refine ZdK (C:=cfg X fun _=>false) (ih:=Ku (.Xu c fn2.ntmps wm pm ⟨XV cap 0 .nil,[],h,none⟩) (.Xu .normal KF ⟨fr',[],h2,wr'⟩)) (QU jd) ?_;unfold Zff;have hf':(cfg X fun _=>false).X.fns.get f=some fn2:=hf;rw [hf'];dsimp only;rw [hb];dsimp only;have e1:Nat.ble (([]:List Value) ++ cap).toArray.toList.length fn2.ntmps=true:=Nat.ble_eq_true_of_le hn;rw [e1,Cq1];rw [List.nil_append,QV];unfold ZwL;dsimp only;have e3:QO (cfg X fun _=>false).X.P fn2 fr' h2=some (.tuple #[]):=by unfold QO;rw [hr];rfl
  rw [e3]
 refine⟨E,h',hR,?_⟩
 classical
 let ih:Jk ->Option YR:=fun j=>if j= .dcall f (([]:List Value) ++ cap).toArray pm wm h then some (.Zdx KF h2) else if j= .leave fn wm (Zhr KF) ⟨fr,ds,h2,none⟩ then some (.fin E h') else none
 refine Jv (C:=cfg X fun _=>false) (ih:=ih) ?_ ?_
 ·intro j r e;dsimp only [ih] at e;split at e
  ·rename_i hj;cases e;rw [hj];exact jc
  ·split at e
   ·rename_i hj;cases e;rw [hj];exact jl
   ·cases e
 ·unfold Us;dsimp only;have hf':(cfg X fun _=>false).X.fns.get f=some fn2:=hf;rw [hf'];dsimp only;have i1:ih (.dcall f ((#[]:Array Value).toList ++ cap.toArray.toList).toArray pm wm h)=some (.Zdx KF h2):=by dsimp only [ih];rw [if_pos rfl]
  rw [i1];dsimp only [ih];rw [if_neg (by intro q;cases q),if_pos rfl]
end
section
theorem WO.dfr {Q:XX ->Fs ->Prop} {fo:Operand} {ts:Array TypeId} {f:FuncId} {cap:Array Value} (hg:ZY ops ⟨none,.defer {callee:= .value fo,args:=#[],argTypes:=ts},ty,p,af,g⟩ fr) (hf:Z4 fr fo=some (.func (.func f) #[] cap))
 (k:WO X n wm none ops l ⟨fr,⟨.fn (.func f) cap,#[]⟩::ds,h,none⟩ Q):WO X n wm none ops (⟨none,.defer {callee:= .value fo,args:=#[],argTypes:=ts},ty,p,af,g⟩::l) ⟨fr,ds,h,none⟩ Q:=by
 refine WO.cons (ZbD X) (s1:= ⟨fr,⟨.fn (.func f) cap,#[]⟩::ds,h,none⟩) ?_ k
 have ha:Xz X h (Z4 fr) ⟨none,.defer {callee:= .value fo,args:=#[],argTypes:=ts},ty,p,af,g⟩=some (.dfr ⟨.fn (.func f) cap,#[]⟩,.none):=by
  show(match evs (Z4 fr) [] with
   | some args=>(match Z4 fr fo with
     | some (.func (.func g) first cap)=>some (AN.dfr {target:= .fn (.func g) cap,args:=first ++ args.toArray},Eff.none)
     | _=>none)
   | none=>none)=_
  rw [hf];rfl
 unfold Kq;rw [hg.1,hg.2];dsimp only [Bool.not_true,Cq0,Cq1];rw [ha]
 rfl
theorem WO.pnc {Q:XX ->Fs ->Prop} {x:Operand} {t:TypeId} {v:Value} (hg:ZY ops ⟨none,.panic x,ty,p,af,g⟩ fr) (hx:Z4 fr x=some (.iface t v)) (k:Q (.panic (.iface t v)) ⟨fr,ds,h,none⟩):WO X n wm rd ops (⟨none,.panic x,ty,p,af,g⟩::l) ⟨fr,ds,h,none⟩ Q:=by
 refine WO.panic (E:= .none) (h1:=h) hg ?_ rfl k
 show(match Z4 fr x with
  | some (.iface t v)=>some (AN.panic (.iface t v),Eff.none)
  | _=>none)=_
 rw [hx]
theorem ZgG {x:Operand} {t:TypeId} {v:Value} (hx:Z4 fr x=some v) (ht:(match X.P.underlying t with | some (.interface _)=>false | some _=>true | none=>false)=true):Xz X h (Z4 fr) ⟨some d,.makeInterface t x,ty,p,af,g⟩=some (.val (.iface t v),.none):=by
 show(match Z4 fr x,X.P.underlying t with
  | some _,some (.interface _)=>none
  | some v,some _=>some (AN.val (.iface t v),Eff.none)
  | _,_=>none)=_
 rw [hx];cases hh:X.P.underlying t with
 | none=>rw [hh] at ht;cases ht
 | some u=>
   rw [hh] at ht;cases u
   case interface=>cases ht
   all_goals rfl
end
end Go.YD
end
end
section
noncomputable section
namespace Go.YD
open Go.Lf
variable {X:Ctx} {n wm:Nat} {rd:Option Nat} {ops:Array Oper} {l:List Oper} {rest:Code}
theorem WO.body {s:Fs} {Q:XX ->Fs ->Prop} (k:WO X n wm rd ops l s (QM X n wm rd rest Q)):∃ e s',Q e s'∧∀ {ρ:Ren} {F:Fence} {a:Act} {w:World},Inv ρ n s a w ->wm <=s.h.size ->FR' ρ rd F ->∀ Q':Exit ->Act ->World ->Prop,(∀ e' a' w',XK wm n ρ s.h w e s' e' a' w' ->Q' e' a' w') ->
 wpListIn F 0 X.P ops (Exit.then (rest.wpIn F 0 X.P Q') Q') l a w:=by
 obtain⟨e1,s1,hk,ho⟩:=k.out;have hk:=hk.out;cases e1 with
 | normal=>
   obtain⟨e,s',hq,hj⟩:=hk;obtain⟨_,_,q0,kb⟩:=Xv.1 hj;cases q0;refine⟨e,s',hq,fun{ρ F a w} hi hw hF Q' hQ=>ho _ hi hw hF fun e' a' w' hp=>?_⟩;obtain⟨ρ',he,hi',hst⟩:=hp;cases he;exact wpIn_mono (kb ρ' a' w' F (Nat.le_trans hw hst.size) hi' (hF.mono hst.ext)) fun e2 a2 w2 hp2=>hQ _ _ _ (XK.trans hi.rel.lt hst hp2)
 | exit id=>
   refine⟨_,s1,hk,fun{ρ F a w} hi hw hF Q' hQ=>ho _ hi hw hF fun e' a' w' hp=>?_⟩;obtain⟨ρ',he,hi',hst⟩:=hp;cases he;exact hQ _ _ _ ⟨ρ',.exit id,hi',hst⟩
 | goto id=>
   refine⟨_,s1,hk,fun{ρ F a w} hi hw hF Q' hQ=>ho _ hi hw hF fun e' a' w' hp=>?_⟩;obtain⟨ρ',he,hi',hst⟩:=hp;cases he;exact hQ _ _ _ ⟨ρ',.goto id,hi',hst⟩
 | ret=>
   refine⟨_,s1,hk,fun{ρ F a w} hi hw hF Q' hQ=>ho _ hi hw hF fun e' a' w' hp=>?_⟩;obtain⟨ρ',he,hi',hst⟩:=hp;cases he;exact hQ _ _ _ ⟨ρ',.ret,hi',hst⟩
 | panic v=>
   refine⟨_,s1,hk,fun{ρ F a w} hi hw hF Q' hQ=>ho _ hi hw hF fun e' a' w' hp=>?_⟩;obtain⟨ρ',he,hi',hst⟩:=hp;cases he with
   | panic hv=>exact hQ _ _ _ ⟨ρ',.panic hv,hi',hst⟩
theorem EL.mem' {ρ:Ren} {es es':List MapEntry} (e:EL ρ es es') {x:MapEntry} (hx:x ∈ es):∃ x' ∈ es',x'.born=x.born:=by
 induction e with
 | nil=>cases hx
 | cons hk hp hb hv _ ih=>
   rcases List.mem_cons.1 hx with rfl | h
   ·exact⟨_,by simp,hb⟩
   ·obtain⟨x',h1,h2⟩:=ih h;exact⟨x',List.mem_cons_of_mem _ h1,h2⟩
theorem Zup {s:Fs} {id:Nat} {o:Oper} {t it m Xp clock d:Nat} {es:List MapEntry} {T:List Nat} {v:Value} {e:XX} {s2:Fs} (Jz:Nat ->Bool)
 (hops:ops.toList=o::l) (hop:o.op= .next (.tmp t) false) (hgu:o.guard=none) (hfr:s.fr.at t= .pointer (some ⟨it,0,none⟩)) (hit:s.h.at it= .iter m clock Xp none) (hm:s.h.at m= .map es clock) (hck:clock <=Xp) (hborn:Kc clock es=true) (Zpz:wm <=it) (htT:t ∉ T) (hd:o.dst=some d) (hdn:d < n) (hdT:d ∈ T) (hv:plain v=true)
 (Ziu:∀ x ∈ es,∃ ex s3,(s3.ds=s.ds∧(∀ t,t ∉ T ->s3.fr.at t=s.fr.at t)∧(ex= .normal∧Jz x.born=false∨ex= .panic v∧Jz x.born=true))∧∀ {ρ:Ren} {F:Fence} {a:Act} {w:World},Inv ρ n {fr:=Ue (Yi T s.fr) o.dst (.tuple #[.bool true,x.key,x.val]),ds:=s.ds,h:=s.h.put it (.iter m clock clock (some x.born)),wr:=s.wr} a w ->s.h.size <= (s.h.put it (.iter m clock clock (some x.born))).size ->FR' ρ rd F ->∀ Q':Exit ->Act ->World ->Prop,
   (∀ e' a' w',XK s.h.size n ρ (s.h.put it (.iter m clock clock (some x.born))) w ex s3 e' a' w' ->Q' e' a' w') ->wpListIn F 0 X.P ops (Exit.then (rest.wpIn F 0 X.P Q') Q') l a w)
 (hover:(∀ x ∈ es,Jz x.born=false) ->e ≠ .normal∧∀ {ρ:Ren} {F:Fence} {a:Act} {w:World},Inv ρ n {s with fr:=Ue (Yi T s.fr) o.dst Wz,h:=s.h.put it .dead} a w ->wm <= (s.h.put it .dead).size ->FR' ρ rd F ->∀ Q':Exit ->Act ->World ->Prop,
   (∀ e' a' w',XK wm n ρ (s.h.put it .dead) w e s2 e' a' w' ->Q' e' a' w') ->wpListIn F 0 X.P ops (Exit.then (rest.wpIn F 0 X.P Q') Q') l a w)
 (ZJ7:(∃ x ∈ es,Jz x.born=true) ->e= .panic v∧s2= {s with fr:=Yi T s.fr,h:=s.h.put it .dead}):Yw X (.loop (.seq (.region id ops false) rest) n wm rd s) (.code e s2):=by
 refine Zcr.2 ⟨e,s2,rfl,fun ρ a0 w0 F ZK hi0 hF=>?_⟩;obtain⟨dd,hdr⟩:∃ d,d=it:= ⟨_,rfl⟩
 have ZpA:=hi0.fr.val t (by rw [hfr];rfl);rw [hfr] at ZpA;generalize hpx:a0.tmps.getD t undef=px at ZpA;cases ZpA with
 | @ptr _ bi di _ Zd4=>
 have hoi:=hi0.rel.obj _ _ _ Zd4;rw [hit] at hoi;obtain⟨rfl,bm,ZE6,Zim,ZuT,_,Zd6⟩:=hoi;have Zd6:=Zd6 rfl;subst Zd6;have hom:=hi0.rel.obj _ _ _ Zim;rw [hm] at hom;obtain⟨_,es',ZuQ,hes⟩:=hom;have hilt:=hi0.rel.dom _ _ _ Zd4;have ZKa:=hi0.rel.dom _ _ _ Zim;have ZpK:m ≠ it:=fun z=>by rw [z,hit] at hm;cases hm
 have hold:∀ x ∈ es'.toList,x.born < clock:=by
  intro x hx;obtain⟨y,hy,_,_,hyb,_⟩:=hes.mem hx;rw [hyb];exact Zjp hborn y hy
 have Znw:∀ j b d,ρ j=some (b,d) ->b=bi ->j ≠ it ->((s.h.at j).live=true ->False):=by
  intro j b d hj hbb hne' hl;subst hbb;exact hne' (hi0.rel.inj it j b 0 d Zd4 hj (by rw [hit];rfl) hl).symm
 have hbne:bm ≠ bi:=fun z=>Znw m bm 0 Zim z ZpK (by rw [hm];rfl)
 have ZF8:s.h.size= (s.h.put it .dead).size:=rfl
 have Zir:∀ {a:Act} {w:World} {K:Act ->World ->Prop} {Q:Exit ->Act ->World ->Prop} {v:Value} {w1:World},a.tmps.getD t undef= .pointer (some ⟨bi,0,none⟩) ->(Instr.next (.pointer (some ⟨bi,0,none⟩)) false o.type).run X.P w= .ok v w1 ->
  K (a.put o.dst v) w1 ->(if Region.wanted o (yielded ops a.tmps) then o.wpIn F 0 X.P a w K Q else(∀ f,o.about X.P w a.eval=some f ->F.fn f)∧K (a.put o.dst undef) w):=by
  intro a w K Q v w1 ht hrun hK;have hw:Region.wanted o (yielded ops a.tmps)=true:=by unfold Region.wanted;rw [hgu]
  rw [if_pos hw];refine⟨fun f _=>Ko hF f,?_⟩;have ZlD:o.semAt F.round a.eval=execOp a.eval o:=Oper.semAt_eq _ _ _ fun c hc=>by rw [hop] at hc;cases hc
  have he:a.eval (.tmp t)= .pointer (some ⟨bi,0,none⟩):=ht
  have hx:(execOp a.eval o).run X.P w= .ok (.value v) w1:=by
   unfold execOp;rw [hop];simp [he,hrun]
  rw [ZlD,hx];exact hK
 have ZF5:∀ t,t ∉ T ->t ≠ d:=fun t ht z=>by rw [z] at ht;exact ht hdT
 have Zns:∀ (a:Act) (w:World),Inv ρ n {s with fr:=Yi T s.fr,h:=s.h.put it .dead} a w ->a.tmps.getD t undef= .pointer (some ⟨bi,0,none⟩):=by
  intro a w hi;have h0:VR ρ ((Yi T s.fr).at t) (a.tmps.getD t undef):=hi.fr.val t (by show QW ((Yi T s.fr).at t)=false;rw [Xw,if_neg htT,hfr];rfl);rw [Xw,if_neg htT,hfr] at h0;generalize a.tmps.getD t undef=y at h0;cases h0 with
  | ptr _ h1=>rw [Zd4] at h1;cases h1;rfl
 have ZuO:(∀ x ∈ es,Jz x.born=false) ->∀ (a:Act) (w:World),Inv ρ n {s with fr:=Yi T s.fr,h:=s.h.put it .dead} a w ->Stp wm ρ s.h w0 ρ (s.h.put it .dead) w ->a.tmps.getD t undef= .pointer (some ⟨bi,0,none⟩) ->
  (Instr.next (.pointer (some ⟨bi,0,none⟩)) false o.type).run X.P w= .ok Wz w ->LoopIn F 0 X.P (.seq (.region id ops false) rest) (XK wm n ρ s.h w0 e s2) a w:=by
  intro hall a w hi hst ht hrun;obtain⟨hne,hover⟩:=hover hall;refine XM (wpIn_seq (wpIn_region_list ?_));rw [hops];refine Zir ht hrun ?_
  have hio:Inv ρ n {s with fr:=Ue (Yi T s.fr) o.dst Wz,h:=s.h.put it .dead} (a.put o.dst Wz) w:=by
   refine⟨hi.rel,?_,?_⟩
   ·rw [hd];exact hi.fr.set hdn (VR.ZR rfl)
   ·rw [hd];exact hi.ds
  refine hover hio ZK hF _ fun e3 a3 w3 hp=>?_
  have hp2:=XK.trans hi0.rel.lt hst hp;obtain⟨ρ3,hx3,hi3,WS⟩:=hp2;cases hx3 with
  | normal=>exact(hne rfl).elim
  | exit id=>exact⟨ρ3,.exit id,hi3,WS⟩
  | goto id=>exact⟨ρ3,.goto id,hi3,WS⟩
  | ret=>exact⟨ρ3,.ret,hi3,WS⟩
  | panic hv=>exact⟨ρ3,.panic hv,hi3,WS⟩
 have ZA4:∀ seen:Array Nat,(∀ b,seen.contains b=true ->Jz b=false) ->(leftOf es' seen).size=0 ->∀ x ∈ es,Jz x.born=false:=by
  intro seen ZkG h00 x hx;obtain⟨y,hy,hyb⟩:=hes.mem' hx;refine ZkG _ ?_;cases hc:seen.contains x.born with
  | true=>rfl
  | false=>
    exfalso;have:y ∈ leftOf es' seen:=Array.mem_filter.2 ⟨Array.mem_toList_iff.1 hy,by rw [hyb,hc];rfl⟩;rw [Array.eq_empty_of_size_eq_zero h00] at this;simp at this
 have head:∀ (k:Nat) (seen:Array Nat) (last:Nat) (a:Act) (w:World),(∀ b,seen.contains b=true ->Jz b=false) ->(leftOf es' seen).size <=k ->clock <=last ->w.heap[bi]? =some (.mapIter (some bm) clock seen last) ->w.heap[bm]? =some (.map es' clock) ->
  Inv ρ n {s with fr:=Yi T s.fr,h:=s.h.put it .dead} a w ->
  Stp wm ρ s.h w0 ρ (s.h.put it .dead) w ->LoopIn F 0 X.P (.seq (.region id ops false) rest) (XK wm n ρ s.h w0 e s2) a w:=by
  intro k
  induction k with
  | zero=>
    intro seen last a w ZkG hk hlast hblk ZeM hi hst;have ht:=Zns a w hi;rcases Zht (P:=X.P) o.type hblk ZeM hold (hlast) with⟨h00,hrun⟩ | ⟨e',he',_⟩
    ·exact ZuO (ZA4 seen ZkG h00) a w hi hst ht hrun
    ·have:=Array.length_toList ▸ List.length_pos_of_mem he';omega
  | succ k ihk=>
    intro seen last a w ZkG hk hlast hblk ZeM hi hst;have ht:=Zns a w hi;rcases Zht (P:=X.P) o.type hblk ZeM hold (hlast) with⟨h00,hrun⟩ | ⟨e',he',w1,hw1,hsame,hrun⟩
    ·exact ZuO (ZA4 seen ZkG h00) a w hi hst ht hrun
    ·have hmem:= (mem_left he').1;obtain⟨x,hx,hkey,hkp,hbn,hval⟩:=hes.mem hmem;obtain⟨ex,s3,⟨ZCD,hwr,hpn⟩,hbody⟩:=Ziu x hx;have ZuR:bi < w.heap.size:= (hi.rel.dom _ _ _ Zd4).2;have ZF7:bm < w.heap.size:= (hi.rel.dom _ _ _ Zim).2;obtain⟨w2,hw2⟩:∃ w2,w2=w1.putObj bi (.mapIter (some bm) clock (seen.push e'.born) clock):= ⟨_,rfl⟩
     rw [← hw2] at hrun;have hsz2:w2.heap.size=w.heap.size:=by rw [hw2,World.putObj_size,hw1]
     have hother:∀ k,k ≠ bi ->w2.heap[k]? =w.heap[k]?:=fun k hk=>by rw [hw2,World.putObj_heap_other hk,hw1]
     have ZuU:w2.heap[bi]? =some (.mapIter (some bm) clock (seen.push e'.born) clock):=by rw [hw2];exact World.putObj_heap_same (by rw [hw1];exact ZuR)
     have Zd7:Same w w2:=by rw [hw2];exact⟨hsame.os,hsame.tape,hsame.output⟩
     have hrel:Rel ρ (s.h.put it (.iter m clock clock (some x.born))) w2:=by
      refine ZhZ hi.rel Zd4 Znw hother hsz2 ⟨rfl,bm,seen.push e'.born,Zim,ZuU,fun z hz=>?_,fun z=>by cases z⟩;cases hz;rw [← hbn];simp
     have hie:Inv ρ n {fr:=Ue (Yi T s.fr) o.dst (.tuple #[.bool true,x.key,x.val]),ds:=s.ds,h:=s.h.put it (.iter m clock clock (some x.born)),wr:=s.wr} (a.put o.dst (.tuple #[.bool true,e'.key,e'.val])) w2:=by
      refine⟨hrel,?_,?_⟩
      ·rw [hd];refine hi.fr.set hdn (.tuple _ _ rfl fun j y y' p q=>?_)
       match j,p,q with
       | 0,p,q=>simp at p q;subst p q;exact .bool true
       | 1,p,q=>simp at p q;subst p q;rw [hkey];exact VR.ZR hkp
       | 2,p,q=>simp at p q;subst p q;exact hval
       | j + 3,p,q=>simp at p
      ·rw [hd];exact hi.ds
     refine XM (wpIn_seq (wpIn_region_list ?_));rw [hops];refine Zir ht hrun ?_;refine hbody hie (Nat.le_refl _) hF _ fun e3 a3 w3 hp=>?_
     obtain⟨ρ3,hx3,hi3,WS⟩:=hp;obtain⟨q1,q2⟩:=Zba hrel WS;have ZpL:∀ b,b < w2.heap.size ->w3.heap[b]? =w2.heap[b]?:=fun b hb=>WS.frame b hb fun i d hi' e _=>by have:=hrel.lt i _ e;simp at this hi';omega
     have hinv:Inv ρ n {s with fr:=Yi T s.fr,h:=s.h.put it .dead} a3 w3:=by
      refine⟨?_,⟨hi3.fr.size,fun t hany=>?_⟩,?_⟩
      ·refine(Zcd (i:=it) q1).congr rfl fun i=>?_
       rw [H.XI,H.XI];by_cases hii:i=it∧i < s.h.size
       ·rw [if_pos hii,if_pos (by simpa using hii)]
       ·rw [if_neg hii,if_neg (by simpa using hii),H.XI,if_neg hii]
      ·change QW ((Yi T s.fr).at t)=false at hany
       show VR ρ ((Yi T s.fr).at t) _;rw [Xw] at hany ⊢;by_cases Zcu:t ∈ T
       ·rw [if_pos Zcu] at hany;cases hany
       ·rw [if_neg Zcu] at hany ⊢;have h0:=hi.fr.val t (by show QW ((Yi T s.fr).at t)=false;rw [Xw,if_neg Zcu];exact hany);have h0:VR ρ ((Yi T s.fr).at t) _:=h0;rw [Xw,if_neg Zcu] at h0;have h1:=hi3.fr.val t (by rw [hwr t Zcu];exact hany);rw [hwr t Zcu] at h1;exact VR.back WS.ext h0 h1
      ·have h0:DsR ρ s.ds a.defers:=hi.ds;have h1:=hi3.ds;rw [ZCD] at h1;exact DsR.back WS.ext h0 h1
     have hstp:Stp wm ρ s.h w0 ρ (s.h.put it .dead) w3:=by
      refine⟨Ren.le_refl _,hst.size,hst.keep,hst.own,hst.live,WS.os.trans (Zd7.os.trans hst.os),WS.tape.trans (Zd7.tape.trans hst.tape),WS.output.trans (Zd7.output.trans hst.output),
       Nat.le_trans hst.Xj (by rw [← hsz2];exact WS.Xj),fun b hb hno=>?_,fun i b d p q=>by rw [p] at q;cases q⟩
      have hbb:b ≠ bi:=fun z=>by subst z;exact hno it 0 Zpz Zd4 (by rw [hit];rfl)
      have:=hst.Xj;rw [ZpL b (by omega),hother b hbb,hst.frame b hb hno]
     rcases hpn with⟨rfl,hpf⟩ | ⟨rfl,hpt⟩
     ·cases hx3;show LoopIn F 0 X.P _ _ a3 w3
      exact ihk (seen.push e'.born) clock a3 w3 (fun b hb=>by
       rw [contains_push] at hb;rcases Bool.or_eq_true_iff.1 hb with z | z
       ·exact ZkG b z
       ·have:b=e'.born:=by simpa using z
        rw [this,hbn];exact hpf) (by have:=left_shrinks es' seen e' he';omega) (Nat.le_refl _) (by rw [ZpL bi (by omega)];exact ZuU) (by rw [ZpL bm (by omega),hother bm hbne];exact ZeM) hinv hstp
     ·obtain⟨he,ZJ3⟩:=ZJ7 ⟨x,hx,hpt⟩;cases hx3 with
      | panic hv3=>
        show XK wm n ρ s.h w0 e s2 _ a3 w3;rw [he,ZJ3];have:=VR.YS hv hv3;subst this;exact⟨ρ,.panic (VR.ZR hv),hinv,hstp⟩
 have ZCv:Stp wm ρ s.h w0 ρ (s.h.put it .dead) w0:=by
  have kk:=Ul (h:=s.h) (A:= .dead) Zpz (by rw [hit];rfl);exact⟨Ren.le_refl _,Nat.le_refl _,kk.keep,kk.own,kk.live,rfl,rfl,rfl,Nat.le_refl _,fun _ _ _=>rfl,fun i b d e e'=>by rw [e] at e';cases e'⟩
 refine head _ #[] Xp a0 w0 (fun b hb=>by simp at hb) (Nat.le_refl _) hck ZuT ZuQ ⟨Zcd hi0.rel,⟨hi0.fr.size,fun t hany=>?_⟩,hi0.ds⟩ ZCv
 change QW ((Yi T s.fr).at t)=false at hany
 show VR ρ ((Yi T s.fr).at t) _;rw [Xw] at hany ⊢;by_cases ht:t ∈ T
 ·rw [if_pos ht] at hany;cases hany
 ·rw [if_neg ht] at hany ⊢;exact hi0.fr.val t hany
def Agr (T:List Nat) (fr fr':Fr):Prop:=∀ t v,T.contains t=false ->fr.at t=v ->fr'.at t=v
theorem Agr.at {T:List Nat} {fr fr':Fr} (a:Agr T fr fr') {t:Nat} {v:Value} (ht:T.contains t=false) (h:fr.at t=v):fr'.at t=v:=a t v ht h
def MFr (T:List Nat) (fr f:Fr):Prop:=∀ t,t ∉ T ->f.at t=fr.at t
theorem MFr.z {T:List Nat} {fr:Fr}:MFr T fr fr:=fun _ _=>rfl
theorem MFr.s {T:List Nat} {fr f:Fr} {i:Nat} {v:Value} (hi:T.contains i=true) (h:MFr T fr f):MFr T fr (Tr.set f i v):=fun t ht=>by
 have hne:t ≠ i:=fun z=>ht (by subst z;rwa [List.contains_iff_mem] at hi)
 have:=Zc1 (fr:=f) (d:=some i) (v:=v) (t:=t);rw [show Ue f (some i) v=Tr.set f i v from rfl] at this;rw [this,if_neg (fun z=>hne (Oi0 z).symm)];exact h t ht
structure ZqK (T:List Nat) (fr:Fr) (ds:List Deferred) (v:Value) (p:Bool) (e:XX) (s:Fs):Prop where
 ds:s.ds=ds
 fr:MFr T fr s.fr
 e:e= .normal∧p=false∨e= .panic v∧p=true
theorem ZqK.Yp {T:List Nat} {fr f:Fr} {ds:List Deferred} {v:Value} {h:H} (k:MFr T fr f):ZqK T fr ds v false .normal ⟨f,ds,h,none⟩:= ⟨rfl,k,.inl ⟨rfl,rfl⟩⟩
theorem ZqK.panic {T:List Nat} {fr f:Fr} {ds:List Deferred} {v:Value} {h:H} (k:MFr T fr f):ZqK T fr ds v true (.panic v) ⟨f,ds,h,none⟩:= ⟨rfl,k,.inr ⟨rfl,rfl⟩⟩
structure ZAe (Q:XX ->Fs ->Prop) (e:XX) (s:Fs):Prop where
 nn:e ≠ .normal
 k:Q e s
theorem ZAe.exit {Q:XX ->Fs ->Prop} {s:Fs} {id:Nat} (k:Q (.exit id) s):ZAe Q (.exit id) s:= ⟨(fun z=>by cases z),k⟩
def ZAi {κ ν:Type} (kv:κ ->Value) (vv:ν ->Value) (h:H) (it:Nat) (x:κ×ν):Prop:=Zej h (.pointer (some ⟨it,0,none⟩))=some (.tuple #[kv x.1,vv x.2])
section
variable {κ ν:Type} {kv:κ ->Value} {vv:ν ->Value} {ll:List (κ×ν)} {bs:List Nat}
theorem Znb:∀ {ll:List (κ×ν)} {bs:List Nat} {x:MapEntry},x ∈ Yv kv vv ll bs ->∃ (j:Nat) (y:κ×ν) (b:Nat),ll[j]? =some y∧bs[j]? =some b∧x= ⟨kv y.1,vv y.2,b⟩:=by
 intro ll bs x hx;obtain⟨j,hj⟩:=List.mem_iff_getElem?.1 hx;unfold Yv at hj;rw [List.getElem?_zipWith] at hj;cases h1:ll[j]? with
 | none=>rw [h1] at hj;simp at hj
 | some y=>
   cases h2:bs[j]? with
   | none=>rw [h1,h2] at hj;simp at hj
   | some b=>rw [h1,h2] at hj;simp at hj;exact⟨j,y,b,h1,h2,hj.symm⟩
theorem Zyf {j:Nat} {y:κ×ν} {b:Nat} (h1:ll[j]? =some y) (h2:bs[j]? =some b):(⟨kv y.1,vv y.2,b⟩:MapEntry) ∈ Yv kv vv ll bs:=by
 refine List.mem_iff_getElem?.2 ⟨j,?_⟩;unfold Yv;rw [List.getElem?_zipWith,h1,h2]
theorem ZgU {b:Nat}:∀ {ll:List (κ×ν)} {bs:List Nat},b ∉ bs ->ZdV b (Yv kv vv ll bs)=true
 | [],_,_=>by unfold Yv;simp [ZdV]
 | _::_,[],_=>by unfold Yv;simp [ZdV]
 | x::ll,b'::bs,h=>by
   have ih:=ZgU (ll:=ll) (bs:=bs) (b:=b) (fun z=>h (by simp [z]));unfold Yv at ih ⊢;rw [List.zipWith_cons_cons];unfold ZdV;have:Nat.beq b' b=false:=by rw [Bool.eq_false_iff];intro q;exact h (by simp [Nat.eq_of_beq_eq_true q])
   dsimp only;rw [this];exact ih
theorem Zie {Xp:Nat}:∀ {ll:List (κ×ν)} {bs:List Nat},bs.Nodup ->(∀ b ∈ bs,b < Xp) ->Kc Xp (Yv kv vv ll bs)=true
 | [],_,_,_=>by unfold Yv;simp [Kc]
 | _::_,[],_,_=>by unfold Yv;simp [Kc]
 | x::ll,b::bs,hn,hl=>by
   rw [List.nodup_cons] at hn;have ih:=Zie (ll:=ll) (bs:=bs) hn.2 (fun b hb=>hl b (by simp [hb]));have hno:ZdV b (Yv kv vv ll bs)=true:=ZgU (ll:=ll) hn.1;unfold Yv at ih hno ⊢;rw [List.zipWith_cons_cons];unfold Kc;dsimp only;rw [hno,ih];have:Nat.blt b Xp=true:=by rw [Nat.blt_eq];exact hl b (by simp)
   rw [this];rfl
theorem Zky:∀ {ll:List (κ×ν)} {bs:List Nat} {j:Nat} {y:κ×ν} {b:Nat},bs.Nodup ->ll[j]? =some y ->bs[j]? =some b ->Zk1 b (Yv kv vv ll bs)=some ⟨kv y.1,vv y.2,b⟩
 | [],_,_,_,_,_,h,_=>by simp at h
 | _::_,[],_,_,_,_,_,h=>by simp at h
 | x::ll,b'::bs,j,y,b,hn,h1,h2=>by
   rw [List.nodup_cons] at hn;unfold Yv;rw [List.zipWith_cons_cons];unfold Zk1;dsimp only;cases j with
   | zero=>
     simp at h1 h2;subst h1 h2;rw [Nat.beq_refl];rfl
   | succ j=>
     simp at h1 h2
     have:Nat.beq b' b=false:=by
      rw [Bool.eq_false_iff];intro q;have:=Nat.eq_of_beq_eq_true q;subst this;exact hn.1 (List.mem_iff_getElem?.2 ⟨j,h2⟩)
     rw [this];exact Zky hn.2 h1 h2
end
section
variable {wm:Nat} {G Gr:List (Ast wm)} {h h0:H} {T0:Nat ->Prop} {fr:Fr} {ds:List Deferred} {ty:TypeId} {p:String} {af:Array Edge} {g:Option (Nat×Bool)} {κ ν:Type} {kv:κ ->Value} {vv:ν ->Value} {ll:List (κ×ν)} {d:Nat}
theorem WO.rng {Q:XX ->Fs ->Prop} {t kt vt:TypeId} {x:Operand} {i:Nat} (hg:ZY ops ⟨some d,.range t x,ty,p,af,g⟩ fr) (hd:Nat.blt d n=true) (hS:Sp wm T0 h0 G h) (hu:X.P.underlying t=some (.map kt vt)) (hx:Z4 fr x=some (.map (some i))) (s:MapAt kv vv h (some i) ll)
 (k:∀ h' b bs Xp,Sp wm T0 h0 (ob wm b (.iter i Xp Xp none)::G) h' ->h'.at i= .map (Yv kv vv ll bs) Xp ->bs.length=ll.length∧bs.Nodup∧(∀ x ∈ bs,x < Xp) ->WO X n wm rd ops l ⟨Tr.set fr d (.pointer (some ⟨b,0,none⟩)),ds,h',none⟩ Q):
 WO X n wm rd ops (⟨some d,.range t x,ty,p,af,g⟩::l) ⟨fr,ds,h,none⟩ Q:=by
 rcases s.mem with⟨q,_⟩ | ⟨i',bs,Xp,q,h1,h2,h3,h4⟩
 ·cases q
 ·cases q;refine WO.v (v:=Jp h) (E:= .new (.iter i Xp Xp none)) (h1:=h.push (.iter i Xp Xp none)) hg hd ?_ (Zmh h rfl) (k (h.push (.iter i Xp Xp none)) h.size bs Xp (Zpj rfl hS) ?_ ⟨h2,h3,h4⟩)
  ·show(match Z4 fr x with
    | some x=>vE (Zjy X.P h t x)
    | none=>none)=_
   rw [hx];dsimp only;unfold Zjy;simp only [hu,h1]
   rfl
  ·rw [Zax (Je h1 rfl),h1]
theorem Zw1 {x:Operand} {it:Nat} {y:κ×ν} (hx:Z4 fr x=some (.pointer (some ⟨it,0,none⟩))) (he:ZAi kv vv h it y):Xz X h (Z4 fr) ⟨some d,.entry x,ty,p,af,g⟩=some (.val (.tuple #[kv y.1,vv y.2]),.none):=by
 show(match Z4 fr x with
  | some it=>vN (Zej h it)
  | none=>none)=_
 rw [hx];dsimp only;rw [show Zej h (.pointer (some ⟨it,0,none⟩))=_ from he];rfl
theorem WL.ZJn {Q:XX ->Fs ->Prop} {id:Nat} {o:Oper} {t it m Xp:Nat} {bs:List Nat} {b:κ ->ν ->Option Bool} {q:Bool} (T:List Nat) (v:Value) (hq:Zkx b ll=some q) (hS:Sp wm T0 h0 G h) (pi:Pk G (ob wm it (.iter m Xp Xp none)) Gr) (hat:fr.at t= .pointer (some ⟨it,0,none⟩)) (hm:h.at m= .map (Yv kv vv ll bs) Xp) (hb:bs.length=ll.length∧bs.Nodup∧∀ x ∈ bs,x < Xp)
 (hops:ops.toList=o::l) (hop:o.op= .next (.tmp t) false) (hgu:o.guard=none) (hd:o.dst=some d) (hdn:Nat.blt d n=true) (hT:T.contains t=false) (hdT:T.contains d=true) (hv:plain v=true)
 (body:∀ (x:κ×ν) (p:Bool),b x.1 x.2=some p ->∀ h2 fr',Agr T fr fr' ->Sp h.size (XL ([]:List (Ast h.size))) h2 [] h2 ->ZAi kv vv h2 it x ->WO X n h.size rd ops l ⟨Tr.set fr' d (.tuple #[.bool true,kv x.1,vv x.2]),ds,h2,none⟩ (QM X n h.size rd rest (ZqK T fr' ds v p)))
 (over:q=false ->∀ h' fr',Agr T fr fr' ->Sp wm T0 h0 Gr h' ->WO X n wm rd ops l ⟨Tr.set fr' d (.tuple #[.bool false]),ds,h',none⟩ (QM X n wm rd rest (ZAe Q)))
 (Jz:q=true ->∀ h' fr',Agr T fr fr' ->Sp wm T0 h0 Gr h' ->Q (.panic v) ⟨fr',ds,h',none⟩):WL X n wm rd (.seq (.region id ops false) rest) ⟨fr,ds,h,none⟩ Q:=by
 obtain⟨hb1,hb2,hb3⟩:=hb;obtain⟨o1,o2,o3⟩:=hS.get pi;obtain⟨m1,m2⟩:=Zd1 hq
 have ZCX:Agr T fr (Yi T fr):=fun t' v' ht' hv'=>by
  rw [Xw,if_neg (fun z=>by rw [← List.contains_iff_mem] at z;rw [z] at ht';cases ht'),hv']
 have htT:t ∉ T:=fun z=>by rw [← List.contains_iff_mem] at z;rw [z] at hT;cases hT
 have ZKm:d ∈ T:=List.contains_iff_mem.1 hdT;have ZJ9:m ≠ it:=fun z=>by rw [z,o1] at hm;cases hm
 classical
 let pn:Nat ->Bool:=fun bn=>decide (∃ (j:Nat) (y:κ×ν),ll[j]? =some y∧bs[j]? =some bn∧b y.1 y.2=some true)
 have Zln:∀ (j:Nat) (y:κ×ν) (bn:Nat),ll[j]? =some y ->bs[j]? =some bn ->∀ p,b y.1 y.2=some p ->pn bn=p:=by
  intro j y bn h1 h2 p hp;cases p with
  | true=>exact decide_eq_true ⟨j,y,h1,h2,hp⟩
  | false=>
    refine decide_eq_false ?_;rintro⟨j',y',h1',h2',hp'⟩
    have hj:j'=j:=by
     obtain⟨q1,e1⟩:=List.getElem?_eq_some_iff.1 h2';obtain⟨q2,e2⟩:=List.getElem?_eq_some_iff.1 h2;exact(List.getElem_inj hb2).1 (e1.trans e2.symm)
    subst hj;rw [h1] at h1';cases h1';rw [hp] at hp';cases hp'
 have ZAQ:Sp wm T0 h0 Gr (h.put it .dead):=
  Sp.step (Ga:= [ob wm it (.iter m Xp Xp none)]) (Gb:= []) (hS.perm pi.perm) (Up.put o2 (by rw [o1];rfl)) (fun i e=>⟨_,List.mem_singleton.2 rfl,e⟩) ZT.nil fun i ⟨A,mm,f⟩=>by simp at mm
 have Ziu:∀ x ∈ Yv kv vv ll bs,∃ ex s3,(s3.ds=ds∧(∀ t,t ∉ T ->s3.fr.at t=fr.at t)∧(ex= .normal∧pn x.born=false∨ex= .panic v∧pn x.born=true))∧∀ {ρ:Ren} {F:Fence} {a:Act} {w:World},Inv ρ n {fr:=Ue (Yi T fr) o.dst (.tuple #[.bool true,x.key,x.val]),ds:=ds,h:=h.put it (.iter m Xp Xp (some x.born)),wr:=none} a w ->h.size <= (h.put it (.iter m Xp Xp (some x.born))).size ->FR' ρ rd F ->∀ Q':Exit ->Act ->World ->Prop,
  (∀ e' a' w',XK h.size n ρ (h.put it (.iter m Xp Xp (some x.born))) w ex s3 e' a' w' ->Q' e' a' w') ->wpListIn F 0 X.P ops (Exit.then (rest.wpIn F 0 X.P Q') Q') l a w:=by
  intro x hx;obtain⟨j,y,bn,h1,h2,rfl⟩:=Znb hx;obtain⟨p,hp⟩:=m1 y (List.mem_iff_getElem?.2 ⟨j,h1⟩);have hpn:=Zln j y bn h1 h2 p hp;have hsz:(h.put it (.iter m Xp Xp (some bn))).size=h.size:=H.size_put _ _ _;have e1:(h.put it (.iter m Xp Xp (some bn))).at it= .iter m Xp Xp (some bn):=YJ (Je o1 rfl) _;have e2:(h.put it (.iter m Xp Xp (some bn))).at m= .map (Yv kv vv ll bs) Xp:=by rw [Wo ZJ9,hm]
  have hent:ZAi kv vv (h.put it (.iter m Xp Xp (some bn))) it y:=by
   unfold ZAi Zej;simp only [e1,e2,Nat.beq_refl,Cq1,Zky hb2 h1 h2]
  obtain⟨ex,s3,⟨q1,q2,q3⟩,q4⟩:=WO.body (body y p hp (h.put it (.iter m Xp Xp (some bn))) (Yi T fr) ZCX (Sp.start (Nat.le_of_eq hsz.symm) ZT.nil) hent);refine⟨ex,s3,⟨q1,fun t' ht'=>?_,?_⟩,?_⟩
  ·rw [q2 t' ht',Xw,if_neg ht']
  ·dsimp only;rw [hpn];exact q3
  ·rw [hd];intro ρ F a w i1 i2 i3 Q' i4;exact q4 i1 i2 i3 Q' i4
 have key:=fun(e:XX) (s2:Fs)=>Zup (X:=X) (n:=n) (wm:=wm) (rd:=rd) (rest:=rest) (id:=id) (s:= ⟨fr,ds,h,none⟩) (e:=e) (s2:=s2) (T:=T) (v:=v) pn hops hop hgu hat o1 hm (Nat.le_refl _) (Zie hb2 hb3) o2 htT hd (by rwa [Nat.blt_eq] at hdn) ZKm hv Ziu
 cases q with
 | true=>
   refine⟨.panic v,⟨Yi T fr,ds,h.put it .dead,none⟩,Jz rfl _ _ ZCX ZAQ,key _ _ (fun hall=>?_) fun _=>⟨rfl,rfl⟩⟩;exfalso;obtain⟨y,hy,hyb⟩:=m2.1 rfl;obtain⟨j,hj⟩:=List.mem_iff_getElem?.1 hy;have hjl:= (List.getElem?_eq_some_iff.1 hj).1;have h2:bs[j]? =some (bs[j]'(by omega)):=List.getElem?_eq_getElem _;have:=hall _ (Zyf hj h2);rw [Zln j y _ hj h2 true hyb] at this;cases this
 | false=>
   obtain⟨e,s2,⟨q1,q2⟩,q3⟩:=WO.body (over rfl _ _ ZCX ZAQ);refine⟨e,s2,q2,key e s2 (fun _=>⟨q1,?_⟩) fun⟨x,hx,hp⟩=>?_⟩
   ·rw [hd];intro ρ F a w i1 i2 i3 Q' i4;exact q3 i1 i2 i3 Q' i4
   ·exfalso;obtain⟨j,y,bn,h1,h2,rfl⟩:=Znb hx;obtain⟨p,hp'⟩:=m1 y (List.mem_iff_getElem?.2 ⟨j,h1⟩);have hpn:=Zln j y bn h1 h2 p hp';rw [show pn bn=true from hp] at hpn;subst hpn;exact absurd (m2.2 ⟨y,List.mem_iff_getElem?.2 ⟨j,h1⟩,hp'⟩) (by simp)
end
end Go.YD
end
end
section
noncomputable section
namespace Go.YD
open Go.Lf
variable {X:Ctx} {n wm:Nat} {rd:Option Nat} {ops:Array Oper} {l:List Oper} {fr:Fr} {ds:List Deferred} {h h1 h2 h0:H} {T:Nat ->Prop} {G Gr Ga Gb:List (Ast wm)}
end Go.YD
end
end
section
end
section
namespace Go.Proofs.Ytekpjgmhkkjhgaa
structure Zb where
 name:Int
 root:Bool
 from_:Int
 has:Int
 out:Int
 use:Bool
 deriving DecidableEq,Inhabited
structure Zd where
 kind:Int
 ZH:Int
 name:Int
 via:Int
 w:Int
 deriving DecidableEq,Inhabited
structure Za where
 cells:(List (List Zb))
 notes:(List Zd)
 names:Int
 freed:(List Int)
 deriving DecidableEq,Inhabited
structure Zv where
 Xf:Int
 at_:Int
 name:Int
 ZH:Int
 deriving DecidableEq,Inhabited
structure Zg where
 e0:Int
 e1:Int
 deriving DecidableEq,Inhabited
structure Store where
 machines:Int
 names:Int
 cells:(List (Zg×Zb))
 notes:(List Zd)
 freed:(List Int)
 deriving DecidableEq,Inhabited
def JX (x y:Zb):Bool:= [x.name==y.name,x.root==y.root,x.from_==y.from_,x.has==y.has,x.out==y.out,x.use==y.use].all id
def Zaw (x y:Zd):Bool:= [x.kind==y.kind,x.ZH==y.ZH,x.name==y.name,x.via==y.via,x.w==y.w].all id
def Zzp:Option Bool:=some true
def ZwE (x:Int):Option Int:=Go.Lf.Qk x
end Go.Proofs.Ytekpjgmhkkjhgaa
end
section
set_option maxRecDepth 100000
noncomputable section
namespace Go.Proofs.Ytekpjgmhkkjhgaa
open Go.YD Go.Lf
def Ze:Ww Zb where
 sz:=6
 pos:=by decide
 Par:=Unit
 dflt:= ()
 sh:=fun _ x=>[.int .i64 x.name,.bool x.root,.int .i64 x.from_,.int .i64 x.has,.int .i64 x.out,.bool x.use]
 len:=fun _ _=>rfl
 one:=fun _ _=>rfl
 F:=fun _ _ _ _=>True
 mono:=fun _ x=>x
 up:=fun _ x=>x
def Zf:Ww Zd where
 sz:=5
 pos:=by decide
 Par:=Unit
 dflt:= ()
 sh:=fun _ x=>[.int .i64 x.kind,.int .i64 x.ZH,.int .i64 x.name,.int .i64 x.via,.int .i64 x.w]
 len:=fun _ _=>rfl
 one:=fun _ _=>rfl
 F:=fun _ _ _ _=>True
 mono:=fun _ x=>x
 up:=fun _ x=>x
def Zm5:Ww Za where
 sz:=4
 pos:=by decide
 Par:= (Option Addr×Nat)×(Option Addr×Nat)×(Option Addr×Nat)
 dflt:= ((none,0),(none,0),(none,0))
 sh:=fun p x=>[.slice p.1.1 x.cells.length p.1.2,.slice p.2.1.1 x.notes.length p.2.1.2,.int .i64 x.names,.slice p.2.2.1 x.freed.length p.2.2.2]
 len:=fun _ _=>rfl
 one:=fun _ _=>rfl
 F:=fun wm h p x=>Sl (rSl Ze) wm h p.1.1 p.1.2 x.cells∧Sl Zf wm h p.2.1.1 p.2.1.2 x.notes∧Sl (Zz .i64) wm h p.2.2.1 p.2.2.2 x.freed
 mono:=fun f ⟨y0,y1,y2⟩=>⟨y0.mono f,y1.mono f,y2.mono f⟩
 up:=fun f ⟨y0,y1,y2⟩=>⟨y0.up f,y1.up f,y2.up f⟩
def WJ:Ww Zv where
 sz:=4
 pos:=by decide
 Par:=Unit
 dflt:= ()
 sh:=fun _ x=>[.int .i64 x.Xf,.int .i64 x.at_,.int .i64 x.name,.int .i64 x.ZH]
 len:=fun _ _=>rfl
 one:=fun _ _=>rfl
 F:=fun _ _ _ _=>True
 mono:=fun _ x=>x
 up:=fun _ x=>x
def Zo (x:Zg):Value:= .agg [.int .i64 x.e0,.int .i64 x.e1].toArray
def Zt (x:Zb):Value:= .agg [.int .i64 x.name,.bool x.root,.int .i64 x.from_,.int .i64 x.has,.int .i64 x.out,.bool x.use].toArray
theorem ZI0:XX.P.underlying 3=some (.int .i64):=Kq0
theorem ZIZ:XX.P.underlying 4=some .bool:=Kq0
theorem YZ:XX.P.underlying 22=some (.slice 59):=Kq0
theorem QJ:XX.P.underlying 23=some (.slice 58):=Kq0
theorem Xo:XX.P.underlying 24=some (.slice 3):=Kq0
theorem ZmR:XX.P.underlying 38=some (.slice 29):=Kq0
theorem ZE0:XX.P.underlying 43=some (.slice 91):=Kq0
theorem Xg:XX.P.underlying 59=some (.slice 61):=Kq0
theorem ZEZ:XX.P.underlying 62=some (.slice 80):=Kq0
theorem ZEY:XX.P.underlying 63=some (.slice 73):=Kq0
theorem ZEX:XX.P.underlying 69=some (.slice 5):=Kq0
theorem Uj:XX.P.underlying 95=some (.map 113 61):=Kq0
theorem U1:XX.P.underlying 110=some (.map 113 3):=Kq0
theorem ZBQ:XX.P.underlying 160=some (.int .u64):=Kq0
theorem YW:Yq XX.P 3=some false:=Kq0
theorem Zz5:Yq XX.P 4=some false:=Kq0
theorem ZLN:Yq XX.P 5=some false:=Kq0
theorem Zxh:Yq XX.P 22=some false:=Kq0
theorem ZoR:Yq XX.P 23=some false:=Kq0
theorem Zxg:Yq XX.P 24=some false:=Kq0
theorem XE:Yq XX.P 26=some true:=Kq0
theorem Zxf:Yq XX.P 27=some false:=Kq0
theorem ZoQ:Yq XX.P 29=some true:=Kq0
theorem Zxe:Yq XX.P 32=some false:=Kq0
theorem ZIk:Yq XX.P 56=some false:=Kq0
theorem Zbj:Yq XX.P 58=some true:=Kq0
theorem Xl:Yq XX.P 59=some false:=Kq0
theorem Zaz:Yq XX.P 61=some true:=Kq0
theorem ZIj:Yq XX.P 63=some false:=Kq0
theorem ZIi:Yq XX.P 65=some true:=Kq0
theorem ZIh:Yq XX.P 73=some true:=Kq0
theorem ZIg:Yq XX.P 80=some true:=Kq0
theorem ZIf:Yq XX.P 91=some true:=Kq0
theorem Zxd:Yq XX.P 94=some false:=Kq0
theorem Zg8:Yq XX.P 95=some false:=Kq0
theorem ZmA:Yq XX.P 110=some false:=Kq0
theorem ZEj:Yq XX.P 113=some true:=Kq0
theorem YB:Z7 XX.P 3=some 1:=Kq0
theorem ZqS:Z7 XX.P 4=some 1:=Kq0
theorem ZE5:Z7 XX.P 5=some 1:=Kq0
theorem ZB1:Z7 XX.P 22=some 1:=Kq0
theorem Zpb:Z7 XX.P 23=some 1:=Kq0
theorem ZB0:Z7 XX.P 24=some 1:=Kq0
theorem YC:Z7 XX.P 26=some 4:=Kq0
theorem Zbp:Z7 XX.P 29=some 4:=Kq0
theorem ZBZ:Z7 XX.P 32=some 1:=Kq0
theorem YN:Z7 XX.P 58=some 5:=Kq0
theorem Yb:Z7 XX.P 59=some 1:=Kq0
theorem Z0:Z7 XX.P 61=some 6:=Kq0
theorem ZBY:Z7 XX.P 63=some 1:=Kq0
theorem ZBX:Z7 XX.P 65=some 2:=Kq0
theorem ZBW:Z7 XX.P 73=some 2:=Kq0
theorem ZBV:Z7 XX.P 80=some 4:=Kq0
theorem ZBU:Z7 XX.P 91=some 4:=Kq0
theorem ZBT:Z7 XX.P 94=some 1:=Kq0
theorem Zli:Z7 XX.P 110=some 1:=Kq0
theorem ZxU:Z7 XX.P 113=some 2:=Kq0
theorem Zzn:ZG XX.P 26 0 0:=ZG.of Kq0
theorem Zzm:ZG XX.P 26 1 1:=ZG.of Kq0
theorem Zzl:ZG XX.P 26 2 2:=ZG.of Kq0
theorem Zzk:ZG XX.P 26 3 3:=ZG.of Kq0
theorem ZlS:ZG XX.P 29 0 0:=ZG.of Kq0
theorem ZbK:ZG XX.P 29 1 1:=ZG.of Kq0
theorem Zdc:ZG XX.P 29 2 2:=ZG.of Kq0
theorem ZbJ:ZG XX.P 29 3 3:=ZG.of Kq0
theorem Zzj:ZG XX.P 58 0 0:=ZG.of Kq0
theorem Zzi:ZG XX.P 58 1 1:=ZG.of Kq0
theorem Zzh:ZG XX.P 58 2 2:=ZG.of Kq0
theorem Zzg:ZG XX.P 58 3 3:=ZG.of Kq0
theorem Zrq:ZG XX.P 58 4 4:=ZG.of Kq0
theorem Zzf:ZG XX.P 61 0 0:=ZG.of Kq0
theorem Zze:ZG XX.P 61 1 1:=ZG.of Kq0
theorem Zrp:ZG XX.P 61 2 2:=ZG.of Kq0
theorem ZlR:ZG XX.P 61 3 3:=ZG.of Kq0
theorem Zzd:ZG XX.P 61 4 4:=ZG.of Kq0
theorem Zzc:ZG XX.P 61 5 5:=ZG.of Kq0
theorem Zzb:ZG XX.P 65 0 0:=ZG.of Kq0
theorem Zza:ZG XX.P 65 1 1:=ZG.of Kq0
theorem Zy9:ZG XX.P 73 0 0:=ZG.of Kq0
theorem Zy8:ZG XX.P 73 1 1:=ZG.of Kq0
theorem Zy7:ZG XX.P 80 0 0:=ZG.of Kq0
theorem Zy6:ZG XX.P 80 1 1:=ZG.of Kq0
theorem Zy5:ZG XX.P 80 2 2:=ZG.of Kq0
theorem Zy4:ZG XX.P 80 3 3:=ZG.of Kq0
theorem Zy3:ZG XX.P 91 2 2:=ZG.of Kq0
theorem Zy2:ZG XX.P 91 3 3:=ZG.of Kq0
theorem Zy1:ZG XX.P 97 0 0:=ZG.of Kq0
theorem Zy0:ZG XX.P 97 1 1:=ZG.of Kq0
theorem ZyZ:ZG XX.P 97 2 2:=ZG.of Kq0
theorem ZlQ:ZG XX.P 97 3 3:=ZG.of Kq0
theorem ZyY:ZG XX.P 97 4 4:=ZG.of Kq0
theorem Uh:YL XX.P 3=some (.int .i64 0):=Kq0
theorem ZBI:YL XX.P 24=some (.slice none 0 0):=Kq0
theorem ZhK:YL XX.P 26=some (.agg #[.slice none 0 0,.slice none 0 0,.int .i64 0,.slice none 0 0]):=Kq0
theorem Ztt:YL XX.P 29=some (.agg #[.int .i64 0,.int .i64 0,.int .i64 0,.int .i64 0]):=Kq0
theorem ZBH:YL XX.P 32=some (.int .i64 0):=Kq0
theorem KT:YL XX.P 58=some (.agg #[.int .i64 0,.int .i64 0,.int .i64 0,.int .i64 0,.int .i64 0]):=Kq0
theorem ZoY:YL XX.P 59=some (.slice none 0 0):=Kq0
theorem QR:YL XX.P 61=some (.agg #[.int .i64 0,.bool false,.int .i64 0,.int .i64 0,.int .i64 0,.bool false]):=Kq0
theorem ZBG:YL XX.P 65=some (.agg #[.slice none 0 0,.slice none 0 0]):=Kq0
theorem ZBF:YL XX.P 73=some (.agg #[.int .i64 0,.int .i64 0]):=Kq0
theorem ZBE:YL XX.P 80=some (.agg #[.int .u8 0,.int .u8 0,.int .u8 0,.int .u8 0]):=Kq0
theorem ZBD:YL XX.P 91=some (.agg #[.int .i64 0,.int .i64 0,.int .i64 0,.int .i64 0]):=Kq0
theorem ZBC:YL XX.P 94=some (.pointer none):=Kq0
theorem Zts:YL XX.P 97=some (.agg #[.int .i64 0,.int .i64 0,.map none,.slice none 0 0,.slice none 0 0]):=Kq0
theorem ZxG:YL XX.P 110=some (.map none):=Kq0
theorem ZqN:YL XX.P 113=some (.agg #[.int .i64 0,.int .i64 0]):=Kq0
theorem ZcN:Zdr XX.P 26 [.slice none 0 0,.slice none 0 0,.int .i64 0,.slice none 0 0] [(0,1),(1,1),(2,1),(3,1)]:= ⟨_,_,ZhK,rfl,Try.underlying26,by kernel_rfl⟩
theorem ZH4:Zdr XX.P 29 [.int .i64 0,.int .i64 0,.int .i64 0,.int .i64 0] [(0,1),(1,1),(2,1),(3,1)]:= ⟨_,_,Ztt,rfl,Try.underlying29,by kernel_rfl⟩
theorem Zg6:Zdr XX.P 58 [.int .i64 0,.int .i64 0,.int .i64 0,.int .i64 0,.int .i64 0] [(0,1),(1,1),(2,1),(3,1),(4,1)]:= ⟨_,_,KT,rfl,Try.underlying58,by kernel_rfl⟩
theorem ZoD:Zdr XX.P 61 [.int .i64 0,.bool false,.int .i64 0,.int .i64 0,.int .i64 0,.bool false] [(0,1),(1,1),(2,1),(3,1),(4,1),(5,1)]:= ⟨_,_,QR,rfl,Try.underlying61,by kernel_rfl⟩
theorem ZBu:Zdr XX.P 97 [.int .i64 0,.int .i64 0,.map none,.slice none 0 0,.slice none 0 0] [(0,1),(1,1),(2,1),(3,1),(4,1)]:= ⟨_,_,Zts,rfl,Try.underlying97,by kernel_rfl⟩
theorem X8:ZrW XX.P 113 [.int .i64 0,.int .i64 0] 1:= ⟨_,_,_,ZqN,rfl,Try.underlying113,by kernel_rfl⟩
theorem Zw5:Zfz XX.P #[22,22] 1 24:= ⟨59,.slice none 0 0,by kernel_rfl⟩
theorem Wp:Zfz XX.P #[23,23] 5 40:= ⟨58,.agg #[.int .i64 0,.int .i64 0,.int .i64 0,.int .i64 0,.int .i64 0],by kernel_rfl⟩
theorem Kr:Zfz XX.P #[24,24] 1 8:= ⟨3,.int .i64 0,by kernel_rfl⟩
theorem Zac:Zfz XX.P #[59,59] 6 48:= ⟨61,.agg #[.int .i64 0,.bool false,.int .i64 0,.int .i64 0,.int .i64 0,.bool false],by kernel_rfl⟩
theorem ZHQ (x y:Zd):ZEr XX.P 58 (Zf.sh () x) (Zf.sh () y) (Zaw x y):=
 ⟨by kernel_rfl,Zk0 (d:=9999) (bs:= [x.kind==y.kind,x.ZH==y.ZH,x.name==y.name,x.via==y.via,x.w==y.w]) Try.underlying58 Kq0 ⟨⟨by decide,_,_,Yj Kq0 rfl,Yj Kq0 rfl,eq_int Kq0⟩,⟨by decide,_,_,Yj Kq0 rfl,Yj Kq0 rfl,eq_int Kq0⟩,⟨by decide,_,_,Yj Kq0 rfl,Yj Kq0 rfl,eq_int Kq0⟩,⟨by decide,_,_,Yj Kq0 rfl,Yj Kq0 rfl,eq_int Kq0⟩,⟨by decide,_,_,Yj Kq0 rfl,Yj Kq0 rfl,eq_int Kq0⟩,trivial⟩⟩
theorem ZBp (x y:Zb):ZEr XX.P 61 (Ze.sh () x) (Ze.sh () y) (JX x y):=
 ⟨by kernel_rfl,Zk0 (d:=9999) (bs:= [x.name==y.name,x.root==y.root,x.from_==y.from_,x.has==y.has,x.out==y.out,x.use==y.use]) Try.underlying61 Kq0 ⟨⟨by decide,_,_,Yj Kq0 rfl,Yj Kq0 rfl,eq_int Kq0⟩,⟨by decide,_,_,Yj Kq0 rfl,Yj Kq0 rfl,Zmf Kq0⟩,⟨by decide,_,_,Yj Kq0 rfl,Yj Kq0 rfl,eq_int Kq0⟩,⟨by decide,_,_,Yj Kq0 rfl,Yj Kq0 rfl,eq_int Kq0⟩,⟨by decide,_,_,Yj Kq0 rfl,Yj Kq0 rfl,eq_int Kq0⟩,⟨by decide,_,_,Yj Kq0 rfl,Yj Kq0 rfl,Zmf Kq0⟩,trivial⟩⟩
theorem Y7:ZbZ XX.P 113 Zo:=ZbZ.ZLM (et:=3) Kq0 Kq0 Kq0 (fun x=>x.e0) (fun x=>x.e1) (fun _=>rfl) (fun x y=>by cases x;cases y;simp)
theorem ZEc:Zed XX.P 59=some 24:=Kq0
theorem ZGC:(XX.fns.get 13).isSome=true:=Kq0
theorem ZA2:(XX.fns.get 14).isSome=true:=Kq0
theorem ZA1:(XX.fns.get 19).isSome=true:=Kq0
theorem ZA0:(XX.fns.get 20).isSome=true:=Kq0
theorem ZGB:(XX.fns.get 21).isSome=true:=Kq0
theorem ZGA:(XX.fns.get 22).isSome=true:=Kq0
theorem ZGz:(XX.fns.get 23).isSome=true:=Kq0
theorem ZGy:(XX.fns.get 24).isSome=true:=Kq0
theorem ZGx:(XX.fns.get 30).isSome=true:=Kq0
theorem Znz:(XX.fns.get 52).isSome=true:=Kq0
theorem Za5:(XX.fns.get 53).isSome=true:=Kq0
theorem ZAZ:(XX.fns.get 54).isSome=true:=Kq0
theorem ZGw:(XX.fns.get 55).isSome=true:=Kq0
theorem Zri:(XX.fns.get 56).isSome=true:=Kq0
theorem ZAY:(XX.fns.get 57).isSome=true:=Kq0
theorem ZGv:(XX.fns.get 58).isSome=true:=Kq0
theorem ZGu:(XX.fns.get 59).isSome=true:=Kq0
theorem ZGt:(XX.fns.get 60).isSome=true:=Kq0
theorem ZuZ:(XX.fns.get 61).isSome=true:=Kq0
theorem ZGs:(XX.fns.get 62).isSome=true:=Kq0
theorem ZGr:(XX.fns.get 63).isSome=true:=Kq0
theorem ZGq:(XX.fns.get 64).isSome=true:=Kq0
theorem ZuY:(XX.fns.get 65).isSome=true:=Kq0
theorem ZAX:(XX.fns.get 66).isSome=true:=Kq0
theorem ZAW:(XX.fns.get 67).isSome=true:=Kq0
theorem ZAV:(XX.fns.get 68).isSome=true:=Kq0
theorem ZuX:(XX.fns.get 69).isSome=true:=Kq0
theorem ZGp:(XX.fns.get 70).isSome=true:=Kq0
theorem ZuW:(XX.fns.get 71).isSome=true:=Kq0
theorem ZdF:(XX.fns.get 72).isSome=true:=Kq0
theorem ZGo:(XX.fns.get 75).isSome=true:=Kq0
theorem ZAU:(XX.fns.get 86).isSome=true:=Kq0
theorem ZAT:(XX.fns.get 87).isSome=true:=Kq0
theorem ZGn:(XX.fns.get 88).isSome=true:=Kq0
theorem ZuV:(XX.fns.get 89).isSome=true:=Kq0
theorem ZGm:(XX.fns.get 90).isSome=true:=Kq0
theorem ZGl:(XX.fns.get 91).isSome=true:=Kq0
theorem Zrh:(XX.fns.get 92).isSome=true:=Kq0
theorem ZGk:(XX.fns.get 94).isSome=true:=Kq0
theorem ZAS:(XX.fns.get 95).isSome=true:=Kq0
theorem ZGj:(XX.fns.get 96).isSome=true:=Kq0
theorem ZGi:(XX.fns.get 97).isSome=true:=Kq0
theorem ZGh:(XX.fns.get 98).isSome=true:=Kq0
theorem ZGg:(XX.fns.get 99).isSome=true:=Kq0
theorem Zu7:(XX.fns.get 100).isSome=true:=Kq0
theorem ZCW:(XX.fns.get 101).isSome=true:=Kq0
theorem ZCV:(XX.fns.get 102).isSome=true:=Kq0
theorem ZlM:(XX.fns.get 103).isSome=true:=Kq0
theorem Ziv:(XX.fns.get 104).isSome=true:=Kq0
theorem Zu6:(XX.fns.get 105).isSome=true:=Kq0
theorem ZpT:(XX.fns.get 106).isSome=true:=Kq0
theorem ZCU:(XX.fns.get 107).isSome=true:=Kq0
theorem ZCT:(XX.fns.get 108).isSome=true:=Kq0
theorem ZpS:(XX.fns.get 109).isSome=true:=Kq0
theorem ZpR:(XX.fns.get 110).isSome=true:=Kq0
theorem ZCS:(XX.fns.get 112).isSome=true:=Kq0
theorem ZCR:(XX.fns.get 113).isSome=true:=Kq0
theorem ZCQ:(XX.fns.get 114).isSome=true:=Kq0
theorem Zu5:(XX.fns.get 115).isSome=true:=Kq0
theorem ZCP:(XX.fns.get 116).isSome=true:=Kq0
theorem ZlL:(XX.fns.get 117).isSome=true:=Kq0
theorem ZCO:(XX.fns.get 118).isSome=true:=Kq0
theorem Zu4:(XX.fns.get 119).isSome=true:=Kq0
theorem ZCN:(XX.fns.get 120).isSome=true:=Kq0
theorem Zu3:(XX.fns.get 121).isSome=true:=Kq0
theorem Zu2:(XX.fns.get 122).isSome=true:=Kq0
theorem ZCM:(XX.fns.get 123).isSome=true:=Kq0
theorem ZpQ:(XX.fns.get 124).isSome=true:=Kq0
theorem ZCL:(XX.fns.get 125).isSome=true:=Kq0
theorem ZCK:(XX.fns.get 126).isSome=true:=Kq0
theorem ZCJ:(XX.fns.get 127).isSome=true:=Kq0
theorem ZCI:(XX.fns.get 128).isSome=true:=Kq0
theorem ZpP:(XX.fns.get 133).isSome=true:=Kq0
theorem Zu1:(XX.fns.get 138).isSome=true:=Kq0
theorem Zu0:(XX.fns.get 143).isSome=true:=Kq0
end Go.Proofs.Ytekpjgmhkkjhgaa
end
end
section
noncomputable section
namespace Go.YD
open Go.Lf
class Zep (P:Program) (t:TypeId):Prop where
 out:Yq P t=some false
class Zki (P:Program) (t:TypeId):Prop where
 out:Yq P t=some true
class SzF (P:Program) (t:TypeId) (n:outParam Nat):Prop where
 out:Z7 P t=some n
class J3 (P:Program) (t:TypeId) (f:Nat) (o:outParam Nat):Prop where
 out:ZG P t f o
class Zkf (P:Program) (t:TypeId) (e:outParam TypeId):Prop where
 out:P.underlying t=some (.slice e)
class ZEu (P:Program) (t:TypeId):Prop where
 out:P.underlying t=some .bool
class ZcV (P:Program) (t:TypeId) (v:outParam Value):Prop where
 out:YL P t=some v
theorem ia {v:Value} (h:QW v=false):QW v=false:=h
theorem Zah {fr:Fr} {t:Nat} {c:Bool} {v:Value} (h:fr.at t=cond c v undef) (ha:QW v=false) (hc:c=true):Z4 fr (.tmp t)=some v:=YA h ha hc
section
variable {X:Ctx} {h:H} {fr:Fr} {ty:TypeId} {p':String} {af:Array Edge} {g:Option (Nat×Bool)} {d:Option Tmp} {wm:Nat} {T:Nat ->Prop} {h0:H} {G Gr:List (Ast wm)}
theorem ZH9 {x:Operand} {t:TypeId} {f off b o:Nat} [hf:J3 X.P t f off] (hx:Z4 fr x=some (.pointer (some ⟨b,o,none⟩))):Xz X h (Z4 fr) ⟨d,.fieldAddr t x f,ty,p',af,g⟩=some (.val (.pointer (some ⟨b,o + off,none⟩)),.none):=XP hf.out hx
theorem ZLC {x:Operand} {t:TypeId} {b oo:Nat} {vs:List Value} {v:Value} [ht:Zep X.P t] (hx:Z4 fr x=some (.pointer (some ⟨b,oo,none⟩))) (hS:Sp wm T h0 G h) (pp:Pk G (bx wm b vs) Gr) (hv:vs[oo]? =some v):
 Xz X h (Z4 fr) ⟨d,.load t x,ty,p',af,g⟩=some (.val v,.none):=ZE ht.out hx (hS.Qm pp) (Nat.zero_add _).symm hv
theorem ZH8 {x:Operand} {t:TypeId} {b oo sz:Nat} {vs ws:List Value} [ht:Zki X.P t] [hs:SzF X.P t sz] (hx:Z4 fr x=some (.pointer (some ⟨b,oo,none⟩))) (hS:Sp wm T h0 G h) (pp:Pk G (bx wm b vs) Gr) (hj:Nat.ble (oo + sz) vs.length=true) (hv:(vs.drop oo).take sz=ws):
 Xz X h (Z4 fr) ⟨d,.load t x,ty,p',af,g⟩=some (.val (.agg ws.toArray),.none):=XG ht.out hs.out hx (hS.Qm pp) (Nat.zero_add _).symm hj hv
theorem ZIa {dd:Tmp} {x:Operand} {t:TypeId} {v:Value} {vs:List Value} (hx:Z4 fr x=some v) (hS:Sp wm T h0 G h) (hv:v.cells.toList=vs):
 HN X wm ⟨some dd,.box t x,ty,p',af,g⟩ fr h (fun v h'=>∃ b,h.size=b∧v= .pointer (some ⟨b,0,none⟩)∧Sp wm T h0 (bx wm b vs::G) h'):=ZqV hS hx hv
theorem ZIb {dd:Tmp} {t:TypeId} {v:Value} {vs:List Value} [hz:ZcV X.P t v] (hS:Sp wm T h0 G h) (hv:v.cells.toList=vs):
 HN X wm ⟨some dd,.alloc t,ty,p',af,g⟩ fr h (fun v h'=>∃ b,h.size=b∧v= .pointer (some ⟨b,0,none⟩)∧Sp wm T h0 (bx wm b vs::G) h'):=ZgP hS hz.out hv
theorem ZLB {x y:Operand} {t:TypeId} {b o sz:Nat} {cs cs' vs:List Value} {v:Value} [hs:SzF X.P t sz] (hx:Z4 fr x=some (.pointer (some ⟨b,o,none⟩))) (hS:Sp wm T h0 G h) (pk:Pk G (bx wm b cs) Gr) (hy:Z4 fr y=some v)
 (hvs:v.cells.toList=vs) (hn:Nat.beq vs.length sz=true) (hl:Nat.ble (o + sz) cs.length=true) (hc:vs.all Value.oneCell'=true) (hv:splice cs o vs=cs'):
 HU X wm ⟨none,.store t x y,ty,p',af,g⟩ fr h (fun i=>i=b) (fun h'=>Sp wm T h0 (bx wm b cs'::Gr) h'):=Zbq hS pk hs.out hx hy hvs hn hl hc hv
theorem ZH7 {x:Operand} {t e':TypeId} {a:Option Addr} {mm cc dd:Nat} [hu:Zkf X.P t e'] (hx:Z4 fr x=some (.slice a mm cc)):
 Xz X h (Z4 fr) ⟨some dd,.call {callee:= .builtin .len,args:=#[x],argTypes:=#[t]},ty,p',af,g⟩=some (.val (.int .i64 (mm:Int)),.none):=Zmt hu.out hx rfl
end
section
variable {X:Ctx} {n wm:Nat} {rd:Option Nat} {ops:Array Oper} {l:List Oper} {fr:Fr} {ds:List Deferred} {h:H} {ty:TypeId} {p:String} {af:Array Edge} {g:Option (Nat×Bool)} {sf:ST} {m:Nat}
theorem WX.w2 {Q:Fr ->H ->Prop} {d:Nat} {op:Op} {v:Value} (hg:ZY ops ⟨some d,op,ty,p,af,g⟩ fr) (hd:Nat.blt d n=true) (hM:okM ops sf m ⟨some d,op,ty,p,af,g⟩=true) (ha:Xz X h (Z4 fr) ⟨some d,op,ty,p,af,g⟩=some (.val v,.none)) (k:WX X n wm rd ops sf (m + 1) h l (Tr.set fr d v) Q):
 WX X n wm rd ops sf m h (⟨some d,op,ty,p,af,g⟩::l) fr Q:=WX.w hg hd ha k hM
theorem WX.gv2 {Q:Fr ->H ->Prop} {d:Nat} {op:Op} {c:Bool} {v:Value} (hg:Zh ops ⟨some d,op,ty,p,af,g⟩ fr c) (hd:Nat.blt d n=true) (hM:okM ops sf m ⟨some d,op,ty,p,af,g⟩=true) (ha:c=true ->Xz X h (Z4 fr) ⟨some d,op,ty,p,af,g⟩=some (.val v,.none)) (k:WX X n wm rd ops sf (m + 1) h l (Tr.set fr d (cond c v undef)) Q):
 WX X n wm rd ops sf m h (⟨some d,op,ty,p,af,g⟩::l) fr Q:=WX.gv hg hd ha k hM
end
structure Kp (q:Prop):Prop where
 out:q
section
variable {X:Ctx} {n wm:Nat} {rd:Option Nat} {Q:XX ->Fs ->Prop}
theorem E0 {p:Prop}(h:p:=by(focus (repeat (first | with_reducible exact fh | ((with_reducible apply Ya);exact rfl) | ((with_reducible apply Ye);exact rfl) | ((with_reducible apply ZV);exact rfl) | ((with_reducible apply Zi);exact rfl) | with_reducible assumption));first|done|fail)):p:=h
theorem cn {c:Operand} {a b:Code} {t:Bool} {fr:Fr} {ds:List Deferred} {h:H} {α:Type} {x y r:α} (hL:(bif t then x else y)=r) (h1:t=true ->x=r ->WC X n wm rd a ⟨fr,ds,h,none⟩ Q) (h2:t=false ->y=r ->WC X n wm rd b ⟨fr,ds,h,none⟩ Q) (hc:Z4 fr c=some (.bool t):=by(first | exact JJ rfl | (apply ZC;exact E0;(first | exact ia rfl | assumption)) | (apply Zah;exact E0;(first | exact ia rfl | assumption);assumption) | fail)):WC X n wm rd (.cond c a b) ⟨fr,ds,h,none⟩ Q:=
 WC.Zox hc (fun e=>h1 e (Wm e hL)) (fun e=>h2 e (Wn e hL))
theorem rt {fn:Func} {fr:Fr} {h h0:H} {T:Nat ->Prop} {G G':List (Ast wm)} {wr:Option Nat} {t:Tmp} {β:Type} {x r:β} {g:β ->Value} (hL:some x=some r) (hT:T=XL G) (hS:Sp wm T h0 G' h) (hr:fn.results.toList= [.tmp t]:=by exact rfl) (hv:Z4 fr (.tmp t)=some (g x):=by(first | exact JJ rfl | (apply ZC;exact E0;(first | exact ia rfl | assumption)) | (apply Zah;exact E0;(first | exact ia rfl | assumption);assumption) | fail)):
 ZX X fn (fun e h'=>∃ v,e= .ret v∧CP (fun v Gb=>v=g r∧Gb= []) G h0 v h') .ret ⟨fr,[],h,wr⟩:=by
 cases hL;exact ZX.Qz hr (ZF hv Zu) ⟨_,⟨rfl,rfl⟩,hT ▸ hS.only .n⟩
theorem bg {f:FuncId} {fn:Func} {c:Code} {args:List Value} {n:Nat} {K:Value ->List (Ast wm) ->Prop} {G:List (Ast wm)} {h:H} {fr:Fr} (hnt:fn.ntmps=n) (ZK:wm <=h.size) (hO:ZT G h)
 (k:∀ T,T=XL (wm:=wm) G ->Sp wm T h G h ->WC X n wm none c ⟨fr,[],h,none⟩ (ZX X fn (fun e h'=>∃ v,e= .ret v∧CP K G h v h'))) (hf:X.fns.get f=some fn:=by kernel_rfl) (hb:fn.body=some c:=by exact rfl) (hn:args.length <=n:=by simp)
 (hfr:XV args 0 .nil=fr:=by(simp only [ZQ,ZW,Nat.reduceAdd];exact rfl)):WR X f args.toArray wm h (CP K G h):=by
 subst hfr;exact WF.begin hf hb hnt hn (k _ rfl (Sp.start ZK hO))
end
theorem lk {p:Prop} (h:p:=by(first | exact JJ rfl | (apply ZC;exact E0;(first | exact ia rfl | assumption)) | (apply Zah;exact E0;(first | exact ia rfl | assumption);assumption) | fail)):p:=h
theorem lks {p:Prop} (h:p:=by
 repeat (first | exact Zj | (apply Zc;(focus (first | exact JJ rfl | (apply ZC;exact E0;(first | exact ia rfl | assumption)) | (apply Zah;exact E0;(first | exact ia rfl | assumption);assumption) | fail);done)))
 done):p:=h
theorem Yy {p:Prop} (h:p:=by
 repeat (first | with_reducible exact fh | ((with_reducible apply Ya);exact rfl) | ((with_reducible apply Ye);exact rfl) | ((with_reducible apply ZV);exact rfl) | ((with_reducible apply Zi);exact rfl) | with_reducible assumption | refine⟨?_,?_⟩)
 done):p:=h
theorem r1 {p q:Prop} (k:q) (h:Kp q ->p:=by
 intro k
 first
 | refine WO.nil ?_
 | refine QM.Yp ?_
 | refine WC.seq ?_
 | refine WC.region ?_
 | ((first | apply WO.w gN rfl | (apply WO.gv;(focus (first | (apply Zh.yes rfl rfl rfl;exact E0) | (apply Zh.no rfl rfl rfl;exact E0) | (apply Zh.Zae rfl rfl rfl;exact E0) | (apply Zh.no2 rfl rfl rfl;exact E0) | fail);done);rfl;intro hg) | (apply WX.w2 gN;rfl;rfl) | (apply WX.gv2;(focus (first | (apply Zh.yes rfl rfl rfl;exact E0) | (apply Zh.no rfl rfl rfl;exact E0) | (apply Zh.Zae rfl rfl rfl;exact E0) | (apply Zh.no2 rfl rfl rfl;exact E0) | fail);done);rfl;rfl;intro hg));(focus (first
   | ((with_reducible apply YU);(first | exact JJ rfl | (apply ZC;exact E0;(first | exact ia rfl | assumption)) | (apply Zah;exact E0;(first | exact ia rfl | assumption);assumption) | fail))
   | ((with_reducible apply ZLC);(focus (first | exact JJ rfl | (apply ZC;exact E0;(first | exact ia rfl | assumption)) | (apply Zah;exact E0;(first | exact ia rfl | assumption);assumption) | fail);done);assumption;(focus (first | exact k0 | exact k1 | exact k2 | exact k3 | exact k4 | exact k5 | exact k6 | exact k7 | (repeat (first | exact k7 | apply Pk.s)));done);rfl)
   | ((with_reducible apply ZH9);(first | exact JJ rfl | (apply ZC;exact E0;(first | exact ia rfl | assumption)) | (apply Zah;exact E0;(first | exact ia rfl | assumption);assumption) | fail))
   | ((with_reducible apply Yz);(first | exact JJ rfl | (apply ZC;exact E0;(first | exact ia rfl | assumption)) | (apply Zah;exact E0;(first | exact ia rfl | assumption);assumption) | fail))
   | ((with_reducible apply Y6);(focus (first | exact JJ rfl | (apply ZC;exact E0;(first | exact ia rfl | assumption)) | (apply Zah;exact E0;(first | exact ia rfl | assumption);assumption) | fail);done);(focus (first | exact JJ rfl | (apply ZC;exact E0;(first | exact ia rfl | assumption)) | (apply Zah;exact E0;(first | exact ia rfl | assumption);assumption) | fail);done);(first | with_reducible exact Ztf | with_reducible exact J2 | with_reducible exact ZcU | with_reducible exact Zjz | with_reducible exact Zta | with_reducible exact Zxn | with_reducible exact Wu | with_reducible exact Zxm | with_reducible exact Ztd | with_reducible exact Zte ZEu.out | with_reducible exact Ztc ZEu.out))
   | ((with_reducible apply ZH8);(focus (first | exact JJ rfl | (apply ZC;exact E0;(first | exact ia rfl | assumption)) | (apply Zah;exact E0;(first | exact ia rfl | assumption);assumption) | fail);done);assumption;(focus (first | exact k0 | exact k1 | exact k2 | exact k3 | exact k4 | exact k5 | exact k6 | exact k7 | (repeat (first | exact k7 | apply Pk.s)));done);rfl;(focus simp only [Nat.zero_add,Nat.reduceAdd,List.drop_succ_cons,List.drop_zero,List.take_succ_cons,List.take_zero,List.take_nil];rfl))
   | ((with_reducible apply ZH7);(first | exact JJ rfl | (apply ZC;exact E0;(first | exact ia rfl | assumption)) | (apply Zah;exact E0;(first | exact ia rfl | assumption);assumption) | fail))
   | ((with_reducible apply WV);(focus (first | exact JJ rfl | (apply ZC;exact E0;(first | exact ia rfl | assumption)) | (apply Zah;exact E0;(first | exact ia rfl | assumption);assumption) | fail);done);rfl)
   | ((with_reducible apply Zms);(first | exact JJ rfl | (apply ZC;exact E0;(first | exact ia rfl | assumption)) | (apply Zah;exact E0;(first | exact ia rfl | assumption);assumption) | fail))
   | ((with_reducible apply Zqs);(first | exact JJ rfl | (apply ZC;exact E0;(first | exact ia rfl | assumption)) | (apply Zah;exact E0;(first | exact ia rfl | assumption);assumption) | fail))
   | ((with_reducible apply XQ);(focus (first | exact JJ rfl | (apply ZC;exact E0;(first | exact ia rfl | assumption)) | (apply Zah;exact E0;(first | exact ia rfl | assumption);assumption) | fail);done);(focus (apply ZcI;exact E0);done);(first | exact JJ rfl | (apply ZC;exact E0;(first | exact ia rfl | assumption)) | (apply Zah;exact E0;(first | exact ia rfl | assumption);assumption) | fail))
   | ((with_reducible apply ZBw);(focus (first | exact JJ rfl | (apply ZC;exact E0;(first | exact ia rfl | assumption)) | (apply Zah;exact E0;(first | exact ia rfl | assumption);assumption) | fail);done);(focus (first | exact JJ rfl | (apply ZC;exact E0;(first | exact ia rfl | assumption)) | (apply Zah;exact E0;(first | exact ia rfl | assumption);assumption) | fail);done);(apply ZcI;exact E0))
   | fail)))
 | (apply WO.hu gN;(focus (first | (((with_reducible apply ZLB));(focus (first | exact JJ rfl | (apply ZC;exact E0;(first | exact ia rfl | assumption)) | (apply Zah;exact E0;(first | exact ia rfl | assumption);assumption) | fail);done);assumption;(focus (first | exact k0 | exact k1 | exact k2 | exact k3 | exact k4 | exact k5 | exact k6 | exact k7 | (repeat (first | exact k7 | apply Pk.s)));done);(focus (first | exact JJ rfl | (apply ZC;exact E0;(first | exact ia rfl | assumption)) | (apply Zah;exact E0;(first | exact ia rfl | assumption);assumption) | fail);done);(focus (first | (simp only [ZgC,Zec,ZcL,ZgA,ZgB,ZgE,ZbP,cells_func,ZaL,K8,ZcM];exact rfl) | exact rfl));exact rfl;exact rfl;exact rfl;(focus simp only [splice,List.take_succ_cons,List.take_zero,List.drop_succ_cons,List.drop_zero,List.cons_append,List.nil_append,List.append_nil,List.length_cons,List.length_nil,Nat.reduceAdd,Nat.zero_add,List.take_nil,List.drop_nil];exact rfl)) | fail)))
 | (apply WO.hn gN rfl;(focus (first | (((with_reducible apply ZIa));(focus (first | exact JJ rfl | (apply ZC;exact E0;(first | exact ia rfl | assumption)) | (apply Zah;exact E0;(first | exact ia rfl | assumption);assumption) | fail);done);assumption;(focus (first | (simp only [ZgC,Zec,ZcL,ZgA,ZgB,ZgE,ZbP,cells_func,ZaL,K8,ZcM];exact rfl) | exact rfl))) | (((with_reducible apply ZIb));assumption;(focus (first | (simp only [ZgC,Zec,ZcL,ZgA,ZgB,ZgE,ZbP,cells_func,ZaL,K8,ZcM];exact rfl) | exact rfl))) | fail)))
 | refine WC.skip ?_
 | refine WC.ret ?_
 | refine WC.block ?_
 | refine WC.exit ?_
 | refine QM.ret ?_
 | refine QM.exit ?_
 | refine Wx.ret ?_
 | refine Wx.Yp ?_
 | refine Wx.here ?_
 | refine Yc.exit ?_
 | refine Yc.ret ?_
 | refine WX.nil ?_
 | fail
 exact k.out):p:=h ⟨k⟩
theorem r2 {p q:Prop} (k:q) (h:Kp q ->p:=by
 intro k
 iterate 2 (refine r1 ?_)
 exact k.out):p:=h ⟨k⟩
theorem r3 {p q:Prop} (k:q) (h:Kp q ->p:=by
 intro k
 iterate 3 (refine r1 ?_)
 exact k.out):p:=h ⟨k⟩
theorem r4 {p q:Prop} (k:q) (h:Kp q ->p:=by
 intro k
 iterate 4 (refine r1 ?_)
 exact k.out):p:=h ⟨k⟩
theorem r6 {p q:Prop} (k:q) (h:Kp q ->p:=by
 intro k
 iterate 6 (refine r1 ?_)
 exact k.out):p:=h ⟨k⟩
theorem r8 {p q:Prop} (k:q) (h:Kp q ->p:=by
 intro k
 iterate 8 (refine r1 ?_)
 exact k.out):p:=h ⟨k⟩
theorem QC {p q:Prop} (k:q) (h:Kp q ->p:=by
 intro k
 iterate 12 (refine r1 ?_)
 exact k.out):p:=h ⟨k⟩
theorem r16 {p q:Prop} (k:q) (h:Kp q ->p:=by
 intro k
 iterate 16 (refine r1 ?_)
 exact k.out):p:=h ⟨k⟩
end Go.YD
end
end
section
noncomputable section
namespace Go.Proofs.Ytekpjgmhkkjhgaa
open Go.YD Go.Lf
instance:Zep XX.P 3:= ⟨YW⟩
instance:Zep XX.P 4:= ⟨Zz5⟩
instance:Zep XX.P 5:= ⟨ZLN⟩
instance:Zep XX.P 22:= ⟨Zxh⟩
instance:Zep XX.P 23:= ⟨ZoR⟩
instance:Zep XX.P 24:= ⟨Zxg⟩
instance:Zki XX.P 26:= ⟨XE⟩
instance:Zep XX.P 27:= ⟨Zxf⟩
instance:Zki XX.P 29:= ⟨ZoQ⟩
instance:Zep XX.P 32:= ⟨Zxe⟩
instance:Zep XX.P 56:= ⟨ZIk⟩
instance:Zki XX.P 58:= ⟨Zbj⟩
instance:Zep XX.P 59:= ⟨Xl⟩
instance:Zki XX.P 61:= ⟨Zaz⟩
instance:Zep XX.P 63:= ⟨ZIj⟩
instance:Zki XX.P 65:= ⟨ZIi⟩
instance:Zki XX.P 73:= ⟨ZIh⟩
instance:Zki XX.P 80:= ⟨ZIg⟩
instance:Zki XX.P 91:= ⟨ZIf⟩
instance:Zep XX.P 94:= ⟨Zxd⟩
instance:Zep XX.P 95:= ⟨Zg8⟩
instance:Zep XX.P 110:= ⟨ZmA⟩
instance:Zki XX.P 113:= ⟨ZEj⟩
instance:SzF XX.P 3 1:= ⟨YB⟩
instance:SzF XX.P 4 1:= ⟨ZqS⟩
instance:SzF XX.P 5 1:= ⟨ZE5⟩
instance:SzF XX.P 22 1:= ⟨ZB1⟩
instance:SzF XX.P 23 1:= ⟨Zpb⟩
instance:SzF XX.P 24 1:= ⟨ZB0⟩
instance:SzF XX.P 26 4:= ⟨YC⟩
instance:SzF XX.P 29 4:= ⟨Zbp⟩
instance:SzF XX.P 32 1:= ⟨ZBZ⟩
instance:SzF XX.P 58 5:= ⟨YN⟩
instance:SzF XX.P 59 1:= ⟨Yb⟩
instance:SzF XX.P 61 6:= ⟨Z0⟩
instance:SzF XX.P 63 1:= ⟨ZBY⟩
instance:SzF XX.P 65 2:= ⟨ZBX⟩
instance:SzF XX.P 73 2:= ⟨ZBW⟩
instance:SzF XX.P 80 4:= ⟨ZBV⟩
instance:SzF XX.P 91 4:= ⟨ZBU⟩
instance:SzF XX.P 94 1:= ⟨ZBT⟩
instance:SzF XX.P 110 1:= ⟨Zli⟩
instance:SzF XX.P 113 2:= ⟨ZxU⟩
instance:J3 XX.P 26 0 0:= ⟨Zzn⟩
instance:J3 XX.P 26 1 1:= ⟨Zzm⟩
instance:J3 XX.P 26 2 2:= ⟨Zzl⟩
instance:J3 XX.P 26 3 3:= ⟨Zzk⟩
instance:J3 XX.P 29 0 0:= ⟨ZlS⟩
instance:J3 XX.P 29 1 1:= ⟨ZbK⟩
instance:J3 XX.P 29 2 2:= ⟨Zdc⟩
instance:J3 XX.P 29 3 3:= ⟨ZbJ⟩
instance:J3 XX.P 58 0 0:= ⟨Zzj⟩
instance:J3 XX.P 58 1 1:= ⟨Zzi⟩
instance:J3 XX.P 58 2 2:= ⟨Zzh⟩
instance:J3 XX.P 58 3 3:= ⟨Zzg⟩
instance:J3 XX.P 58 4 4:= ⟨Zrq⟩
instance:J3 XX.P 61 0 0:= ⟨Zzf⟩
instance:J3 XX.P 61 1 1:= ⟨Zze⟩
instance:J3 XX.P 61 2 2:= ⟨Zrp⟩
instance:J3 XX.P 61 3 3:= ⟨ZlR⟩
instance:J3 XX.P 61 4 4:= ⟨Zzd⟩
instance:J3 XX.P 61 5 5:= ⟨Zzc⟩
instance:J3 XX.P 65 0 0:= ⟨Zzb⟩
instance:J3 XX.P 65 1 1:= ⟨Zza⟩
instance:J3 XX.P 73 0 0:= ⟨Zy9⟩
instance:J3 XX.P 73 1 1:= ⟨Zy8⟩
instance:J3 XX.P 80 0 0:= ⟨Zy7⟩
instance:J3 XX.P 80 1 1:= ⟨Zy6⟩
instance:J3 XX.P 80 2 2:= ⟨Zy5⟩
instance:J3 XX.P 80 3 3:= ⟨Zy4⟩
instance:J3 XX.P 91 2 2:= ⟨Zy3⟩
instance:J3 XX.P 91 3 3:= ⟨Zy2⟩
instance:J3 XX.P 97 0 0:= ⟨Zy1⟩
instance:J3 XX.P 97 1 1:= ⟨Zy0⟩
instance:J3 XX.P 97 2 2:= ⟨ZyZ⟩
instance:J3 XX.P 97 3 3:= ⟨ZlQ⟩
instance:J3 XX.P 97 4 4:= ⟨ZyY⟩
instance:Zkf XX.P 22 59:= ⟨YZ⟩
instance:Zkf XX.P 23 58:= ⟨QJ⟩
instance:Zkf XX.P 24 3:= ⟨Xo⟩
instance:Zkf XX.P 38 29:= ⟨ZmR⟩
instance:Zkf XX.P 43 91:= ⟨ZE0⟩
instance:Zkf XX.P 59 61:= ⟨Xg⟩
instance:Zkf XX.P 62 80:= ⟨ZEZ⟩
instance:Zkf XX.P 63 73:= ⟨ZEY⟩
instance:Zkf XX.P 69 5:= ⟨ZEX⟩
instance:ZEu XX.P 4:= ⟨ZIZ⟩
instance:ZcV XX.P 3 (.int .i64 0):= ⟨Uh⟩
instance:ZcV XX.P 24 (.slice none 0 0):= ⟨ZBI⟩
instance:ZcV XX.P 26 (.agg #[.slice none 0 0,.slice none 0 0,.int .i64 0,.slice none 0 0]):= ⟨ZhK⟩
instance:ZcV XX.P 29 (.agg #[.int .i64 0,.int .i64 0,.int .i64 0,.int .i64 0]):= ⟨Ztt⟩
instance:ZcV XX.P 32 (.int .i64 0):= ⟨ZBH⟩
instance:ZcV XX.P 58 (.agg #[.int .i64 0,.int .i64 0,.int .i64 0,.int .i64 0,.int .i64 0]):= ⟨KT⟩
instance:ZcV XX.P 59 (.slice none 0 0):= ⟨ZoY⟩
instance:ZcV XX.P 61 (.agg #[.int .i64 0,.bool false,.int .i64 0,.int .i64 0,.int .i64 0,.bool false]):= ⟨QR⟩
instance:ZcV XX.P 65 (.agg #[.slice none 0 0,.slice none 0 0]):= ⟨ZBG⟩
instance:ZcV XX.P 73 (.agg #[.int .i64 0,.int .i64 0]):= ⟨ZBF⟩
instance:ZcV XX.P 80 (.agg #[.int .u8 0,.int .u8 0,.int .u8 0,.int .u8 0]):= ⟨ZBE⟩
instance:ZcV XX.P 91 (.agg #[.int .i64 0,.int .i64 0,.int .i64 0,.int .i64 0]):= ⟨ZBD⟩
instance:ZcV XX.P 94 (.pointer none):= ⟨ZBC⟩
instance:ZcV XX.P 97 (.agg #[.int .i64 0,.int .i64 0,.map none,.slice none 0 0,.slice none 0 0]):= ⟨Zts⟩
instance:ZcV XX.P 110 (.map none):= ⟨ZxG⟩
instance:ZcV XX.P 113 (.agg #[.int .i64 0,.int .i64 0]):= ⟨ZqN⟩
end Go.Proofs.Ytekpjgmhkkjhgaa
end
end
section
namespace Go.Proofs.Ytekpjgmhkkjhgaa
open Go.Lf
def Zja (p0:Za):Int ->(Int ->Option Bool) ->Option Bool:=fun v6 ZdE=>
 (bif decide (v6 < (p0.cells.length:Int)) then(ZM p0.cells v6).bind fun x9=>(bif decide ((x9.length:Int) > 30) then some true else ZdE (ZP (v6 + 1))) else some false)
def ZwC (F:Nat) (p0:Za):Option Bool:=
 (bif(((decide ((p0.cells.length:Int) > 10)) || (decide ((p0.notes.length:Int) > 100))) || (decide ((p0.freed.length:Int) > 30))) then some true else loop F (Zja p0) 0)
def Zi4 (p0:(List Int)) (p1:(List Int)):Int ->(Int ->Option Bool) ->Option Bool:=fun v5 Zm8=>
 (bif decide (v5 < (p0.length:Int)) then(ZM p0 v5).bind fun x8=>(ZM p1 v5).bind fun UU=>(bif(x8 !=UU) then some false else Zm8 (ZP (v5 + 1))) else some true)
def ZsK (F:Nat) (p0:(List Int)) (p1:(List Int)):Option Bool:=
 (bif((p0.length:Int) != (p1.length:Int)) then some false else loop F (Zi4 p0 p1) 0)
end Go.Proofs.Ytekpjgmhkkjhgaa
end
section
set_option maxRecDepth 20000
noncomputable section
namespace Go.Proofs.Ytekpjgmhkkjhgaa
open Go.YD Go.Lf
theorem ZDW {F wm:Nat} {h:H} {p0:Za} {Zr:Option Addr} {Zq:Nat} {Zn:Option Addr} {Zm:Nat} {Zl:Option Addr} {Zk:Nat} {r:Bool} (ZK:wm <=h.size) (Zw:Sl (rSl Ze) wm h Zr Zq p0.cells) (ZA:Sl Zf wm h Zn Zm p0.notes) (Zy:Sl (Zz .i64) wm h Zl Zk p0.freed) (hL:ZwC F p0=some r):
 WR XX 13 #[.agg [.slice Zr p0.cells.length Zq,.slice Zn p0.notes.length Zm,.int .i64 p0.names,.slice Zl p0.freed.length Zk].toArray] wm h (CP (fun(v:Value) (Gb:List (Ast wm))=>v= .bool r∧Gb= []) [] h):=by
 refine bg Try.ntmps13 ZK ZT.nil ?_;intro T hT hS;unfold ZwC at hL;refine r3 ?_;rintro _ h2 ⟨b1,eb1,rfl,hS⟩;refine r16 ?_;refine r8 ?_;refine cn hL ?_ ?_
 ·intro hc hL;refine r6 ?_;refine r1 ?_;exact rt hL hT hS
 ·intro hc hL;refine r8 ?_;refine r1 ?_;refine WC.loop (WL.lift hL (fun(v6:Int) (s:Fs)=>∃ (UA:Fr) (h3:H),s= ⟨UA,[],h3,none⟩∧Sp wm T h [bx wm b1 [.slice Zr p0.cells.length Zq,.slice Zn p0.notes.length Zm,.int .i64 p0.names,.slice Zl p0.freed.length Zk]] h3∧UA.at 1= .pointer (some ⟨b1,0,none⟩)∧UA.at 3= .int .i64 v6) ⟨_,_,rfl,hS.only (.c k0 .n),Yy⟩ ?_);clear hL hS;rintro ZdE v6 s Zis hL ⟨UA,h3,rfl,hS,e5,e7⟩;dsimp only [Zja] at hL;refine r8 ?_;refine r2 ?_;refine cn hL ?_ ?_
  ·intro hc hL;refine r8 ?_;refine r1 ?_;obtain⟨x9,hx9,hL⟩:=bind_some hL;obtain⟨b10,o11,⟨a12,c13⟩,ZnF,ZnT,ZnJ,Zrm⟩:=Sl.at_ Zw hx9;refine WO.w gN rfl (Zx YZ Yb lk lk rfl ZnF hx9) ?_;have ZAI:Sl Ze wm h a12 c13 x9:=Zrm;refine WO.w gN rfl (ZE Xl (ZC fh rfl) (At.fz hS.fz ZnJ ZnT) (j:=0) rfl (v:= .slice a12 x9.length c13) rfl) ?_;refine r4 ?_;refine cn hL ?_ ?_
   ·intro hc hL;refine r8 ?_;refine r3 ?_;exact rt hL hT hS
   ·intro hc hL;refine r8 ?_;exact Yc.Yp (Zis _ _ hL ⟨_,_,rfl,hS.only (.c k0 .n),Yy⟩)
  ·intro hc hL;refine r8 ?_;refine r3 ?_;exact rt hL hT hS
theorem ZDO {F wm:Nat} {h:H} {p0 p1:(List Int)} {Zr:Option Addr} {Zq:Nat} {Xt:Option Addr} {Xr:Nat} {r:Bool} (ZK:wm <=h.size) (Zw:Sl (Zz .i64) wm h Zr Zq p0) (QG:Sl (Zz .i64) wm h Xt Xr p1) (hL:ZsK F p0 p1=some r):
 WR XX 30 #[.slice Zr p0.length Zq,.slice Xt p1.length Xr] wm h (CP (fun(v:Value) (Gb:List (Ast wm))=>v= .bool r∧Gb= []) [] h):=by
 refine bg Try.ntmps30 ZK ZT.nil ?_;intro T hT hS;unfold ZsK at hL;refine QC ?_;refine r3 ?_;refine cn hL ?_ ?_
 ·intro hc hL;refine r6 ?_;refine r1 ?_;exact rt hL hT hS
 ·intro hc hL;refine r8 ?_;refine r1 ?_;refine WC.loop (WL.lift hL (fun(v5:Int) (s:Fs)=>∃ (Jf:Fr) (h1:H),s= ⟨Jf,[],h1,none⟩∧Sp wm T h [] h1∧Jf.at 0= .slice Zr p0.length Zq∧Jf.at 1= .slice Xt p1.length Xr∧Jf.at 5= .int .i64 v5) ⟨_,_,rfl,hS.only .n,Yy⟩ ?_);clear hL hS;rintro Zm8 v5 s ZpJ hL ⟨Jf,h1,rfl,hS,e3,e4,e6⟩;dsimp only [Zi4] at hL;refine r8 ?_;refine r1 ?_;refine cn hL ?_ ?_
  ·intro hc hL;refine r4 ?_;refine r1 ?_;refine WC.Yo mixed Kq0 ?_;refine r2 ?_;obtain⟨x8,hx8,hL⟩:=bind_some hL;obtain⟨b9,o10,_,Zu8,ZvH,ZC6,ZKE⟩:=Sl.at_ Zw hx8;refine WX.w gN rfl (Zx Xo YB lk lk rfl Zu8 hx8) ?_ rfl;refine WX.w gN rfl (ZE YW (ZC fh rfl) (At.fz hS.fz ZC6 ZvH) (j:=0) rfl (v:= .int .i64 x8) rfl) ?_ rfl;refine r2 ?_;obtain⟨UU,Km,hL⟩:=bind_some hL;obtain⟨b12,o13,_,Za6,Zcz,ZeR,ZnH⟩:=Sl.at_ QG Km;refine WX.w gN rfl (Zx Xo YB lk lk rfl Za6 Km) ?_ rfl;refine WX.w gN rfl (ZE YW (ZC fh rfl) (At.fz hS.fz ZeR Zcz) (j:=0) rfl (v:= .int .i64 UU) rfl) ?_ rfl;refine r3 ?_;refine cn hL ?_ ?_
   ·intro hc hL;refine r8 ?_;refine r3 ?_;exact rt hL hT hS
   ·intro hc hL;refine r8 ?_;exact Yc.Yp (ZpJ _ _ hL ⟨_,_,rfl,hS.only .n,Yy⟩)
  ·intro hc hL;refine r8 ?_;refine r3 ?_;exact rt hL hT hS
theorem ZDP {F:Nat} {h:H} {p0 p1:(List Int)} {Zr:Option Addr} {Zq:Nat} {Xt:Option Addr} {Xr:Nat} {r:Bool} (Zw:Sl (Zz .i64) h.size h Zr Zq p0) (QG:Sl (Zz .i64) h.size h Xt Xr p1) (hL:ZsK F p0 p1=some r):Pure XX 30 #[.slice Zr p0.length Zq,.slice Xt p1.length Xr] h (.bool r):=
 WR.YP rfl (ZDO (Nat.le_refl _) Zw QG hL)
end Go.Proofs.Ytekpjgmhkkjhgaa
end
end
section
namespace Go.Proofs.Ytekpjgmhkkjhgaa
open Go.Lf
def ZbM (p0:Int) (p1:Int) (p2:Int):Option Bool:=
 some ((decide (p0 >=p1)) && (decide (p0 <=p2)))
def ZiY (p0:Zv) (p1:Int):Bool ->Option Bool:=fun v10=>
 (bif v10 then(bif((decide (p0.at_ >=0)) && (decide (p0.at_ < p1))) then some ((((decide (p0.ZH >=0)) && (decide (p0.ZH < p1))) && (p0.at_ !=p0.ZH)) && (decide (p0.name >=0))) else some ((false && (p0.at_ !=p0.ZH)) && (decide (p0.name >=0)))) else(bif(p0.Xf==3) then some ((((decide (p0.at_ >=0)) && (decide (p0.at_ < p1))) && (decide (p0.name >=0))) && (p0.ZH==0)) else some ((((p0.Xf==5) && (decide (p0.at_ >=0))) && (p0.name==0)) && (p0.ZH==0))))
def ZsI (p0:Zv) (p1:Int):Option Bool:=
 (bif(p0.Xf==1) then some ((((decide (p0.at_ >=0)) && (decide (p0.at_ < p1))) && (p0.name==0)) && (p0.ZH==0)) else(bif(p0.Xf==2) then(ZiY p0 p1) (p0.Xf==2) else(ZiY p0 p1) (p0.Xf==4)))
end Go.Proofs.Ytekpjgmhkkjhgaa
end
section
set_option maxRecDepth 20000
noncomputable section
namespace Go.Proofs.Ytekpjgmhkkjhgaa
open Go.YD Go.Lf
theorem ZDN {wm:Nat} {h:H} {p0 p1 p2:Int} {r:Bool} (ZK:wm <=h.size) (hL:ZbM p0 p1 p2=some r):
 WR XX 53 #[.int .i64 p0,.int .i64 p1,.int .i64 p2] wm h (CP (fun(v:Value) (Gb:List (Ast wm))=>v= .bool r∧Gb= []) [] h):=by
 refine bg Try.ntmps53 ZK ZT.nil ?_;intro T hT hS;unfold ZbM at hL;refine r16 ?_;refine r3 ?_;exact rt hL hT hS
theorem WT {h:H} {p0 p1 p2:Int} {r:Bool} (hL:ZbM p0 p1 p2=some r):Pure XX 53 #[.int .i64 p0,.int .i64 p1,.int .i64 p2] h (.bool r):=
 WR.YP rfl (ZDN (Nat.le_refl _) hL)
theorem ZDL {wm:Nat} {h:H} {p0:Zv} {p1:Int} {r:Bool} (ZK:wm <=h.size) (hL:ZsI p0 p1=some r):
 WR XX 55 #[.agg [.int .i64 p0.Xf,.int .i64 p0.at_,.int .i64 p0.name,.int .i64 p0.ZH].toArray,.int .i64 p1] wm h (CP (fun(v:Value) (Gb:List (Ast wm))=>v= .bool r∧Gb= []) [] h):=by
 refine WF.begin (args:= [_,_]) (fn:=Try.f55) Kq0 (by exact rfl) Try.ntmps55 (by simp) ?_;simp only [ZQ,ZW,Nat.reduceAdd];obtain⟨T,hT,hS⟩:∃ T,T=XL (wm:=wm) []∧Sp wm T h [] h:= ⟨_,rfl,Sp.start ZK ZT.nil⟩
 unfold ZsI at hL;refine WC.seq ?_;refine WC.region ?_;refine WO.hn gN rfl (ZqV hS (ZC (Zi rfl fh) rfl) (vs:= [.int .i64 p0.Xf,.int .i64 p0.at_,.int .i64 p0.name,.int .i64 p0.ZH]) rfl) ?_;rintro _ h2 ⟨b1,eb1,rfl,hS⟩;refine WO.hn gN rfl (ZqV hS (ZC (Zi rfl fh) rfl) (vs:= [.int .i64 p1]) rfl) ?_;rintro _ h4 ⟨b3,eb3,rfl,hS⟩;refine WO.w gN rfl (Yz (JJ rfl)) ?_;refine WO.nil ?_;refine QM.Yp ?_;refine WC.seq ?_;refine WC.region ?_;refine WO.w gN rfl (Zee (Zc (ZC (Zi rfl fh) rfl) Zj)) ?_;refine WO.w gN rfl (Yz (ZC fh rfl)) ?_;refine WO.nil ?_;refine QM.Yp ?_;refine WC.seq ?_;refine WC.seq ?_;refine WC.region ?_;refine WO.w gN rfl (XP ZlS (ZC (Ye rfl fh) rfl)) ?_;refine WO.w gN rfl (ZE Zxf (ZC fh rfl) (hS.Qm k1) (j:=0) rfl (v:= .int .i64 p0.Xf) rfl) ?_;refine WO.nil ?_;refine QM.Yp ?_;refine WC.block ?_;refine WC.seq ?_;refine WC.region ?_;refine WO.w gN rfl (Y6 (ZC fh rfl) (JJ rfl) J2) ?_;refine WO.w gN rfl (Yz (ZC fh rfl)) ?_;refine WO.nil ?_;refine QM.Yp ?_;refine WC.Zox (ZC fh rfl) (fun hc=>?_) (fun hc=>?_)
 ·replace hL:=Wm hc hL;refine WC.seq ?_;refine WC.region ?_;refine WO.w gN rfl (YU (ZC (Ye rfl fh) rfl)) ?_;refine WO.w gN rfl (XP ZbK (ZC (Ya rfl (Zi rfl fh)) rfl)) ?_;refine WO.w gN rfl (ZE YW (ZC fh rfl) (hS.Qm k1) (j:=1) rfl (v:= .int .i64 p0.at_) rfl) ?_;refine WO.inl gN rfl (Yx.clo (first:= []) (cap:= [.pointer (some ⟨b3,0,none⟩)]) (ZC (ZV rfl fh) rfl) Zrh (Zc (ZC fh rfl) Zj) rfl) (WF.begin (args:= [_,_]) (fn:=Try.f92) Kq0 (by exact rfl) Try.ntmps92 (by simp) ?_);simp only [ZQ,ZW,Nat.reduceAdd];refine WC.seq ?_;refine WC.region ?_;refine WO.w gN rfl (Yz (JJ rfl)) ?_;refine WO.nil ?_;refine QM.Yp ?_;refine WC.seq ?_;refine WC.region ?_;refine WO.w gN rfl (YU (ZC (ZV rfl fh) rfl)) ?_;refine WO.w gN rfl (Y6 (ZC fh rfl) (JJ rfl) Wu) ?_;refine WO.w gN rfl (YU (ZC fh rfl)) ?_;refine WO.gv (Zh.yes rfl rfl rfl fh) rfl (fun hg=>(YU (ZC (Ye rfl (Zi rfl fh)) rfl))) ?_;refine WO.gv (Zh.yes rfl rfl rfl (Zi rfl fh)) rfl (fun hg=>(ZE YW (ZC (Ye rfl (Zi rfl fh)) rfl) (hS.Qm k0) (j:=0) rfl (v:= .int .i64 p1) rfl)) ?_;refine WO.gv (Zh.yes rfl rfl rfl (ZV rfl fh)) rfl (fun hg=>(Y6 (YA (Zi rfl fh) rfl hg) (YA fh rfl hg) ZcU)) ?_;refine WO.w gN rfl (XQ (ZC (ZV rfl (Zi rfl fh)) rfl) (ZcI fh) (JJ rfl)) ?_;refine WO.w gN rfl (Yz (ZC fh rfl)) ?_;refine WO.nil ?_;refine QM.Yp ?_;refine WC.ret ?_;refine ZX.Qz rfl (ZF (ZC fh rfl) Zu) ?_;refine WO.w gN rfl (YU (ZC fh rfl)) ?_;refine WO.gv (Zh.yes rfl rfl rfl fh) rfl (fun hg=>(XP Zdc (ZC (Ya rfl (Ye rfl (Zi rfl fh))) rfl))) ?_;refine WO.gv (Zh.yes rfl rfl rfl (Zi rfl fh)) rfl (fun hg=>(ZE YW (YA fh rfl hg) (hS.Qm k1) (j:=2) rfl (v:= .int .i64 p0.name) rfl)) ?_;refine WO.gv (Zh.yes rfl rfl rfl (ZV rfl fh)) rfl (fun hg=>(Y6 (YA fh rfl hg) (JJ rfl) J2)) ?_;refine WO.w gN rfl (XQ (ZC (ZV rfl (Zi rfl fh)) rfl) (ZcI fh) (JJ rfl)) ?_;refine WO.w gN rfl (YU (ZC fh rfl)) ?_;refine WO.gv (Zh.yes rfl rfl rfl fh) rfl (fun hg=>(XP ZbJ (ZC (Ya rfl (Ya rfl (ZV rfl fh))) rfl))) ?_;refine WO.gv (Zh.yes rfl rfl rfl (Zi rfl fh)) rfl (fun hg=>(ZE YW (YA fh rfl hg) (hS.Qm k1) (j:=3) rfl (v:= .int .i64 p0.ZH) rfl)) ?_;refine WO.gv (Zh.yes rfl rfl rfl (ZV rfl fh)) rfl (fun hg=>(Y6 (YA fh rfl hg) (JJ rfl) J2)) ?_;refine WO.w gN rfl (XQ (ZC (ZV rfl (Zi rfl fh)) rfl) (ZcI fh) (JJ rfl)) ?_;refine WO.w gN rfl (Yz (ZC fh rfl)) ?_;refine WO.nil ?_;refine QM.Yp ?_;refine WC.ret ?_;refine Wx.ret ?_;refine QM.ret ?_;have hr:=Oi0 hL;subst hr;exact ZX.Qz rfl (ZF (ZC fh rfl) Zu) ⟨_,⟨rfl,rfl⟩,hT ▸ hS.only .n⟩
 ·replace hL:=Wn hc hL;refine WC.Ki (r:=r) (fun(v10:Bool) (s:Fs)=>∃ (fr6:Fr) (h5:H),s= ⟨fr6,[],h5,none⟩∧Sp wm T h [bx wm b1 [.int .i64 p0.Xf,.int .i64 p0.at_,.int .i64 p0.name,.int .i64 p0.ZH],bx wm b3 [.int .i64 p1]] h5∧fr6.at 2= .pointer (some ⟨b1,0,none⟩)∧fr6.at 5= .func (.func 92) #[] [.pointer (some ⟨b3,0,none⟩)].toArray∧fr6.at 8= .int .i64 p0.Xf∧fr6.at 25= .bool v10) (ZiY p0 p1) ?_ ?_
  ·clear hL hS;rintro v10 s hL ⟨fr6,h5,rfl,hS,e7,e8,e9,e11⟩;dsimp only [ZiY] at hL;refine WC.Zox (ZC e11 rfl) (fun hc=>?_) (fun hc=>?_)
   ·replace hL:=Wm hc hL;refine WC.seq ?_;refine WC.region ?_;refine WO.w gN rfl (YU (ZC e8 rfl)) ?_;refine WO.w gN rfl (XP ZbK (ZC (Zi rfl e7) rfl)) ?_;refine WO.w gN rfl (ZE YW (ZC fh rfl) (hS.Qm k0) (j:=1) rfl (v:= .int .i64 p0.at_) rfl) ?_;refine WO.inl gN rfl (Yx.clo (first:= []) (cap:= [.pointer (some ⟨b3,0,none⟩)]) (ZC (ZV rfl fh) rfl) Zrh (Zc (ZC fh rfl) Zj) rfl) (WF.begin (args:= [_,_]) (fn:=Try.f92) Kq0 (by exact rfl) Try.ntmps92 (by simp) ?_);simp only [ZQ,ZW,Nat.reduceAdd];refine WC.seq ?_;refine WC.region ?_;refine WO.w gN rfl (Yz (JJ rfl)) ?_;refine WO.nil ?_;refine QM.Yp ?_;refine WC.seq ?_;refine WC.region ?_;refine WO.w gN rfl (YU (ZC (ZV rfl fh) rfl)) ?_;refine WO.w gN rfl (Y6 (ZC fh rfl) (JJ rfl) Wu) ?_;refine WO.w gN rfl (YU (ZC fh rfl)) ?_;refine WO.gv (Zh.yes rfl rfl rfl fh) rfl (fun hg=>(YU (ZC (Ye rfl (Zi rfl fh)) rfl))) ?_;refine WO.gv (Zh.yes rfl rfl rfl (Zi rfl fh)) rfl (fun hg=>(ZE YW (ZC (Ye rfl (Zi rfl fh)) rfl) (hS.Qm k1) (j:=0) rfl (v:= .int .i64 p1) rfl)) ?_;refine WO.gv (Zh.yes rfl rfl rfl (ZV rfl fh)) rfl (fun hg=>(Y6 (YA (Zi rfl fh) rfl hg) (YA fh rfl hg) ZcU)) ?_;refine WO.w gN rfl (XQ (ZC (ZV rfl (Zi rfl fh)) rfl) (ZcI fh) (JJ rfl)) ?_;refine WO.w gN rfl (Yz (ZC fh rfl)) ?_;refine WO.nil ?_;refine QM.Yp ?_;refine WC.ret ?_;refine ZX.Qz rfl (ZF (ZC fh rfl) Zu) ?_;refine WO.w gN rfl (YU (ZC fh rfl)) ?_;refine WO.gv (Zh.yes rfl rfl rfl fh) rfl (fun hg=>(YU (ZC (Ye rfl (Zi rfl e8)) rfl))) ?_;refine WO.gv (Zh.yes rfl rfl rfl (Zi rfl fh)) rfl (fun hg=>(XP ZbJ (ZC (Ye rfl (ZV rfl e7)) rfl))) ?_;refine WO.gv (Zh.yes rfl rfl rfl (ZV rfl fh)) rfl (fun hg=>(ZE YW (YA fh rfl hg) (hS.Qm k0) (j:=3) rfl (v:= .int .i64 p0.ZH) rfl)) ?_;refine WO.ZiB (Zh.yes rfl rfl rfl (ZV rfl (Zi rfl fh))) (fun ZlK=>?_) (fun ZlK=>?_)
    ·replace hL:=Wm ZlK hL;refine WO.inl (Zh.on (Zh.yes rfl rfl rfl (ZV rfl (Zi rfl fh))) ZlK) rfl (Yx.clo (first:= []) (cap:= [.pointer (some ⟨b3,0,none⟩)]) (YA (ZV rfl fh) rfl ZlK) Zrh (Zc (YA fh rfl ZlK) Zj) rfl) (WF.begin (args:= [_,_]) (fn:=Try.f92) Kq0 (by exact rfl) Try.ntmps92 (by simp) ?_);simp only [ZQ,ZW,Nat.reduceAdd];refine WC.seq ?_;refine WC.region ?_;refine WO.w gN rfl (Yz (JJ rfl)) ?_;refine WO.nil ?_;refine QM.Yp ?_;refine WC.seq ?_;refine WC.region ?_;refine WO.w gN rfl (YU (ZC (ZV rfl fh) rfl)) ?_;refine WO.w gN rfl (Y6 (ZC fh rfl) (JJ rfl) Wu) ?_;refine WO.w gN rfl (YU (ZC fh rfl)) ?_;refine WO.gv (Zh.yes rfl rfl rfl fh) rfl (fun hg=>(YU (ZC (Ye rfl (Zi rfl fh)) rfl))) ?_;refine WO.gv (Zh.yes rfl rfl rfl (Zi rfl fh)) rfl (fun hg=>(ZE YW (ZC (Ye rfl (Zi rfl fh)) rfl) (hS.Qm k1) (j:=0) rfl (v:= .int .i64 p1) rfl)) ?_;refine WO.gv (Zh.yes rfl rfl rfl (ZV rfl fh)) rfl (fun hg=>(Y6 (YA (Zi rfl fh) rfl hg) (YA fh rfl hg) ZcU)) ?_;refine WO.w gN rfl (XQ (ZC (ZV rfl (Zi rfl fh)) rfl) (ZcI fh) (JJ rfl)) ?_;refine WO.w gN rfl (Yz (ZC fh rfl)) ?_;refine WO.nil ?_;refine QM.Yp ?_;refine WC.ret ?_;refine ZX.Qz rfl (ZF (ZC fh rfl) Zu) ?_;refine WO.w gN rfl (Zjt (ZC (Ye rfl fh) rfl) ZlK (ZC fh rfl)) ?_;refine WO.w gN rfl (YU (ZC fh rfl)) ?_;refine WO.gv (Zh.yes rfl rfl rfl fh) rfl (fun hg=>(XP ZbK (ZC (Ya rfl (ZV rfl (Zi rfl e7))) rfl))) ?_;refine WO.gv (Zh.yes rfl rfl rfl (Zi rfl fh)) rfl (fun hg=>(ZE YW (YA fh rfl hg) (hS.Qm k0) (j:=1) rfl (v:= .int .i64 p0.at_) rfl)) ?_;refine WO.gv (Zh.yes rfl rfl rfl (ZV rfl fh)) rfl (fun hg=>(XP ZbJ (ZC (Ya rfl (Ye rfl (Zi rfl e7))) rfl))) ?_;refine WO.gv (Zh.yes rfl rfl rfl (ZV rfl (Zi rfl fh))) rfl (fun hg=>(ZE YW (YA fh rfl hg) (hS.Qm k0) (j:=3) rfl (v:= .int .i64 p0.ZH) rfl)) ?_;refine WO.gv (Zh.yes rfl rfl rfl (Ye rfl fh)) rfl (fun hg=>(Y6 (YA (ZV rfl fh) rfl hg) (YA fh rfl hg) Zjz)) ?_;refine WO.w gN rfl (XQ (ZC (Ye rfl (Zi rfl fh)) rfl) (ZcI fh) (JJ rfl)) ?_;refine WO.w gN rfl (YU (ZC fh rfl)) ?_;refine WO.gv (Zh.yes rfl rfl rfl fh) rfl (fun hg=>(XP Zdc (ZC (Ya rfl (Ya rfl (ZV rfl e7))) rfl))) ?_;refine WO.gv (Zh.yes rfl rfl rfl (Zi rfl fh)) rfl (fun hg=>(ZE YW (YA fh rfl hg) (hS.Qm k0) (j:=2) rfl (v:= .int .i64 p0.name) rfl)) ?_;refine WO.gv (Zh.yes rfl rfl rfl (ZV rfl fh)) rfl (fun hg=>(Y6 (YA fh rfl hg) (JJ rfl) Wu)) ?_;refine WO.w gN rfl (XQ (ZC (ZV rfl (Zi rfl fh)) rfl) (ZcI fh) (JJ rfl)) ?_;refine WO.w gN rfl (Yz (ZC fh rfl)) ?_;refine WO.nil ?_;refine QM.Yp ?_;refine WC.ret ?_;refine Wx.ret ?_;refine QM.ret ?_;have hr:=Oi0 hL;subst hr;exact ZX.Qz rfl (ZF (ZC fh rfl) Zu) ⟨_,⟨rfl,rfl⟩,hT ▸ hS.only .n⟩
    ·replace hL:=Wn ZlK hL;refine WO.ZjS (Zh.yes rfl rfl rfl (ZV rfl (Zi rfl fh))) ZlK rfl ?_;refine WO.w gN rfl (Zju (ZC (Ye rfl fh) rfl) ZlK (JJ rfl)) ?_;refine WO.w gN rfl (YU (ZC fh rfl)) ?_;refine WO.gv (Zh.yes rfl rfl rfl fh) rfl (fun hg=>(XP ZbK (ZC (Ya rfl (ZV rfl (Zi rfl e7))) rfl))) ?_;refine WO.gv (Zh.yes rfl rfl rfl (Zi rfl fh)) rfl (fun hg=>(ZE YW (YA fh rfl hg) (hS.Qm k0) (j:=1) rfl (v:= .int .i64 p0.at_) rfl)) ?_;refine WO.gv (Zh.yes rfl rfl rfl (ZV rfl fh)) rfl (fun hg=>(XP ZbJ (ZC (Ya rfl (Ye rfl (Zi rfl e7))) rfl))) ?_;refine WO.gv (Zh.yes rfl rfl rfl (ZV rfl (Zi rfl fh))) rfl (fun hg=>(ZE YW (YA fh rfl hg) (hS.Qm k0) (j:=3) rfl (v:= .int .i64 p0.ZH) rfl)) ?_;refine WO.gv (Zh.yes rfl rfl rfl (Ye rfl fh)) rfl (fun hg=>(Y6 (YA (ZV rfl fh) rfl hg) (YA fh rfl hg) Zjz)) ?_;refine WO.w gN rfl (XQ (ZC (Ye rfl (Zi rfl fh)) rfl) (ZcI fh) (JJ rfl)) ?_;refine WO.w gN rfl (YU (ZC fh rfl)) ?_;refine WO.gv (Zh.yes rfl rfl rfl fh) rfl (fun hg=>(XP Zdc (ZC (Ya rfl (Ya rfl (ZV rfl e7))) rfl))) ?_;refine WO.gv (Zh.yes rfl rfl rfl (Zi rfl fh)) rfl (fun hg=>(ZE YW (YA fh rfl hg) (hS.Qm k0) (j:=2) rfl (v:= .int .i64 p0.name) rfl)) ?_;refine WO.gv (Zh.yes rfl rfl rfl (ZV rfl fh)) rfl (fun hg=>(Y6 (YA fh rfl hg) (JJ rfl) Wu)) ?_;refine WO.w gN rfl (XQ (ZC (ZV rfl (Zi rfl fh)) rfl) (ZcI fh) (JJ rfl)) ?_;refine WO.w gN rfl (Yz (ZC fh rfl)) ?_;refine WO.nil ?_;refine QM.Yp ?_;refine WC.ret ?_;refine Wx.ret ?_;refine QM.ret ?_;have hr:=Oi0 hL;subst hr;exact ZX.Qz rfl (ZF (ZC fh rfl) Zu) ⟨_,⟨rfl,rfl⟩,hT ▸ hS.only .n⟩
   ·replace hL:=Wn hc hL;refine WC.seq ?_;refine WC.region ?_;refine WO.w gN rfl (Y6 (ZC e9 rfl) (JJ rfl) J2) ?_;refine WO.w gN rfl (Yz (ZC fh rfl)) ?_;refine WO.nil ?_;refine QM.Yp ?_;refine WC.Zox (ZC fh rfl) (fun hc=>?_) (fun hc=>?_)
    ·replace hL:=Wm hc hL;refine WC.seq ?_;refine WC.region ?_;refine WO.w gN rfl (YU (ZC (ZV rfl e8) rfl)) ?_;refine WO.w gN rfl (XP ZbK (ZC (ZV rfl (Zi rfl e7)) rfl)) ?_;refine WO.w gN rfl (ZE YW (ZC fh rfl) (hS.Qm k0) (j:=1) rfl (v:= .int .i64 p0.at_) rfl) ?_;refine WO.inl gN rfl (Yx.clo (first:= []) (cap:= [.pointer (some ⟨b3,0,none⟩)]) (ZC (ZV rfl fh) rfl) Zrh (Zc (ZC fh rfl) Zj) rfl) (WF.begin (args:= [_,_]) (fn:=Try.f92) Kq0 (by exact rfl) Try.ntmps92 (by simp) ?_);simp only [ZQ,ZW,Nat.reduceAdd];refine WC.seq ?_;refine WC.region ?_;refine WO.w gN rfl (Yz (JJ rfl)) ?_;refine WO.nil ?_;refine QM.Yp ?_;refine WC.seq ?_;refine WC.region ?_;refine WO.w gN rfl (YU (ZC (ZV rfl fh) rfl)) ?_;refine WO.w gN rfl (Y6 (ZC fh rfl) (JJ rfl) Wu) ?_;refine WO.w gN rfl (YU (ZC fh rfl)) ?_;refine WO.gv (Zh.yes rfl rfl rfl fh) rfl (fun hg=>(YU (ZC (Ye rfl (Zi rfl fh)) rfl))) ?_;refine WO.gv (Zh.yes rfl rfl rfl (Zi rfl fh)) rfl (fun hg=>(ZE YW (ZC (Ye rfl (Zi rfl fh)) rfl) (hS.Qm k1) (j:=0) rfl (v:= .int .i64 p1) rfl)) ?_;refine WO.gv (Zh.yes rfl rfl rfl (ZV rfl fh)) rfl (fun hg=>(Y6 (YA (Zi rfl fh) rfl hg) (YA fh rfl hg) ZcU)) ?_;refine WO.w gN rfl (XQ (ZC (ZV rfl (Zi rfl fh)) rfl) (ZcI fh) (JJ rfl)) ?_;refine WO.w gN rfl (Yz (ZC fh rfl)) ?_;refine WO.nil ?_;refine QM.Yp ?_;refine WC.ret ?_;refine ZX.Qz rfl (ZF (ZC fh rfl) Zu) ?_;refine WO.w gN rfl (YU (ZC fh rfl)) ?_;refine WO.gv (Zh.yes rfl rfl rfl fh) rfl (fun hg=>(XP Zdc (ZC (Ye rfl (ZV rfl (Zi rfl e7))) rfl))) ?_;refine WO.gv (Zh.yes rfl rfl rfl (Zi rfl fh)) rfl (fun hg=>(ZE YW (YA fh rfl hg) (hS.Qm k0) (j:=2) rfl (v:= .int .i64 p0.name) rfl)) ?_;refine WO.gv (Zh.yes rfl rfl rfl (ZV rfl fh)) rfl (fun hg=>(Y6 (YA fh rfl hg) (JJ rfl) Wu)) ?_;refine WO.w gN rfl (XQ (ZC (ZV rfl (Zi rfl fh)) rfl) (ZcI fh) (JJ rfl)) ?_;refine WO.w gN rfl (YU (ZC fh rfl)) ?_;refine WO.gv (Zh.yes rfl rfl rfl fh) rfl (fun hg=>(XP ZbJ (ZC (Ya rfl (Ye rfl e7)) rfl))) ?_;refine WO.gv (Zh.yes rfl rfl rfl (Zi rfl fh)) rfl (fun hg=>(ZE YW (YA fh rfl hg) (hS.Qm k0) (j:=3) rfl (v:= .int .i64 p0.ZH) rfl)) ?_;refine WO.gv (Zh.yes rfl rfl rfl (ZV rfl fh)) rfl (fun hg=>(Y6 (YA fh rfl hg) (JJ rfl) J2)) ?_;refine WO.w gN rfl (XQ (ZC (ZV rfl (Zi rfl fh)) rfl) (ZcI fh) (JJ rfl)) ?_;refine WO.w gN rfl (Yz (ZC fh rfl)) ?_;refine WO.nil ?_;refine QM.Yp ?_;refine WC.ret ?_;refine Wx.ret ?_;refine QM.ret ?_;have hr:=Oi0 hL;subst hr;exact ZX.Qz rfl (ZF (ZC fh rfl) Zu) ⟨_,⟨rfl,rfl⟩,hT ▸ hS.only .n⟩
    ·replace hL:=Wn hc hL;refine WC.skip ?_;refine Wx.Yp ?_;refine QM.Yp ?_;refine WC.seq ?_;refine WC.region ?_;refine WO.w gN rfl (XP ZlS (ZC (ZV rfl e7) rfl)) ?_;refine WO.w gN rfl (ZE Zxf (ZC fh rfl) (hS.Qm k0) (j:=0) rfl (v:= .int .i64 p0.Xf) rfl) ?_;refine WO.w gN rfl (Y6 (ZC fh rfl) (JJ rfl) J2) ?_;refine WO.w gN rfl (YU (ZC fh rfl)) ?_;refine WO.gv (Zh.yes rfl rfl rfl fh) rfl (fun hg=>(XP ZbK (ZC (Ye rfl (ZV rfl e7)) rfl))) ?_;refine WO.gv (Zh.yes rfl rfl rfl (Zi rfl fh)) rfl (fun hg=>(ZE YW (YA fh rfl hg) (hS.Qm k0) (j:=1) rfl (v:= .int .i64 p0.at_) rfl)) ?_;refine WO.gv (Zh.yes rfl rfl rfl (ZV rfl fh)) rfl (fun hg=>(Y6 (YA fh rfl hg) (JJ rfl) Wu)) ?_;refine WO.w gN rfl (XQ (ZC (ZV rfl (Zi rfl fh)) rfl) (ZcI fh) (JJ rfl)) ?_;refine WO.w gN rfl (YU (ZC fh rfl)) ?_;refine WO.gv (Zh.yes rfl rfl rfl fh) rfl (fun hg=>(XP Zdc (ZC (Ya rfl (ZV rfl (Zi rfl e7))) rfl))) ?_;refine WO.gv (Zh.yes rfl rfl rfl (Zi rfl fh)) rfl (fun hg=>(ZE YW (YA fh rfl hg) (hS.Qm k0) (j:=2) rfl (v:= .int .i64 p0.name) rfl)) ?_;refine WO.gv (Zh.yes rfl rfl rfl (ZV rfl fh)) rfl (fun hg=>(Y6 (YA fh rfl hg) (JJ rfl) J2)) ?_;refine WO.w gN rfl (XQ (ZC (ZV rfl (Zi rfl fh)) rfl) (ZcI fh) (JJ rfl)) ?_;refine WO.w gN rfl (YU (ZC fh rfl)) ?_;refine WO.gv (Zh.yes rfl rfl rfl fh) rfl (fun hg=>(XP ZbJ (ZC (Ya rfl (Ya rfl e7)) rfl))) ?_;refine WO.gv (Zh.yes rfl rfl rfl (Zi rfl fh)) rfl (fun hg=>(ZE YW (YA fh rfl hg) (hS.Qm k0) (j:=3) rfl (v:= .int .i64 p0.ZH) rfl)) ?_;refine WO.gv (Zh.yes rfl rfl rfl (ZV rfl fh)) rfl (fun hg=>(Y6 (YA fh rfl hg) (JJ rfl) J2)) ?_;refine WO.w gN rfl (XQ (ZC (ZV rfl (Zi rfl fh)) rfl) (ZcI fh) (JJ rfl)) ?_;refine WO.w gN rfl (Yz (ZC fh rfl)) ?_;refine WO.nil ?_;refine QM.Yp ?_;refine WC.ret ?_;have hr:=Oi0 hL;subst hr;exact ZX.Qz rfl (ZF (ZC fh rfl) Zu) ⟨_,⟨rfl,rfl⟩,hT ▸ hS.only .n⟩
  ·skip;refine WC.seq ?_;refine WC.region ?_;refine WO.w gN rfl (Y6 (ZC (ZV rfl fh) rfl) (JJ rfl) J2) ?_;refine WO.w gN rfl (Yz (ZC fh rfl)) ?_;refine WO.nil ?_;refine QM.Yp ?_;refine WC.Zox (ZC fh rfl) (fun hc=>?_) (fun hc=>?_)
   ·replace hL:=Wm hc hL;refine WC.skip ?_;exact Y8.Yp _ hL ⟨_,_,rfl,hS.only (.c k1 (.c k0 .n)),(Ya rfl (ZV rfl fh)),(Ye rfl (ZV rfl fh)),(Ye rfl fh),fh⟩
   ·replace hL:=Wn hc hL;refine WC.region ?_;refine WO.w gN rfl (Y6 (ZC (Ye rfl fh) rfl) (JJ rfl) J2) ?_;refine WO.w gN rfl (Yz (ZC fh rfl)) ?_;refine WO.nil ?_;exact Y8.Yp _ hL ⟨_,_,rfl,hS.only (.c k1 (.c k0 .n)),(Ya rfl (Ye rfl fh)),(Ya rfl fh),(Ye rfl (ZV rfl fh)),fh⟩
theorem ZDM {h:H} {p0:Zv} {p1:Int} {r:Bool} (hL:ZsI p0 p1=some r):Pure XX 55 #[.agg [.int .i64 p0.Xf,.int .i64 p0.at_,.int .i64 p0.name,.int .i64 p0.ZH].toArray,.int .i64 p1] h (.bool r):=
 WR.YP rfl (ZDL (Nat.le_refl _) hL)
end Go.Proofs.Ytekpjgmhkkjhgaa
end
end
section
namespace Go.Proofs.Ytekpjgmhkkjhgaa
open Go.Lf
def ZiW (p0:Zv) (p1:Int) (x3:Bool):Bool ->Option Bool:=fun v10=>
 (bif v10 then(gd (x3 && (decide (p0.name >=0))) (ZbM p0.ZH 0 (ZP (p1 - 1))) default).bind fun Wy=>some (((x3 && (decide (p0.name >=0))) && Wy) && (p0.ZH !=p0.at_)) else(bif(p0.Xf==3) then some ((x3 && (decide (p0.name >=0))) && (p0.ZH==0)) else(bif(p0.Xf==5) then some (((decide (p0.at_ >=0)) && (p0.name==0)) && (p0.ZH==0)) else some false)))
def ZsG (p0:Zv) (p1:Int):Option Bool:=
 (ZbM p0.at_ 0 (ZP (p1 - 1))).bind fun x3=>(bif(p0.Xf==1) then some ((x3 && (p0.name==0)) && (p0.ZH==0)) else(bif(p0.Xf==2) then(ZiW p0 p1 x3) (p0.Xf==2) else(ZiW p0 p1 x3) (p0.Xf==4)))
def ZiU (p0:(List Int)) (p1:Int):Int ->(Int ->Option Bool) ->Option Bool:=fun v5 Zm8=>
 (bif decide (v5 < (p0.length:Int)) then(ZM p0 v5).bind fun x8=>(bif(x8==p1) then some true else Zm8 (ZP (v5 + 1))) else some false)
def Zn3 (F:Nat) (p0:(List Int)) (p1:Int):Option Bool:=
 loop F (ZiU p0 p1) 0
def ZiS (p0:Za):(List (List Zb))×Int ->((List (List Zb))×Int ->Option Za) ->Option Za:=fun(v9,v15) Zui=>
 (bif decide (v15 < (p0.cells.length:Int)) then(ZM p0.cells v15).bind fun x18=>(app 48 ([]:List Zb) x18).bind fun z23=>(app 24 v9 [z23]).bind fun z29=>Zui (z29,ZP (v15 + 1)) else(app 40 ([]:List Zd) p0.notes).bind fun z35=>(app 8 ([]:List Int) p0.freed).bind fun z40=>some (Za.mk v9 z35 p0.names z40))
def ZlZ (F:Nat) (p0:Za):Option Za:=
 loop F (ZiS p0) ([],0)
def Zgd (v29:Int) (ZdZ:(Int×(List (Zg×Int))×(List (Zg×Int)) ->Option ((List (Zg×Int))×(List (Zg×Int))))):(List (Zg×Int))×(List (Zg×Int)) ->Option ((List (Zg×Int))×(List (Zg×Int))):=fun(v41,v42)=>
 ZdZ (ZP (v29 + 1),v41,v42)
def ZiQ (p0:Store):Int×(List (Zg×Int))×(List (Zg×Int)) ->(Int×(List (Zg×Int))×(List (Zg×Int)) ->Option ((List (Zg×Int))×(List (Zg×Int)))) ->Option ((List (Zg×Int))×(List (Zg×Int))):=fun(v29,v31,v32) ZdZ=>
 (bif decide (v29 < (p0.notes.length:Int)) then(ZM p0.notes v29).bind fun x43=>(bif(x43.kind==1) then(ZaE v32 (Zg.mk x43.via x43.name) 0).bind fun x49=>(Zgd v29 ZdZ) (v31,Xi (Kl v32 (Zg.mk x43.via x43.name) 0) (Zg.mk x43.via x43.name) (ZP (x49 + x43.w))) else(bif(x43.kind==2) then(ZaE v32 (Zg.mk x43.ZH x43.name) 0).bind fun x53=>(Zgd v29 ZdZ) (v31,Xi (Kl v32 (Zg.mk x43.ZH x43.name) 0) (Zg.mk x43.ZH x43.name) (ZP (x53 + x43.w))) else(ZaE v31 (Zg.mk x43.ZH x43.name) 0).bind fun x57=>(Zgd v29 ZdZ) (Xi (Kl v31 (Zg.mk x43.ZH x43.name) 0) (Zg.mk x43.ZH x43.name) (ZP (x57 + 16)),v32))) else some (v31,v32))
def Zge (F:Nat) (p0:Store):(List (Zg×Int))×(List (Zg×Int)) ->Option ((List (Zg×Int))×(List (Zg×Int))):=fun(v20,v21)=>
 loop F (ZiQ p0) (0,v20,v21)
def ZlY (F:Nat) (p0:Store) (v80:Int) (ZdW:(Int×(List (Zg×Int))×(List (Zg×Int)) ->Option ((List (Zg×Int))×(List (Zg×Int))))):(List (Zg×Int))×(List (Zg×Int)) ->Option ((List (Zg×Int))×(List (Zg×Int))):=fun(v96,v97)=>
 (bif(!true) then(Zge F p0) (v96,v97) else ZdW (ZP (v80 + 1),v96,v97))
def Zp8 (F:Nat) (p0:Store) (v70:Int) (ZdY:(Int×(List (Zg×Int))×(List (Zg×Int)) ->Option ((List (Zg×Int))×(List (Zg×Int))))):Int×(List (Zg×Int))×(List (Zg×Int)) ->(Int×(List (Zg×Int))×(List (Zg×Int)) ->Option ((List (Zg×Int))×(List (Zg×Int)))) ->Option ((List (Zg×Int))×(List (Zg×Int))):=fun(v80,v82,v83) ZdW=>
 (bif decide (v80 < p0.names) then(Zal p0.cells (Zg.mk v70 v80) (Zb.mk 0 false 0 0 0 false)).bind fun x85=>(bif x85.2 then(ZaE v82 (Zg.mk v70 x85.1.name) 0).bind fun x99=>(bif decide (x85.1.from_ >=0) then(ZaE v83 (Zg.mk x85.1.from_ x85.1.name) 0).bind fun x103=>(ZlY F p0 v80 ZdW) (Xi (Kl v82 (Zg.mk v70 x85.1.name) 0) (Zg.mk v70 x85.1.name) (ZP (x99 + x85.1.out)),Xi (Kl v83 (Zg.mk x85.1.from_ x85.1.name) 0) (Zg.mk x85.1.from_ x85.1.name) (ZP (x103 + x85.1.has))) else(ZlY F p0 v80 ZdW) (Xi (Kl v82 (Zg.mk v70 x85.1.name) 0) (Zg.mk v70 x85.1.name) (ZP (x99 + x85.1.out)),v83)) else ZdW (ZP (v80 + 1),v82,v83)) else ZdY (ZP (v70 + 1),v82,v83))
def Zp9 (F:Nat) (p0:Store):Int×(List (Zg×Int))×(List (Zg×Int)) ->(Int×(List (Zg×Int))×(List (Zg×Int)) ->Option ((List (Zg×Int))×(List (Zg×Int)))) ->Option ((List (Zg×Int))×(List (Zg×Int))):=fun(v70,v72,v73) ZdY=>
 (bif decide (v70 < p0.machines) then loop F (Zp8 F p0 v70 ZdY) (0,v72,v73) else(Zge F p0) (v72,v73))
def ZsD (F:Nat) (p0:Store):Option ((List (Zg×Int))×(List (Zg×Int))):=
 loop F (Zp9 F p0) (0,[],[])
def ZiO (p0:Za) (p1:Int) (p2:Int):Int ->(Int ->Option Int) ->Option Int:=fun v8 Zcm=>
 (ZM p0.cells p1).bind fun UU=>(bif decide (v8 < (UU.length:Int)) then(ZM p0.cells p1).bind fun x16=>(ZM x16 v8).bind fun x21=>(bif(x21.name==p2) then some v8 else Zcm (ZP (v8 + 1))) else some (-1))
def Zdw (F:Nat) (p0:Za) (p1:Int) (p2:Int):Option Int:=
 loop F (ZiO p0 p1 p2) 0
end Go.Proofs.Ytekpjgmhkkjhgaa
end
section
set_option maxRecDepth 20000
noncomputable section
namespace Go.Proofs.Ytekpjgmhkkjhgaa
open Go.YD Go.Lf
theorem ZDJ {wm:Nat} {h:H} {p0:Zv} {p1:Int} {r:Bool} (ZK:wm <=h.size) (hL:ZsG p0 p1=some r):
 WR XX 58 #[.agg [.int .i64 p0.Xf,.int .i64 p0.at_,.int .i64 p0.name,.int .i64 p0.ZH].toArray,.int .i64 p1] wm h (CP (fun(v:Value) (Gb:List (Ast wm))=>v= .bool r∧Gb= []) [] h):=by
 refine bg Try.ntmps58 ZK ZT.nil ?_;intro T hT hS;unfold ZsG at hL;refine r3 ?_;rintro _ h2 ⟨b1,eb1,rfl,hS⟩;refine r8 ?_;refine r1 ?_;obtain⟨x3,hx3,hL⟩:=bind_some hL;refine WO.cp gN rfl (Yx.fn Za5 (Zc lk (Zc lk (Zc lk Zj)))) (WT hx3) ?_;refine r16 ?_;refine r1 ?_;refine cn hL ?_ ?_
 ·intro hc hL;refine r16 ?_;refine r3 ?_;exact rt hL hT hS
 ·intro hc hL;refine WC.Ki (r:=r) (fun(v10:Bool) (s:Fs)=>∃ (fr5:Fr) (h4:H),s= ⟨fr5,[],h4,none⟩∧Sp wm T h [bx wm b1 [.int .i64 p0.Xf,.int .i64 p0.at_,.int .i64 p0.name,.int .i64 p0.ZH]] h4∧fr5.at 1= .int .i64 p1∧fr5.at 2= .pointer (some ⟨b1,0,none⟩)∧fr5.at 5= .bool x3∧fr5.at 12= .int .i64 p0.Xf∧fr5.at 26= .bool v10) (ZiW p0 p1 x3) ?_ ?_
  ·clear hL hS;rintro v10 s hL ⟨fr5,h4,rfl,hS,e6,e7,e8,e9,e11⟩;dsimp only [ZiW] at hL;refine cn hL ?_ ?_
   ·intro hc hL;refine QC ?_;refine r1 ?_;obtain⟨Wy,Zio,hL⟩:=Z8 hL;refine WO.gcp (Zh.yes rfl rfl rfl (Ye rfl fh)) rfl (fun hg=>(Yx.fn Za5 (Zc (YA (ZV rfl fh) rfl hg) (Zc lk (Zc (YA fh rfl hg) Zj))))) (fun hg=>WT (Zio hg)) ?_;refine QC ?_;refine r2 ?_;exact rt hL hT hS
   ·intro hc hL;refine r6 ?_;refine cn hL ?_ ?_
    ·intro hc hL;refine r16 ?_;refine r3 ?_;exact rt hL hT hS
    ·intro hc hL;refine r6 ?_;refine cn hL ?_ ?_
     ·intro hc hL;refine r16 ?_;refine r4 ?_;refine r1 ?_;exact rt hL hT hS
     ·intro hc hL;refine r8 ?_;refine r1 ?_;exact rt hL hT hS
  ·skip;refine r6 ?_;refine cn hL ?_ ?_
   ·intro hc hL;refine r1 ?_;exact Y8.Yp _ hL ⟨_,_,rfl,hS.only (.c k0 .n),Yy⟩
   ·intro hc hL;refine r4 ?_;exact Y8.Yp _ hL ⟨_,_,rfl,hS.only (.c k0 .n),Yy⟩
theorem ZDK {h:H} {p0:Zv} {p1:Int} {r:Bool} (hL:ZsG p0 p1=some r):Pure XX 58 #[.agg [.int .i64 p0.Xf,.int .i64 p0.at_,.int .i64 p0.name,.int .i64 p0.ZH].toArray,.int .i64 p1] h (.bool r):=
 WR.YP rfl (ZDJ (Nat.le_refl _) hL)
theorem ZDG {F wm:Nat} {h:H} {p0:(List Int)} {p1:Int} {Zr:Option Addr} {Zq:Nat} {r:Bool} (ZK:wm <=h.size) (Zw:Sl (Zz .i64) wm h Zr Zq p0) (hL:Zn3 F p0 p1=some r):
 WR XX 61 #[.slice Zr p0.length Zq,.int .i64 p1] wm h (CP (fun(v:Value) (Gb:List (Ast wm))=>v= .bool r∧Gb= []) [] h):=by
 refine bg Try.ntmps61 ZK ZT.nil ?_;intro T hT hS;unfold Zn3 at hL;refine QC ?_;refine WC.loop (WL.lift hL (fun(v5:Int) (s:Fs)=>∃ (Jf:Fr) (h1:H),s= ⟨Jf,[],h1,none⟩∧Sp wm T h [] h1∧Jf.at 0= .slice Zr p0.length Zq∧Jf.at 1= .int .i64 p1∧Jf.at 5= .int .i64 v5) ⟨_,_,rfl,hS.only .n,Yy⟩ ?_);clear hL hS;rintro Zm8 v5 s ZpJ hL ⟨Jf,h1,rfl,hS,e3,e4,e6⟩;dsimp only [ZiU] at hL;refine r8 ?_;refine r1 ?_;refine cn hL ?_ ?_
 ·intro hc hL;refine r8 ?_;obtain⟨x8,hx8,hL⟩:=bind_some hL;obtain⟨b9,o10,_,Zu8,ZvH,ZC6,ZKE⟩:=Sl.at_ Zw hx8;refine WO.w gN rfl (Zx Xo YB lk lk rfl Zu8 hx8) ?_;refine WO.w gN rfl (ZE YW (ZC fh rfl) (At.fz hS.fz ZC6 ZvH) (j:=0) rfl (v:= .int .i64 x8) rfl) ?_;refine r4 ?_;refine cn hL ?_ ?_
  ·intro hc hL;refine r8 ?_;refine r3 ?_;exact rt hL hT hS
  ·intro hc hL;refine r8 ?_;exact Yc.Yp (ZpJ _ _ hL ⟨_,_,rfl,hS.only .n,Yy⟩)
 ·intro hc hL;refine r8 ?_;refine r3 ?_;exact rt hL hT hS
theorem Zqb {F:Nat} {h:H} {p0:(List Int)} {p1:Int} {Zr:Option Addr} {Zq:Nat} {r:Bool} (Zw:Sl (Zz .i64) h.size h Zr Zq p0) (hL:Zn3 F p0 p1=some r):Pure XX 61 #[.slice Zr p0.length Zq,.int .i64 p1] h (.bool r):=
 WR.YP rfl (ZDG (Nat.le_refl _) Zw hL)
theorem Zqa {F wm:Nat} {h:H} {p0:Za} {Zr:Option Addr} {Zq:Nat} {Zn:Option Addr} {Zm:Nat} {Zl:Option Addr} {Zk:Nat} {r:Za} (ZK:wm <=h.size) (Zw:Sl (rSl Ze) wm h Zr Zq p0.cells) (ZA:Sl Zf wm h Zn Zm p0.notes) (Zy:Sl (Zz .i64) wm h Zl Zk p0.freed) (hL:ZlZ F p0=some r):
 WR XX 65 #[.agg [.slice Zr p0.cells.length Zq,.slice Zn p0.notes.length Zm,.int .i64 p0.names,.slice Zl p0.freed.length Zk].toArray] wm h (CP (fun(v:Value) (Gb:List (Ast wm))=>∃ (YH:Option Addr) (YF:Nat) (YG:Nat) (Xc:Nat ->Option Addr×Nat×Nat) (Y5:Option Addr) (Y1:Nat) (Y3:Nat) (Y4:Option Addr) (Y0:Nat) (Y2:Nat),v= .agg [.slice YH YF YG,.slice Y5 Y1 Y3,.int .i64 r.names,.slice Y4 Y0 Y2].toArray∧Gb= [JV wm (Yf Ze) YH YF YG Xc r.cells,ow wm Zf Y5 Y1 Y3 r.notes,ow wm (Zz .i64) Y4 Y0 Y2 r.freed]) [] h):=by
 refine bg Try.ntmps65 ZK ZT.nil ?_;intro T hT hS;unfold ZlZ at hL;refine r3 ?_;rintro _ h2 ⟨b1,eb1,rfl,hS⟩;refine r1 ?_;rintro _ h4 ⟨b3,eb3,rfl,hS⟩;refine QC ?_;refine r2 ?_;have hS:=hS.Zh8 (e:= (Yf Ze)) (ps:=fun _=>(Yf Ze).dflt);refine WC.loop (WL.lift hL (fun(p:(List (List Zb))×Int) (s:Fs)=>match p with | (v9,v15)=>∃ (fr6:Fr) (h5:H) (a10:Option Addr) (c11:Nat) (n12:Nat) (ZCc:Nat ->Option Addr×Nat×Nat),s= ⟨fr6,[],h5,none⟩∧Sp wm T h [JV wm (Yf Ze) a10 n12 c11 ZCc v9,bx wm b1 [.slice Zr p0.cells.length Zq,.slice Zn p0.notes.length Zm,.int .i64 p0.names,.slice Zl p0.freed.length Zk],bx wm b3 [.slice none 0 0,.slice none 0 0,.int .i64 0,.slice none 0 0]] h5∧fr6.at 1= .pointer (some ⟨b1,0,none⟩)∧fr6.at 2= .pointer (some ⟨b3,0,none⟩)∧fr6.at 3= .slice a10 n12 c11∧fr6.at 4= .int .i64 v15) ⟨_,_,none,0,0,(fun _=>(Yf Ze).dflt),rfl,hS.only (.c k0 (.c k1 (.c k0 .n))),Yy⟩ ?_);clear hL hS;rintro Zui ⟨v9,v15⟩ s ZyM hL ⟨fr6,h5,a10,c11,n12,ZCc,rfl,hS,e7,e8,e14,e16⟩;obtain rfl:=hS.JB k0;dsimp only [ZiS] at hL;refine r8 ?_;refine r2 ?_;refine cn hL ?_ ?_
 ·intro hc hL;refine r8 ?_;refine r1 ?_;obtain⟨x18,Zd5,hL⟩:=bind_some hL;obtain⟨b19,o20,⟨a21,c22⟩,Ziw,ZiA,ZnI,ZnG⟩:=Sl.at_ Zw Zd5;refine WO.w gN rfl (Zx YZ Yb lk lk rfl Ziw Zd5) ?_;have ZAF:Sl Ze wm h a21 c22 x18:=ZnG;refine WO.w gN rfl (ZE Xl (ZC fh rfl) (At.fz hS.fz ZnI ZiA) (j:=0) rfl (v:= .slice a21 x18.length c22) rfl) ?_;obtain⟨z23,ZJJ,hL⟩:=bind_some hL;have hS:=hS.nil (e:=Ze);refine WO.hv gN rfl (KE (e:=Ze) hS k0 Zac lk lk (Sl.src (hS.sl ZAF)) rfl ZJJ) ?_;rintro _ h26 ⟨a24,c25,rfl,hS⟩;refine WO.hn gN rfl (ZFa (e:=Ze) (x:=z23) hS k0 YZ Yb ZoY rfl rfl (Zp lk ZI) rfl rfl) ?_;rintro _ h28 ⟨b27,ZQb,rfl,hS⟩;obtain⟨z29,ZJI,hL⟩:=bind_some hL;refine WO.hv gN rfl (ZFb (e:= (Yf Ze)) hS (.c k1 (.c k0 .n)) Zw5 lk lk ZJI) ?_;rintro _ h33 ⟨a30,c31,Zlm,rfl,hS⟩;refine r8 ?_;refine r1 ?_;exact Yc.Yp (ZyM _ _ hL ⟨_,_,a30,c31,z29.length,Zlm,rfl,hS.only (.c k0 (.c k0 (.c k0 .n))),Yy⟩)
 ·intro hc hL;refine r8 ?_;refine r2 ?_;rintro h34 hS;refine r6 ?_;obtain⟨z35,ZJH,hL⟩:=bind_some hL;have hS:=hS.nil (e:=Zf);refine WO.hv gN rfl (KE (e:=Zf) hS k0 Wp lk lk (Sl.src (hS.sl ZA)) rfl ZJH) ?_;rintro _ h38 ⟨a36,c37,rfl,hS⟩;refine r2 ?_;rintro h39 hS;refine r6 ?_;obtain⟨z40,ZJG,hL⟩:=bind_some hL;have hS:=hS.nil (e:= (Zz .i64));refine WO.hv gN rfl (KE (e:= (Zz .i64)) hS k0 Kr lk lk (Sl.src (hS.sl Zy)) rfl ZJG) ?_;rintro _ h43 ⟨a41,c42,rfl,hS⟩;refine r2 ?_;rintro h44 hS;refine r6 ?_;rintro h45 hS;refine r3 ?_;have hr:=Oi0 hL;subst hr;exact ZX.Qz rfl (ZN (Ya rfl (Ya rfl e8)) (ZU XE YC (hS.Qm k0) (j:=0) rfl rfl (ws:= [.slice a10 v9.length c11,.slice a36 z35.length c37,.int .i64 p0.names,.slice a41 z40.length c42]) rfl) Zu) ⟨_,⟨a10,v9.length,c11,ZCc,a36,z35.length,c37,a41,z40.length,c42,rfl,rfl⟩,hT ▸ hS.only (.c k4 (.c k3 (.c k2 .n)))⟩
theorem Zwo {F wm:Nat} {h:H} {p0:Store} {ZO:Option Nat} {Zn:Option Addr} {Zm:Nat} {Zl:Option Addr} {Zk XB UW:Nat} {r:((List (Zg×Int))×(List (Zg×Int)))} (ZK:wm <=h.size) (Xe:At h XB UW [.int .i64 p0.machines,.int .i64 p0.names,.map ZO,.slice Zn p0.notes.length Zm,.slice Zl p0.freed.length Zk]) (Xd:Stb wm h XB) (Zw:UZ Zo Zt wm h ZO p0.cells) (ZA:Sl Zf wm h Zn Zm p0.notes) (Zy:Sl (Zz .i64) wm h Zl Zk p0.freed) (hL:ZsD F p0=some r):
 WR XX 68 #[.pointer (some ⟨XB,UW,none⟩)] wm h (CP (fun(v:Value) (Gb:List (Ast wm))=>∃ (Zcb:Nat) (ZAp:Nat),v= .tuple [.map (some Zcb),.map (some ZAp)].toArray∧Gb= [mp wm Zo (Value.int .i64) (some Zcb) r.1,mp wm Zo (Value.int .i64) (some ZAp) r.2]) [] h):=by
 refine WF.ZgF (args:= [_]) (fn:=Try.f68) Kq0 (by exact rfl) Try.ntmps68 (by simp) ?_;simp only [ZQ,ZW,Nat.reduceAdd];obtain⟨T,hT,hS⟩:∃ T,T=XL (wm:=wm) []∧Sp wm T h [] h:= ⟨_,rfl,Sp.start ZK ZT.nil⟩
 unfold ZsD at hL;refine r3 ?_;rintro _ h2 ⟨b1,eb1,rfl,hS⟩;refine r1 ?_;rintro _ h4 ⟨b3,eb3,rfl,hS⟩;refine r4 ?_;refine WO.hn gN rfl (ZtK Zo (Value.int .i64) hS) ?_;rintro _ h5 ⟨b6,eb6,rfl,hS⟩;refine WO.hn gN rfl (ZtK Zo (Value.int .i64) hS) ?_;rintro _ h7 ⟨b8,eb8,rfl,hS⟩;refine r1 ?_;rintro h9 hS;refine r1 ?_;rintro h10 hS;refine r6 ?_;refine WO.inl gN rfl (Yx.fn ZuW (Zc lk Zj)) (WF.begin (args:= [_]) (fn:=Try.f71) Kq0 (by exact rfl) Try.ntmps71 (by simp) ?_);simp only [ZQ,ZW,Nat.reduceAdd];refine r3 ?_;rintro _ h12 ⟨b11,ZQi,rfl,hS⟩;refine r4 ?_;refine r1 ?_;refine WO.w gN rfl (Zee (Zc lk Zj)) ?_;refine r4 ?_;refine ZX.Qz rfl (ZF lk Zu) ?_;refine r3 ?_;refine WC.Zpf (first:= []) (cap:= [.pointer (some ⟨b11,0,none⟩)]) hS lk ZpR ?_;intro h13 l14 Zot ZAf Zrk hS;refine WR.Zuv (r:=r) (fun(p:(List (Zg×Int))×(List (Zg×Int))) (v:Value) (h18:H)=>match p with | (v20,v21)=>v= .tuple [].toArray∧Sp wm T h [bx wm b1 [.map (some b6)],bx wm b3 [.map (some b8)],bx wm b11 [.pointer (some ⟨XB,UW,none⟩)],mp wm Zo (Value.int .i64) (some b6) v20,mp wm Zo (Value.int .i64) (some b8) v21,ob wm l14 ZAf,ob wm Zot .deferred] h18) (Zge F p0) ?_ (WF.begin (args:= [_,_]) (fn:=Try.f110) Kq0 (by exact rfl) Try.ntmps110 (by simp) ?_)
 ·clear hL hS;rintro⟨v20,v21⟩ v h18 hL ⟨rfl,hS⟩;dsimp only [Zge] at hL;refine RgE.sp Zrk hS k5 ?_;rintro h22 hS;refine r8 ?_;refine WO.w gN rfl (ZE ZoR (ZC fh rfl) (At.fz hS.fz Xd Xe) (j:=3) rfl (v:= .slice Zn p0.notes.length Zm) rfl) ?_;refine r4 ?_;refine r1 ?_;refine WC.loop (WL.lift hL (fun(p:Int×(List (Zg×Int))×(List (Zg×Int))) (s:Fs)=>match p with | (v29,v31,v32)=>∃ (Um:Fr) (h23:H),s= ⟨Um,[⟨.collected Zot,#[]⟩],h23,none⟩∧Sp wm T h [bx wm b1 [.map (some b6)],bx wm b3 [.map (some b8)],mp wm Zo (Value.int .i64) (some b6) v31,mp wm Zo (Value.int .i64) (some b8) v32,ob wm Zot .deferred] h23∧Um.at 2= .pointer (some ⟨b1,0,none⟩)∧Um.at 3= .pointer (some ⟨b3,0,none⟩)∧Um.at 43= .slice Zn p0.notes.length Zm∧Um.at 44= .int .i64 (p0.notes.length:Int)∧Um.at 45= .int .i64 v29) ⟨_,_,rfl,hS.only (.c k0 (.c k0 (.c k1 (.c k1 (.c k1 .n))))),Yy⟩ ?_);clear hL hS;rintro ZdZ ⟨v29,v31,v32⟩ s ZyF hL ⟨Um,h23,rfl,hS,e25,e26,e27,e28,e30⟩;dsimp only [ZiQ] at hL;refine r6 ?_;refine cn hL ?_ ?_
  ·intro hc hL;refine r2 ?_;refine WC.Ki (r:=r) (fun(p:(List (Zg×Int))×(List (Zg×Int))) (s:Fs)=>match p with | (v41,v42)=>∃ (ZpY:Fr) (h34:H),s= ⟨ZpY,[⟨.collected Zot,#[]⟩],h34,none⟩∧Sp wm T h [bx wm b1 [.map (some b6)],bx wm b3 [.map (some b8)],mp wm Zo (Value.int .i64) (some b6) v41,mp wm Zo (Value.int .i64) (some b8) v42,ob wm Zot .deferred] h34∧ZpY.at 2= .pointer (some ⟨b1,0,none⟩)∧ZpY.at 3= .pointer (some ⟨b3,0,none⟩)∧ZpY.at 43= .slice Zn p0.notes.length Zm∧ZpY.at 44= .int .i64 (p0.notes.length:Int)∧ZpY.at 45= .int .i64 v29) (Zgd v29 ZdZ) ?_ ?_
   ·clear hL hS;rintro⟨v41,v42⟩ s hL ⟨ZpY,h34,rfl,hS,e36,e37,e38,e39,e40⟩;dsimp only [Zgd] at hL;refine r4 ?_;exact Yc.Yp (ZyF _ _ hL ⟨_,_,rfl,hS.only (.c k0 (.c k0 (.c k0 (.c k0 (.c k0 .n))))),Yy⟩)
   ·skip;refine r3 ?_;obtain⟨x43,ZeI,hL⟩:=bind_some hL;obtain⟨b44,o45,_,ZnC,ZnM,Zvz,ZBb⟩:=Sl.at_ ZA ZeI;refine WO.w gN rfl (Zx QJ YN lk lk rfl ZnC ZeI) ?_;refine WO.w gN rfl (XG Zbj YN (ZC fh rfl) (At.fz hS.fz Zvz ZnM) (j:=0) rfl rfl (ws:= [.int .i64 x43.kind,.int .i64 x43.ZH,.int .i64 x43.name,.int .i64 x43.via,.int .i64 x43.w]) rfl) ?_;refine r1 ?_;rintro _ h47 ⟨b46,ZHS,rfl,hS⟩;refine r1 ?_;rintro h48 hS;refine QC ?_;refine r3 ?_;refine cn hL ?_ ?_
    ·intro hc hL;refine WC.Yo mixed Kq0 ?_;refine r4 ?_;refine r1 ?_;refine WX.w gN rfl (Xn X8 (Zp lk (Zp lk ZI)) rfl (cs':= [.int .i64 x43.via,.int .i64 x43.name]) rfl) ?_ rfl;obtain⟨x49,Zpw,hL⟩:=bind_some hL;refine WX.Zus (kv:=Zo) (vv:= (Value.int .i64)) (k:= (Zg.mk x43.via x43.name)) (z:=0) gN rfl Y7 U1 Uh (ZC (Ye rfl (Zi rfl fh)) rfl) (ZC fh rfl) (hS.get k4).at_ Zpw 10 (w:= .int .i64 x49) rfl (fun _=>rfl) ?_ rfl;refine r3 ?_;refine WX.ZwI (kv:=Zo) (vv:= (Value.int .i64)) (k:= (Zg.mk x43.via x43.name)) (z:=0) gN rfl hS k4 Y7 U1 Uh (ZC (Ya rfl (Zi rfl fh)) rfl) (ZC (Ye rfl fh) rfl) ?_ rfl 6 Kq0 Kq0 (by simp);rintro _ h50 ⟨b51,rfl,hS⟩;refine WX.w gN rfl (WV lk (v:= .int .i64 (b51:Nat)) rfl) ?_ Kq0;refine WX.hu gN (Zm0 (kv:=Zo) (vv:= (Value.int .i64)) (v:=ZP (x49 + x43.w)) hS k0 (ZC (Ya rfl (ZV rfl (Zi rfl fh))) rfl) (ZC fh rfl) (ZC (ZV rfl fh) rfl)) ?_ rfl Kq0 [] Kq0 Yh.e;rintro h52 hS;refine r3 ?_;exact Y8.Yp _ hL ⟨_,_,rfl,hS.only (.c k2 (.c k2 (.c k2 (.c k0 (.c k1 .n))))),Yy⟩
    ·intro hc hL;refine r6 ?_;refine cn hL ?_ ?_
     ·intro hc hL;refine WC.Yo mixed Kq0 ?_;refine r4 ?_;refine r1 ?_;refine WX.w gN rfl (Xn X8 (Zp lk (Zp lk ZI)) rfl (cs':= [.int .i64 x43.ZH,.int .i64 x43.name]) rfl) ?_ rfl;obtain⟨x53,Zuy,hL⟩:=bind_some hL;refine WX.Zus (kv:=Zo) (vv:= (Value.int .i64)) (k:= (Zg.mk x43.ZH x43.name)) (z:=0) gN rfl Y7 U1 Uh (ZC (Ye rfl (Zi rfl fh)) rfl) (ZC fh rfl) (hS.get k4).at_ Zuy 10 (w:= .int .i64 x53) rfl (fun _=>rfl) ?_ rfl;refine r3 ?_;refine WX.ZwI (kv:=Zo) (vv:= (Value.int .i64)) (k:= (Zg.mk x43.ZH x43.name)) (z:=0) gN rfl hS k4 Y7 U1 Uh (ZC (Ya rfl (Zi rfl fh)) rfl) (ZC (Ye rfl fh) rfl) ?_ rfl 6 Kq0 Kq0 (by simp);rintro _ h54 ⟨b55,rfl,hS⟩;refine WX.w gN rfl (WV lk (v:= .int .i64 (b55:Nat)) rfl) ?_ Kq0;refine WX.hu gN (Zm0 (kv:=Zo) (vv:= (Value.int .i64)) (v:=ZP (x53 + x43.w)) hS k0 (ZC (Ya rfl (ZV rfl (Zi rfl fh))) rfl) (ZC fh rfl) (ZC (ZV rfl fh) rfl)) ?_ rfl Kq0 [] Kq0 Yh.e;rintro h56 hS;refine r3 ?_;exact Y8.Yp _ hL ⟨_,_,rfl,hS.only (.c k2 (.c k2 (.c k2 (.c k0 (.c k1 .n))))),Yy⟩
     ·intro hc hL;refine WC.Yo mixed Kq0 ?_;refine r4 ?_;refine r1 ?_;refine WX.w gN rfl (Xn X8 (Zp lk (Zp lk ZI)) rfl (cs':= [.int .i64 x43.ZH,.int .i64 x43.name]) rfl) ?_ rfl;obtain⟨x57,ZCs,hL⟩:=bind_some hL;refine WX.Zus (kv:=Zo) (vv:= (Value.int .i64)) (k:= (Zg.mk x43.ZH x43.name)) (z:=0) gN rfl Y7 U1 Uh (ZC (Ye rfl (Zi rfl fh)) rfl) (ZC fh rfl) (hS.get k3).at_ ZCs 8 (w:= .int .i64 x57) rfl (fun _=>rfl) ?_ rfl;refine r1 ?_;refine WX.ZwI (kv:=Zo) (vv:= (Value.int .i64)) (k:= (Zg.mk x43.ZH x43.name)) (z:=0) gN rfl hS k3 Y7 U1 Uh (ZC (Ye rfl (ZV rfl (Zi rfl fh))) rfl) (ZC (ZV rfl fh) rfl) ?_ rfl 6 Kq0 Kq0 (by simp);rintro _ h58 ⟨b59,rfl,hS⟩;refine WX.w gN rfl (WV lk (v:= .int .i64 (b59:Nat)) rfl) ?_ Kq0;refine WX.hu gN (Zm0 (kv:=Zo) (vv:= (Value.int .i64)) (v:=ZP (x57 + 16)) hS k0 (ZC (Ya rfl (Zi rfl fh)) rfl) (ZC fh rfl) (ZC (ZV rfl fh) rfl)) ?_ rfl Kq0 [] Kq0 Yh.e;rintro h60 hS;refine r3 ?_;exact Y8.Yp _ hL ⟨_,_,rfl,hS.only (.c k2 (.c k2 (.c k0 (.c k1 (.c k1 .n))))),Yy⟩
  ·intro hc hL;refine r6 ?_;refine WC.Yo mixed Kq0 ?_;refine r1 ?_;refine WX.wr (fun x=>x=b3) hS gN rfl (fun _ _ hR=>ZE ZmA (ZC (ZV rfl e26) rfl) (At.eqv (hR b3 rfl) (hS.Qm k1)) (j:=0) rfl (v:= .map (some b8)) rfl) ?_ rfl rfl;rintro h61 e62 hS;refine WX.hu gN (Zbq hS k0 Zli lk lk (vs:= [.map (some b6)]) rfl rfl rfl rfl (cs':= [.map (some b6)]) rfl) ?_ rfl rfl [1] Kq0 (.c .z (hS.dj (.c k0 (.c k0 .n))) Yh.e);rintro h63 hS;refine WX.hu gN (Zbq hS k1 Zli lk lk (vs:= [.map (some b8)]) rfl rfl rfl rfl (cs':= [.map (some b8)]) rfl) ?_ rfl Kq0 [] Kq0 Yh.e;rintro h64 hS;refine r3 ?_;refine Qa.ZD2 hS k4 ?_;rintro h65 hS;have hr:=Oi0 hL;subst hr;exact Qa.gen rfl (ZN (ZV rfl (Zi rfl e25)) (KR ZmA (hS.Qm k1) (j:=0) rfl (v:= .map (some b6)) rfl) (ZN (ZV rfl (Zi rfl e26)) (KR ZmA (hS.Qm k0) (j:=0) rfl (v:= .map (some b8)) rfl) Zu)) rfl ⟨_,⟨b6,b8,rfl,rfl⟩,hT ▸ hS.only (.c k2 (.c k2 .n))⟩
 ·skip;simp only [ZQ,ZW,Nat.reduceAdd];refine r6 ?_;refine WC.loop (WL.lift hL (fun(p:Int×(List (Zg×Int))×(List (Zg×Int))) (s:Fs)=>match p with | (v70,v72,v73)=>∃ (Zv3:Fr) (h66:H),s= ⟨Zv3,[],h66,none⟩∧Sp wm T h [bx wm b11 [.pointer (some ⟨XB,UW,none⟩)],bx wm b1 [.map (some b6)],bx wm b3 [.map (some b8)],mp wm Zo (Value.int .i64) (some b6) v72,mp wm Zo (Value.int .i64) (some b8) v73,ob wm l14 ZAf,ob wm Zot .deferred] h66∧Zv3.at 0= .func (.yield l14) #[] #[]∧Zv3.at 1= .pointer (some ⟨b11,0,none⟩)∧Zv3.at 3= .int .i64 v70) ⟨_,_,rfl,hS.only (.c k2 (.c k3 (.c k2 (.c k3 (.c k2 (.c k0 (.c k0 .n))))))),Yy⟩ ?_);clear hL hS;rintro ZdY ⟨v70,v72,v73⟩ s ZlE hL ⟨Zv3,h66,rfl,hS,e68,e69,e71⟩;dsimp only [Zp9] at hL;refine r6 ?_;refine r1 ?_;refine WO.w gN rfl (ZE YW (ZC fh rfl) (At.fz hS.fz Xd Xe) (j:=0) rfl (v:= .int .i64 p0.machines) rfl) ?_;refine r3 ?_;refine cn hL ?_ ?_
  ·intro hc hL;refine r8 ?_;refine r2 ?_;refine WC.loop (WL.lift hL (fun(p:Int×(List (Zg×Int))×(List (Zg×Int))) (s:Fs)=>match p with | (v80,v82,v83)=>∃ (Zsx:Fr) (h75:H),s= ⟨Zsx,[],h75,none⟩∧Sp wm T h [bx wm b11 [.pointer (some ⟨XB,UW,none⟩)],bx wm b1 [.map (some b6)],bx wm b3 [.map (some b8)],mp wm Zo (Value.int .i64) (some b6) v82,mp wm Zo (Value.int .i64) (some b8) v83,ob wm l14 ZAf,ob wm Zot .deferred] h75∧Zsx.at 0= .func (.yield l14) #[] #[]∧Zsx.at 1= .pointer (some ⟨b11,0,none⟩)∧Zsx.at 3= .int .i64 v70∧Zsx.at 4= .int .i64 v80) ⟨_,_,rfl,hS.only (.c k0 (.c k0 (.c k0 (.c k0 (.c k0 (.c k0 (.c k0 .n))))))),Yy⟩ ?_);clear hL hS;rintro ZdW ⟨v80,v82,v83⟩ s Zrd hL ⟨Zsx,h75,rfl,hS,e77,e78,e79,e81⟩;dsimp only [Zp8] at hL;refine r6 ?_;refine r1 ?_;refine WO.w gN rfl (ZE YW (ZC fh rfl) (At.fz hS.fz Xd Xe) (j:=1) rfl (v:= .int .i64 p0.names) rfl) ?_;refine r3 ?_;refine cn hL ?_ ?_
   ·intro hc hL;refine r8 ?_;refine r1 ?_;refine WO.w gN rfl (ZE Zg8 (ZC fh rfl) (At.fz hS.fz Xd Xe) (j:=2) rfl (v:= .map ZO) rfl) ?_;refine r2 ?_;refine WO.w gN rfl (Xn X8 (Zp lk (Zp lk ZI)) rfl (cs':= [.int .i64 v70,.int .i64 v80]) rfl) ?_;obtain⟨x85,ZjU,hL⟩:=bind_some hL;refine WO.w gN rfl (Zab (kv:=Zo) (vv:=Zt) (k:= (Zg.mk v70 v80)) (z:= (Zb.mk 0 false 0 0 0 false)) Y7 Uj QR (ZC (ZV rfl (Zi rfl fh)) rfl) (ZC fh rfl) (hS.ms Zw).at_ ZjU (w:= .agg [.int .i64 x85.1.name,.bool x85.1.root,.int .i64 x85.1.from_,.int .i64 x85.1.has,.int .i64 x85.1.out,.bool x85.1.use].toArray) rfl) ?_;refine r4 ?_;rintro _ h87 ⟨b86,ZPQ,rfl,hS⟩;refine r1 ?_;rintro h88 hS;refine r8 ?_;refine r2 ?_;refine WO.ZiB (Zh.yes rfl rfl rfl (ZV rfl (Zi rfl fh))) (fun Zhf=>?_) (fun Zhf=>?_)
    ·replace hL:=Wm Zhf hL;refine WO.ZBK (Zh.on (Zh.yes rfl rfl rfl (ZV rfl (Zi rfl fh))) Zhf) rfl (YA (ZV rfl fh) rfl Zhf) (Zc (YA (Zi rfl fh) rfl Zhf) (Zc (YA fh rfl Zhf) Zj)) hS k6 Zrk rfl rfl ?_;refine r6 ?_;refine r1 ?_;rintro _ h91 ⟨b90,ZLb,rfl,hS⟩;refine r1 ?_;rintro h92 hS;refine r1 ?_;refine AsK.sp Zrk hS k7 ?_;rintro h93 hS;refine WC.jn (r:=r) (fun(p:(List (Zg×Int))×(List (Zg×Int))) (s:Fs)=>match p with | (v96,v97)=>∃ (ZHJ:Fr) (h94:H),s= ⟨ZHJ,[],h94,none⟩∧Sp wm T h [bx wm b1 [.map (some b6)],bx wm b3 [.map (some b8)],bx wm b11 [.pointer (some ⟨XB,UW,none⟩)],bx wm b86 [.int .i64 x85.1.name,.bool x85.1.root,.int .i64 x85.1.from_,.int .i64 x85.1.has,.int .i64 x85.1.out,.bool x85.1.use],mp wm Zo (Value.int .i64) (some b6) v96,mp wm Zo (Value.int .i64) (some b8) v97,ob wm l14 (bsy ZAf),ob wm Zot .deferred] h94) (ZlY F p0 v80 ZdW) ?_ ?_
     ·clear hL hS;rintro⟨v96,v97⟩ s hL ⟨ZHJ,h94,rfl,hS⟩;dsimp only [ZlY] at hL;refine BdK.sp Zrk hS k6 ?_;rintro h98 hS;refine WO.w (Zh.on (Zh.yes rfl rfl rfl (Ye rfl fh)) Zhf) rfl (Zms lk) ?_;refine WO.w gN rfl (Zjt lk Zhf lk) ?_;refine r2 ?_;refine cn hL ?_ ?_
      ·intro hc hL;refine r8 ?_;refine r1 ?_;exact ZX.gen (vs:= []) rfl Zu rfl ⟨_,hL,⟨rfl,hS.only (.c k1 (.c k1 (.c k1 (.c k2 (.c k2 (.c k0 (.c k1 .n)))))))⟩⟩
      ·intro hc hL;refine r8 ?_;exact Yc.Yp (Zrd _ _ hL ⟨_,_,rfl,hS.only (.c k3 (.c k1 (.c k1 (.c k2 (.c k2 (.c k0 (.c k1 .n))))))),Yy⟩)
     ·skip;refine r2 ?_;refine WC.Yo mixed Kq0 ?_;refine r4 ?_;refine WX.w gN rfl (Xn X8 (Zp lk (Zp lk ZI)) rfl (cs':= [.int .i64 v70,.int .i64 x85.1.name]) rfl) ?_ rfl;obtain⟨x99,hx99,hL⟩:=bind_some hL;refine WX.Zus (kv:=Zo) (vv:= (Value.int .i64)) (k:= (Zg.mk v70 x85.1.name)) (z:=0) gN rfl Y7 U1 Uh (ZC (Ye rfl fh) rfl) (ZC fh rfl) (hS.get k6).at_ hx99 9 (w:= .int .i64 x99) rfl (fun _=>rfl) ?_ rfl;refine r3 ?_;refine WX.ZwI (kv:=Zo) (vv:= (Value.int .i64)) (k:= (Zg.mk v70 x85.1.name)) (z:=0) gN rfl hS k6 Y7 U1 Uh (ZC (Ya rfl fh) rfl) (ZC (Ye rfl fh) rfl) ?_ rfl 5 Kq0 Kq0 (by simp);rintro _ ZK6 ⟨ZLL,rfl,hS⟩;refine WX.w gN rfl (WV lk (v:= .int .i64 (ZLL:Nat)) rfl) ?_ Kq0;refine WX.hu gN (Zm0 (kv:=Zo) (vv:= (Value.int .i64)) (v:=ZP (x99 + x85.1.out)) hS k0 (ZC (Ya rfl (ZV rfl fh)) rfl) (ZC fh rfl) (ZC (ZV rfl fh) rfl)) ?_ rfl Kq0 [] Kq0 Yh.e;rintro ZHH hS;refine r8 ?_;refine r1 ?_;refine cn hL ?_ ?_
      ·intro hc hL;refine WC.Yo mixed Kq0 ?_;refine r4 ?_;refine r1 ?_;refine WX.w gN rfl (Xn X8 (Zp lk (Zp lk ZI)) rfl (cs':= [.int .i64 x85.1.from_,.int .i64 x85.1.name]) rfl) ?_ rfl;obtain⟨x103,ZuE,hL⟩:=bind_some hL;refine WX.Zus (kv:=Zo) (vv:= (Value.int .i64)) (k:= (Zg.mk x85.1.from_ x85.1.name)) (z:=0) gN rfl Y7 U1 Uh (ZC (Ye rfl (Zi rfl fh)) rfl) (ZC fh rfl) (hS.get k7).at_ ZuE 10 (w:= .int .i64 x103) rfl (fun _=>rfl) ?_ rfl;refine r3 ?_;refine WX.ZwI (kv:=Zo) (vv:= (Value.int .i64)) (k:= (Zg.mk x85.1.from_ x85.1.name)) (z:=0) gN rfl hS k7 Y7 U1 Uh (ZC (Ya rfl (Zi rfl fh)) rfl) (ZC (Ye rfl fh) rfl) ?_ rfl 6 Kq0 Kq0 (by simp);rintro _ ZK4 ⟨ZLK,rfl,hS⟩;refine WX.w gN rfl (WV lk (v:= .int .i64 (ZLK:Nat)) rfl) ?_ Kq0;refine WX.hu gN (Zm0 (kv:=Zo) (vv:= (Value.int .i64)) (v:=ZP (x103 + x85.1.has)) hS k0 (ZC (Ya rfl (ZV rfl (Zi rfl fh))) rfl) (ZC fh rfl) (ZC (ZV rfl fh) rfl)) ?_ rfl Kq0 [] Kq0 Yh.e;rintro ZPG hS;refine r2 ?_;exact JnK.Yp _ hL ⟨_,_,rfl,hS.only (.c k6 (.c k6 (.c k5 (.c k4 (.c k1 (.c k0 (.c k0 (.c k1 .n))))))))⟩
      ·intro hc hL;refine r2 ?_;exact JnK.Yp _ hL ⟨_,_,rfl,hS.only (.c k5 (.c k5 (.c k4 (.c k3 (.c k0 (.c k2 (.c k0 (.c k1 .n))))))))⟩
    ·replace hL:=Wn Zhf hL;refine WO.ZjS (Zh.yes rfl rfl rfl (ZV rfl (Zi rfl fh))) Zhf rfl ?_;refine WO.ZjS (Zh.yes rfl rfl rfl (Ye rfl fh)) Zhf rfl ?_;refine WO.w gN rfl (Zju lk Zhf lk) ?_;refine r2 ?_;refine WC.Zgx lk rfl ?_;refine r8 ?_;exact Yc.Yp (Zrd _ _ hL ⟨_,_,rfl,hS.only (.c k1 (.c k1 (.c k1 (.c k1 (.c k1 (.c k1 (.c k1 .n))))))),Yy⟩)
   ·intro hc hL;refine r8 ?_;refine r3 ?_;exact Yc.Yp (ZlE _ _ hL ⟨_,_,rfl,hS.only (.c k0 (.c k0 (.c k0 (.c k0 (.c k0 (.c k0 (.c k0 .n))))))),Yy⟩)
  ·intro hc hL;refine r4 ?_;refine ZX.Yp ?_;exact ZX.gen (vs:= []) rfl Zu rfl ⟨_,hL,⟨rfl,hS.only (.c k1 (.c k1 (.c k0 (.c k0 (.c k0 (.c k0 (.c k0 .n)))))))⟩⟩
theorem ZaI {F wm:Nat} {h:H} {p0:Za} {p1 p2:Int} {Zr:Option Addr} {Zq:Nat} {Zn:Option Addr} {Zm:Nat} {Zl:Option Addr} {Zk:Nat} {r:Int} (ZK:wm <=h.size) (Zw:Sl (rSl Ze) wm h Zr Zq p0.cells) (ZA:Sl Zf wm h Zn Zm p0.notes) (Zy:Sl (Zz .i64) wm h Zl Zk p0.freed) (hL:Zdw F p0 p1 p2=some r):
 WR XX 72 #[.agg [.slice Zr p0.cells.length Zq,.slice Zn p0.notes.length Zm,.int .i64 p0.names,.slice Zl p0.freed.length Zk].toArray,.int .i64 p1,.int .i64 p2] wm h (CP (fun(v:Value) (Gb:List (Ast wm))=>v= .int .i64 r∧Gb= []) [] h):=by
 refine bg Try.ntmps72 ZK ZT.nil ?_;intro T hT hS;unfold Zdw at hL;refine r3 ?_;rintro _ h2 ⟨b1,eb1,rfl,hS⟩;refine r8 ?_;refine r2 ?_;refine WC.loop (WL.lift hL (fun(v8:Int) (s:Fs)=>∃ (UA:Fr) (h3:H),s= ⟨UA,[],h3,none⟩∧Sp wm T h [bx wm b1 [.slice Zr p0.cells.length Zq,.slice Zn p0.notes.length Zm,.int .i64 p0.names,.slice Zl p0.freed.length Zk]] h3∧UA.at 1= .int .i64 p1∧UA.at 2= .int .i64 p2∧UA.at 3= .pointer (some ⟨b1,0,none⟩)∧UA.at 7= .int .i64 v8) ⟨_,_,rfl,hS.only (.c k0 .n),Yy⟩ ?_);clear hL hS;rintro Zcm v8 s ZeL hL ⟨UA,h3,rfl,hS,e5,e6,e7,e9⟩;dsimp only [ZiO] at hL;refine r6 ?_;refine r1 ?_;obtain⟨UU,Km,hL⟩:=bind_some hL;obtain⟨b12,o13,⟨a14,c15⟩,Za6,Zcz,ZeR,ZnH⟩:=Sl.at_ Zw Km;refine WO.w gN rfl (Zx YZ Yb lk lk rfl Za6 Km) ?_;have ZMy:Sl Ze wm h a14 c15 UU:=ZnH;refine WO.w gN rfl (ZE Xl (ZC fh rfl) (At.fz hS.fz ZeR Zcz) (j:=0) rfl (v:= .slice a14 UU.length c15) rfl) ?_;refine r4 ?_;refine cn hL ?_ ?_
 ·intro hc hL;refine r8 ?_;refine r1 ?_;obtain⟨x16,hx16,hL⟩:=bind_some hL;obtain⟨b17,o18,⟨a19,c20⟩,Zvj,ZvR,ZvG,ZBh⟩:=Sl.at_ Zw hx16;refine WO.w gN rfl (Zx YZ Yb lk lk rfl Zvj hx16) ?_;have ZFW:Sl Ze wm h a19 c20 x16:=ZBh;refine WO.w gN rfl (ZE Xl (ZC fh rfl) (At.fz hS.fz ZvG ZvR) (j:=0) rfl (v:= .slice a19 x16.length c20) rfl) ?_;refine r1 ?_;obtain⟨x21,Zds,hL⟩:=bind_some hL;obtain⟨b22,o23,_,ZnE,ZnS,ZvE,ZBg⟩:=Sl.at_ ZFW Zds;refine WO.w gN rfl (Zx Xg Z0 lk lk rfl ZnE Zds) ?_;refine r1 ?_;refine WO.w gN rfl (ZE YW (ZC fh rfl) (At.fz hS.fz ZvE ZnS) (j:=0) rfl (v:= .int .i64 x21.name) rfl) ?_;refine r4 ?_;refine cn hL ?_ ?_
  ·intro hc hL;refine QC ?_;exact rt hL hT hS
  ·intro hc hL;refine r8 ?_;exact Yc.Yp (ZeL _ _ hL ⟨_,_,rfl,hS.only (.c k0 .n),Yy⟩)
 ·intro hc hL;refine r8 ?_;refine r3 ?_;exact rt hL hT hS
end Go.Proofs.Ytekpjgmhkkjhgaa
end
end
section
namespace Go.Proofs.Ytekpjgmhkkjhgaa
open Go.Lf
def Zp6 (p0:(List Zd)):Option (List Zd):=
 (app 40 ([]:List Zd) p0).bind fun z3=>some z3
def Zp5 (p0:(List Int)):Option (List Int):=
 (app 8 ([]:List Int) p0).bind fun z3=>some z3
def ZiL (v25:Int) (ZfQ:(Int×(List Int) ->Option (List Int))):(List Int) ->Option (List Int):=fun v39=>
 ZfQ (ZP (v25 + 1),v39)
def ZiM (p0:Store) (p1:Int):Int×(List Int) ->(Int×(List Int) ->Option (List Int)) ->Option (List Int):=fun(v25,v27) ZfQ=>
 (bif decide (v25 < (p0.notes.length:Int)) then(ZM p0.notes v25).bind fun x43=>(bif((x43.kind==3) && (x43.name==p1)) then(app 8 v27 [x43.ZH]).bind fun z51=>(ZiL v25 ZfQ) z51 else(ZiL v25 ZfQ) v27) else some v27)
def Zf6 (F:Nat) (p0:Store) (p1:Int):(List Int) ->Option (List Int):=fun v14=>
 loop F (ZiM p0 p1) (0,v14)
def ZlX (F:Nat) (p0:Store) (p1:Int) (v73:Int) (ZdX:(Int×(List Int) ->Option (List Int))):(List Int) ->Option (List Int):=fun v91=>
 (bif(!true) then(Zf6 F p0 p1) v91 else ZdX (ZP (v73 + 1),v91))
def Zp2 (F:Nat) (p0:Store) (p1:Int) (v61:Int) (Zlq:(Int×(List Int) ->Option (List Int))):Int×(List Int) ->(Int×(List Int) ->Option (List Int)) ->Option (List Int):=fun(v73,v75) ZdX=>
 (bif decide (v73 < p0.names) then(Zal p0.cells (Zg.mk v61 v73) (Zb.mk 0 false 0 0 0 false)).bind fun x80=>(bif x80.2 then(bif((x80.1.name==p1) && x80.1.root) then(app 8 v75 [v61]).bind fun z98=>(ZlX F p0 p1 v73 ZdX) z98 else(ZlX F p0 p1 v73 ZdX) v75) else ZdX (ZP (v73 + 1),v75)) else Zlq (ZP (v61 + 1),v75))
def Zp3 (F:Nat) (p0:Store) (p1:Int):Int×(List Int) ->(Int×(List Int) ->Option (List Int)) ->Option (List Int):=fun(v61,v63) Zlq=>
 (bif decide (v61 < p0.machines) then loop F (Zp2 F p0 p1 v61 Zlq) (0,v63) else(Zf6 F p0 p1) v63)
def Zwj (F:Nat) (p0:Store) (p1:Int):Option (List Int):=
 loop F (Zp3 F p0 p1) (0,[])
def ZiI (v7:Int) (JF:(Int ->Option Bool)):Unit ->Option Bool:=fun _=>
 JF (ZP (v7 + 1))
def ZiJ (p0:Store) (p1:Int) (p2:Int) (v7:Int) (JF:(Int ->Option Bool)):Int×Bool×Int×Int×Bool×Int×Int×Int×Bool ->(Int×Bool×Int×Int×Bool×Int×Int×Int×Bool ->Option Bool) ->Option Bool:=fun(v26,v29,v34,v36,v37,v38,v39,v40,v41) Zh9=>
 (bif decide (v34 < p0.machines) then(bif(v26==p2) then(ZiI v7 JF) () else(bif((!v29) || (decide (v38 < 0))) then some false else(Zal p0.cells (Zg.mk v38 p1) (Zb.mk 0 false 0 0 0 false)).bind fun x43=>Zh9 (v38,x43.2,ZP (v34 + 1),x43.1.name,x43.1.root,x43.1.from_,x43.1.has,x43.1.out,x43.1.use))) else(bif(v26 !=p2) then some false else(ZiI v7 JF) ()))
def ZiK (F:Nat) (p0:Store) (p1:Int) (p2:Int):Int ->(Int ->Option Bool) ->Option Bool:=fun v7 JF=>
 (bif decide (v7 < p0.machines) then(Zal p0.cells (Zg.mk v7 p1) (Zb.mk 0 false 0 0 0 false)).bind fun x17=>(bif(!x17.2) then(ZiI v7 JF) () else loop F (ZiJ p0 p1 p2 v7 JF) (v7,x17.2,0,x17.1.name,x17.1.root,x17.1.from_,x17.1.has,x17.1.out,x17.1.use)) else some true)
def ZsB (F:Nat) (p0:Store) (p1:Int) (p2:Int):Option Bool:=
 loop F (ZiK F p0 p1 p2) 0
end Go.Proofs.Ytekpjgmhkkjhgaa
end
section
set_option maxRecDepth 20000
noncomputable section
namespace Go.Proofs.Ytekpjgmhkkjhgaa
open Go.YD Go.Lf
theorem Zwm {wm:Nat} {h:H} {p0:(List Zd)} {Zr:Option Addr} {Zq:Nat} {r:(List Zd)} (ZK:wm <=h.size) (Zw:Sl Zf wm h Zr Zq p0) (hL:Zp6 p0=some r):
 WR XX 86 #[.slice Zr p0.length Zq] wm h (CP (fun(v:Value) (Gb:List (Ast wm))=>∃ (YH:Option Addr) (YF:Nat) (YG:Nat),v= .slice YH YF YG∧Gb= [ow wm Zf YH YF YG r]) [] h):=by
 refine bg Try.ntmps86 ZK ZT.nil ?_;intro T hT hS;unfold Zp6 at hL;refine r8 ?_;rcases Sl.cases Zw with⟨rfl,rfl,rfl⟩ | ⟨qa,rfl⟩
 ·
  refine r1 ?_;refine WO.w gN rfl (Y6 (ZC fh rfl) (JJ rfl) (Zk8 QJ)) ?_;refine r2 ?_;refine WC.Zmn lk rfl ?_;rw [Zw4 _ (by decide)] at hL;replace hL:some []=some r:=hL;refine r6 ?_;refine r1 ?_;have hS:=hS.nil (e:=Zf);have hr:=Oi0 hL;subst hr;exact ZX.Qz rfl (ZF lk Zu) ⟨_,⟨none,0,0,rfl,rfl⟩,hT ▸ hS.only (.c k0 .n)⟩
 ·
  refine r1 ?_;refine WO.w gN rfl (Y6 (ZC fh rfl) (JJ rfl) (Zk9 QJ)) ?_;refine r2 ?_;refine WC.Zgx lk rfl ?_;refine r4 ?_;refine WO.hn gN rfl (ZaQ (e:=Zf) hS QJ YN KT rfl rfl rfl ZI rfl [] rfl (xs:= ([]:List Zd)) rfl (by intro q hq;cases hq) rfl) ?_;rintro _ h2 ⟨b1,eb1,rfl,hS⟩;refine r1 ?_;obtain⟨z3,hz3,hL⟩:=bind_some hL;refine WO.hv gN rfl (KE (e:=Zf) hS k0 Wp lk lk (Sl.src (hS.sl Zw)) rfl hz3) ?_;rintro _ h6 ⟨a4,c5,rfl,hS⟩;refine r4 ?_;have hr:=Oi0 hL;subst hr;exact ZX.Qz rfl (ZF lk Zu) ⟨_,⟨a4,z3.length,c5,rfl,rfl⟩,hT ▸ hS.only (.c k0 .n)⟩
theorem Zwl {wm:Nat} {h:H} {p0:(List Int)} {Zr:Option Addr} {Zq:Nat} {r:(List Int)} (ZK:wm <=h.size) (Zw:Sl (Zz .i64) wm h Zr Zq p0) (hL:Zp5 p0=some r):
 WR XX 87 #[.slice Zr p0.length Zq] wm h (CP (fun(v:Value) (Gb:List (Ast wm))=>∃ (YH:Option Addr) (YF:Nat) (YG:Nat),v= .slice YH YF YG∧Gb= [ow wm (Zz .i64) YH YF YG r]) [] h):=by
 refine bg Try.ntmps87 ZK ZT.nil ?_;intro T hT hS;unfold Zp5 at hL;refine r8 ?_;rcases Sl.cases Zw with⟨rfl,rfl,rfl⟩ | ⟨qa,rfl⟩
 ·
  refine r1 ?_;refine WO.w gN rfl (Y6 (ZC fh rfl) (JJ rfl) (Zk8 Xo)) ?_;refine r2 ?_;refine WC.Zmn lk rfl ?_;rw [Zw4 _ (by decide)] at hL;replace hL:some []=some r:=hL;refine r6 ?_;refine r1 ?_;have hS:=hS.nil (e:= (Zz .i64));have hr:=Oi0 hL;subst hr;exact ZX.Qz rfl (ZF lk Zu) ⟨_,⟨none,0,0,rfl,rfl⟩,hT ▸ hS.only (.c k0 .n)⟩
 ·
  refine r1 ?_;refine WO.w gN rfl (Y6 (ZC fh rfl) (JJ rfl) (Zk9 Xo)) ?_;refine r2 ?_;refine WC.Zgx lk rfl ?_;refine r4 ?_;refine WO.hn gN rfl (ZaQ (e:= (Zz .i64)) hS Xo YB Uh rfl rfl rfl ZI rfl [] rfl (xs:= ([]:List Int)) rfl (by intro q hq;cases hq) rfl) ?_;rintro _ h2 ⟨b1,eb1,rfl,hS⟩;refine r1 ?_;obtain⟨z3,hz3,hL⟩:=bind_some hL;refine WO.hv gN rfl (KE (e:= (Zz .i64)) hS k0 Kr lk lk (Sl.src (hS.sl Zw)) rfl hz3) ?_;rintro _ h6 ⟨a4,c5,rfl,hS⟩;refine r4 ?_;have hr:=Oi0 hL;subst hr;exact ZX.Qz rfl (ZF lk Zu) ⟨_,⟨a4,z3.length,c5,rfl,rfl⟩,hT ▸ hS.only (.c k0 .n)⟩
theorem ZDx {F wm:Nat} {h:H} {p0:Store} {p1:Int} {ZO:Option Nat} {Zn:Option Addr} {Zm:Nat} {Zl:Option Addr} {Zk XB UW:Nat} {r:(List Int)} (ZK:wm <=h.size) (Xe:At h XB UW [.int .i64 p0.machines,.int .i64 p0.names,.map ZO,.slice Zn p0.notes.length Zm,.slice Zl p0.freed.length Zk]) (Xd:Stb wm h XB) (Zw:UZ Zo Zt wm h ZO p0.cells) (ZA:Sl Zf wm h Zn Zm p0.notes) (Zy:Sl (Zz .i64) wm h Zl Zk p0.freed) (hL:Zwj F p0 p1=some r):
 WR XX 90 #[.pointer (some ⟨XB,UW,none⟩),.int .i64 p1] wm h (CP (fun(v:Value) (Gb:List (Ast wm))=>∃ (YH:Option Addr) (YF:Nat) (YG:Nat),v= .slice YH YF YG∧Gb= [ow wm (Zz .i64) YH YF YG r]) [] h):=by
 refine WF.ZgF (args:= [_,_]) (fn:=Try.f90) Kq0 (by exact rfl) Try.ntmps90 (by simp) ?_;simp only [ZQ,ZW,Nat.reduceAdd];obtain⟨T,hT,hS⟩:∃ T,T=XL (wm:=wm) []∧Sp wm T h [] h:= ⟨_,rfl,Sp.start ZK ZT.nil⟩
 unfold Zwj at hL;refine r3 ?_;rintro _ h2 ⟨b1,eb1,rfl,hS⟩;refine r6 ?_;rintro _ h4 ⟨b3,eb3,rfl,hS⟩;refine r6 ?_;refine WO.inl gN rfl (Yx.fn ZuW (Zc lk Zj)) (WF.begin (args:= [_]) (fn:=Try.f71) Kq0 (by exact rfl) Try.ntmps71 (by simp) ?_);simp only [ZQ,ZW,Nat.reduceAdd];refine r3 ?_;rintro _ h6 ⟨b5,eb5,rfl,hS⟩;refine r4 ?_;refine r1 ?_;refine WO.w gN rfl (Zee (Zc lk Zj)) ?_;refine r4 ?_;refine ZX.Qz rfl (ZF lk Zu) ?_;refine r3 ?_;refine WC.Zpf (first:= []) (cap:= [.pointer (some ⟨b5,0,none⟩)]) hS lk ZpR ?_;intro h7 l8 df9 ZAg Zrl hS;refine WR.Zuv (r:=r) (fun(v14:(List Int)) (v:Value) (h12:H)=>∃ (a15:Option Addr) (c16:Nat) (n17:Nat),v= .tuple [].toArray∧Sp wm T h [bx wm b1 [.int .i64 p1],ow wm (Zz .i64) a15 n17 c16 v14,bx wm b3 [.slice a15 n17 c16],bx wm b5 [.pointer (some ⟨XB,UW,none⟩)],ob wm l8 ZAg,ob wm df9 .deferred] h12) (Zf6 F p0 p1) ?_ (WF.begin (args:= [_,_]) (fn:=Try.f110) Kq0 (by exact rfl) Try.ntmps110 (by simp) ?_)
 ·clear hL hS;rintro v14 v h12 hL ⟨a15,c16,n17,rfl,hS⟩;obtain rfl:=hS.on k1;dsimp only [Zf6] at hL;refine RgE.sp Zrl hS k4 ?_;rintro h18 hS;refine r8 ?_;refine WO.w gN rfl (ZE ZoR (ZC fh rfl) (At.fz hS.fz Xd Xe) (j:=3) rfl (v:= .slice Zn p0.notes.length Zm) rfl) ?_;refine r4 ?_;refine r1 ?_;refine WC.loop (WL.lift hL (fun(p:Int×(List Int)) (s:Fs)=>match p with | (v25,v27)=>∃ (Kv:Fr) (h19:H) (a28:Option Addr) (c29:Nat) (n30:Nat),s= ⟨Kv,[⟨.collected df9,#[]⟩],h19,none⟩∧Sp wm T h [bx wm b1 [.int .i64 p1],ow wm (Zz .i64) a28 n30 c29 v27,bx wm b3 [.slice a28 n30 c29],ob wm df9 .deferred] h19∧Kv.at 3= .pointer (some ⟨b1,0,none⟩)∧Kv.at 5= .pointer (some ⟨b3,0,none⟩)∧Kv.at 29= .slice Zn p0.notes.length Zm∧Kv.at 30= .int .i64 (p0.notes.length:Int)∧Kv.at 31= .int .i64 v25) ⟨_,_,a15,c16,v14.length,rfl,hS.only (.c k0 (.c k0 (.c k0 (.c k1 .n)))),Yy⟩ ?_);clear hL hS;rintro ZfQ ⟨v25,v27⟩ s ZyG hL ⟨Kv,h19,a28,c29,n30,rfl,hS,e21,e22,e23,e24,e26⟩;obtain rfl:=hS.on k1;dsimp only [ZiM] at hL;refine r6 ?_;refine cn hL ?_ ?_
  ·intro hc hL;refine r2 ?_;refine WC.Ki (r:=r) (fun(v39:(List Int)) (s:Fs)=>∃ (ZeW:Fr) (h32:H) (a40:Option Addr) (c41:Nat) (n42:Nat),s= ⟨ZeW,[⟨.collected df9,#[]⟩],h32,none⟩∧Sp wm T h [bx wm b1 [.int .i64 p1],ow wm (Zz .i64) a40 n42 c41 v39,bx wm b3 [.slice a40 n42 c41],ob wm df9 .deferred] h32∧ZeW.at 3= .pointer (some ⟨b1,0,none⟩)∧ZeW.at 5= .pointer (some ⟨b3,0,none⟩)∧ZeW.at 29= .slice Zn p0.notes.length Zm∧ZeW.at 30= .int .i64 (p0.notes.length:Int)∧ZeW.at 31= .int .i64 v25) (ZiL v25 ZfQ) ?_ ?_
   ·clear hL hS;rintro v39 s hL ⟨ZeW,h32,a40,c41,n42,rfl,hS,e34,e35,e36,e37,e38⟩;obtain rfl:=hS.on k1;dsimp only [ZiL] at hL;refine r4 ?_;exact Yc.Yp (ZyG _ _ hL ⟨_,_,a40,c41,v39.length,rfl,hS.only (.c k0 (.c k0 (.c k0 (.c k0 .n)))),Yy⟩)
   ·skip;refine r3 ?_;obtain⟨x43,ZeI,hL⟩:=bind_some hL;obtain⟨b44,o45,_,ZnC,ZnM,Zvz,ZBb⟩:=Sl.at_ ZA ZeI;refine WO.w gN rfl (Zx QJ YN lk lk rfl ZnC ZeI) ?_;refine WO.w gN rfl (XG Zbj YN (ZC fh rfl) (At.fz hS.fz Zvz ZnM) (j:=0) rfl rfl (ws:= [.int .i64 x43.kind,.int .i64 x43.ZH,.int .i64 x43.name,.int .i64 x43.via,.int .i64 x43.w]) rfl) ?_;refine r1 ?_;rintro _ h47 ⟨b46,ZHS,rfl,hS⟩;refine r1 ?_;rintro h48 hS;refine QC ?_;refine r3 ?_;refine cn hL ?_ ?_
    ·intro hc hL;refine r4 ?_;refine WO.hn gN rfl (ZaQ (e:= (Zz .i64)) hS Xo YB Uh rfl rfl rfl (Zp lk ZI) rfl [((),x43.ZH)] rfl (xs:= [x43.ZH]) rfl (by intro q hq;simp only [List.mem_cons,List.not_mem_nil,or_false] at hq;subst hq;exact trivial) rfl) ?_;rintro _ h50 ⟨b49,ZLf,rfl,hS⟩;obtain⟨z51,ZJC,hL⟩:=bind_some hL;refine WO.hv gN rfl (KE (e:= (Zz .i64)) hS k3 Kr lk lk (hS.QL k0) (hS.on k0) ZJC) ?_;rintro _ h54 ⟨a52,c53,rfl,hS⟩;refine r1 ?_;rintro h55 hS;refine r2 ?_;exact Y8.Yp _ hL ⟨_,_,a52,c53,z51.length,rfl,hS.only (.c k4 (.c k1 (.c k0 (.c k2 .n)))),Yy⟩
    ·intro hc hL;refine r2 ?_;exact Y8.Yp _ hL ⟨_,_,a28,c29,v27.length,rfl,hS.only (.c k1 (.c k1 (.c k1 (.c k1 .n)))),Yy⟩
  ·intro hc hL;refine QC ?_;refine Qa.ZD2 hS k3 ?_;rintro h56 hS;have hr:=Oi0 hL;subst hr;exact Qa.gen rfl (ZF lk Zu) rfl ⟨_,⟨a28,v27.length,c29,rfl,rfl⟩,hT ▸ hS.only (.c k1 .n)⟩
 ·skip;simp only [ZQ,ZW,Nat.reduceAdd];refine r6 ?_;have hS:=hS.nil (e:= (Zz .i64));refine WC.loop (WL.lift hL (fun(p:Int×(List Int)) (s:Fs)=>match p with | (v61,v63)=>∃ (Zv4:Fr) (h57:H) (a64:Option Addr) (c65:Nat) (n66:Nat),s= ⟨Zv4,[],h57,none⟩∧Sp wm T h [bx wm b5 [.pointer (some ⟨XB,UW,none⟩)],bx wm b1 [.int .i64 p1],ow wm (Zz .i64) a64 n66 c65 v63,bx wm b3 [.slice a64 n66 c65],ob wm l8 ZAg,ob wm df9 .deferred] h57∧Zv4.at 0= .func (.yield l8) #[] #[]∧Zv4.at 1= .pointer (some ⟨b5,0,none⟩)∧Zv4.at 3= .int .i64 v61) ⟨_,_,none,0,0,rfl,hS.only (.c k3 (.c k4 (.c k0 (.c k2 (.c k0 (.c k0 .n)))))),Yy⟩ ?_);clear hL hS;rintro Zlq ⟨v61,v63⟩ s Zys hL ⟨Zv4,h57,a64,c65,n66,rfl,hS,e59,e60,e62⟩;obtain rfl:=hS.on k2;dsimp only [Zp3] at hL;refine r6 ?_;refine r1 ?_;refine WO.w gN rfl (ZE YW (ZC fh rfl) (At.fz hS.fz Xd Xe) (j:=0) rfl (v:= .int .i64 p0.machines) rfl) ?_;refine r3 ?_;refine cn hL ?_ ?_
  ·intro hc hL;refine r8 ?_;refine r2 ?_;refine WC.loop (WL.lift hL (fun(p:Int×(List Int)) (s:Fs)=>match p with | (v73,v75)=>∃ (ZeV:Fr) (h68:H) (a76:Option Addr) (c77:Nat) (n78:Nat),s= ⟨ZeV,[],h68,none⟩∧Sp wm T h [bx wm b5 [.pointer (some ⟨XB,UW,none⟩)],bx wm b1 [.int .i64 p1],ow wm (Zz .i64) a76 n78 c77 v75,bx wm b3 [.slice a76 n78 c77],ob wm l8 ZAg,ob wm df9 .deferred] h68∧ZeV.at 0= .func (.yield l8) #[] #[]∧ZeV.at 1= .pointer (some ⟨b5,0,none⟩)∧ZeV.at 3= .int .i64 v61∧ZeV.at 4= .int .i64 v73) ⟨_,_,a64,c65,v63.length,rfl,hS.only (.c k0 (.c k0 (.c k0 (.c k0 (.c k0 (.c k0 .n)))))),Yy⟩ ?_);clear hL hS;rintro ZdX ⟨v73,v75⟩ s Zre hL ⟨ZeV,h68,a76,c77,n78,rfl,hS,e70,e71,e72,e74⟩;obtain rfl:=hS.on k2;dsimp only [Zp2] at hL;refine r6 ?_;refine r1 ?_;refine WO.w gN rfl (ZE YW (ZC fh rfl) (At.fz hS.fz Xd Xe) (j:=1) rfl (v:= .int .i64 p0.names) rfl) ?_;refine r3 ?_;refine cn hL ?_ ?_
   ·intro hc hL;refine r8 ?_;refine r1 ?_;refine WO.w gN rfl (ZE Zg8 (ZC fh rfl) (At.fz hS.fz Xd Xe) (j:=2) rfl (v:= .map ZO) rfl) ?_;refine r2 ?_;refine WO.w gN rfl (Xn X8 (Zp lk (Zp lk ZI)) rfl (cs':= [.int .i64 v61,.int .i64 v73]) rfl) ?_;obtain⟨x80,ZlB,hL⟩:=bind_some hL;refine WO.w gN rfl (Zab (kv:=Zo) (vv:=Zt) (k:= (Zg.mk v61 v73)) (z:= (Zb.mk 0 false 0 0 0 false)) Y7 Uj QR (ZC (ZV rfl (Zi rfl fh)) rfl) (ZC fh rfl) (hS.ms Zw).at_ ZlB (w:= .agg [.int .i64 x80.1.name,.bool x80.1.root,.int .i64 x80.1.from_,.int .i64 x80.1.has,.int .i64 x80.1.out,.bool x80.1.use].toArray) rfl) ?_;refine r4 ?_;rintro _ h82 ⟨b81,ZPS,rfl,hS⟩;refine r1 ?_;rintro h83 hS;refine r8 ?_;refine r2 ?_;refine WO.ZiB (Zh.yes rfl rfl rfl (ZV rfl (Zi rfl fh))) (fun Zhg=>?_) (fun Zhg=>?_)
    ·replace hL:=Wm Zhg hL;refine WO.ZBK (Zh.on (Zh.yes rfl rfl rfl (ZV rfl (Zi rfl fh))) Zhg) rfl (YA (ZV rfl fh) rfl Zhg) (Zc (YA (Zi rfl fh) rfl Zhg) (Zc (YA fh rfl Zhg) Zj)) hS k5 Zrl rfl rfl ?_;refine r6 ?_;refine r1 ?_;rintro _ h86 ⟨b85,ZPR,rfl,hS⟩;refine r1 ?_;rintro h87 hS;refine r1 ?_;refine AsK.sp Zrl hS k6 ?_;rintro h88 hS;refine WC.jn (r:=r) (fun(v91:(List Int)) (s:Fs)=>∃ (ZHK:Fr) (h89:H) (a92:Option Addr) (c93:Nat) (n94:Nat),s= ⟨ZHK,[],h89,none⟩∧Sp wm T h [bx wm b1 [.int .i64 p1],ow wm (Zz .i64) a92 n94 c93 v91,bx wm b3 [.slice a92 n94 c93],bx wm b5 [.pointer (some ⟨XB,UW,none⟩)],bx wm b81 [.int .i64 x80.1.name,.bool x80.1.root,.int .i64 x80.1.from_,.int .i64 x80.1.has,.int .i64 x80.1.out,.bool x80.1.use],ob wm l8 (bsy ZAg),ob wm df9 .deferred] h89) (ZlX F p0 p1 v73 ZdX) ?_ ?_
     ·clear hL hS;rintro v91 s hL ⟨ZHK,h89,a92,c93,n94,rfl,hS⟩;obtain rfl:=hS.on k1;dsimp only [ZlX] at hL;refine BdK.sp Zrl hS k5 ?_;rintro h95 hS;refine WO.w (Zh.on (Zh.yes rfl rfl rfl (Ye rfl fh)) Zhg) rfl (Zms lk) ?_;refine WO.w gN rfl (Zjt lk Zhg lk) ?_;refine r2 ?_;refine cn hL ?_ ?_
      ·intro hc hL;refine r8 ?_;refine r1 ?_;exact ZX.gen (vs:= []) rfl Zu rfl ⟨_,hL,⟨a92,c93,v91.length,rfl,hS.only (.c k1 (.c k1 (.c k1 (.c k1 (.c k0 (.c k1 .n))))))⟩⟩
      ·intro hc hL;refine r8 ?_;exact Yc.Yp (Zre _ _ hL ⟨_,_,a92,c93,v91.length,rfl,hS.only (.c k4 (.c k1 (.c k1 (.c k1 (.c k0 (.c k1 .n)))))),Yy⟩)
     ·skip;refine QC ?_;refine r1 ?_;refine cn hL ?_ ?_
      ·intro hc hL;refine r3 ?_;refine WO.hn gN rfl (ZaQ (e:= (Zz .i64)) hS Xo YB Uh rfl rfl rfl (Zp lk ZI) rfl [((),v61)] rfl (xs:= [v61]) rfl (by intro q hq;simp only [List.mem_cons,List.not_mem_nil,or_false] at hq;subst hq;exact trivial) rfl) ?_;rintro _ h97 ⟨b96,ZPP,rfl,hS⟩;obtain⟨z98,ZJv,hL⟩:=bind_some hL;refine WO.hv gN rfl (KE (e:= (Zz .i64)) hS k6 Kr lk lk (hS.QL k0) (hS.on k0) ZJv) ?_;rintro _ ZK5 ⟨a99,ZLA,rfl,hS⟩;refine r1 ?_;rintro ZHH hS;refine r2 ?_;exact JnK.Yp _ hL ⟨_,_,a99,ZLA,z98.length,rfl,hS.only (.c k7 (.c k1 (.c k0 (.c k4 (.c k3 (.c k1 (.c k2 .n)))))))⟩
      ·intro hc hL;refine r2 ?_;exact JnK.Yp _ hL ⟨_,_,a76,c77,v75.length,rfl,hS.only (.c k4 (.c k4 (.c k4 (.c k3 (.c k2 (.c k0 (.c k1 .n)))))))⟩
    ·replace hL:=Wn Zhg hL;refine WO.ZjS (Zh.yes rfl rfl rfl (ZV rfl (Zi rfl fh))) Zhg rfl ?_;refine WO.ZjS (Zh.yes rfl rfl rfl (Ye rfl fh)) Zhg rfl ?_;refine WO.w gN rfl (Zju lk Zhg lk) ?_;refine r2 ?_;refine WC.Zgx lk rfl ?_;refine r8 ?_;exact Yc.Yp (Zre _ _ hL ⟨_,_,a76,c77,v75.length,rfl,hS.only (.c k1 (.c k1 (.c k1 (.c k1 (.c k1 (.c k1 .n)))))),Yy⟩)
   ·intro hc hL;refine r8 ?_;refine r3 ?_;exact Yc.Yp (Zys _ _ hL ⟨_,_,a76,c77,v75.length,rfl,hS.only (.c k0 (.c k0 (.c k0 (.c k0 (.c k0 (.c k0 .n)))))),Yy⟩)
  ·intro hc hL;refine r4 ?_;refine ZX.Yp ?_;exact ZX.gen (vs:= []) rfl Zu rfl ⟨_,hL,⟨a64,c65,v63.length,rfl,hS.only (.c k1 (.c k1 (.c k1 (.c k0 (.c k0 (.c k0 .n))))))⟩⟩
theorem ZDv {F wm:Nat} {h:H} {p0:Store} {p1 p2:Int} {ZO:Option Nat} {Zn:Option Addr} {Zm:Nat} {Zl:Option Addr} {Zk XB UW:Nat} {r:Bool} (ZK:wm <=h.size) (Xe:At h XB UW [.int .i64 p0.machines,.int .i64 p0.names,.map ZO,.slice Zn p0.notes.length Zm,.slice Zl p0.freed.length Zk]) (Xd:Stb wm h XB) (Zw:UZ Zo Zt wm h ZO p0.cells) (ZA:Sl Zf wm h Zn Zm p0.notes) (Zy:Sl (Zz .i64) wm h Zl Zk p0.freed) (hL:ZsB F p0 p1 p2=some r):
 WR XX 91 #[.pointer (some ⟨XB,UW,none⟩),.int .i64 p1,.int .i64 p2] wm h (CP (fun(v:Value) (Gb:List (Ast wm))=>v= .bool r∧Gb= []) [] h):=by
 refine bg Try.ntmps91 ZK ZT.nil ?_;intro T hT hS;unfold ZsB at hL;refine r4 ?_;refine r1 ?_;refine WC.scope ?_;refine r1 ?_;refine WC.label ?_;refine r6 ?_;refine r1 ?_;refine WO.w gN rfl (ZE YW (ZC fh rfl) (At.fz hS.fz Xd Xe) (j:=0) rfl (v:= .int .i64 p0.machines) rfl) ?_;refine r4 ?_;refine WC.loop (WL.lift hL (fun(v7:Int) (s:Fs)=>∃ (Jf:Fr) (h1:H),s= ⟨Jf,[],h1,none⟩∧Sp wm T h [] h1∧Jf.at 0= .pointer (some ⟨XB,UW,none⟩)∧Jf.at 1= .int .i64 p1∧Jf.at 2= .int .i64 p2∧Jf.at 13= .int .i64 p0.machines∧Jf.at 14= .int .i64 v7) ⟨_,_,rfl,hS.only .n,Yy⟩ ?_);clear hL hS;rintro JF v7 s Zd8 hL ⟨Jf,h1,rfl,hS,e3,e4,e5,e6,e8⟩;dsimp only [ZiK] at hL;refine r6 ?_;refine cn hL ?_ ?_
 ·intro hc hL;refine r2 ?_;refine WC.Ki (r:=r) (fun(_:Unit) (s:Fs)=>∃ (UY:Fr) (h10:H),s= ⟨UY,[],h10,none⟩∧Sp wm T h [] h10∧UY.at 0= .pointer (some ⟨XB,UW,none⟩)∧UY.at 1= .int .i64 p1∧UY.at 2= .int .i64 p2∧UY.at 13= .int .i64 p0.machines∧UY.at 14= .int .i64 v7) (ZiI v7 JF) ?_ ?_
  ·clear hL hS;rintro _ s hL ⟨UY,h10,rfl,hS,e12,e13,e14,e15,e16⟩;dsimp only [ZiI] at hL;refine r4 ?_;exact Yc.Yp (Zd8 _ _ hL ⟨_,_,rfl,hS.only .n,Yy⟩)
  ·skip;refine QC ?_;refine WO.w gN rfl (ZE Zg8 (ZC fh rfl) (At.fz hS.fz Xd Xe) (j:=2) rfl (v:= .map ZO) rfl) ?_;refine r2 ?_;refine WO.w gN rfl (Xn X8 (Zp lk (Zp lk ZI)) rfl (cs':= [.int .i64 v7,.int .i64 p1]) rfl) ?_;obtain⟨x17,ZCt,hL⟩:=bind_some hL;refine WO.w gN rfl (Zab (kv:=Zo) (vv:=Zt) (k:= (Zg.mk v7 p1)) (z:= (Zb.mk 0 false 0 0 0 false)) Y7 Uj QR (ZC (ZV rfl (Zi rfl fh)) rfl) (ZC fh rfl) (hS.ms Zw).at_ ZCt (w:= .agg [.int .i64 x17.1.name,.bool x17.1.root,.int .i64 x17.1.from_,.int .i64 x17.1.has,.int .i64 x17.1.out,.bool x17.1.use].toArray) rfl) ?_;refine r4 ?_;rintro _ h19 ⟨b18,ZQf,rfl,hS⟩;refine r1 ?_;rintro h20 hS;refine r8 ?_;refine r2 ?_;refine cn hL ?_ ?_
   ·intro hc hL;refine r3 ?_;exact Y8.Yp _ hL ⟨_,_,rfl,hS.only .n,Yy⟩
   ·intro hc hL;refine r8 ?_;refine WO.w gN rfl (ZE YW (ZC fh rfl) (At.fz hS.fz Xd Xe) (j:=0) rfl (v:= .int .i64 p0.machines) rfl) ?_;refine r4 ?_;refine WC.loop (WL.lift hL (fun(p:Int×Bool×Int×Int×Bool×Int×Int×Int×Bool) (s:Fs)=>match p with | (v26,v29,v34,v36,v37,v38,v39,v40,v41)=>∃ (ZcA:Fr) (h21:H),s= ⟨ZcA,[],h21,none⟩∧Sp wm T h [bx wm b18 [.int .i64 v36,.bool v37,.int .i64 v38,.int .i64 v39,.int .i64 v40,.bool v41]] h21∧ZcA.at 0= .pointer (some ⟨XB,UW,none⟩)∧ZcA.at 1= .int .i64 p1∧ZcA.at 2= .int .i64 p2∧ZcA.at 7= .int .i64 v26∧ZcA.at 8= .pointer (some ⟨b18,0,none⟩)∧ZcA.at 9= .bool v29∧ZcA.at 13= .int .i64 p0.machines∧ZcA.at 14= .int .i64 v7∧ZcA.at 33= .int .i64 p0.machines∧ZcA.at 34= .int .i64 v34) ⟨_,_,rfl,hS.only (.c k0 .n),Yy⟩ ?_);clear hL hS;rintro Zh9 ⟨v26,v29,v34,v36,v37,v38,v39,v40,v41⟩ s ZlG hL ⟨ZcA,h21,rfl,hS,e23,e24,e25,e27,e28,e30,e31,e32,e33,e35⟩;dsimp only [ZiJ] at hL;refine r6 ?_;refine cn hL ?_ ?_
    ·intro hc hL;refine QC ?_;refine cn hL ?_ ?_
     ·intro hc hL;refine r2 ?_;refine Wx.other rfl ?_;refine r2 ?_;refine Wx.other rfl ?_;refine r2 ?_;exact Y8.Yp _ hL ⟨_,_,rfl,hS.only .n,Yy⟩
     ·intro hc hL;refine QC ?_;refine r2 ?_;refine cn hL ?_ ?_
      ·intro hc hL;refine QC ?_;refine r1 ?_;refine Y8.ret ?_;refine r3 ?_;refine Ztg.ret ?_;exact rt hL hT hS
      ·intro hc hL;refine QC ?_;refine r1 ?_;refine WO.w gN rfl (ZE Zg8 (ZC fh rfl) (At.fz hS.fz Xd Xe) (j:=2) rfl (v:= .map ZO) rfl) ?_;refine r2 ?_;refine WO.w gN rfl (Xn X8 (Zp lk (Zp lk ZI)) rfl (cs':= [.int .i64 v38,.int .i64 p1]) rfl) ?_;obtain⟨x43,ZeI,hL⟩:=bind_some hL;refine WO.w gN rfl (Zab (kv:=Zo) (vv:=Zt) (k:= (Zg.mk v38 p1)) (z:= (Zb.mk 0 false 0 0 0 false)) Y7 Uj QR (ZC (ZV rfl (Zi rfl fh)) rfl) (ZC fh rfl) (hS.ms Zw).at_ ZeI (w:= .agg [.int .i64 x43.1.name,.bool x43.1.root,.int .i64 x43.1.from_,.int .i64 x43.1.has,.int .i64 x43.1.out,.bool x43.1.use].toArray) rfl) ?_;refine r4 ?_;rintro h44 hS;refine r8 ?_;exact Yc.Yp (ZlG _ _ hL ⟨_,_,rfl,hS.only (.c k0 .n),Yy⟩)
    ·intro hc hL;refine QC ?_;refine cn hL ?_ ?_
     ·intro hc hL;refine r6 ?_;refine r1 ?_;refine Y8.ret ?_;refine r3 ?_;refine Ztg.ret ?_;exact rt hL hT hS
     ·intro hc hL;refine r2 ?_;exact Y8.Yp _ hL ⟨_,_,rfl,hS.only .n,Yy⟩
 ·intro hc hL;refine r8 ?_;refine r3 ?_;refine Ztg.ret ?_;exact rt hL hT hS
theorem ZDw {F:Nat} {h:H} {p0:Store} {p1 p2:Int} {ZO:Option Nat} {Zn:Option Addr} {Zm:Nat} {Zl:Option Addr} {Zk XB UW:Nat} {r:Bool} (Xe:At h XB UW [.int .i64 p0.machines,.int .i64 p0.names,.map ZO,.slice Zn p0.notes.length Zm,.slice Zl p0.freed.length Zk]) (Xd:Stb h.size h XB) (Zw:UZ Zo Zt h.size h ZO p0.cells) (ZA:Sl Zf h.size h Zn Zm p0.notes) (Zy:Sl (Zz .i64) h.size h Zl Zk p0.freed) (hL:ZsB F p0 p1 p2=some r):Pure XX 91 #[.pointer (some ⟨XB,UW,none⟩),.int .i64 p1,.int .i64 p2] h (.bool r):=
 WR.YP rfl (ZDv (Nat.le_refl _) Xe Xd Zw ZA Zy hL)
end Go.Proofs.Ytekpjgmhkkjhgaa
end
end
section
namespace Go.Proofs.Ytekpjgmhkkjhgaa
open Go.Lf
def Zwf (F:Nat) (p0:Za) (p1:Zv):Option Int:=
 (bif(p1.Xf==1) then(bif decide (p0.names >=12) then some 3 else some 0) else(bif(p1.Xf==5) then(bif decide (p1.at_ >= (p0.notes.length:Int)) then some 5 else some 0) else(Zdw F p0 p1.at_ p1.name).bind fun x5=>(gd ((!(decide (x5 < 0))) && (p1.Xf==4)) (ZM p0.cells p1.at_) default).bind fun x6=>(gd ((!(decide (x5 < 0))) && (p1.Xf==4)) (ZM x6 x5) default).bind fun UU=>(gd ((!((decide (x5 < 0)) || ((p1.Xf==4) && (!UU.root)))) && (p1.Xf !=4)) (ZM p0.cells p1.at_) default).bind fun Uc=>(gd ((!((decide (x5 < 0)) || ((p1.Xf==4) && (!UU.root)))) && (p1.Xf !=4)) (ZM Uc x5) default).bind fun x19=>(bif(((decide (x5 < 0)) || ((p1.Xf==4) && (!UU.root))) || ((p1.Xf !=4) && (!x19.use))) then some 7 else some 0)))
def Zwd (F:Nat) (p0:Za) (p1:Int) (p2:Zb):Option Bool:=
 (ZbM p2.name 0 (ZP (p0.names - 1))).bind fun x5=>(gd (!(!x5)) (ZbM p2.out (-16) 1000000) default).bind fun x6=>(gd (!(((!x5) || (!x6)) || ((!p2.use) && (p2.out==0)))) (Zn3 F p0.freed p2.name) default).bind fun x7=>(bif((((!x5) || (!x6)) || ((!p2.use) && (p2.out==0))) || x7) then some false else(bif(p2.root || (p2.from_== (-1))) then some ((p2.from_== (-1)) && (p2.has==0)) else(ZbM p2.from_ 0 (ZP ((p0.cells.length:Int) - 1))).bind fun x8=>(gd (x8 && (p2.from_ !=p1)) (ZbM p2.has 1 1000000) default).bind fun x9=>some ((x8 && (p2.from_ !=p1)) && x9)))
def Zwc (F:Nat) (p0:Za) (p1:Zd):Option Bool:=
 (ZbM p1.ZH 0 (ZP ((p0.cells.length:Int) - 1))).bind fun x5=>(gd (!(!x5)) (ZbM p1.name 0 (ZP (p0.names - 1))) default).bind fun x6=>(gd (!((!x5) || (!x6))) (Zn3 F p0.freed p1.name) default).bind fun x7=>(gd (!(((!x5) || (!x6)) || x7)) (ZbM p1.w 1 1000000) default).bind fun x8=>(bif((((!x5) || (!x6)) || x7) || (!x8)) then some false else(bif(p1.kind==1) then(ZbM p1.via 0 (ZP ((p0.cells.length:Int) - 1))).bind fun x9=>some x9 else(bif(p1.kind==2) then some (p1.via==0) else(bif(p1.kind==3) then some ((p1.via==0) && (p1.w==16)) else some false))))
def Ze8 (v10:Int) (QE:(Int×Int ->Option Int)):Int ->Option Int:=fun v18=>
 QE (v18,ZP (v10 + 1))
def Ze9 (p0:Za) (p1:Int) (p2:Int):Int×Int ->(Int×Int ->Option Int) ->Option Int:=fun(v8,v10) QE=>
 (bif decide (v10 < (p0.notes.length:Int)) then(ZM p0.notes v10).bind fun x21=>(bif(((x21.kind==3) && (x21.ZH==p1)) && (x21.name==p2)) then(Ze8 v10 QE) (ZP (v8 + 1)) else(Ze8 v10 QE) v8) else some v8)
def ZkX (F:Nat) (p0:Za) (p1:Int) (p2:Int):Option Int:=
 loop F (Ze9 p0 p1 p2) (0,0)
def Zdj (F:Nat) (p0:Za) (p2:Int) (p3:Int):Int×Int ->(Int×Int ->Option Bool) ->Option Bool:=fun(v5,v10) QE=>
 (bif decide (v10 <= (p0.cells.length:Int)) then(bif(v5==p2) then some true else(Zdw F p0 v5 p3).bind fun Uv=>(gd (!(decide (Uv < 0))) (ZM p0.cells v5) default).bind fun Uc=>(gd (!(decide (Uv < 0))) (ZM Uc Uv) default).bind fun x19=>(bif((decide (Uv < 0)) || (decide (x19.from_ < 0))) then some false else(ZM p0.cells v5).bind fun x22=>(ZM x22 Uv).bind fun x27=>QE (x27.from_,ZP (v10 + 1)))) else some false)
def Zoc (F:Nat) (p0:Za) (p1:Int) (p2:Int) (p3:Int):Option Bool:=
 loop F (Zdj F p0 p2 p3) (p1,0)
def Zdi (p0:Za) (p1:Zv) (x7:Int) (Uc:Zb):Int×Int×Int×Int ->Option Za:=fun(v31,v32,v33,v34)=>
 (ZM p0.cells p1.at_).bind fun x35=>(ZM x35 x7).bind fun x41=>(app 40 p0.notes [(Zd.mk 1 p1.ZH p1.name v33 v34)]).bind fun z50=>some (Za.mk (YK p0.cells p1.at_ (YK x35 x7 (Zb.mk Uc.name Uc.root Uc.from_ v31 v32 Uc.use))) z50 p0.names p0.freed)
def Zob (F:Nat) (p0:Za) (p1:Zv):Option Za:=
 (Zdw F p0 p1.at_ p1.name).bind fun x7=>(ZM p0.cells p1.at_).bind fun x8=>(ZM x8 x7).bind fun Uc=>(bif(((!Uc.root) && (decide (Uc.from_ >=0))) && (decide (Uc.has >=2))) then(Zpg Uc.has 2).bind fun x57=>(Zdi p0 p1 x7 Uc) (ZP (Uc.has - x57),Uc.out,Uc.from_,x57) else(Zdi p0 p1 x7 Uc) (Uc.has,ZP (Uc.out + 16),p1.at_,16))
def Zdf (p0:(List Int)) (p1:Int):Int ->(Int ->Option Int) ->Option Int:=fun v6 ZdE=>
 (bif decide (v6 < (p0.length:Int)) then(ZM p0 v6).bind fun x9=>(bif(p1==x9) then some v6 else ZdE (ZP (v6 + 1))) else some (-1))
def ZrE (F:Nat) (p0:(List Int)) (p1:Int):Option Int:=
 loop F (Zdf p0 p1) 0
end Go.Proofs.Ytekpjgmhkkjhgaa
end
section
set_option maxRecDepth 20000
noncomputable section
namespace Go.Proofs.Ytekpjgmhkkjhgaa
open Go.YD Go.Lf
theorem ZDt {F wm:Nat} {h:H} {p0:Za} {p1:Zv} {Zr:Option Addr} {Zq:Nat} {Zn:Option Addr} {Zm:Nat} {Zl:Option Addr} {Zk:Nat} {r:Int} (ZK:wm <=h.size) (Zw:Sl (rSl Ze) wm h Zr Zq p0.cells) (ZA:Sl Zf wm h Zn Zm p0.notes) (Zy:Sl (Zz .i64) wm h Zl Zk p0.freed) (hL:Zwf F p0 p1=some r):
 WR XX 96 #[.agg [.slice Zr p0.cells.length Zq,.slice Zn p0.notes.length Zm,.int .i64 p0.names,.slice Zl p0.freed.length Zk].toArray,.agg [.int .i64 p1.Xf,.int .i64 p1.at_,.int .i64 p1.name,.int .i64 p1.ZH].toArray] wm h (CP (fun(v:Value) (Gb:List (Ast wm))=>v= .int .i64 r∧Gb= []) [] h):=by
 refine bg Try.ntmps96 ZK ZT.nil ?_;intro T hT hS;unfold Zwf at hL;refine r3 ?_;rintro _ h2 ⟨b1,eb1,rfl,hS⟩;refine r1 ?_;rintro _ h4 ⟨b3,eb3,rfl,hS⟩;refine r8 ?_;refine r3 ?_;refine cn hL ?_ ?_
 ·intro hc hL;refine r8 ?_;refine cn hL ?_ ?_
  ·intro hc hL;refine r8 ?_;exact rt hL hT hS
  ·intro hc hL;refine r8 ?_;refine r1 ?_;exact rt hL hT hS
 ·intro hc hL;refine r8 ?_;refine r2 ?_;refine cn hL ?_ ?_
  ·intro hc hL;refine r8 ?_;refine r3 ?_;refine cn hL ?_ ?_
   ·intro hc hL;refine r8 ?_;exact rt hL hT hS
   ·intro hc hL;refine r8 ?_;refine r1 ?_;exact rt hL hT hS
  ·intro hc hL;refine r8 ?_;refine r1 ?_;obtain⟨x5,hx5,hL⟩:=bind_some hL;refine WO.cp gN rfl (Yx.fn ZdF (Zc lk (Zc lk (Zc lk Zj)))) (WR.YP rfl (ZaI (Nat.le_refl _) (hS.Qq Zw) (hS.Qq ZA) (hS.Qq Zy) hx5)) ?_;refine r16 ?_;refine r1 ?_;obtain⟨x6,hx6,hL⟩:=Z8 hL;obtain⟨b7,o8,⟨a9,c10⟩,hQ⟩:=Sl.atG (fun hg=>Zw) hx6;have ZCY:=fun hg=>(hQ hg).1
   have ZC8:=fun hg=>(hQ hg).2.1
   have ZKO:=fun hg=>(hQ hg).2.2.1
   have ZKF:=fun hg=>(hQ hg).2.2.2
   refine WO.gv (Zh.Zae rfl rfl rfl (Ye rfl fh)) rfl (fun hg=>(Zx YZ Yb (YA (ZV rfl fh) rfl hg) (YA fh rfl hg) rfl (ZCY hg) (hx6 hg))) ?_;have ZJ2:((!(decide (x5 < 0))) && (p1.Xf==4))=true ->Sl Ze wm h a9 c10 x6:=fun hg=>(ZKF hg)
   refine WO.gv (Zh.Zae rfl rfl rfl (Ye rfl (Zi rfl fh))) rfl (fun hg=>(ZE Xl (YA fh rfl hg) (At.fz hS.fz (ZKO hg) (ZC8 hg)) (j:=0) rfl (v:= .slice a9 x6.length c10) rfl)) ?_;refine r1 ?_;obtain⟨UU,Km,hL⟩:=Z8 hL;obtain⟨b12,o13,_,hQ⟩:=Sl.atG (fun hg=>(ZJ2 hg)) Km;have Za6:=fun hg=>(hQ hg).1
   have Zcz:=fun hg=>(hQ hg).2.1
   have ZeR:=fun hg=>(hQ hg).2.2.1
   have ZnH:=fun hg=>(hQ hg).2.2.2
   refine WO.gv (Zh.Zae rfl rfl rfl (Ye rfl (ZV rfl (Zi rfl fh)))) rfl (fun hg=>(Zx Xg Z0 (YA (Zi rfl fh) rfl hg) (YA fh rfl hg) rfl (Za6 hg) (Km hg))) ?_;refine r1 ?_;refine WO.gv (Zh.Zae rfl rfl rfl (Ya rfl (Zi rfl fh))) rfl (fun hg=>(ZE Zz5 (YA fh rfl hg) (At.fz hS.fz (ZeR hg) (Zcz hg)) (j:=1) rfl (v:= .bool UU.root) rfl)) ?_;refine r1 ?_;refine WO.gv (Zh.no rfl rfl rfl (Ya rfl (Ye rfl (ZV rfl (Zi rfl fh))))) rfl (fun hg=>(XQ (YA (Ya rfl (ZV rfl (Zi rfl fh))) rfl hg) (ZcH fh hg) lk)) ?_;refine r8 ?_;refine r2 ?_;obtain⟨Uc,ZbX,hL⟩:=Z8 hL;obtain⟨b15,o16,⟨a17,c18⟩,hQ⟩:=Sl.atG (fun hg=>Zw) ZbX;have ZeQ:=fun hg=>(hQ hg).1
   have ZeT:=fun hg=>(hQ hg).2.1
   have Ziy:=fun hg=>(hQ hg).2.2.1
   have ZkO:=fun hg=>(hQ hg).2.2.2
   refine WO.gv (Zh.Zae rfl rfl rfl (Ye rfl fh)) rfl (fun hg=>(Zx YZ Yb (YA (ZV rfl fh) rfl hg) (YA fh rfl hg) rfl (ZeQ hg) (ZbX hg))) ?_;have ZuJ:((!((decide (x5 < 0)) || ((p1.Xf==4) && (!UU.root)))) && (p1.Xf !=4))=true ->Sl Ze wm h a17 c18 Uc:=fun hg=>(ZkO hg)
   refine WO.gv (Zh.Zae rfl rfl rfl (Ye rfl (Zi rfl fh))) rfl (fun hg=>(ZE Xl (YA fh rfl hg) (At.fz hS.fz (Ziy hg) (ZeT hg)) (j:=0) rfl (v:= .slice a17 Uc.length c18) rfl)) ?_;refine r1 ?_;obtain⟨x19,Zhc,hL⟩:=Z8 hL;obtain⟨b20,o21,_,hQ⟩:=Sl.atG (fun hg=>(ZuJ hg)) Zhc;have Zvi:=fun hg=>(hQ hg).1
   have ZvQ:=fun hg=>(hQ hg).2.1
   have ZvF:=fun hg=>(hQ hg).2.2.1
   have ZGZ:=fun hg=>(hQ hg).2.2.2
   refine WO.gv (Zh.Zae rfl rfl rfl (Ye rfl (ZV rfl (Zi rfl fh)))) rfl (fun hg=>(Zx Xg Z0 (YA (Zi rfl fh) rfl hg) (YA fh rfl hg) rfl (Zvi hg) (Zhc hg))) ?_;refine r1 ?_;refine WO.gv (Zh.Zae rfl rfl rfl (Ya rfl (Zi rfl fh))) rfl (fun hg=>(ZE Zz5 (YA fh rfl hg) (At.fz hS.fz (ZvF hg) (ZvQ hg)) (j:=5) rfl (v:= .bool x19.use) rfl)) ?_;refine r1 ?_;refine WO.gv (Zh.no rfl rfl rfl (Ya rfl (Ye rfl (ZV rfl (Zi rfl fh))))) rfl (fun hg=>(XQ (YA (Ya rfl (ZV rfl (Zi rfl fh))) rfl hg) (ZcH fh hg) lk)) ?_;refine r3 ?_;refine cn hL ?_ ?_
   ·intro hc hL;refine r6 ?_;refine r1 ?_;exact rt hL hT hS
   ·intro hc hL;refine r8 ?_;exact rt hL hT hS
theorem ZDr {F wm:Nat} {h:H} {p0:Za} {p1:Int} {p2:Zb} {Zr:Option Addr} {Zq:Nat} {Zn:Option Addr} {Zm:Nat} {Zl:Option Addr} {Zk:Nat} {r:Bool} (ZK:wm <=h.size) (Zw:Sl (rSl Ze) wm h Zr Zq p0.cells) (ZA:Sl Zf wm h Zn Zm p0.notes) (Zy:Sl (Zz .i64) wm h Zl Zk p0.freed) (hL:Zwd F p0 p1 p2=some r):
 WR XX 98 #[.agg [.slice Zr p0.cells.length Zq,.slice Zn p0.notes.length Zm,.int .i64 p0.names,.slice Zl p0.freed.length Zk].toArray,.int .i64 p1,.agg [.int .i64 p2.name,.bool p2.root,.int .i64 p2.from_,.int .i64 p2.has,.int .i64 p2.out,.bool p2.use].toArray] wm h (CP (fun(v:Value) (Gb:List (Ast wm))=>v= .bool r∧Gb= []) [] h):=by
 refine bg Try.ntmps98 ZK ZT.nil ?_;intro T hT hS;unfold Zwd at hL;refine r3 ?_;rintro _ h2 ⟨b1,eb1,rfl,hS⟩;refine r1 ?_;rintro _ h4 ⟨b3,eb3,rfl,hS⟩;refine r8 ?_;refine r3 ?_;obtain⟨x5,hx5,hL⟩:=bind_some hL;refine WO.cp gN rfl (Yx.fn Za5 (Zc lk (Zc lk (Zc lk Zj)))) (WT hx5) ?_;refine r4 ?_;obtain⟨x6,hx6,hL⟩:=Z8 hL;refine WO.gcp (Zh.no rfl rfl rfl (ZV rfl fh)) rfl (fun hg=>(Yx.fn Za5 (Zc (YA fh rfl hg) (Zc lk (Zc lk Zj))))) (fun hg=>WT (hx6 hg)) ?_;refine r8 ?_;refine r2 ?_;refine WO.gv (Zh.no rfl rfl rfl (Ye rfl (ZV rfl (Zi rfl fh)))) rfl (fun hg=>(XQ (YA (ZV rfl (Zi rfl fh)) rfl hg) (ZcH fh hg) lk)) ?_;refine r6 ?_;obtain⟨x7,hx7,hL⟩:=Z8 hL;refine WO.gcp (Zh.no rfl rfl rfl (Ye rfl fh)) rfl (fun hg=>(Yx.fn ZuZ (Zc (YA (ZV rfl fh) rfl hg) (Zc (YA fh rfl hg) Zj)))) (fun hg=>Zqb (hS.Qq Zy) (hx7 hg)) ?_;refine r3 ?_;refine cn hL ?_ ?_
 ·intro hc hL;refine r6 ?_;refine r1 ?_;exact rt hL hT hS
 ·intro hc hL;refine QC ?_;refine r2 ?_;refine cn hL ?_ ?_
  ·intro hc hL;refine QC ?_;refine r3 ?_;exact rt hL hT hS
  ·intro hc hL;refine r8 ?_;refine r2 ?_;obtain⟨x8,hx8,hL⟩:=bind_some hL;refine WO.cp gN rfl (Yx.fn Za5 (Zc lk (Zc lk (Zc lk Zj)))) (WT hx8) ?_;refine r8 ?_;refine r1 ?_;obtain⟨x9,hx9,hL⟩:=Z8 hL;refine WO.gcp (Zh.yes rfl rfl rfl (ZV rfl fh)) rfl (fun hg=>(Yx.fn Za5 (Zc (YA fh rfl hg) (Zc lk (Zc lk Zj))))) (fun hg=>WT (hx9 hg)) ?_;refine r4 ?_;refine r1 ?_;exact rt hL hT hS
theorem ZDq {F wm:Nat} {h:H} {p0:Za} {p1:Zd} {Zr:Option Addr} {Zq:Nat} {Zn:Option Addr} {Zm:Nat} {Zl:Option Addr} {Zk:Nat} {r:Bool} (ZK:wm <=h.size) (Zw:Sl (rSl Ze) wm h Zr Zq p0.cells) (ZA:Sl Zf wm h Zn Zm p0.notes) (Zy:Sl (Zz .i64) wm h Zl Zk p0.freed) (hL:Zwc F p0 p1=some r):
 WR XX 99 #[.agg [.slice Zr p0.cells.length Zq,.slice Zn p0.notes.length Zm,.int .i64 p0.names,.slice Zl p0.freed.length Zk].toArray,.agg [.int .i64 p1.kind,.int .i64 p1.ZH,.int .i64 p1.name,.int .i64 p1.via,.int .i64 p1.w].toArray] wm h (CP (fun(v:Value) (Gb:List (Ast wm))=>v= .bool r∧Gb= []) [] h):=by
 refine bg Try.ntmps99 ZK ZT.nil ?_;intro T hT hS;unfold Zwc at hL;refine r3 ?_;rintro _ h2 ⟨b1,eb1,rfl,hS⟩;refine r1 ?_;rintro _ h4 ⟨b3,eb3,rfl,hS⟩;refine QC ?_;obtain⟨x5,hx5,hL⟩:=bind_some hL;refine WO.cp gN rfl (Yx.fn Za5 (Zc lk (Zc lk (Zc lk Zj)))) (WT hx5) ?_;refine r6 ?_;refine r1 ?_;obtain⟨x6,hx6,hL⟩:=Z8 hL;refine WO.gcp (Zh.no rfl rfl rfl (Ye rfl (Zi rfl fh))) rfl (fun hg=>(Yx.fn Za5 (Zc (YA (ZV rfl (Zi rfl fh)) rfl hg) (Zc lk (Zc (YA fh rfl hg) Zj))))) (fun hg=>WT (hx6 hg)) ?_;refine r6 ?_;refine r1 ?_;obtain⟨x7,hx7,hL⟩:=Z8 hL;refine WO.gcp (Zh.no rfl rfl rfl (Ye rfl fh)) rfl (fun hg=>(Yx.fn ZuZ (Zc (YA (ZV rfl fh) rfl hg) (Zc (YA fh rfl hg) Zj)))) (fun hg=>Zqb (hS.Qq Zy) (hx7 hg)) ?_;refine r4 ?_;obtain⟨x8,hx8,hL⟩:=Z8 hL;refine WO.gcp (Zh.no rfl rfl rfl (ZV rfl fh)) rfl (fun hg=>(Yx.fn Za5 (Zc (YA fh rfl hg) (Zc lk (Zc lk Zj))))) (fun hg=>WT (hx8 hg)) ?_;refine r4 ?_;refine cn hL ?_ ?_
 ·intro hc hL;refine r6 ?_;refine r1 ?_;exact rt hL hT hS
 ·intro hc hL;refine r16 ?_;refine cn hL ?_ ?_
  ·intro hc hL;refine r8 ?_;obtain⟨x9,hx9,hL⟩:=bind_some hL;refine WO.cp gN rfl (Yx.fn Za5 (Zc lk (Zc lk (Zc lk Zj)))) (WT hx9) ?_;refine r6 ?_;exact rt hL hT hS
  ·intro hc hL;refine r6 ?_;refine cn hL ?_ ?_
   ·intro hc hL;refine r8 ?_;refine r3 ?_;exact rt hL hT hS
   ·intro hc hL;refine r6 ?_;refine cn hL ?_ ?_
    ·intro hc hL;refine r16 ?_;exact rt hL hT hS
    ·intro hc hL;refine r8 ?_;refine r1 ?_;exact rt hL hT hS
theorem ZrG {F wm:Nat} {h:H} {p0:Za} {p1 p2:Int} {Zr:Option Addr} {Zq:Nat} {Zn:Option Addr} {Zm:Nat} {Zl:Option Addr} {Zk:Nat} {r:Int} (ZK:wm <=h.size) (Zw:Sl (rSl Ze) wm h Zr Zq p0.cells) (ZA:Sl Zf wm h Zn Zm p0.notes) (Zy:Sl (Zz .i64) wm h Zl Zk p0.freed) (hL:ZkX F p0 p1 p2=some r):
 WR XX 100 #[.agg [.slice Zr p0.cells.length Zq,.slice Zn p0.notes.length Zm,.int .i64 p0.names,.slice Zl p0.freed.length Zk].toArray,.int .i64 p1,.int .i64 p2] wm h (CP (fun(v:Value) (Gb:List (Ast wm))=>v= .int .i64 r∧Gb= []) [] h):=by
 refine bg Try.ntmps100 ZK ZT.nil ?_;intro T hT hS;unfold ZkX at hL;refine r3 ?_;rintro _ h2 ⟨b1,eb1,rfl,hS⟩;refine QC ?_;refine r3 ?_;refine WC.loop (WL.lift hL (fun(p:Int×Int) (s:Fs)=>match p with | (v8,v10)=>∃ (UA:Fr) (h3:H),s= ⟨UA,[],h3,none⟩∧Sp wm T h [bx wm b1 [.slice Zr p0.cells.length Zq,.slice Zn p0.notes.length Zm,.int .i64 p0.names,.slice Zl p0.freed.length Zk]] h3∧UA.at 1= .int .i64 p1∧UA.at 2= .int .i64 p2∧UA.at 3= .pointer (some ⟨b1,0,none⟩)∧UA.at 7= .int .i64 v8∧UA.at 8= .int .i64 v10) ⟨_,_,rfl,hS.only (.c k0 .n),Yy⟩ ?_);clear hL hS;rintro QE ⟨v8,v10⟩ s ZbG hL ⟨UA,h3,rfl,hS,e5,e6,e7,e9,e11⟩;dsimp only [Ze9] at hL;refine r8 ?_;refine r2 ?_;refine cn hL ?_ ?_
 ·intro hc hL;refine r2 ?_;refine WC.Ki (r:=r) (fun(v18:Int) (s:Fs)=>∃ (Zd9:Fr) (h13:H),s= ⟨Zd9,[],h13,none⟩∧Sp wm T h [bx wm b1 [.slice Zr p0.cells.length Zq,.slice Zn p0.notes.length Zm,.int .i64 p0.names,.slice Zl p0.freed.length Zk]] h13∧Zd9.at 1= .int .i64 p1∧Zd9.at 2= .int .i64 p2∧Zd9.at 3= .pointer (some ⟨b1,0,none⟩)∧Zd9.at 7= .int .i64 v18∧Zd9.at 8= .int .i64 v10) (Ze8 v10 QE) ?_ ?_
  ·clear hL hS;rintro v18 s hL ⟨Zd9,h13,rfl,hS,e15,e16,e17,e19,e20⟩;dsimp only [Ze8] at hL;refine r4 ?_;refine r1 ?_;exact Yc.Yp (ZbG _ _ hL ⟨_,_,rfl,hS.only (.c k0 .n),Yy⟩)
  ·skip;refine r6 ?_;obtain⟨x21,Zds,hL⟩:=bind_some hL;obtain⟨b22,o23,_,ZnE,ZnS,ZvE,ZBg⟩:=Sl.at_ ZA Zds;refine WO.w gN rfl (Zx QJ YN lk lk rfl ZnE Zds) ?_;refine WO.w gN rfl (XG Zbj YN (ZC fh rfl) (At.fz hS.fz ZvE ZnS) (j:=0) rfl rfl (ws:= [.int .i64 x21.kind,.int .i64 x21.ZH,.int .i64 x21.name,.int .i64 x21.via,.int .i64 x21.w]) rfl) ?_;refine r1 ?_;rintro _ h25 ⟨b24,ZQc,rfl,hS⟩;refine r1 ?_;rintro h26 hS;refine r16 ?_;refine r4 ?_;refine r1 ?_;refine cn hL ?_ ?_
   ·intro hc hL;refine r6 ?_;exact Y8.Yp _ hL ⟨_,_,rfl,hS.only (.c k1 .n),Yy⟩
   ·intro hc hL;refine r2 ?_;exact Y8.Yp _ hL ⟨_,_,rfl,hS.only (.c k1 .n),Yy⟩
 ·intro hc hL;refine QC ?_;exact rt hL hT hS
theorem ZzF {F wm:Nat} {h:H} {p0:Za} {p1 p2 p3:Int} {Zr:Option Addr} {Zq:Nat} {Zn:Option Addr} {Zm:Nat} {Zl:Option Addr} {Zk:Nat} {r:Bool} (ZK:wm <=h.size) (Zw:Sl (rSl Ze) wm h Zr Zq p0.cells) (ZA:Sl Zf wm h Zn Zm p0.notes) (Zy:Sl (Zz .i64) wm h Zl Zk p0.freed) (hL:Zoc F p0 p1 p2 p3=some r):
 WR XX 101 #[.agg [.slice Zr p0.cells.length Zq,.slice Zn p0.notes.length Zm,.int .i64 p0.names,.slice Zl p0.freed.length Zk].toArray,.int .i64 p1,.int .i64 p2,.int .i64 p3] wm h (CP (fun(v:Value) (Gb:List (Ast wm))=>v= .bool r∧Gb= []) [] h):=by
 refine bg Try.ntmps101 ZK ZT.nil ?_;intro T hT hS;unfold Zoc at hL;refine r3 ?_;rintro _ h2 ⟨b1,eb1,rfl,hS⟩;refine r8 ?_;refine r2 ?_;refine WC.loop (WL.lift hL (fun(p:Int×Int) (s:Fs)=>match p with | (v5,v10)=>∃ (UA:Fr) (h3:H),s= ⟨UA,[],h3,none⟩∧Sp wm T h [bx wm b1 [.slice Zr p0.cells.length Zq,.slice Zn p0.notes.length Zm,.int .i64 p0.names,.slice Zl p0.freed.length Zk]] h3∧UA.at 1= .int .i64 v5∧UA.at 2= .int .i64 p2∧UA.at 3= .int .i64 p3∧UA.at 4= .pointer (some ⟨b1,0,none⟩)∧UA.at 9= .int .i64 v10) ⟨_,_,rfl,hS.only (.c k0 .n),Yy⟩ ?_);clear hL hS;rintro QE ⟨v5,v10⟩ s ZbG hL ⟨UA,h3,rfl,hS,e6,e7,e8,e9,e11⟩;dsimp only [Zdj] at hL;refine r8 ?_;refine r2 ?_;refine cn hL ?_ ?_
 ·intro hc hL;refine QC ?_;refine cn hL ?_ ?_
  ·intro hc hL;refine QC ?_;exact rt hL hT hS
  ·intro hc hL;refine r6 ?_;refine r1 ?_;obtain⟨Uv,Zhd,hL⟩:=bind_some hL;refine WO.cp gN rfl (Yx.fn ZdF (Zc lk (Zc lk (Zc lk Zj)))) (WR.YP rfl (ZaI (Nat.le_refl _) (hS.Qq Zw) (hS.Qq ZA) (hS.Qq Zy) Zhd)) ?_;refine QC ?_;obtain⟨Uc,ZbX,hL⟩:=Z8 hL;obtain⟨b15,o16,⟨a17,c18⟩,hQ⟩:=Sl.atG (fun hg=>Zw) ZbX;have ZeQ:=fun hg=>(hQ hg).1
   have ZeT:=fun hg=>(hQ hg).2.1
   have Ziy:=fun hg=>(hQ hg).2.2.1
   have ZkO:=fun hg=>(hQ hg).2.2.2
   refine WO.gv (Zh.no rfl rfl rfl (ZV rfl (Zi rfl fh))) rfl (fun hg=>(Zx YZ Yb (YA (Zi rfl fh) rfl hg) (YA fh rfl hg) rfl (ZeQ hg) (ZbX hg))) ?_;have ZuJ:(!(decide (Uv < 0)))=true ->Sl Ze wm h a17 c18 Uc:=fun hg=>(ZkO hg)
   refine WO.gv (Zh.no rfl rfl rfl (Ye rfl fh)) rfl (fun hg=>(ZE Xl (YA fh rfl hg) (At.fz hS.fz (Ziy hg) (ZeT hg)) (j:=0) rfl (v:= .slice a17 Uc.length c18) rfl)) ?_;refine r1 ?_;obtain⟨x19,Zhc,hL⟩:=Z8 hL;obtain⟨b20,o21,_,hQ⟩:=Sl.atG (fun hg=>(ZuJ hg)) Zhc;have Zvi:=fun hg=>(hQ hg).1
   have ZvQ:=fun hg=>(hQ hg).2.1
   have ZvF:=fun hg=>(hQ hg).2.2.1
   have ZGZ:=fun hg=>(hQ hg).2.2.2
   refine WO.gv (Zh.no rfl rfl rfl (Ye rfl (ZV rfl fh))) rfl (fun hg=>(Zx Xg Z0 (YA (Zi rfl fh) rfl hg) (YA fh rfl hg) rfl (Zvi hg) (Zhc hg))) ?_;refine r1 ?_;refine WO.gv (Zh.no rfl rfl rfl (Ya rfl fh)) rfl (fun hg=>(ZE YW (YA fh rfl hg) (At.fz hS.fz (ZvF hg) (ZvQ hg)) (j:=2) rfl (v:= .int .i64 x19.from_) rfl)) ?_;refine r4 ?_;refine cn hL ?_ ?_
   ·intro hc hL;refine QC ?_;exact rt hL hT hS
   ·intro hc hL;refine r6 ?_;obtain⟨x22,ZuA,hL⟩:=bind_some hL;obtain⟨b23,o24,⟨a25,c26⟩,Zvg,ZvO,ZvD,Zvv⟩:=Sl.at_ Zw ZuA;refine WO.w gN rfl (Zx YZ Yb lk lk rfl Zvg ZuA) ?_;have ZuI:Sl Ze wm h a25 c26 x22:=Zvv;refine WO.w gN rfl (ZE Xl (ZC fh rfl) (At.fz hS.fz ZvD ZvO) (j:=0) rfl (v:= .slice a25 x22.length c26) rfl) ?_;refine r1 ?_;obtain⟨x27,hx27,hL⟩:=bind_some hL;obtain⟨b28,o29,_,Zcx,Zcy,Zix,ZkN⟩:=Sl.at_ ZuI hx27;refine WO.w gN rfl (Zx Xg Z0 lk lk rfl Zcx hx27) ?_;refine r1 ?_;refine WO.w gN rfl (ZE YW (ZC fh rfl) (At.fz hS.fz Zix Zcy) (j:=2) rfl (v:= .int .i64 x27.from_) rfl) ?_;refine r8 ?_;refine r1 ?_;exact Yc.Yp (ZbG _ _ hL ⟨_,_,rfl,hS.only (.c k0 .n),Yy⟩)
 ·intro hc hL;refine r8 ?_;refine r3 ?_;exact rt hL hT hS
theorem ZzG {F:Nat} {h:H} {p0:Za} {p1 p2 p3:Int} {Zr:Option Addr} {Zq:Nat} {Zn:Option Addr} {Zm:Nat} {Zl:Option Addr} {Zk:Nat} {r:Bool} (Zw:Sl (rSl Ze) h.size h Zr Zq p0.cells) (ZA:Sl Zf h.size h Zn Zm p0.notes) (Zy:Sl (Zz .i64) h.size h Zl Zk p0.freed) (hL:Zoc F p0 p1 p2 p3=some r):Pure XX 101 #[.agg [.slice Zr p0.cells.length Zq,.slice Zn p0.notes.length Zm,.int .i64 p0.names,.slice Zl p0.freed.length Zk].toArray,.int .i64 p1,.int .i64 p2,.int .i64 p3] h (.bool r):=
 WR.YP rfl (ZzF (Nat.le_refl _) Zw ZA Zy hL)
theorem ZzE {F wm:Nat} {h:H} {p0:Za} {p1:Zv} {Zr:Option Addr} {Zq YM:Nat} {YX:Nat ->Option Addr×Nat×Nat} {Zn:Option Addr} {Zm Yt:Nat} {Zl:Option Addr} {Zk Yr:Nat} {r:Za} (ZK:wm <=h.size) (hO:ZT (wm:=wm) [JV wm (Yf Ze) Zr YM Zq YX p0.cells,ow wm Zf Zn Yt Zm p0.notes,ow wm (Zz .i64) Zl Yr Zk p0.freed] h) (hL:Zob F p0 p1=some r):
 WR XX 107 #[.agg [.slice Zr YM Zq,.slice Zn Yt Zm,.int .i64 p0.names,.slice Zl Yr Zk].toArray,.agg [.int .i64 p1.Xf,.int .i64 p1.at_,.int .i64 p1.name,.int .i64 p1.ZH].toArray] wm h (CP (fun(v:Value) (Gb:List (Ast wm))=>∃ (YH:Option Addr) (YF:Nat) (YG:Nat) (Xc:Nat ->Option Addr×Nat×Nat) (Y5:Option Addr) (Y1:Nat) (Y3:Nat) (Y4:Option Addr) (Y0:Nat) (Y2:Nat),v= .agg [.slice YH YF YG,.slice Y5 Y1 Y3,.int .i64 r.names,.slice Y4 Y0 Y2].toArray∧Gb= [JV wm (Yf Ze) YH YF YG Xc r.cells,ow wm Zf Y5 Y1 Y3 r.notes,ow wm (Zz .i64) Y4 Y0 Y2 r.freed]) [JV wm (Yf Ze) Zr YM Zq YX p0.cells,ow wm Zf Zn Yt Zm p0.notes,ow wm (Zz .i64) Zl Yr Zk p0.freed] h):=by
 refine bg Try.ntmps107 ZK hO ?_;intro T hT hS;unfold Zob at hL;obtain rfl:=hS.JB k0;obtain rfl:=hS.on k1;obtain rfl:=hS.on k2;refine r3 ?_;rintro _ h2 ⟨b1,eb1,rfl,hS⟩;refine r1 ?_;rintro _ h4 ⟨b3,eb3,rfl,hS⟩;refine r1 ?_;rintro _ h6 ⟨b5,eb5,rfl,hS⟩;refine r8 ?_;refine r1 ?_;obtain⟨x7,hx7,hL⟩:=bind_some hL;refine WO.cp gN rfl (Yx.fn ZdF (Zc lk (Zc lk (Zc lk Zj)))) (WR.YP rfl (ZaI (Nat.le_refl _) (hS.nrd k3 KY) (hS.ord k4) (hS.ord k5) hx7)) ?_;refine r8 ?_;refine r1 ?_;obtain⟨x8,hx8,hL⟩:=bind_some hL;obtain⟨b9,o10,a11,n12,c13,ZFY,Zu8,ZvH⟩:=hS.atS k3 hx8;refine WO.w gN rfl (Zx YZ Yb lk lk rfl Zu8 hx8) ?_;refine WO.w gN rfl (ZE Xl (ZC fh rfl) ZvH (j:=0) rfl (v:= .slice a11 n12 c13) rfl) ?_;refine r1 ?_;obtain⟨Uc,ZbX,hL⟩:=bind_some hL;obtain⟨b15,o16,_,ZeQ,ZeT,ZkO⟩:=Src.at_ (hS.inS k3 hx8 ZFY).2.1 ZbX;refine WO.w gN rfl (Zx Xg Z0 lk lk (hS.inS k3 hx8 ZFY).1 ZeQ ZbX) ?_;refine WO.w gN rfl (XG Zaz Z0 (ZC fh rfl) ZeT (j:=0) rfl rfl (ws:= [.int .i64 Uc.name,.bool Uc.root,.int .i64 Uc.from_,.int .i64 Uc.has,.int .i64 Uc.out,.bool Uc.use]) rfl) ?_;refine r1 ?_;rintro _ h18 ⟨b17,ZzL,rfl,hS⟩;refine r1 ?_;rintro h19 hS;refine r8 ?_;refine r2 ?_;refine WO.w gN rfl (XH Zg6 (Zp lk (Zp lk (Zp lk (Zp lk (Zp lk ZI))))) rfl (cs':= [.int .i64 1,.int .i64 p1.ZH,.int .i64 p1.name,.int .i64 p1.at_,.int .i64 16]) rfl) ?_;refine r1 ?_;rintro _ h21 ⟨b20,ZQe,rfl,hS⟩;refine r1 ?_;rintro h22 hS;refine r2 ?_;refine WC.Ki (r:=r) (fun(p:Int×Int×Int×Int) (s:Fs)=>match p with | (v31,v32,v33,v34)=>∃ (Um:Fr) (h23:H),s= ⟨Um,[],h23,none⟩∧Sp wm T h [bx wm b1 [.slice Zr p0.cells.length Zq,.slice Zn p0.notes.length Zm,.int .i64 p0.names,.slice Zl p0.freed.length Zk],bx wm b3 [.int .i64 p1.Xf,.int .i64 p1.at_,.int .i64 p1.name,.int .i64 p1.ZH],bx wm b5 [.slice none 0 0,.slice none 0 0,.int .i64 0,.slice none 0 0],bx wm b17 [.int .i64 Uc.name,.bool Uc.root,.int .i64 Uc.from_,.int .i64 v31,.int .i64 v32,.bool Uc.use],bx wm b20 [.int .i64 1,.int .i64 p1.ZH,.int .i64 p1.name,.int .i64 v33,.int .i64 v34],JV wm (Yf Ze) Zr p0.cells.length Zq YX p0.cells,ow wm Zf Zn p0.notes.length Zm p0.notes,ow wm (Zz .i64) Zl p0.freed.length Zk p0.freed] h23∧Um.at 2= .pointer (some ⟨b1,0,none⟩)∧Um.at 3= .pointer (some ⟨b3,0,none⟩)∧Um.at 4= .pointer (some ⟨b5,0,none⟩)∧Um.at 5= .int .i64 x7∧Um.at 6= .pointer (some ⟨b17,0,none⟩)∧Um.at 7= .pointer (some ⟨b20,0,none⟩)) (Zdi p0 p1 x7 Uc) ?_ ?_
 ·clear hL hS;rintro⟨v31,v32,v33,v34⟩ s hL ⟨Um,h23,rfl,hS,e25,e26,e27,e28,e29,e30⟩;dsimp only [Zdi] at hL;refine r1 ?_;refine WC.Yo mixed Kq0 ?_;refine r4 ?_;obtain⟨x35,KL,hL⟩:=bind_some hL;obtain⟨b36,o37,a38,n39,c40,Znt,ZdG,ZeS⟩:=hS.atS k5 KL;refine WX.w gN rfl (Zx YZ Yb lk lk rfl ZdG KL) ?_ rfl;refine WX.w gN rfl (ZE Xl (ZC fh rfl) ZeS (j:=0) rfl (v:= .slice a38 n39 c40) rfl) ?_ rfl;refine r2 ?_;obtain⟨x41,ZfZ,hL⟩:=bind_some hL;obtain⟨b42,o43,_,ZeP,Ziz,Zvr⟩:=Src.at_ (hS.inS k5 KL Znt).2.1 ZfZ;refine WX.w gN rfl (Zx Xg Z0 lk lk (hS.inS k5 KL Znt).1 ZeP ZfZ) ?_ rfl;have hS:=hS.Zai k5 KL Znt;refine WX.hu gN (Ky (e:=Ze) (Zb.mk Uc.name Uc.root Uc.from_ v31 v32 Uc.use) () hS k1 Z0 (ZC fh rfl) (ZC (Zi rfl fh) rfl) ZeP ZfZ Ziz (j:=0) rfl (vs:= [.int .i64 Uc.name,.bool Uc.root,.int .i64 Uc.from_,.int .i64 v31,.int .i64 v32,.bool Uc.use]) rfl rfl rfl rfl rfl (cs':= [.int .i64 Uc.name,.bool Uc.root,.int .i64 Uc.from_,.int .i64 v31,.int .i64 v32,.bool Uc.use]) rfl rfl trivial) ?_ rfl rfl [] Kq0 Yh.e;rintro h44 ⟨hS,ZKP⟩;obtain⟨ZCb,ZJ8,hS⟩:=hS.Zat (.c k1 (.c k0 .n)) KL;refine r6 ?_;refine r1 ?_;refine WO.hn gN rfl (ZaQ (e:=Zf) hS QJ YN KT rfl rfl rfl (Zp lk ZI) rfl [((),(Zd.mk 1 p1.ZH p1.name v33 v34))] rfl (xs:= [(Zd.mk 1 p1.ZH p1.name v33 v34)]) rfl (by intro q hq;simp only [List.mem_cons,List.not_mem_nil,or_false] at hq;subst hq;exact trivial) rfl) ?_;rintro _ h49 ⟨b48,ZP1,rfl,hS⟩;obtain⟨z50,ZJD,hL⟩:=bind_some hL;refine WO.hv gN rfl (KE (e:=Zf) hS k7 Wp lk lk (hS.QL k0) (hS.on k0) ZJD) ?_;rintro _ h53 ⟨a51,c52,rfl,hS⟩;refine r2 ?_;rintro h54 hS;refine r6 ?_;rintro h55 hS;refine r3 ?_;have hr:=Oi0 hL;subst hr;exact ZX.Qz rfl (ZN (Ya rfl (Ya rfl e27)) (ZU XE YC (hS.Qm k0) (j:=0) rfl rfl (ws:= [.slice Zr p0.cells.length Zq,.slice a51 z50.length c52,.int .i64 p0.names,.slice Zl p0.freed.length Zk]) rfl) Zu) ⟨_,⟨Zr,p0.cells.length,Zq,ZCb,a51,z50.length,c52,Zl,p0.freed.length,Zk,rfl,rfl⟩,hT ▸ hS.only (.c k4 (.c k2 (.c k6 .n)))⟩
 ·skip;refine r16 ?_;refine r1 ?_;refine cn hL ?_ ?_
  ·intro hc hL;refine r6 ?_;rintro h56 hS;refine r6 ?_;obtain⟨x57,ZCs,hL⟩:=bind_some hL;refine WO.w gN rfl (Y6 (ZC fh rfl) (JJ rfl) (ZgM ZCs)) ?_;refine r2 ?_;rintro h58 hS;refine r8 ?_;refine r2 ?_;rintro h59 hS;refine r1 ?_;exact Y8.Yp _ hL ⟨_,_,rfl,hS.only (.c k4 (.c k3 (.c k2 (.c k0 (.c k0 (.c k0 (.c k0 (.c k0 .n)))))))),Yy⟩
  ·intro hc hL;refine r6 ?_;rintro h60 hS;refine r1 ?_;exact Y8.Yp _ hL ⟨_,_,rfl,hS.only (.c k4 (.c k3 (.c k2 (.c k0 (.c k0 (.c k0 (.c k0 (.c k0 .n)))))))),Yy⟩
theorem ZzC {F wm:Nat} {h:H} {p0:(List Int)} {p1:Int} {Zr:Option Addr} {Zq:Nat} {r:Int} (ZK:wm <=h.size) (Zw:Sl (Zz .i64) wm h Zr Zq p0) (hL:ZrE F p0 p1=some r):
 WR XX 112 #[.slice Zr p0.length Zq,.int .i64 p1] wm h (CP (fun(v:Value) (Gb:List (Ast wm))=>v= .int .i64 r∧Gb= []) [] h):=by
 refine bg Try.ntmps112 ZK ZT.nil ?_;intro T hT hS;unfold ZrE at hL;refine QC ?_;refine r2 ?_;refine WC.loop (WL.lift hL (fun(v6:Int) (s:Fs)=>∃ (Jf:Fr) (h1:H),s= ⟨Jf,[],h1,none⟩∧Sp wm T h [] h1∧Jf.at 0= .slice Zr p0.length Zq∧Jf.at 1= .int .i64 p1∧Jf.at 7= .int .i64 (p0.length:Int)∧Jf.at 8= .int .i64 v6) ⟨_,_,rfl,hS.only .n,Yy⟩ ?_);clear hL hS;rintro ZdE v6 s Zis hL ⟨Jf,h1,rfl,hS,e3,e4,e5,e7⟩;dsimp only [Zdf] at hL;refine r6 ?_;refine cn hL ?_ ?_
 ·intro hc hL;refine QC ?_;refine r3 ?_;obtain⟨x9,hx9,hL⟩:=bind_some hL;obtain⟨b10,o11,_,ZnF,ZnT,ZnJ,Zrm⟩:=Sl.at_ Zw hx9;refine WO.w gN rfl (Zx Xo YB lk lk rfl ZnF hx9) ?_;refine WO.w gN rfl (ZE YW (ZC fh rfl) (At.fz hS.fz ZnJ ZnT) (j:=0) rfl (v:= .int .i64 x9) rfl) ?_;refine r3 ?_;refine cn hL ?_ ?_
  ·intro hc hL;refine QC ?_;exact rt hL hT hS
  ·intro hc hL;refine r6 ?_;refine r1 ?_;exact Yc.Yp (Zis _ _ hL ⟨_,_,rfl,hS.only .n,Yy⟩)
 ·intro hc hL;refine r8 ?_;refine r3 ?_;exact rt hL hT hS
end Go.Proofs.Ytekpjgmhkkjhgaa
end
end
section
namespace Go.Proofs.Ytekpjgmhkkjhgaa
open Go.Lf
def Zn8 (p0:Store) (p1:Zv):Option (PR Unit):=
 (Zal p0.cells (Zg.mk p1.at_ p1.name) (Zb.mk 0 false 0 0 0 false)).bind fun x3=>(bif(p1.Xf==1) then(bif decide (p0.names >=12) then some (.Jz 3) else some (.ok ())) else(bif(p1.Xf==5) then(bif decide (p1.at_ >= (p0.notes.length:Int)) then some (.Jz 5) else some (.ok ())) else(bif(p1.Xf==4) then(bif((!x3.2) || (!x3.1.root)) then some (.Jz 7) else some (.ok ())) else(bif((!x3.2) || (!x3.1.use)) then some (.Jz 7) else some (.ok ())))))
def Zav (p0:Store) (p1:Zd):Option Store:=
 (app 40 p0.notes [p1]).bind fun z5=>some (Store.mk p0.machines p0.names p0.cells z5 p0.freed)
def Zn6 (p0:(List Zd)) (p1:Int) (p2:Int):Option (List Zd):=
 (slL p0 p1 p2).bind fun z1=>(bif(p1==p2) then some p0 else(slL p0 0 p1).bind fun z4=>(slL p0 p2 (p0.length:Int)).bind fun z13=>(app 40 z4 z13).bind fun z17=>some z17)
def Zn5 (p0:Int):Option Zb:=
 some (Zb.mk p0 false (-1) 0 0 false)
def Ze3 (v20:Int) (ZfR:(Int×(List Zb)×Int ->Option (Za×Int))) (x35:Zb):Int×(List Zb) ->Option (Za×Int):=fun(v47,v49)=>
 (app 48 v49 [x35]).bind fun z58=>ZfR (v47,z58,ZP (v20 + 1))
def Ze2 (p0:Za) (p1:Int):Int×(List Zb) ->Option (Za×Int):=fun(v73,v75)=>
 (ZM p0.cells p1).bind fun x80=>some ((Za.mk (YK p0.cells p1 v75) p0.notes p0.names p0.freed),v73)
def Ze4 (p0:Za) (p1:Int) (p2:Int):Int×(List Zb)×Int ->(Int×(List Zb)×Int ->Option (Za×Int)) ->Option (Za×Int):=fun(v13,v15,v20) ZfR=>
 (ZM p0.cells p1).bind fun x23=>(bif decide (v20 < (x23.length:Int)) then(ZM p0.cells p1).bind fun x29=>(ZM x29 v20).bind fun x35=>(bif((decide (v13 < 0)) && (decide (x35.name > p2))) then(app 48 v15 [(Zb.mk p2 false (-1) 0 0 false)]).bind fun z64=>(Ze3 v20 ZfR x35) ((v15.length:Int),z64) else(Ze3 v20 ZfR x35) (v13,v15)) else(bif decide (v13 < 0) then(app 48 v15 [(Zb.mk p2 false (-1) 0 0 false)]).bind fun z92=>(Ze2 p0 p1) ((v15.length:Int),z92) else(Ze2 p0 p1) (v13,v15)))
def Zjd (F:Nat) (p0:Za) (p1:Int) (p2:Int):Option (Za×Int):=
 (Zdw F p0 p1 p2).bind fun x5=>(bif decide (x5 >=0) then some (p0,x5) else loop F (Ze4 p0 p1 p2) ((-1),[],0))
def Zjc (F:Nat) (p0:Za) (p1:Int) (p2:Int) (p3:Int) (p4:Int):Option Za:=
 (bif(p3 !=p1) then(app 40 p0.notes [(Zd.mk 2 p3 p2 0 p4)]).bind fun z7=>some (Za.mk p0.cells z7 p0.names p0.freed) else(Zjd F p0 p1 p2).bind fun Uv=>(ZM Uv.1.cells p1).bind fun QK=>(ZM Uv.1.cells p1).bind fun x32=>(ZM x32 Uv.2).bind fun x38=>(ZM QK Uv.2).bind fun x41=>some (Za.mk (YK Uv.1.cells p1 (YK QK Uv.2 (Zb.mk x41.name x41.root x41.from_ x41.has (ZP (x38.out - p4)) x41.use))) Uv.1.notes Uv.1.names Uv.1.freed))
def Ze0 (p0:(List Int)) (v12:Int) (Zcl:((List Int)×Bool×Int ->Option (List Int))):(List Int)×Bool ->Option (List Int):=fun(v19,v24)=>
 (ZM p0 v12).bind fun x27=>(app 8 v19 [x27]).bind fun z32=>Zcl (z32,v24,ZP (v12 + 1))
def ZeZ:(List Int) ->Option (List Int):=fun v47=>
 some v47
def Ze1 (p0:(List Int)) (p1:Int):(List Int)×Bool×Int ->((List Int)×Bool×Int ->Option (List Int)) ->Option (List Int):=fun(v5,v10,v12) Zcl=>
 (bif decide (v12 < (p0.length:Int)) then(gd (!v10) (ZM p0 v12) default).bind fun x36=>(bif((!v10) && (decide (x36 > p1))) then(app 8 v5 [p1]).bind fun z41=>(Ze0 p0 v12 Zcl) (z41,true) else(Ze0 p0 v12 Zcl) (v5,v10)) else(bif(!v10) then(app 8 v5 [p1]).bind fun z54=>(ZeZ) z54 else(ZeZ) v5))
def ZkW (F:Nat) (p0:(List Int)) (p1:Int):Option (List Int):=
 loop F (Ze1 p0 p1) ([],false,0)
end Go.Proofs.Ytekpjgmhkkjhgaa
end
