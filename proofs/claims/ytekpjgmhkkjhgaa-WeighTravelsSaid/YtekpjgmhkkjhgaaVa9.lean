/- Travels Part 9 of the proof. -/
import Derived.Test.YtekpjgmhkkjhgaaVa8
set_option linter.all false
section
noncomputable section
namespace Go.YD
open Go.Lf
variable {X:Ctx} {n wm:Nat} {rd:Option Nat} {ops:Array Oper} {l:List Oper} {fr:Fr} {ds:List Deferred} {h h1 h2 h0:H} {ty:TypeId} {p:String} {af:Array Edge} {g:Option (Nat×Bool)} {m:Nat} {T:Nat ->Prop} {G Gr Ga Gb:List (Ast wm)} {d:Nat} {sf:ST}
def HW (X:Ctx) (wm:Nat) (o:Oper) (fr:Fr) (h:H) (K:H ->Prop):Prop:=∃ v E h1,Xt X h (Z6 fr) o=some (.val v,E)∧E.apply wm h=some h1∧K h1
theorem WO.hw {Q:XX ->Fs ->Prop} {op:Op} {K:H ->Prop} (hg:ZY ops ⟨none,op,ty,p,af,g⟩ fr) (s:HW X wm ⟨none,op,ty,p,af,g⟩ fr h K) (k:∀ h',K h' ->WO X n wm rd ops l ⟨fr,ds,h',none⟩ Q):
 WO X n wm rd ops (⟨none,op,ty,p,af,g⟩::l) ⟨fr,ds,h,none⟩ Q:=let⟨_,_,h1,ha,hE,hk⟩:=s;WO.val hg rfl ha hE (k h1 hk)
theorem Qz {t:TypeId} {x:Operand} {lo hi mx:Option Operand} {a:Option Addr} {nn c:Nat} {vlo vhi vmx:Option Value} {v:Value} (hx:Z6 fr x=some (.slice a nn c)) (el1:evo (Z6 fr) lo=some vlo) (eh1:evo (Z6 fr) hi=some vhi) (em1:evo (Z6 fr) mx=some vmx) (hv:aslice X.P h t (.slice a nn c) vlo vhi vmx=some v):
 Xt X h (Z6 fr) ⟨some d,.slice t x lo hi mx,ty,p,af,g⟩=some (.val v,.none):=by
 show(match Z6 fr x,evo (Z6 fr) lo,evo (Z6 fr) hi,evo (Z6 fr) mx with
  | some x,some lo,some hi,some mx=>bif plain x && not (Znl x) then(match lo,hi,mx with
     | lo,hi,mx=>bif QI (lo.toList ++ hi.toList ++ mx.toList) then pN (ZaS X.P (Instr.sliceAt t x lo hi mx)) else none)
    else vN (aslice X.P h t x lo hi mx)
  | _,_,_,_=>none)=_
 rw [hx,el1,eh1,em1];show(bif plain (.slice a nn c) && not (Znl (.slice a nn c)) then _ else vN (aslice X.P h t (.slice a nn c) vlo vhi vmx))=_;have:Znl (.slice a nn c)=true:=rfl;rw [this,Bool.not_true,Bool.and_false,Cq0,hv];rfl
section
variable {α:Type} {e:Uh α} {t el:TypeId} {x:Operand} {a:Option Addr} {nn c:Nat} {xs zs ws us:List α} {a1 a2 a3:Int}
theorem Zy5 {lo hi mx:Operand} (so:XM e wm wm h a c xs) (hn:nn=xs.length) (hu:X.P.underlying t=some (.slice el)) (hs:Yc X.P el=some e.sz) (hx:Z6 fr x=some (.slice a nn c))
 (hlo:Z6 fr lo=some (.int .i64 a1)) (hhi:Z6 fr hi=some (.int .i64 a2)) (hmx:Z6 fr mx=some (.int .i64 (xs.length:Nat))) (hz:slL xs a1 a2=some zs):
 ∃ v,Xt X h (Z6 fr) ⟨some d,.slice t x (some lo) (some hi) (some mx),ty,p,af,g⟩=some (.val v,.none):=by
 obtain⟨l,k,rfl,rfl,hlk,hkx,rfl⟩:=Wi hz;subst hn;have e1:obN (some (.int .i64 (l:Int))) 0=some l:=rfl;have e2:∀ q,obN (some (.int .i64 (k:Int))) q=some k:=fun q=>rfl
 have e3:Zcm (.int .i64 ((xs.length:Nat):Int))=some xs.length:=rfl;rcases so.mem with⟨rfl,rfl,rfl⟩ | ⟨i,o,cs,rfl,q2,q3,q4,q5,q6⟩
 ·have hk0:k=0:=by simpa using hkx
  have hl0:l=0:=by omega
  subst hk0 hl0;refine⟨.slice none 0 0,Qz hx (YL hlo) (YL hhi) (YL hmx) ?_⟩
  have:aslice X.P h t (.slice none 0 0) (some (.int .i64 ((0:Nat):Int))) (some (.int .i64 ((0:Nat):Int))) (some (.int .i64 ((0:Nat):Int)))=some (.slice none 0 0):=by
   unfold aslice;simp only [hu,hs]
   rfl
  exact this
 ·refine⟨.slice (some ⟨i,bif Nat.beq xs.length l then o else o + l * e.sz,none⟩) (k - l) (2 * (xs.length - l)),Qz hx (YL hlo) (YL hhi) (YL hmx) ?_⟩;unfold aslice;simp only [hu,hs,e1,e2,e3];rw [Nm0 hlk,Nm0 hkx,Nm0 q4]
  rfl
theorem Zy4 {hi:Operand} (so:XM e wm wm h a c xs) (hn:nn=xs.length) (hu:X.P.underlying t=some (.slice el)) (hs:Yc X.P el=some e.sz) (hx:Z6 fr x=some (.slice a nn c))
 (hhi:Z6 fr hi=some (.int .i64 a2)) (hz:slL xs 0 a2=some zs):
 ∃ a' c',a'=a∧c'=c∧Xt X h (Z6 fr) ⟨some d,.slice t x none (some hi) none,ty,p,af,g⟩=some (.val (.slice a' zs.length c'),.none)∧ZjT e a c xs a' c' zs:=by
 obtain⟨l,k,hl0,rfl,hlk,hkx,rfl⟩:=Wi hz;have hl0:l=0:=by omega
 subst hl0 hn;have hlen:((xs.take k).drop 0).length=k:=by rw [List.drop_zero,List.length_take];omega
 have e2:∀ q,obN (some (.int .i64 (k:Int))) q=some k:=fun q=>rfl
 have e1:obN none 0=some 0:=rfl;refine⟨a,c,rfl,rfl,?_⟩;rcases so.mem with⟨rfl,rfl,rfl⟩ | ⟨i,o,cs,rfl,q2,q3,q4,q5,q6⟩
 ·have hk0:k=0:=by simpa using hkx
  subst hk0;refine⟨Qz hx rfl (YL hhi) rfl ?_,Zqy rfl⟩
  have:aslice X.P h t (.slice none 0 0) none (some (.int .i64 ((0:Nat):Int))) none=some (.slice none 0 0):=by
   unfold aslice;simp only [hu,hs]
   rfl
  exact this
 ·refine⟨Qz hx rfl (YL hhi) rfl ?_,ZkW hlk hkx (.inl ⟨by omega,by omega⟩)⟩;rw [hlen];unfold aslice;simp only [hu,hs,e1,e2];rw [Nm0 (Nat.zero_le k),Nm0 (Nat.le_trans hkx q4)];simp only [Bool.and_self,Cq1];cases hev:Nat.beq (c % 2) 0 with
  | true=>
    have:=Nb0 hev;have hc:2 * (c / 2 - 0)=c:=by omega
    simp only [Cq1,Nat.zero_mul,Nat.add_zero,Nat.sub_zero];cases Nat.beq (c / 2) 0 <;> simp only [Cq1,Cq0] <;> congr 2 <;> omega
  | false=>
    simp only [Cq0]
    rfl
structure Tl (e:Uh α) (a:Option Addr) (c k n3:Nat) (a3:Option Addr):Prop where
 out:n3=0∨∃ i o,a=some ⟨i,o,none⟩∧a3=some ⟨i,o + k * e.sz,none⟩∧k + n3 <=c / 2
theorem Zy3 {lo hi:Operand} {mm:Nat} (so:XM e wm wm h a c zs) (hu:X.P.underlying t=some (.slice el)) (hs:Yc X.P el=some e.sz) (hx:Z6 fr x=some (.slice a zs.length c))
 (hlo:Z6 fr lo=some (.int .i64 (zs.length:Nat))) (hhi:Z6 fr hi=some (.int .i64 (mm:Nat))) (hm:zs.length <=mm) (hc:mm <=c / 2):
 ∃ a' c',Xt X h (Z6 fr) ⟨some d,.slice t x (some lo) (some hi) none,ty,p,af,g⟩=some (.val (.slice a' (mm - zs.length) c'),.none)∧Tl e a c zs.length (mm - zs.length) a':=by
 have e1:obN (some (.int .i64 ((zs.length:Nat):Int))) 0=some zs.length:=rfl;have e2:∀ q,obN (some (.int .i64 (mm:Int))) q=some mm:=fun q=>rfl
 rcases so.mem with⟨rfl,rfl,rfl⟩ | ⟨i,o,cs,rfl,q2,q3,q4,q5,q6⟩
 ·have hk0:mm=0:=by omega
  subst hk0;refine⟨none,0,Qz hx (YL hlo) (YL hhi) rfl ?_,⟨.inl rfl⟩⟩
  have:aslice X.P h t (.slice none 0 0) (some (.int .i64 ((0:Nat):Int))) (some (.int .i64 ((0:Nat):Int))) none=some (.slice none 0 0):=by
   unfold aslice;simp only [hu,hs]
   rfl
  exact this
 ·have hmain:∀ v,(bif Nat.beq (c % 2) 0 then some (Value.slice (some ⟨i,bif Nat.beq (c / 2) zs.length then o else o + zs.length * e.sz,none⟩) (mm - zs.length) (2 * (c / 2 - zs.length)))
   else bif Nat.beq zs.length 0 then some (.slice (some ⟨i,o,none⟩) mm c)
   else some (.slice (some ⟨i,o + zs.length * e.sz,none⟩) (mm - zs.length) (2 * (c / 2 - zs.length) + 1)))=some v ->aslice X.P h t (.slice (some ⟨i,o,none⟩) zs.length c) (some (.int .i64 ((zs.length:Nat):Int))) (some (.int .i64 (mm:Int))) none=some v:=fun v hv=>by
   unfold aslice;simp only [hu,hs,e1,e2];rw [Nm0 hm,Nm0 hc,q3];have b2:(Nat.beq e.sz e.sz && Nat.ble 1 e.sz)=true:=by rw [Nat.beq_refl,Nm0 (show 1 <=e.sz from e.pos)];rfl
   simp only [b2,Bool.and_self,Cq1];exact hv
  cases hev:Nat.beq (c % 2) 0 with
  | true=>
    rw [hev] at hmain;refine⟨_,_,Qz hx (YL hlo) (YL hhi) rfl (hmain _ rfl),⟨?_⟩⟩;cases hcl:Nat.beq (c / 2) zs.length with
    | true=>have:=Nb0 hcl;left;omega
    | false=>right;exact⟨i,o,rfl,rfl,by omega⟩
  | false=>
    rw [hev] at hmain;cases hl0:Nat.beq zs.length 0 with
    | true=>
      have h00:=Nb0 hl0;rw [hl0] at hmain;refine⟨some ⟨i,o,none⟩,c,Qz hx (YL hlo) (YL hhi) rfl (hmain _ ?_),⟨.inr ⟨i,o,rfl,by rw [h00];simp,by omega⟩⟩⟩;rw [h00];rfl
    | false=>
      rw [hl0] at hmain;exact⟨_,_,Qz hx (YL hlo) (YL hhi) rfl (hmain _ rfl),⟨.inr ⟨i,o,rfl,rfl,by omega⟩⟩⟩
theorem ZmD (z:List Value) (k:Nat):(Ui z k).length=k * z.length:=by unfold Ui;simp
theorem ZzA {ts:Array TypeId} {rest:List TypeId} {n3 c3:Nat} {z:Value} {a3':Option Addr} (hS:Sp wm T h0 G h) (pk:Pk G (ow wm e a nn c zs) Gr) (tl:Tl e a c zs.length n3 a3') (hts:ts.toList=t::rest) (hu:X.P.underlying t=some (.slice el)) (hz:YG X.P el=some z) (hzl:z.cells.toList.length=e.sz) (hx:Z6 fr x=some (.slice a3' n3 c3)):
 HW X wm ⟨none,.call {callee:= .builtin .clear,args:=#[x],argTypes:=ts},ty,p,af,g⟩ fr h (fun h'=>Sp wm T h0 (ow wm e a nn c zs::Gr) h'):=by
 have key:∀ E,Zaj X.P h t (.slice a3' n3 c3)=some E ->Xt X h (Z6 fr) ⟨none,.call {callee:= .builtin .clear,args:=#[x],argTypes:=ts},ty,p,af,g⟩=some (.val (.tuple #[]),E):=fun E hE=>by
  have hev:evs (Z6 fr) (#[x]:Array Operand).toList=some [.slice a3' n3 c3]:=Zc hx Zl;rw [Q8,hev];show(match ts.toList with | t::_=>(match Zaj X.P h t (.slice a3' n3 c3) with | some E=>some (AN.val (.tuple #[]),E) | none=>none) | []=>none)=_;rw [hts];dsimp only;rw [hE]
 obtain⟨h1,so⟩:=hS.get pk;by_cases h0':n3=0
 ·refine⟨_,.none,h,key _ ?_,rfl,hS.perm pk.perm⟩;unfold Zaj;simp only [hu,h0',Nat.beq_refl,Cq1]
 ·rcases tl.out with q | ⟨i,o,rfl,rfl,hcap⟩
  ·exact absurd q h0'
  ·rcases so.mem with⟨q,_⟩ | ⟨i',o',cs,q,q2,q3,q4,q5,q6⟩
   ·cases q
   ·cases q;have hb:Nat.beq n3 0=false:=by rw [Bool.eq_false_iff];intro q;exact h0' (Nb0 q)
    have hfit:o + zs.length * e.sz + n3 * e.sz <=cs.length:=by
     have:(zs.length + n3) * e.sz <=c / 2 * e.sz:=Nat.mul_le_mul_right _ hcap;rw [Nat.add_mul] at this;omega
    have hzr:(Ui z.cells.toList n3).length=n3 * e.sz:=by rw [ZmD,hzl]
    have hl2:o + zs.length * e.sz + (Ui z.cells.toList n3).length <=cs.length:=by rw [hzr];exact hfit
    have hu':Up wm (fun j=>j=i) h (h.put i (.row (splice cs (o + zs.length * e.sz) (Ui z.cells.toList n3)) true e.sz)):=Up.put q2 (by rw [q3];rfl);refine⟨_,.upd i (.row (splice cs (o + zs.length * e.sz) (Ui z.cells.toList n3)) true e.sz),_,key _ ?_,?_,hS.one pk hu' (fun j q=>⟨o,by rw [q]⟩) ⟨h1,so.max,.inr ⟨i,o,_,rfl,q2,Yf (XP q3 rfl) _,q4,by rw [Jc _ _ _ hl2];exact q5,?_⟩⟩ fun j q=>.inl q⟩
    ·unfold Zaj;simp only [hu,hb,Cq0,hz,q3,hzl];rw [Nm0 hfit];rfl
    ·show(bif Nat.ble wm i && (h.at i).own then some (h.put i _) else none)=_;rw [q3,Nm0 q2];rfl
    ·refine⟨by rw [Jc _ _ _ hl2];exact q6.len,fun k x hk=>?_⟩;obtain⟨q,g1,g2⟩:=q6.get k x hk;refine⟨q,?_,e.mono (hu'.fz (Nat.le_refl _)) g2⟩;have hkl:= (Li0 hk).1;have:(k + 1) * e.sz <=zs.length * e.sz:=Nat.mul_le_mul_right _ hkl;rw [Nat.succ_mul] at this;rw [ZdM hl2 (.inl (by omega)),g1]
theorem Zza {ts:Array TypeId} {x y:Operand} {Uc:Nat} {b2:Option Addr} {c2:Nat} {ys:List α} (hi:Zg1 X.P ts e.sz Uc) (hx:Z6 fr x=some (.slice a xs.length c)) (hy:Z6 fr y=some (.slice b2 ys.length c2)) (so:XM e wm wm h a c xs) (sr:Src e wm h b2 c2 ys) (hr:xs.length + ys.length <=c / 2):
 ∃ E,Xt X h (Z6 fr) ⟨some d,.call {callee:= .builtin .append,args:=#[x,y],argTypes:=ts},ty,p,af,g⟩=some (.val (.slice a (xs ++ ys).length c),E):=by
 obtain⟨el,z,hi⟩:=hi;obtain⟨new,n1,n2,n3⟩:=sr.reads;have n4:=n3.one n2;have hev:evs (Z6 fr) (#[x,y]:Array Operand).toList=some [.slice a xs.length c,.slice b2 ys.length c2]:=Zc hx (Zc hy Zl);have hls:Qo (.slice b2 ys.length c2)=ys.length:=rfl
 have key:∀ (v:Value) (E:Eff),Qa X.P h ts (.slice a xs.length c) (.slice b2 ys.length c2)=some (v,E) ->Xt X h (Z6 fr) ⟨some d,.call {callee:= .builtin .append,args:=#[x,y],argTypes:=ts},ty,p,af,g⟩=some (.val v,E):=by
  intro v E hE;rw [Q8,hev];show vE (Qa X.P h ts (.slice a xs.length c) (.slice b2 ys.length c2))=_;rw [hE];rfl
 have hle2:(xs ++ ys).length=xs.length + ys.length:=List.length_append;by_cases hy0:ys= []
 ·subst hy0;refine⟨.none,key _ _ ?_⟩;unfold Qa;rw [hi];dsimp only;rw [n1];dsimp only;rw [hls,Nm0 hr,hle2];rfl
 ·have hyl:0 < ys.length:=List.length_pos_iff.2 hy0;rcases so.mem with⟨rfl,rfl,rfl⟩ | ⟨i,o,cs,rfl,hlo2,hrow,hc1,hc2,hel⟩
  ·exfalso;simp at hr;exact hy0 hr
  ·refine⟨.upd i (.row (splice cs (o + xs.length * e.sz) new) true e.sz),key _ _ ?_⟩
   have hfit:o + xs.length * e.sz + new.length <=cs.length:=by
    rw [n2];have:(xs.length + ys.length) * e.sz <=c / 2 * e.sz:=Nat.mul_le_mul_right _ hr;rw [Nat.add_mul] at this;omega
   unfold Qa;rw [hi];dsimp only;rw [n1];dsimp only;rw [hls,Nm0 hr];have b1:Nat.beq ys.length 0=false:=by rw [Bool.eq_false_iff];intro q;have:=Nb0 q;omega
   rw [b1,hrow];simp only [Cq1,Cq0];rw [Nm0 hfit,n4,hle2];rfl
theorem ZzB {ts:Array TypeId} {x y:Operand} {Uc:Nat} {b2:Option Addr} {n2 c2:Nat} {ys:List α} (hS:Sp wm T h0 G h) (pk:Pk G (ow wm e a nn c xs) Gr) (hi:Zg1 X.P ts e.sz Uc) (hx:Z6 fr x=some (.slice a nn c)) (hy:Z6 fr y=some (.slice b2 n2 c2)) (sr:Src e wm h b2 c2 ys) (hn:n2=ys.length) (ha:app Uc xs ys=some zs) (hr:zs.length <=c / 2):
 HV X wm ⟨some d,.call {callee:= .builtin .append,args:=#[x,y],argTypes:=ts},ty,p,af,g⟩ fr h (XZ a) (fun v h'=>v= .slice a zs.length c∧Sp wm T h0 (ow wm e a zs.length c zs::Gr) h'):=by
 obtain⟨v,E,h1,e1,e2,e3,e4,a',c',rfl,hS'⟩:=Zey (d:=d) (ty:=ty) (p:=p) (af:=af) (g:=g) hS pk hi hx hy sr hn ha;obtain⟨h1',so⟩:=hS.get pk;obtain⟨rfl,_⟩:=Zi6 ha;subst h1' hn;obtain⟨E',e5⟩:=Zza (d:=d) (ty:=ty) (p:=p) (af:=af) (g:=g) hi hx hy so sr (by rw [List.length_append] at hr;exact hr);rw [e5] at e1;cases e1;exact⟨_,_,h1,e5,e2,e3,e4,rfl,hS'⟩
theorem ZhA {b:Nat} {i j:Int} {u v:List α} (h3:slL xs i j=some ws) (h1:slL xs 0 i=some u) (h2:slL xs j xs.length=some v) (ha:app b u v=some zs):zs.length <=xs.length:=by
 obtain⟨l,k,rfl,rfl,hlk,hkx,rfl⟩:=Wi h3;obtain⟨l1,k1,hl1,hk1,_,_,rfl⟩:=Wi h1;obtain⟨l2,k2,hl2,hk2,_,_,rfl⟩:=Wi h2;obtain⟨rfl,_⟩:=Zi6 ha;simp only [List.length_append,List.length_drop,List.length_take];omega
end
section
variable {κ ν:Type} [DecidableEq κ] {kt vt:TypeId} {kv:κ ->Value} {vv:ν ->Value} {i:Nat} {ll:List (κ×ν)}
theorem ZAV {ts:Array TypeId} {t:TypeId} {rest:List TypeId} {x y:Operand} {k:κ} (hS:Sp wm T h0 G h) (pk:Pk G (mp wm kv vv (some i) ll) Gr) (K:Zb1 X.P kt kv) (hts:ts.toList=t::rest) (hu:X.P.underlying t=some (.map kt vt)) (hx:Z6 fr x=some (.map (some i))) (hy:Z6 fr y=some (kv k)):
 HW X wm ⟨none,.call {callee:= .builtin .delete,args:=#[x,y],argTypes:=ts},ty,p,af,g⟩ fr h (fun h'=>Sp wm T h0 (mp wm kv vv (some i) (Za9 ll k)::Gr) h'):=by
 obtain⟨h',⟨E,ha,hE,_⟩,u,ho⟩:=ZCW (d:=none) (ty:=ty) (p:=p) (af:=af) (g:=g) K hts hu (Nat.le_refl wm) hx rfl hy (hS.get pk);exact⟨_,E,h',ha,hE,hS.one pk u (fun j e=>by cases e;rfl) ho fun j e=>.inl e⟩
end
end Go.YD
end
end
section
noncomputable section
namespace Go.YD
open Go.Lf
variable {X:Ctx} {n wm:Nat} {rd:Option Nat} {ops:Array Oper} {l:List Oper} {fr:Fr} {ds:List Deferred} {h h1 h2 h0:H} {ty:TypeId} {p:String} {af:Array Edge} {g:Option (Nat×Bool)} {m:Nat} {T:Nat ->Prop} {G Gr Ga Gb:List (Ast wm)} {d:Nat} {sf:ST}
def HE (X:Ctx) (o:Oper) (fr:Fr) (h:H) (K:Value ->Prop):Prop:=∃ v,Xt X h (Z6 fr) o=some (.val v,.none)∧K v
theorem WO.he {Q:XX ->Fs ->Prop} {op:Op} {K:Value ->Prop} (hg:ZY ops ⟨some d,op,ty,p,af,g⟩ fr) (hd:Nat.blt d n=true) (s:HE X ⟨some d,op,ty,p,af,g⟩ fr h K) (k:∀ v,K v ->WO X n wm rd ops l ⟨Tr.set fr d v,ds,h,none⟩ Q):
 WO X n wm rd ops (⟨some d,op,ty,p,af,g⟩::l) ⟨fr,ds,h,none⟩ Q:=let⟨v,ha,hk⟩:=s;WO.w hg hd ha (k v hk)
theorem WX.he {Q:Fr ->H ->Prop} {op:Op} {K:Value ->Prop} (hg:ZY ops ⟨some d,op,ty,p,af,g⟩ fr) (hd:Nat.blt d n=true) (s:HE X ⟨some d,op,ty,p,af,g⟩ fr h K) (k:∀ v,K v ->WX X n wm rd ops sf (m + 1) h l (Tr.set fr d v) Q) (hM:okM ops sf m ⟨some d,op,ty,p,af,g⟩=true):
 WX X n wm rd ops sf m h (⟨some d,op,ty,p,af,g⟩::l) fr Q:=let⟨v,ha,hk⟩:=s;WX.w hg hd ha (k v hk) hM
section
variable {α:Type} {e:Uh α} {t el:TypeId} {x:Operand} {a:Option Addr} {nn c:Nat} {xs zs ws us:List α} {a1 a2 a3:Int}
theorem ZtX {lo hi:Option Operand} (so:XM e wm wm h a c xs) (hn:nn=xs.length) (hu:X.P.underlying t=some (.slice el)) (hs:Yc X.P el=some e.sz) (hx:Z6 fr x=some (.slice a nn c))
 (hlo:evo (Z6 fr) lo=some none∧a1=0∨∃ k,evo (Z6 fr) lo=some (some (.int k a1))) (hhi:evo (Z6 fr) hi=some none∧a2=xs.length∨∃ k,evo (Z6 fr) hi=some (some (.int k a2))) (hz:slL xs a1 a2=some zs):
 HE X ⟨some d,.slice t x lo hi none,ty,p,af,g⟩ fr h (fun v=>∃ a' c',v= .slice a' zs.length c'∧ZjT e a c xs a' c' zs):=
 let⟨a',c',h1,h2⟩:=Zwn (d:=d) (ty:=ty) (p:=p) (af:=af) (g:=g) so hn hu hs hx hlo hhi hz;⟨_,h1,a',c',rfl,h2⟩
theorem ZtW {lo hi mx:Operand} (so:XM e wm wm h a c xs) (hn:nn=xs.length) (hu:X.P.underlying t=some (.slice el)) (hs:Yc X.P el=some e.sz) (hx:Z6 fr x=some (.slice a nn c))
 (hlo:Z6 fr lo=some (.int .i64 a1)) (hhi:Z6 fr hi=some (.int .i64 a2)) (hmx:Z6 fr mx=some (.int .i64 (xs.length:Nat))) (hz:slL xs a1 a2=some zs):
 HE X ⟨some d,.slice t x (some lo) (some hi) (some mx),ty,p,af,g⟩ fr h (fun _=>True):=let⟨v,hv⟩:=Zy5 (d:=d) (ty:=ty) (p:=p) (af:=af) (g:=g) so hn hu hs hx hlo hhi hmx hz;⟨v,hv,trivial⟩
theorem ZtV {hi:Operand} (so:XM e wm wm h a c xs) (hn:nn=xs.length) (hu:X.P.underlying t=some (.slice el)) (hs:Yc X.P el=some e.sz) (hx:Z6 fr x=some (.slice a nn c))
 (hhi:Z6 fr hi=some (.int .i64 a2)) (hz:slL xs 0 a2=some zs):
 HE X ⟨some d,.slice t x none (some hi) none,ty,p,af,g⟩ fr h (fun v=>∃ a' c',a'=a∧c'=c∧v= .slice a' zs.length c'∧ZjT e a c xs a' c' zs):=
 let⟨a',c',h1,h2,h3,h4⟩:=Zy4 (d:=d) (ty:=ty) (p:=p) (af:=af) (g:=g) so hn hu hs hx hhi hz;⟨_,h3,a',c',h1,h2,rfl,h4⟩
theorem ZtU {lo hi:Operand} {mm:Nat} (so:XM e wm wm h a c zs) (hu:X.P.underlying t=some (.slice el)) (hs:Yc X.P el=some e.sz) (hx:Z6 fr x=some (.slice a zs.length c))
 (hlo:Z6 fr lo=some (.int .i64 (zs.length:Nat))) (hhi:Z6 fr hi=some (.int .i64 (mm:Nat))) (hm:zs.length <=mm) (hc:mm <=c / 2):
 HE X ⟨some d,.slice t x (some lo) (some hi) none,ty,p,af,g⟩ fr h (fun v=>∃ a' c',v= .slice a' (mm - zs.length) c'∧Tl e a c zs.length (mm - zs.length) a'):=
 let⟨a',c',h1,h2⟩:=Zy3 (d:=d) (ty:=ty) (p:=p) (af:=af) (g:=g) so hu hs hx hlo hhi hm hc;⟨_,h1,a',c',rfl,h2⟩
theorem ZAU {lo:Operand} {kk:IntKind} (so:XM e wm wm h a c xs) (hn:nn=xs.length) (hu:X.P.underlying t=some (.slice el)) (hs:Yc X.P el=some e.sz) (hx:Z6 fr x=some (.slice a nn c))
 (hlo:Z6 fr lo=some (.int kk a1)) (hz:slL xs a1 xs.length=some zs):
 HE X ⟨some d,.slice t x (some lo) none none,ty,p,af,g⟩ fr h (fun v=>∃ a' c',v= .slice a' zs.length c'∧ZjT e a c xs a' c' zs∧Tl e a c a1.toNat zs.length a'):=by
 obtain⟨a',c',h1,h2⟩:=Zwn (lo:=some lo) (hi:=none) (d:=d) (ty:=ty) (p:=p) (af:=af) (g:=g) so hn hu hs hx (.inr ⟨_,YL hlo⟩) (.inl ⟨rfl,rfl⟩) hz;refine⟨_,h1,a',c',rfl,h2,⟨?_⟩⟩;obtain⟨l,k,rfl,hk,hlk,hkx,rfl⟩:=Wi hz;have hk:k=xs.length:=by omega
 subst hk;have hlen:((xs.take xs.length).drop l).length=xs.length - l:=by rw [List.length_drop,List.length_take];omega
 rw [hlen] at h1 ⊢;by_cases h00:xs.length - l=0
 ·exact .inl h00
 ·right;subst hn;have e1:obN (some (.int kk (l:Int))) 0=some l:=rfl;have e2:obN none xs.length=some xs.length:=rfl;rcases so.mem with⟨rfl,rfl,rfl⟩ | ⟨i,o,cs,rfl,q2,q3,q4,q5,q6⟩
  ·simp at h00
  ·refine⟨i,o,rfl,?_,by show l + _ <=_;omega⟩
   have key:∀ v,aslice X.P h t (.slice (some ⟨i,o,none⟩) xs.length c) (some (.int kk (l:Int))) none none=some v ->v= .slice a' (xs.length - l) c':=fun v hv=>by
    have:=Qz (lo:=some lo) (hi:=none) (mx:=none) (d:=d) (ty:=ty) (p:=p) (af:=af) (g:=g) hx (YL hlo) rfl rfl hv;rw [h1] at this;cases this;rfl
   unfold aslice at key;simp only [hu,hs,e1,e2] at key;rw [Nm0 hlk,Nm0 q4,q3] at key;have b2:(Nat.beq e.sz e.sz && Nat.ble 1 e.sz)=true:=by rw [Nat.beq_refl,Nm0 (show 1 <=e.sz from e.pos)];rfl
   simp only [b2,Bool.and_self,Cq1] at key;show a'=some ⟨i,o + l * e.sz,none⟩;cases hev:Nat.beq (c % 2) 0 with
   | true=>
     rw [hev] at key;have hcl:Nat.beq (c / 2) l=false:=by rw [Bool.eq_false_iff];intro q;have:=Nb0 q;omega
     rw [hcl] at key;have:=key _ rfl;cases this;rfl
   | false=>
     rw [hev] at key;cases hl0:Nat.beq l 0 with
     | true=>
       have ZJ8:=Nb0 hl0;subst ZJ8;rw [hl0] at key;have:=key _ rfl;cases this;simp
     | false=>
       rw [hl0] at key;have:=key _ rfl;cases this;rfl
theorem ZmU {cs vs:List Value} {q j k:Nat} (hl:q + vs.length <=cs.length) (hj:j + k <=vs.length):((splice cs q vs).drop (q + j)).take k= (vs.drop j).take k:=by
 apply List.ext_getElem?;intro t;by_cases ht:t < k
 ·rw [List.getElem?_take_of_lt ht,List.getElem?_take_of_lt ht,List.getElem?_drop,List.getElem?_drop,Zbs _ _ _ _ hl,if_pos (by omega)];congr 1;omega
 ·rw [List.getElem?_eq_none (by rw [List.length_take];omega),List.getElem?_eq_none (by rw [List.length_take];omega)]
theorem ZAW {ts:Array TypeId} {rest:List TypeId} {k n3 c3:Nat} {z:Value} {a3':Option Addr} {q0:e.Par} {x0:α} (hS:Sp wm T h0 G h) (pk:Pk G (ow wm e a nn c xs) Gr) (tl:Tl e a c k n3 a3') (hk:k + n3=xs.length) (hts:ts.toList=t::rest) (hu:X.P.underlying t=some (.slice el)) (hz:YG X.P el=some z) (hsh:z.cells.toList=e.sh q0 x0) (hF:∀ h',e.F wm h' q0 x0) (hx:Z6 fr x=some (.slice a3' n3 c3)):
 HW X wm ⟨none,.call {callee:= .builtin .clear,args:=#[x],argTypes:=ts},ty,p,af,g⟩ fr h (fun h'=>Sp wm T h0 (ow wm e a nn c (xs.take k ++ List.replicate n3 x0)::Gr) h'):=by
 have hzl:z.cells.toList.length=e.sz:=by rw [hsh,e.len]
 have key:∀ E,Zaj X.P h t (.slice a3' n3 c3)=some E ->Xt X h (Z6 fr) ⟨none,.call {callee:= .builtin .clear,args:=#[x],argTypes:=ts},ty,p,af,g⟩=some (.val (.tuple #[]),E):=fun E hE=>by
  have hev:evs (Z6 fr) (#[x]:Array Operand).toList=some [.slice a3' n3 c3]:=Zc hx Zl;rw [Q8,hev];show(match ts.toList with | t::_=>(match Zaj X.P h t (.slice a3' n3 c3) with | some E=>some (AN.val (.tuple #[]),E) | none=>none) | []=>none)=_;rw [hts];dsimp only;rw [hE]
 obtain⟨h1,so⟩:=hS.get pk;by_cases h0':n3=0
 ·refine⟨_,.none,h,key _ ?_,rfl,?_⟩
  ·unfold Zaj;simp only [hu,h0',Nat.beq_refl,Cq1]
  ·have:xs.take k ++ List.replicate n3 x0=xs:=by rw [h0',List.take_of_length_le (by omega)];simp
   rw [this];exact hS.perm pk.perm
 ·rcases tl.out with q | ⟨i,o,rfl,rfl,hcap⟩
  ·exact absurd q h0'
  ·rcases so.mem with⟨q,_⟩ | ⟨i',o',cs,q,q2,q3,q4,q5,q6⟩
   ·cases q
   ·cases q;have hb:Nat.beq n3 0=false:=by rw [Bool.eq_false_iff];intro q;exact h0' (Nb0 q)
    have hle:=q6.len;have hkn:k * e.sz + n3 * e.sz=xs.length * e.sz:=by rw [← Nat.add_mul,hk]
    have hfit:o + k * e.sz + n3 * e.sz <=cs.length:=by omega
    have hzr:(Ui z.cells.toList n3).length=n3 * e.sz:=by rw [ZmD,hzl]
    have hl2:o + k * e.sz + (Ui z.cells.toList n3).length <=cs.length:=by rw [hzr];exact hfit
    have hlen:(xs.take k ++ List.replicate n3 x0).length=xs.length:=by rw [List.length_append,List.length_take,List.length_replicate];omega
    have hu':Up wm (fun j=>j=i) h (h.put i (.row (splice cs (o + k * e.sz) (Ui z.cells.toList n3)) true e.sz)):=Up.put q2 (by rw [q3];rfl);refine⟨_,.upd i (.row (splice cs (o + k * e.sz) (Ui z.cells.toList n3)) true e.sz),_,key _ ?_,?_,hS.one pk hu' (fun j q=>⟨o,by rw [q]⟩) ⟨h1.trans hlen.symm,by rw [hlen];exact so.max,.inr ⟨i,o,_,rfl,q2,Yf (XP q3 rfl) _,by rw [hlen];exact q4,by rw [Jc _ _ _ hl2];exact q5,?_⟩⟩ fun j q=>.inl q⟩
    ·unfold Zaj;simp only [hu,hb,Cq0,hz,q3,hzl];rw [Nm0 hfit];rfl
    ·show(bif Nat.ble wm i && (h.at i).own then some (h.put i _) else none)=_;rw [q3,Nm0 q2];rfl
    ·refine⟨by rw [hlen,Jc _ _ _ hl2];exact q6.len,fun j x hj=>?_⟩;by_cases hjk:j < k
     ·rw [List.getElem?_append_left (by rw [List.length_take];omega),List.getElem?_take_of_lt hjk] at hj;obtain⟨q,g1,g2⟩:=q6.get j x hj;refine⟨q,?_,e.mono (hu'.fz (Nat.le_refl _)) g2⟩;have:(j + 1) * e.sz <=k * e.sz:=Nat.mul_le_mul_right _ hjk;rw [Nat.succ_mul] at this;rw [ZdM hl2 (.inl (by omega)),g1]
     ·have hjl:j < xs.length:=by have:= (Li0 hj).1;rwa [hlen] at this
      have hx0:x=x0:=by
       rw [List.getElem?_append_right (by rw [List.length_take];omega),List.getElem?_replicate] at hj;split at hj
       ·exact(Oi0 hj).symm
       ·cases hj
      refine⟨q0,?_,by rw [hx0];exact hF _⟩
      have e0:o + j * e.sz=o + k * e.sz + (j - k) * e.sz:=by
       have:k * e.sz + (j - k) * e.sz=j * e.sz:=by rw [← Nat.add_mul];congr 1;omega
       omega
      have e1:(j - k) * e.sz + e.sz <= (Ui z.cells.toList n3).length:=by
       rw [hzr];have:(j - k + 1) * e.sz <=n3 * e.sz:=Nat.mul_le_mul_right _ (by omega);rw [Nat.succ_mul] at this;exact this
      rw [e0,ZmU hl2 e1];have:=ZjX z.cells.toList n3 (j - k) (by omega);rw [hzl] at this;rw [this,hsh,hx0]
end
theorem Zxj {α:Type} {xs zs:List α} {a1:Int} (hz:slL xs a1 xs.length=some zs):a1.toNat + zs.length=xs.length:=by
 obtain⟨l,k,rfl,hk,hlk,hkx,rfl⟩:=Wi hz;rw [List.length_drop,List.length_take];have:(l:Int).toNat=l:=rfl;omega
end Go.YD
end
end
section
noncomputable section
namespace Go.YD
open Go.Lf
variable {X:Ctx} {n wm U6:Nat} {fr:Fr} {h:H} {ty:TypeId} {p:String} {af:Array Edge} {g:Option (Nat×Bool)} {d:Nat}
section
variable {α:Type} {e:Uh α} {t el:TypeId} {x:Operand} {a:Option Addr} {nn c:Nat} {xs zs:List α} {a2:Int}
theorem Sl.pre {k:Nat} (s:Sl e wm h a c xs) (hk:k <=xs.length):Sl e wm h a c (xs.take k):=by
 have hlen:(xs.take k).length=k:=by rw [List.length_take];omega
 refine⟨by rw [hlen];exact Nat.le_trans hk s.max,by rw [hlen];exact Nat.le_trans hk s.cap,s.nl,?_⟩;rcases s.mem with q | ⟨i,o,cs,own,z,q1,q2,q3,q4⟩
 ·left;subst q;simp
 ·refine .inr ⟨i,o,cs,own,z,q1,q2,q3,?_⟩;have:=q4.piece (Nat.zero_le k) hk
  simpa using this
theorem XM.pre {k:Nat} (s:XM e wm wm h a c xs) (hk:k <=xs.length):XM e wm wm h a c (xs.take k):=by
 have hlen:(xs.take k).length=k:=by rw [List.length_take];omega
 refine⟨by rw [hlen];exact Nat.le_trans hk s.max,?_⟩;rcases s.mem with⟨q1,q2,q3⟩ | ⟨i,o,cs,q1,q2,q3,q4,q5,q6⟩
 ·left;subst q3;exact⟨q1,q2,by simp⟩
 ·refine .inr ⟨i,o,cs,q1,q2,q3,by rw [hlen];omega,q5,?_⟩;have:=q6.piece (Nat.zero_le k) hk
  simpa using this
theorem Zo1 {hi:Operand} {kk:IntKind} (so:Sl e U6 h a c xs) (hn:nn=xs.length) (hu:X.P.underlying t=some (.slice el)) (hs:Yc X.P el=some e.sz) (hx:Z6 fr x=some (.slice a nn c))
 (hhi:Z6 fr hi=some (.int kk a2)) (hz:slL xs 0 a2=some zs):
 HE X ⟨some d,.slice t x none (some hi) none,ty,p,af,g⟩ fr h (fun v=>∃ a' c',v= .slice a' zs.length c'∧ZjT e a c xs a' c' zs):=by
 obtain⟨l,k,hl0,rfl,hlk,hkx,rfl⟩:=Wi hz;have hl0:l=0:=by omega
 subst hl0 hn;have hlen:((xs.take k).drop 0).length=k:=by rw [List.drop_zero,List.length_take];omega
 have e2:∀ q,obN (some (.int kk (k:Int))) q=some k:=fun q=>rfl
 have e1:obN none 0=some 0:=rfl
 have sub:ZjT e a c xs a c ((xs.take k).drop 0):=by
  rw [List.drop_zero];exact⟨fun s=>s.pre hkx,fun s=>s.pre hkx,fun i q=>q⟩
 refine⟨.slice a k c,?_,a,c,by rw [hlen],sub⟩;have hcap:=so.cap;rcases so.nl with⟨rfl,rfl⟩ | ⟨rfl,rfl⟩ | ⟨i,o,rfl⟩
 ·have hx0:xs= []:=List.length_eq_zero_iff.1 (by omega);subst hx0;have hk0:k=0:=by simpa using hkx
  subst hk0;refine Qz hx rfl (YL hhi) rfl ?_
  have:aslice X.P h t (.slice none 0 0) none (some (.int kk ((0:Nat):Int))) none=some (.slice none 0 0):=by
   unfold aslice;simp only [hu,hs]
   rfl
  exact this
 ·have hx0:xs= []:=List.length_eq_zero_iff.1 (by omega);subst hx0;have hk0:k=0:=by simpa using hkx
  subst hk0;refine Qz hx rfl (YL hhi) rfl ?_
  have:aslice X.P h t (.slice (some ⟨0,0,some 0⟩) 0 0) none (some (.int kk ((0:Nat):Int))) none=some (.slice (some ⟨0,0,some 0⟩) 0 0):=by
   unfold aslice;simp only [hu,hs]
   rfl
  exact this
 ·refine Qz hx rfl (YL hhi) rfl ?_;unfold aslice;simp only [hu,hs,e1,e2];rw [Nm0 (Nat.zero_le k),Nm0 (Nat.le_trans hkx hcap)];simp only [Bool.and_self,Cq1];cases hev:Nat.beq (c % 2) 0 with
  | true=>
    have:=Nb0 hev;simp only [Cq1,Nat.zero_mul,Nat.add_zero,Nat.sub_zero];have hc:2 * (c / 2)=c:=by omega
    rw [hc];cases Nat.beq (c / 2) 0 <;> rfl
  | false=>
    simp only [Cq0]
    rfl
end
end Go.YD
end
end
section
noncomputable section
namespace Go.YD
open Go.Lf
variable {X:Ctx} {n wm:Nat} {rd:Option Nat} {ops:Array Oper} {l:List Oper} {fr:Fr} {ds:List Deferred} {h h1 h2 h0:H} {ty:TypeId} {p:String} {af:Array Edge} {g:Option (Nat×Bool)} {T:Nat ->Prop} {G Gr Ga Gb:List (Ast wm)} {d:Nat}
theorem Zt6 {α β:Type} {y:α} {p:Int ->Option β} {k:α ->Option β} {r:β} (h:prC (.ok y) p k=some r):k y=some r:=h
theorem ZqC {α β:Type} {e:Int} {p:Int ->Option β} {k:α ->Option β} {r:β} (h:prC (.Ju e) p k=some r):p e=some r:=h
theorem Zud {α β:Type} {y:α} {p:Option β} {k:α ->Option β} {r:β} (h:opt (some y) p k=some r):k y=some r:=h
theorem Zue {α β:Type} {p:Option β} {k:α ->Option β} {r:β} (h:opt none p k=some r):p=some r:=h
def pv (t:TypeId) (k:Int):Value:= .iface t (.int .i64 k)
def PQ {β:Type} {wm:Nat} (t:TypeId) (K:β ->Value ->List (Ast wm) ->Prop) (Ga:List (Ast wm)) (h:H) (r:PR β):Km ->H ->Prop:=fun e h'=>match r with
 | .ok b=>∃ v,e= .ret v∧CP (K b) Ga h v h'
 | .Ju k=>e= .Ju (pv t k)∧Sp wm (XO Ga) h [] h'
section
variable {β:Type} {t:TypeId} {K:β ->Value ->List (Ast wm) ->Prop} {f:FuncId} {args:Array Value}
theorem PQ.ok {b:β} (k:WF X f args wm h (PQ t K Ga h (.ok b))):WR X f args wm h (CP (K b) Ga h):=k
theorem PQ.Ju {k:Int} (w:WF X f args wm h (PQ t K Ga h (.Ju k))):∃ h',Sp wm (XO Ga) h [] h'∧Yw X (.call f args wm h) (.fin (.Ju (pv t k)) h'):=
 let⟨_,h',hq,hj⟩:=w;⟨h',hq.2,by have:=hq.1;subst this;exact hj⟩
theorem WO.clX {Q:XX ->Fs ->Prop} {op:Op} {k:Int} (hg:ZY ops ⟨some d,op,ty,p,af,g⟩ fr) (he:Y1 X fr ⟨some d,op,ty,p,af,g⟩ f args) (hS:Sp wm T h0 G h) (pk:Sel G Ga Gr)
 (hc:∀ g':H,g'.size=h.size ->Fz wm h g' ->Z0 Ga g' ->WF X f args wm g' (PQ t K Ga g' (.Ju k))) (kk:∀ h',Sp wm T h0 Gr h' ->Q (.panic (pv t k)) ⟨fr,ds,h',none⟩):
 WO X n wm rd ops (⟨some d,op,ty,p,af,g⟩::l) ⟨fr,ds,h,none⟩ Q:=by
 obtain⟨h',hs,hj⟩:=PQ.Ju (hc h rfl (Fz.refl _ _) (hS.Zhr pk));exact WO.ZiY hg (he h) rfl hj (kk h' (hS.call pk hs))
theorem WO.ZKx {Q:XX ->Fs ->Prop} {op:Op} {k:Int} {K:β ->Value ->List (Ast h.size) ->Prop} (hg:ZY ops ⟨some d,op,ty,p,af,g⟩ fr) (he:Y1 X fr ⟨some d,op,ty,p,af,g⟩ f args) (hw:wm <=h.size) (hS:Sp wm T h0 G h)
 (hc:WF X f args h.size h (PQ t K [] h (.Ju k))) (kk:∀ h',Sp wm T h0 G h' ->Q (.panic (pv t k)) ⟨fr,ds,h',none⟩):
 WO X n wm rd ops (⟨some d,op,ty,p,af,g⟩::l) ⟨fr,ds,h,none⟩ Q:=by
 obtain⟨h',hs,hj⟩:=PQ.Ju hc;exact WO.ZiY hg (he h) rfl (hj.weaken hw (Nat.le_refl _)) (kk h' (Sp.clR (Gb:= []) hS hs .n))
theorem Qb.Zvx {fn:Func} {rs:List ResultVar} {vs:List Value} {v:Value} {b:β} {h0:H} (hr:fn.results.toList=rs) (hv:Zdt X.P fr h rs=some vs) (hl:(match vs with | [v]=>v | vs=>.tuple vs.toArray)=v) (k:CP (K b) Ga h0 v h):Qb X fn wm (PQ t K Ga h0 (.ok b)) .ret ⟨fr,[],h,none⟩:=
 Qb.gen (R:=fun v h'=>CP (K b) Ga h0 v h') hr hv hl k
end
def Zbp (X:Ctx) (fn:Func) (wm:Nat) (Q:Km ->H ->Prop) (pm:PM) (s:Fs):Prop:=∃ E h',Q E h'∧Yw X (.leave fn wm pm s) (.fin E h')
section
variable {fn:Func} {R:Km ->H ->Prop} {s:Fs} {v:Value} {pm:PM}
theorem Qb.ofP (k:Zbp X fn wm R .ret s):Qb X fn wm R .ret s:=let⟨E,h',h1,h2⟩:=k;⟨⟨.ret,E,h',rfl,h1,h2⟩⟩
theorem Qb.ofX (k:Zbp X fn wm R (.Ju v) s):Qb X fn wm R (.panic v) s:=let⟨E,h',h1,h2⟩:=k;⟨⟨.Ju v,E,h',rfl,h1,h2⟩⟩
theorem Zbp.ofL (k:Qb X fn wm R .ret s) (hp:pm= .ret):Zbp X fn wm R pm s:=by
 obtain⟨Kz,E,h',e,h1,h2⟩:=k.out;cases e;subst hp;exact⟨E,h',h1,h2⟩
theorem Zbp.Ju (k:R (.Ju v) h):Zbp X fn wm R (.Ju v) ⟨fr,[],h,none⟩:=by
 refine⟨.Ju v,h,k,Jr (C:=cfg X fun _=>false) (ih:=fun _=>none) (fun _ _ h=>by cases h) ?_⟩;unfold UB
 rfl
def DC (X:Ctx) (n wm:Nat) (c:Code) (pm:PM) (s:Fs) (Q:XX ->PM ->Fs ->Prop):Prop:=∃ e Kz s',Q e Kz s'∧Yw X (.Xp c n wm pm s) (.Xp e Kz s')
structure DSq (X:Ctx) (n wm:Nat) (b:Code) (Q:XX ->PM ->Fs ->Prop) (e:XX) (pm:PM) (s:Fs):Prop where
 Z4:e= .normal
 k:DC X n wm b pm s Q
theorem DC.seq {a b:Code} {Q:XX ->PM ->Fs ->Prop} (k:DC X n wm a pm s (DSq X n wm b Q)):DC X n wm (.seq a b) pm s Q:=by
 obtain⟨e,pm1,s1,⟨rfl,e2,pm2,s2,hq,j2⟩,j1⟩:=k;obtain⟨_,_,_,q1,ka⟩:=XR.1 j1;cases q1;obtain⟨_,_,_,q2,kb⟩:=XR.1 j2;cases q2;refine⟨_,_,_,hq,XR.2 ⟨_,_,_,rfl,fun ρ a c0 cs w ZK hi hpm=>wpSIn_seq (Ja (ka ρ a c0 cs w ZK hi hpm) ?_)⟩⟩;rintro e' a' cs' w' ⟨ρ',u',rfl,hp',he,hi',hst⟩;cases he;refine Ja (kb ρ' a' {c0 with mode:=u'} cs w' (Nat.le_trans ZK hst.size) hi' hp') ?_;rintro e3 a3 cs3 w3 ⟨ρ3,u3,rfl,q1,q2,q3,q4⟩;exact⟨ρ3,u3,rfl,q1,q2,q3,hst.trans hi.rel.lt q4⟩
theorem DC.rgn {id:Nat} {ops:Array Oper} {dr:Bool} {Q:XX ->PM ->Fs ->Prop} (hn:(!dr && ops.toList.any isRecover)=false) (k:WC X n wm none (.region id ops dr) s (fun e s'=>Q e pm s')):DC X n wm (.region id ops dr) pm s Q:=by
 obtain⟨e,s',hq,j⟩:=k;refine⟨e,pm,s',hq,XR.2 (Js (C:=cfg X fun _=>false) (ih:=Kq (.code (.region id ops dr) n wm none s) (.code e s')) (QW (Xq.2 ⟨_,_,rfl,j⟩)) ?_)⟩;unfold KI;dsimp only;rw [hn];unfold Zbe;rw [QX];rfl
theorem DC.skip {Q:XX ->PM ->Fs ->Prop} (k:Q .normal pm s):DC X n wm .skip pm s Q:=by
 obtain⟨e,s',hq,j⟩:WC X n wm none .skip s (fun e s'=>Q e pm s'):=WC.skip k;refine⟨e,pm,s',hq,XR.2 (Js (C:=cfg X fun _=>false) (ih:=Kq (.code .skip n wm none s) (.code e s')) (QW (Xq.2 ⟨_,_,rfl,j⟩)) ?_)⟩;unfold KI Zbe;dsimp only;rw [QX];rfl
theorem DC.Zv6 {c:Operand} {a b:Code} {t:Bool} {Q:XX ->PM ->Fs ->Prop} {fr:Fr} (hc:Z6 fr c=some (.bool t)) (ht:t=true) (k:DC X n wm a pm ⟨fr,ds,h,none⟩ Q):DC X n wm (.cond c a b) pm ⟨fr,ds,h,none⟩ Q:=by
 subst ht;obtain⟨e,Kz,s',hq,j⟩:=k;refine⟨e,Kz,s',hq,XR.2 (Js (C:=cfg X fun _=>false) (ih:=Kq (.Xp a n wm pm ⟨fr,ds,h,none⟩) (.Xp e Kz s')) (QW j) ?_)⟩;unfold KI;dsimp only;rw [hc];exact QX _ _
theorem DC.Zv7 {c:Operand} {a b:Code} {t:Bool} {Q:XX ->PM ->Fs ->Prop} {fr:Fr} (hc:Z6 fr c=some (.bool t)) (ht:t=false) (k:DC X n wm b pm ⟨fr,ds,h,none⟩ Q):DC X n wm (.cond c a b) pm ⟨fr,ds,h,none⟩ Q:=by
 subst ht;obtain⟨e,Kz,s',hq,j⟩:=k;refine⟨e,Kz,s',hq,XR.2 (Js (C:=cfg X fun _=>false) (ih:=Kq (.Xp b n wm pm ⟨fr,ds,h,none⟩) (.Xp e Kz s')) (QW j) ?_)⟩;unfold KI;dsimp only;rw [hc];exact QX _ _
theorem DC.rec {id:Nat} {ops:Array Oper} {Q:XX ->PM ->Fs ->Prop} (Kz:PM) (fr':Fr) (hd:Zn9 X n wm ops.toList ops.toList pm ⟨fr,ds,h,none⟩=some (Kz,⟨fr',ds,h,none⟩)) (hn:ops.toList.any isRecover=true) (k:Q .normal Kz ⟨fr',ds,h,none⟩):DC X n wm (.region id ops false) pm ⟨fr,ds,h,none⟩ Q:=by
 refine⟨.normal,Kz,_,k,XR.2 (Js (C:=cfg X fun _=>false) (ih:=fun _=>none) (fun _ _ h=>by cases h) ?_)⟩;unfold KI;dsimp only;rw [hn];have hd':Zn9 (cfg X fun _=>false).X n wm ops.toList ops.toList pm ⟨fr,ds,h,none⟩=some (Kz,⟨fr',ds,h,none⟩):=hd;rw [hd'];rfl
structure DEn (X:Ctx) (fn:Func) (wm:Nat) (R:Km ->H ->Prop) (fr:Fr) (ds:List Deferred) (e:XX) (pm:PM) (s:Fs):Prop where
 Z4:e= .normal
 no:s.ds= []
 k:Zbp X fn wm R (Zhi pm) ⟨fr,ds,s.h,none⟩
theorem Zbp.dfn {f:FuncId} {fn2:Func} {c:Code} {cap:List Value} {n2:Nat} (hf:X.fns.get f=some fn2) (hb:fn2.body=some c) (hnt:fn2.ntmps=n2) (hn:cap.length <=n2) (hr:fn2.results.toList= [])
 (k:DC X n2 wm c pm ⟨XQ cap 0 .nil,[],h,none⟩ (DEn X fn wm R fr ds)):Zbp X fn wm R pm ⟨fr,⟨.fn (.func f) cap.toArray,#[]⟩::ds,h,none⟩:=by
 subst hnt;obtain⟨e,Kz,s',⟨rfl,hno,E,h',hR,jl⟩,jd⟩:=k;obtain⟨fr',ds',h2,wr'⟩:=s';dsimp only at hno jl;subst hno
 have jc:Yw X (.dcall f (([]:List Value) ++ cap).toArray pm wm h) (.Zds Kz h2):=by
  refine ZdE (C:=cfg X fun _=>false) (ih:=Kq (.Xp c fn2.ntmps wm pm ⟨XQ cap 0 .nil,[],h,none⟩) (.Xp .normal Kz ⟨fr',[],h2,wr'⟩)) (QW jd) ?_;unfold ZeT;have hf':(cfg X fun _=>false).X.fns.get f=some fn2:=hf;rw [hf'];dsimp only;rw [hb];dsimp only;have e1:Nat.ble (([]:List Value) ++ cap).toArray.toList.length fn2.ntmps=true:=Nm0 hn;rw [e1,Cq1];rw [List.nil_append,QX];unfold Zv5;dsimp only;have e3:QT (cfg X fun _=>false).X.P fn2 fr' h2=some (.tuple #[]):=by unfold QT;rw [hr];rfl
  rw [e3]
 refine⟨E,h',hR,?_⟩
 classical
 let ih:Ji ->Option YJ:=fun j=>if j= .dcall f (([]:List Value) ++ cap).toArray pm wm h then some (.Zds Kz h2) else if j= .leave fn wm (Zhi Kz) ⟨fr,ds,h2,none⟩ then some (.fin E h') else none
 refine Jr (C:=cfg X fun _=>false) (ih:=ih) ?_ ?_
 ·intro j r e;dsimp only [ih] at e;split at e
  ·rename_i hj;cases e;rw [hj];exact jc
  ·split at e
   ·rename_i hj;cases e;rw [hj];exact jl
   ·cases e
 ·unfold UB;dsimp only;have hf':(cfg X fun _=>false).X.fns.get f=some fn2:=hf;rw [hf'];dsimp only;have i1:ih (.dcall f ((#[]:Array Value).toList ++ cap.toArray.toList).toArray pm wm h)=some (.Zds Kz h2):=by dsimp only [ih];rw [if_pos rfl]
  rw [i1];dsimp only [ih];rw [if_neg (by intro q;cases q),if_pos rfl]
end
section
theorem WO.dfr {Q:XX ->Fs ->Prop} {fo:Operand} {ts:Array TypeId} {f:FuncId} {cap:Array Value} (hg:ZY ops ⟨none,.defer {callee:= .value fo,args:=#[],argTypes:=ts},ty,p,af,g⟩ fr) (hf:Z6 fr fo=some (.func (.func f) #[] cap))
 (k:WO X n wm none ops l ⟨fr,⟨.fn (.func f) cap,#[]⟩::ds,h,none⟩ Q):WO X n wm none ops (⟨none,.defer {callee:= .value fo,args:=#[],argTypes:=ts},ty,p,af,g⟩::l) ⟨fr,ds,h,none⟩ Q:=by
 refine WO.cons (ZbG X) (s1:= ⟨fr,⟨.fn (.func f) cap,#[]⟩::ds,h,none⟩) ?_ k
 have ha:Xt X h (Z6 fr) ⟨none,.defer {callee:= .value fo,args:=#[],argTypes:=ts},ty,p,af,g⟩=some (.dfr ⟨.fn (.func f) cap,#[]⟩,.none):=by
  show(match evs (Z6 fr) [] with
   | some args=>(match Z6 fr fo with
     | some (.func (.func g) first cap)=>some (AN.dfr {target:= .fn (.func g) cap,args:=first ++ args.toArray},Eff.none)
     | _=>none)
   | none=>none)=_
  rw [hf];rfl
 unfold Kl;rw [hg.1,hg.2];dsimp only [Bool.not_true,Cq0,Cq1];rw [ha]
 rfl
theorem WO.pnc {Q:XX ->Fs ->Prop} {x:Operand} {t:TypeId} {v:Value} (hg:ZY ops ⟨none,.panic x,ty,p,af,g⟩ fr) (hx:Z6 fr x=some (.iface t v)) (k:Q (.panic (.iface t v)) ⟨fr,ds,h,none⟩):WO X n wm rd ops (⟨none,.panic x,ty,p,af,g⟩::l) ⟨fr,ds,h,none⟩ Q:=by
 refine WO.panic (E:= .none) (h1:=h) hg ?_ rfl k
 show(match Z6 fr x with
  | some (.iface t v)=>some (AN.panic (.iface t v),Eff.none)
  | _=>none)=_
 rw [hx]
theorem Zgl {x:Operand} {t:TypeId} {v:Value} (hx:Z6 fr x=some v) (ht:(match X.P.underlying t with | some (.interface _)=>false | some _=>true | none=>false)=true):Xt X h (Z6 fr) ⟨some d,.makeInterface t x,ty,p,af,g⟩=some (.val (.iface t v),.none):=by
 show(match Z6 fr x,X.P.underlying t with
  | some _,some (.interface _)=>none
  | some v,some _=>some (AN.val (.iface t v),Eff.none)
  | _,_=>none)=_
 rw [hx];cases hh:X.P.underlying t with
 | none=>rw [hh] at ht;cases ht
 | some u=>
   rw [hh] at ht;cases u
   case interface=>cases ht
   all_goals rfl
end
end Go.YD
end
end
section
noncomputable section
namespace Go.YD
open Go.Lf
variable {X:Ctx} {n wm:Nat} {rd:Option Nat} {ops:Array Oper} {l:List Oper} {rest:Code}
theorem WO.body {s:Fs} {Q:XX ->Fs ->Prop} (k:WO X n wm rd ops l s (ZX X n wm rd rest Q)):∃ e s',Q e s'∧∀ {ρ:Ren} {F:Fence} {a:Act} {w:World},Inv ρ n s a w ->wm <=s.h.size ->FR' ρ rd F ->∀ Q':Exit ->Act ->World ->Prop,(∀ e' a' w',XF wm n ρ s.h w e s' e' a' w' ->Q' e' a' w') ->
 wpListIn F 0 X.P ops (Exit.then (rest.wpIn F 0 X.P Q') Q') l a w:=by
 obtain⟨e1,s1,hk,ho⟩:=k.out;have hk:=hk.out;cases e1 with
 | normal=>
   obtain⟨e,s',hq,hj⟩:=hk;obtain⟨_,_,q0,kb⟩:=Xq.1 hj;cases q0;refine⟨e,s',hq,fun{ρ F a w} hi hw hF Q' hQ=>ho _ hi hw hF fun e' a' w' hp=>?_⟩;obtain⟨ρ',he,hi',hst⟩:=hp;cases he;exact wpIn_mono (kb ρ' a' w' F (Nat.le_trans hw hst.size) hi' (hF.mono hst.ext)) fun e2 a2 w2 hp2=>hQ _ _ _ (XF.trans hi.rel.lt hst hp2)
 | exit id=>
   refine⟨_,s1,hk,fun{ρ F a w} hi hw hF Q' hQ=>ho _ hi hw hF fun e' a' w' hp=>?_⟩;obtain⟨ρ',he,hi',hst⟩:=hp;cases he;exact hQ _ _ _ ⟨ρ',.exit id,hi',hst⟩
 | goto id=>
   refine⟨_,s1,hk,fun{ρ F a w} hi hw hF Q' hQ=>ho _ hi hw hF fun e' a' w' hp=>?_⟩;obtain⟨ρ',he,hi',hst⟩:=hp;cases he;exact hQ _ _ _ ⟨ρ',.goto id,hi',hst⟩
 | ret=>
   refine⟨_,s1,hk,fun{ρ F a w} hi hw hF Q' hQ=>ho _ hi hw hF fun e' a' w' hp=>?_⟩;obtain⟨ρ',he,hi',hst⟩:=hp;cases he;exact hQ _ _ _ ⟨ρ',.ret,hi',hst⟩
 | panic v=>
   refine⟨_,s1,hk,fun{ρ F a w} hi hw hF Q' hQ=>ho _ hi hw hF fun e' a' w' hp=>?_⟩;obtain⟨ρ',he,hi',hst⟩:=hp;cases he with
   | panic hv=>exact hQ _ _ _ ⟨ρ',.panic hv,hi',hst⟩
theorem EL.mem' {ρ:Ren} {es es':List MapEntry} (e:EL ρ es es') {x:MapEntry} (hx:x ∈ es):∃ x' ∈ es',x'.born=x.born:=by
 induction e with
 | nil=>cases hx
 | cons hk hp hb hv _ ih=>
   rcases List.mem_cons.1 hx with rfl | h
   ·exact⟨_,by simp,hb⟩
   ·obtain⟨x',h1,h2⟩:=ih h;exact⟨x',List.mem_cons_of_mem _ h1,h2⟩
theorem Zuz {s:Fs} {id:Nat} {o:Oper} {t it m Xl clock d:Nat} {es:List MapEntry} {T:List Nat} {v:Value} {e:XX} {s2:Fs} (Ju:Nat ->Bool)
 (hops:ops.toList=o::l) (hop:o.op= .next (.tmp t) false) (hgu:o.guard=none) (hfr:s.fr.at t= .pointer (some ⟨it,0,none⟩)) (hit:s.h.at it= .iter m clock Xl none) (hm:s.h.at m= .map es clock) (hck:clock <=Xl) (hborn:WV clock es=true) (Zpl:wm <=it) (htT:t ∉ T) (hd:o.dst=some d) (hdn:d < n) (hdT:d ∈ T) (hv:plain v=true)
 (Zir:∀ x ∈ es,∃ ex s3,(s3.ds=s.ds∧(∀ t,t ∉ T ->s3.fr.at t=s.fr.at t)∧(ex= .normal∧Ju x.born=false∨ex= .panic v∧Ju x.born=true))∧∀ {ρ:Ren} {F:Fence} {a:Act} {w:World},Inv ρ n {fr:=Ue (Yj T s.fr) o.dst (.tuple #[.bool true,x.key,x.val]),ds:=s.ds,h:=s.h.put it (.iter m clock clock (some x.born)),wr:=s.wr} a w ->s.h.size <= (s.h.put it (.iter m clock clock (some x.born))).size ->FR' ρ rd F ->∀ Q':Exit ->Act ->World ->Prop,
   (∀ e' a' w',XF s.h.size n ρ (s.h.put it (.iter m clock clock (some x.born))) w ex s3 e' a' w' ->Q' e' a' w') ->wpListIn F 0 X.P ops (Exit.then (rest.wpIn F 0 X.P Q') Q') l a w)
 (hover:(∀ x ∈ es,Ju x.born=false) ->e ≠ .normal∧∀ {ρ:Ren} {F:Fence} {a:Act} {w:World},Inv ρ n {s with fr:=Ue (Yj T s.fr) o.dst Ww,h:=s.h.put it .dead} a w ->wm <= (s.h.put it .dead).size ->FR' ρ rd F ->∀ Q':Exit ->Act ->World ->Prop,
   (∀ e' a' w',XF wm n ρ (s.h.put it .dead) w e s2 e' a' w' ->Q' e' a' w') ->wpListIn F 0 X.P ops (Exit.then (rest.wpIn F 0 X.P Q') Q') l a w)
 (ZI3:(∃ x ∈ es,Ju x.born=true) ->e= .panic v∧s2= {s with fr:=Yj T s.fr,h:=s.h.put it .dead}):Yw X (.loop (.seq (.region id ops false) rest) n wm rd s) (.code e s2):=by
 refine Zcq.2 ⟨e,s2,rfl,fun ρ a0 w0 F ZK hi0 hF=>?_⟩;obtain⟨dd,hdr⟩:∃ d,d=it:= ⟨_,rfl⟩
 have Zpm:=hi0.fr.val t (by rw [hfr];rfl);rw [hfr] at Zpm;generalize hpx:a0.tmps.getD t undef=px at Zpm;cases Zpm with
 | @ptr _ bi di _ Zd2=>
 have hoi:=hi0.rel.obj _ _ _ Zd2;rw [hit] at hoi;obtain⟨rfl,bm,ZD5,Zik,ZuZ,_,Zd3⟩:=hoi;have Zd3:=Zd3 rfl;subst Zd3;have hom:=hi0.rel.obj _ _ _ Zik;rw [hm] at hom;obtain⟨_,es',ZuX,hes⟩:=hom;have hilt:=hi0.rel.dom _ _ _ Zd2;have ZI6:=hi0.rel.dom _ _ _ Zik;have Zpq:m ≠ it:=fun z=>by rw [z,hit] at hm;cases hm
 have hold:∀ x ∈ es'.toList,x.born < clock:=by
  intro x hx;obtain⟨y,hy,_,_,hyb,_⟩:=hes.mem hx;rw [hyb];exact Zi0 hborn y hy
 have Zns:∀ j b d,ρ j=some (b,d) ->b=bi ->j ≠ it ->((s.h.at j).live=true ->False):=by
  intro j b d hj hbb hne' hl;subst hbb;exact hne' (hi0.rel.inj it j b 0 d Zd2 hj (by rw [hit];rfl) hl).symm
 have hbne:bm ≠ bi:=fun z=>Zns m bm 0 Zik z Zpq (by rw [hm];rfl)
 have ZE1:s.h.size= (s.h.put it .dead).size:=rfl
 have Zim:∀ {a:Act} {w:World} {K:Act ->World ->Prop} {Q:Exit ->Act ->World ->Prop} {v:Value} {w1:World},a.tmps.getD t undef= .pointer (some ⟨bi,0,none⟩) ->(Instr.next (.pointer (some ⟨bi,0,none⟩)) false o.type).run X.P w= .ok v w1 ->
  K (a.put o.dst v) w1 ->(if Region.wanted o (yielded ops a.tmps) then o.wpIn F 0 X.P a w K Q else(∀ f,o.about X.P w a.eval=some f ->F.fn f)∧K (a.put o.dst undef) w):=by
  intro a w K Q v w1 ht hrun hK;have hw:Region.wanted o (yielded ops a.tmps)=true:=by unfold Region.wanted;rw [hgu]
  rw [if_pos hw];refine⟨fun f _=>Kj hF f,?_⟩;have Zlh:o.semAt F.round a.eval=execOp a.eval o:=Oper.semAt_eq _ _ _ fun c hc=>by rw [hop] at hc;cases hc
  have he:a.eval (.tmp t)= .pointer (some ⟨bi,0,none⟩):=ht
  have hx:(execOp a.eval o).run X.P w= .ok (.value v) w1:=by
   unfold execOp;rw [hop];simp [he,hrun]
  rw [Zlh,hx];exact hK
 have ZEX:∀ t,t ∉ T ->t ≠ d:=fun t ht z=>by rw [z] at ht;exact ht hdT
 have Znq:∀ (a:Act) (w:World),Inv ρ n {s with fr:=Yj T s.fr,h:=s.h.put it .dead} a w ->a.tmps.getD t undef= .pointer (some ⟨bi,0,none⟩):=by
  intro a w hi;have h0:VR ρ ((Yj T s.fr).at t) (a.tmps.getD t undef):=hi.fr.val t (by show QY ((Yj T s.fr).at t)=false;rw [Xr,if_neg htT,hfr];rfl);rw [Xr,if_neg htT,hfr] at h0;generalize a.tmps.getD t undef=y at h0;cases h0 with
  | ptr _ h1=>rw [Zd2] at h1;cases h1;rfl
 have ZuO:(∀ x ∈ es,Ju x.born=false) ->∀ (a:Act) (w:World),Inv ρ n {s with fr:=Yj T s.fr,h:=s.h.put it .dead} a w ->Stp wm ρ s.h w0 ρ (s.h.put it .dead) w ->a.tmps.getD t undef= .pointer (some ⟨bi,0,none⟩) ->
  (Instr.next (.pointer (some ⟨bi,0,none⟩)) false o.type).run X.P w= .ok Ww w ->LoopIn F 0 X.P (.seq (.region id ops false) rest) (XF wm n ρ s.h w0 e s2) a w:=by
  intro hall a w hi hst ht hrun;obtain⟨hne,hover⟩:=hover hall;refine XJ (wpIn_seq (wpIn_region_list ?_));rw [hops];refine Zim ht hrun ?_
  have hio:Inv ρ n {s with fr:=Ue (Yj T s.fr) o.dst Ww,h:=s.h.put it .dead} (a.put o.dst Ww) w:=by
   refine⟨hi.rel,?_,?_⟩
   ·rw [hd];exact hi.fr.set hdn (VR.ZQ rfl)
   ·rw [hd];exact hi.ds
  refine hover hio ZK hF _ fun e3 a3 w3 hp=>?_
  have hp2:=XF.trans hi0.rel.lt hst hp;obtain⟨ρ3,hx3,hi3,WI⟩:=hp2;cases hx3 with
  | normal=>exact(hne rfl).elim
  | exit id=>exact⟨ρ3,.exit id,hi3,WI⟩
  | goto id=>exact⟨ρ3,.goto id,hi3,WI⟩
  | ret=>exact⟨ρ3,.ret,hi3,WI⟩
  | panic hv=>exact⟨ρ3,.panic hv,hi3,WI⟩
 have ZAb:∀ seen:Array Nat,(∀ b,seen.contains b=true ->Ju b=false) ->(leftOf es' seen).size=0 ->∀ x ∈ es,Ju x.born=false:=by
  intro seen Zke h00 x hx;obtain⟨y,hy,hyb⟩:=hes.mem' hx;refine Zke _ ?_;cases hc:seen.contains x.born with
  | true=>rfl
  | false=>
    exfalso;have:y ∈ leftOf es' seen:=Array.mem_filter.2 ⟨Array.mem_toList_iff.1 hy,by rw [hyb,hc];rfl⟩;rw [Array.eq_empty_of_size_eq_zero h00] at this;simp at this
 have head:∀ (k:Nat) (seen:Array Nat) (last:Nat) (a:Act) (w:World),(∀ b,seen.contains b=true ->Ju b=false) ->(leftOf es' seen).size <=k ->clock <=last ->w.heap[bi]? =some (.mapIter (some bm) clock seen last) ->w.heap[bm]? =some (.map es' clock) ->
  Inv ρ n {s with fr:=Yj T s.fr,h:=s.h.put it .dead} a w ->
  Stp wm ρ s.h w0 ρ (s.h.put it .dead) w ->LoopIn F 0 X.P (.seq (.region id ops false) rest) (XF wm n ρ s.h w0 e s2) a w:=by
  intro k
  induction k with
  | zero=>
    intro seen last a w Zke hk hlast hblk ZeI hi hst;have ht:=Znq a w hi;rcases Zhm (P:=X.P) o.type hblk ZeI hold (hlast) with⟨h00,hrun⟩ | ⟨e',he',_⟩
    ·exact ZuO (ZAb seen Zke h00) a w hi hst ht hrun
    ·have:=Array.length_toList ▸ List.length_pos_of_mem he';omega
  | succ k ihk=>
    intro seen last a w Zke hk hlast hblk ZeI hi hst;have ht:=Znq a w hi;rcases Zhm (P:=X.P) o.type hblk ZeI hold (hlast) with⟨h00,hrun⟩ | ⟨e',he',w1,hw1,hsame,hrun⟩
    ·exact ZuO (ZAb seen Zke h00) a w hi hst ht hrun
    ·have hmem:= (mem_left he').1;obtain⟨x,hx,hkey,hkp,hbn,hval⟩:=hes.mem hmem;obtain⟨ex,s3,⟨ZBy,hwr,hpn⟩,hbody⟩:=Zir x hx;have ZuY:bi < w.heap.size:= (hi.rel.dom _ _ _ Zd2).2;have ZEZ:bm < w.heap.size:= (hi.rel.dom _ _ _ Zik).2;obtain⟨w2,hw2⟩:∃ w2,w2=w1.putObj bi (.mapIter (some bm) clock (seen.push e'.born) clock):= ⟨_,rfl⟩
     rw [← hw2] at hrun;have hsz2:w2.heap.size=w.heap.size:=by rw [hw2,World.putObj_size,hw1]
     have hother:∀ k,k ≠ bi ->w2.heap[k]? =w.heap[k]?:=fun k hk=>by rw [hw2,World.putObj_heap_other hk,hw1]
     have Zu0:w2.heap[bi]? =some (.mapIter (some bm) clock (seen.push e'.born) clock):=by rw [hw2];exact World.putObj_heap_same (by rw [hw1];exact ZuY)
     have Zd4:Same w w2:=by rw [hw2];exact⟨hsame.os,hsame.tape,hsame.output⟩
     have hrel:Rel ρ (s.h.put it (.iter m clock clock (some x.born))) w2:=by
      refine ZhZ hi.rel Zd2 Zns hother hsz2 ⟨rfl,bm,seen.push e'.born,Zik,Zu0,fun z hz=>?_,fun z=>by cases z⟩;cases hz;rw [← hbn];simp
     have hie:Inv ρ n {fr:=Ue (Yj T s.fr) o.dst (.tuple #[.bool true,x.key,x.val]),ds:=s.ds,h:=s.h.put it (.iter m clock clock (some x.born)),wr:=s.wr} (a.put o.dst (.tuple #[.bool true,e'.key,e'.val])) w2:=by
      refine⟨hrel,?_,?_⟩
      ·rw [hd];refine hi.fr.set hdn (.tuple _ _ rfl fun j y y' p q=>?_)
       match j,p,q with
       | 0,p,q=>simp at p q;subst p q;exact .bool true
       | 1,p,q=>simp at p q;subst p q;rw [hkey];exact VR.ZQ hkp
       | 2,p,q=>simp at p q;subst p q;exact hval
       | j + 3,p,q=>simp at p
      ·rw [hd];exact hi.ds
     refine XJ (wpIn_seq (wpIn_region_list ?_));rw [hops];refine Zim ht hrun ?_;refine hbody hie (Nat.le_refl _) hF _ fun e3 a3 w3 hp=>?_
     obtain⟨ρ3,hx3,hi3,WI⟩:=hp;obtain⟨q1,q2⟩:=Zbf hrel WI;have Zpr:∀ b,b < w2.heap.size ->w3.heap[b]? =w2.heap[b]?:=fun b hb=>WI.frame b hb fun i d hi' e _=>by have:=hrel.lt i _ e;simp at this hi';omega
     have hinv:Inv ρ n {s with fr:=Yj T s.fr,h:=s.h.put it .dead} a3 w3:=by
      refine⟨?_,⟨hi3.fr.size,fun t hany=>?_⟩,?_⟩
      ·refine(Zcd (i:=it) q1).congr rfl fun i=>?_
       rw [H.XD,H.XD];by_cases hii:i=it∧i < s.h.size
       ·rw [if_pos hii,if_pos (by simpa using hii)]
       ·rw [if_neg hii,if_neg (by simpa using hii),H.XD,if_neg hii]
      ·change QY ((Yj T s.fr).at t)=false at hany
       show VR ρ ((Yj T s.fr).at t) _;rw [Xr] at hany ⊢;by_cases Zcs:t ∈ T
       ·rw [if_pos Zcs] at hany;cases hany
       ·rw [if_neg Zcs] at hany ⊢;have h0:=hi.fr.val t (by show QY ((Yj T s.fr).at t)=false;rw [Xr,if_neg Zcs];exact hany);have h0:VR ρ ((Yj T s.fr).at t) _:=h0;rw [Xr,if_neg Zcs] at h0;have h1:=hi3.fr.val t (by rw [hwr t Zcs];exact hany);rw [hwr t Zcs] at h1;exact VR.back WI.ext h0 h1
      ·have h0:DsR ρ s.ds a.defers:=hi.ds;have h1:=hi3.ds;rw [ZBy] at h1;exact DsR.back WI.ext h0 h1
     have hstp:Stp wm ρ s.h w0 ρ (s.h.put it .dead) w3:=by
      refine⟨Ren.le_refl _,hst.size,hst.keep,hst.own,hst.live,WI.os.trans (Zd4.os.trans hst.os),WI.tape.trans (Zd4.tape.trans hst.tape),WI.output.trans (Zd4.output.trans hst.output),
       Nat.le_trans hst.Y8 (by rw [← hsz2];exact WI.Y8),fun b hb hno=>?_,fun i b d p q=>by rw [p] at q;cases q⟩
      have hbb:b ≠ bi:=fun z=>by subst z;exact hno it 0 Zpl Zd2 (by rw [hit];rfl)
      have:=hst.Y8;rw [Zpr b (by omega),hother b hbb,hst.frame b hb hno]
     rcases hpn with⟨rfl,hpf⟩ | ⟨rfl,hpt⟩
     ·cases hx3;show LoopIn F 0 X.P _ _ a3 w3
      exact ihk (seen.push e'.born) clock a3 w3 (fun b hb=>by
       rw [contains_push] at hb;rcases Bool.or_eq_true_iff.1 hb with z | z
       ·exact Zke b z
       ·have:b=e'.born:=by simpa using z
        rw [this,hbn];exact hpf) (by have:=left_shrinks es' seen e' he';omega) (Nat.le_refl _) (by rw [Zpr bi (by omega)];exact Zu0) (by rw [Zpr bm (by omega),hother bm hbne];exact ZeI) hinv hstp
     ·obtain⟨he,ZIY⟩:=ZI3 ⟨x,hx,hpt⟩;cases hx3 with
      | panic hv3=>
        show XF wm n ρ s.h w0 e s2 _ a3 w3;rw [he,ZIY];have:=VR.YK hv hv3;subst this;exact⟨ρ,.panic (VR.ZQ hv),hinv,hstp⟩
 have ZBp:Stp wm ρ s.h w0 ρ (s.h.put it .dead) w0:=by
  have kk:=Ur (h:=s.h) (A:= .dead) Zpl (by rw [hit];rfl);exact⟨Ren.le_refl _,Nat.le_refl _,kk.keep,kk.own,kk.live,rfl,rfl,rfl,Nat.le_refl _,fun _ _ _=>rfl,fun i b d e e'=>by rw [e] at e';cases e'⟩
 refine head _ #[] Xl a0 w0 (fun b hb=>by simp at hb) (Nat.le_refl _) hck ZuZ ZuX ⟨Zcd hi0.rel,⟨hi0.fr.size,fun t hany=>?_⟩,hi0.ds⟩ ZBp
 change QY ((Yj T s.fr).at t)=false at hany
 show VR ρ ((Yj T s.fr).at t) _;rw [Xr] at hany ⊢;by_cases ht:t ∈ T
 ·rw [if_pos ht] at hany;cases hany
 ·rw [if_neg ht] at hany ⊢;exact hi0.fr.val t hany
def Agr (T:List Nat) (fr fr':Fr):Prop:=∀ t v,T.contains t=false ->fr.at t=v ->fr'.at t=v
theorem Agr.at {T:List Nat} {fr fr':Fr} (a:Agr T fr fr') {t:Nat} {v:Value} (ht:T.contains t=false) (h:fr.at t=v):fr'.at t=v:=a t v ht h
def MFr (T:List Nat) (fr f:Fr):Prop:=∀ t,t ∉ T ->f.at t=fr.at t
theorem MFr.z {T:List Nat} {fr:Fr}:MFr T fr fr:=fun _ _=>rfl
theorem MFr.s {T:List Nat} {fr f:Fr} {i:Nat} {v:Value} (hi:T.contains i=true) (h:MFr T fr f):MFr T fr (Tr.set f i v):=fun t ht=>by
 have hne:t ≠ i:=fun z=>ht (by subst z;rwa [List.contains_iff_mem] at hi)
 have:=Zc4 (fr:=f) (d:=some i) (v:=v) (t:=t);rw [show Ue f (some i) v=Tr.set f i v from rfl] at this;rw [this,if_neg (fun z=>hne (Oi0 z).symm)];exact h t ht
structure Zqs (T:List Nat) (fr:Fr) (ds:List Deferred) (v:Value) (p:Bool) (e:XX) (s:Fs):Prop where
 ds:s.ds=ds
 fr:MFr T fr s.fr
 e:e= .normal∧p=false∨e= .panic v∧p=true
theorem Zqs.Z4 {T:List Nat} {fr f:Fr} {ds:List Deferred} {v:Value} {h:H} (k:MFr T fr f):Zqs T fr ds v false .normal ⟨f,ds,h,none⟩:= ⟨rfl,k,.inl ⟨rfl,rfl⟩⟩
theorem Zqs.panic {T:List Nat} {fr f:Fr} {ds:List Deferred} {v:Value} {h:H} (k:MFr T fr f):Zqs T fr ds v true (.panic v) ⟨f,ds,h,none⟩:= ⟨rfl,k,.inr ⟨rfl,rfl⟩⟩
structure Zzo (Q:XX ->Fs ->Prop) (e:XX) (s:Fs):Prop where
 nn:e ≠ .normal
 k:Q e s
theorem Zzo.exit {Q:XX ->Fs ->Prop} {s:Fs} {id:Nat} (k:Q (.exit id) s):Zzo Q (.exit id) s:= ⟨(fun z=>by cases z),k⟩
def Zzt {κ ν:Type} (kv:κ ->Value) (vv:ν ->Value) (h:H) (it:Nat) (x:κ×ν):Prop:=Zel h (.pointer (some ⟨it,0,none⟩))=some (.tuple #[kv x.1,vv x.2])
section
variable {κ ν:Type} {kv:κ ->Value} {vv:ν ->Value} {ll:List (κ×ν)} {bs:List Nat}
theorem Znf:∀ {ll:List (κ×ν)} {bs:List Nat} {x:MapEntry},x ∈ Yv kv vv ll bs ->∃ (j:Nat) (y:κ×ν) (b:Nat),ll[j]? =some y∧bs[j]? =some b∧x= ⟨kv y.1,vv y.2,b⟩:=by
 intro ll bs x hx;obtain⟨j,hj⟩:=List.mem_iff_getElem?.1 hx;unfold Yv at hj;rw [List.getElem?_zipWith] at hj;cases h1:ll[j]? with
 | none=>rw [h1] at hj;simp at hj
 | some y=>
   cases h2:bs[j]? with
   | none=>rw [h1,h2] at hj;simp at hj
   | some b=>rw [h1,h2] at hj;simp at hj;exact⟨j,y,b,h1,h2,hj.symm⟩
theorem ZxA {j:Nat} {y:κ×ν} {b:Nat} (h1:ll[j]? =some y) (h2:bs[j]? =some b):(⟨kv y.1,vv y.2,b⟩:MapEntry) ∈ Yv kv vv ll bs:=by
 refine List.mem_iff_getElem?.2 ⟨j,?_⟩;unfold Yv;rw [List.getElem?_zipWith,h1,h2]
theorem ZgI {b:Nat}:∀ {ll:List (κ×ν)} {bs:List Nat},b ∉ bs ->ZdT b (Yv kv vv ll bs)=true
 | [],_,_=>by unfold Yv;simp [ZdT]
 | _::_,[],_=>by unfold Yv;simp [ZdT]
 | x::ll,b'::bs,h=>by
   have ih:=ZgI (ll:=ll) (bs:=bs) (b:=b) (fun z=>h (by simp [z]));unfold Yv at ih ⊢;rw [List.zipWith_cons_cons];unfold ZdT;have:Nat.beq b' b=false:=by rw [Bool.eq_false_iff];intro q;exact h (by simp [Nb0 q])
   dsimp only;rw [this];exact ih
theorem Zic {Xl:Nat}:∀ {ll:List (κ×ν)} {bs:List Nat},bs.Nodup ->(∀ b ∈ bs,b < Xl) ->WV Xl (Yv kv vv ll bs)=true
 | [],_,_,_=>by unfold Yv;simp [WV]
 | _::_,[],_,_=>by unfold Yv;simp [WV]
 | x::ll,b::bs,hn,hl=>by
   rw [List.nodup_cons] at hn;have ih:=Zic (ll:=ll) (bs:=bs) hn.2 (fun b hb=>hl b (by simp [hb]));have hno:ZdT b (Yv kv vv ll bs)=true:=ZgI (ll:=ll) hn.1;unfold Yv at ih hno ⊢;rw [List.zipWith_cons_cons];unfold WV;dsimp only;rw [hno,ih];have:Nat.blt b Xl=true:=by rw [Nat.blt_eq];exact hl b (by simp)
   rw [this];rfl
theorem Zj7:∀ {ll:List (κ×ν)} {bs:List Nat} {j:Nat} {y:κ×ν} {b:Nat},bs.Nodup ->ll[j]? =some y ->bs[j]? =some b ->Zkv b (Yv kv vv ll bs)=some ⟨kv y.1,vv y.2,b⟩
 | [],_,_,_,_,_,h,_=>by simp at h
 | _::_,[],_,_,_,_,_,h=>by simp at h
 | x::ll,b'::bs,j,y,b,hn,h1,h2=>by
   rw [List.nodup_cons] at hn;unfold Yv;rw [List.zipWith_cons_cons];unfold Zkv;dsimp only;cases j with
   | zero=>
     simp at h1 h2;subst h1 h2;rw [Nat.beq_refl];rfl
   | succ j=>
     simp at h1 h2
     have:Nat.beq b' b=false:=by
      rw [Bool.eq_false_iff];intro q;have:=Nb0 q;subst this;exact hn.1 (List.mem_iff_getElem?.2 ⟨j,h2⟩)
     rw [this];exact Zj7 hn.2 h1 h2
end
section
variable {wm:Nat} {G Gr:List (Ast wm)} {h h0:H} {T0:Nat ->Prop} {fr:Fr} {ds:List Deferred} {ty:TypeId} {p:String} {af:Array Edge} {g:Option (Nat×Bool)} {κ ν:Type} {kv:κ ->Value} {vv:ν ->Value} {ll:List (κ×ν)} {d:Nat}
theorem WO.rng {Q:XX ->Fs ->Prop} {t kt vt:TypeId} {x:Operand} {i:Nat} (hg:ZY ops ⟨some d,.range t x,ty,p,af,g⟩ fr) (hd:Nat.blt d n=true) (hS:Sp wm T0 h0 G h) (hu:X.P.underlying t=some (.map kt vt)) (hx:Z6 fr x=some (.map (some i))) (s:MapAt kv vv h (some i) ll)
 (k:∀ h' b bs Xl,Sp wm T0 h0 (ob wm b (.iter i Xl Xl none)::G) h' ->h'.at i= .map (Yv kv vv ll bs) Xl ->bs.length=ll.length∧bs.Nodup∧(∀ x ∈ bs,x < Xl) ->WO X n wm rd ops l ⟨Tr.set fr d (.pointer (some ⟨b,0,none⟩)),ds,h',none⟩ Q):
 WO X n wm rd ops (⟨some d,.range t x,ty,p,af,g⟩::l) ⟨fr,ds,h,none⟩ Q:=by
 rcases s.mem with⟨q,_⟩ | ⟨i',bs,Xl,q,h1,h2,h3,h4⟩
 ·cases q
 ·cases q;refine WO.v (v:=Jm h) (E:= .new (.iter i Xl Xl none)) (h1:=h.push (.iter i Xl Xl none)) hg hd ?_ (Zl9 h rfl) (k (h.push (.iter i Xl Xl none)) h.size bs Xl (Zo4 rfl hS) ?_ ⟨h2,h3,h4⟩)
  ·show(match Z6 fr x with
    | some x=>vE (Zi5 X.P h t x)
    | none=>none)=_
   rw [hx];dsimp only;unfold Zi5;simp only [hu,h1]
   rfl
  ·rw [ZaH (XP h1 rfl),h1]
theorem Zwr {x:Operand} {it:Nat} {y:κ×ν} (hx:Z6 fr x=some (.pointer (some ⟨it,0,none⟩))) (he:Zzt kv vv h it y):Xt X h (Z6 fr) ⟨some d,.entry x,ty,p,af,g⟩=some (.val (.tuple #[kv y.1,vv y.2]),.none):=by
 show(match Z6 fr x with
  | some it=>vN (Zel h it)
  | none=>none)=_
 rw [hx];dsimp only;rw [show Zel h (.pointer (some ⟨it,0,none⟩))=_ from he];rfl
theorem WL.ZIp {Q:XX ->Fs ->Prop} {id:Nat} {o:Oper} {t it m Xl:Nat} {bs:List Nat} {b:κ ->ν ->Option Bool} {q:Bool} (T:List Nat) (v:Value) (hq:Zj6 b ll=some q) (hS:Sp wm T0 h0 G h) (pi:Pk G (ob wm it (.iter m Xl Xl none)) Gr) (hat:fr.at t= .pointer (some ⟨it,0,none⟩)) (hm:h.at m= .map (Yv kv vv ll bs) Xl) (hb:bs.length=ll.length∧bs.Nodup∧∀ x ∈ bs,x < Xl)
 (hops:ops.toList=o::l) (hop:o.op= .next (.tmp t) false) (hgu:o.guard=none) (hd:o.dst=some d) (hdn:Nat.blt d n=true) (hT:T.contains t=false) (hdT:T.contains d=true) (hv:plain v=true)
 (body:∀ (x:κ×ν) (p:Bool),b x.1 x.2=some p ->∀ h2 fr',Agr T fr fr' ->Sp h.size (XO ([]:List (Ast h.size))) h2 [] h2 ->Zzt kv vv h2 it x ->WO X n h.size rd ops l ⟨Tr.set fr' d (.tuple #[.bool true,kv x.1,vv x.2]),ds,h2,none⟩ (ZX X n h.size rd rest (Zqs T fr' ds v p)))
 (over:q=false ->∀ h' fr',Agr T fr fr' ->Sp wm T0 h0 Gr h' ->WO X n wm rd ops l ⟨Tr.set fr' d (.tuple #[.bool false]),ds,h',none⟩ (ZX X n wm rd rest (Zzo Q)))
 (Ju:q=true ->∀ h' fr',Agr T fr fr' ->Sp wm T0 h0 Gr h' ->Q (.panic v) ⟨fr',ds,h',none⟩):WL X n wm rd (.seq (.region id ops false) rest) ⟨fr,ds,h,none⟩ Q:=by
 obtain⟨hb1,hb2,hb3⟩:=hb;obtain⟨o1,o2,o3⟩:=hS.get pi;obtain⟨m1,m2⟩:=ZdZ hq
 have ZBO:Agr T fr (Yj T fr):=fun t' v' ht' hv'=>by
  rw [Xr,if_neg (fun z=>by rw [← List.contains_iff_mem] at z;rw [z] at ht';cases ht'),hv']
 have htT:t ∉ T:=fun z=>by rw [← List.contains_iff_mem] at z;rw [z] at hT;cases hT
 have ZJi:d ∈ T:=List.contains_iff_mem.1 hdT;have ZI5:m ≠ it:=fun z=>by rw [z,o1] at hm;cases hm
 classical
 let pn:Nat ->Bool:=fun bn=>decide (∃ (j:Nat) (y:κ×ν),ll[j]? =some y∧bs[j]? =some bn∧b y.1 y.2=some true)
 have Zk2:∀ (j:Nat) (y:κ×ν) (bn:Nat),ll[j]? =some y ->bs[j]? =some bn ->∀ p,b y.1 y.2=some p ->pn bn=p:=by
  intro j y bn h1 h2 p hp;cases p with
  | true=>exact decide_eq_true ⟨j,y,h1,h2,hp⟩
  | false=>
    refine decide_eq_false ?_;rintro⟨j',y',h1',h2',hp'⟩
    have hj:j'=j:=by
     obtain⟨q1,e1⟩:=Li0 h2';obtain⟨q2,e2⟩:=Li0 h2;exact(List.getElem_inj hb2).1 (e1.trans e2.symm)
    subst hj;rw [h1] at h1';cases h1';rw [hp] at hp';cases hp'
 have Zz0:Sp wm T0 h0 Gr (h.put it .dead):=
  Sp.step (Ga:= [ob wm it (.iter m Xl Xl none)]) (Gb:= []) (hS.perm pi.perm) (Up.put o2 (by rw [o1];rfl)) (fun i e=>⟨_,List.mem_singleton.2 rfl,e⟩) Z0.nil fun i ⟨A,mm,f⟩=>by simp at mm
 have Zir:∀ x ∈ Yv kv vv ll bs,∃ ex s3,(s3.ds=ds∧(∀ t,t ∉ T ->s3.fr.at t=fr.at t)∧(ex= .normal∧pn x.born=false∨ex= .panic v∧pn x.born=true))∧∀ {ρ:Ren} {F:Fence} {a:Act} {w:World},Inv ρ n {fr:=Ue (Yj T fr) o.dst (.tuple #[.bool true,x.key,x.val]),ds:=ds,h:=h.put it (.iter m Xl Xl (some x.born)),wr:=none} a w ->h.size <= (h.put it (.iter m Xl Xl (some x.born))).size ->FR' ρ rd F ->∀ Q':Exit ->Act ->World ->Prop,
  (∀ e' a' w',XF h.size n ρ (h.put it (.iter m Xl Xl (some x.born))) w ex s3 e' a' w' ->Q' e' a' w') ->wpListIn F 0 X.P ops (Exit.then (rest.wpIn F 0 X.P Q') Q') l a w:=by
  intro x hx;obtain⟨j,y,bn,h1,h2,rfl⟩:=Znf hx;obtain⟨p,hp⟩:=m1 y (List.mem_iff_getElem?.2 ⟨j,h1⟩);have hpn:=Zk2 j y bn h1 h2 p hp;have hsz:(h.put it (.iter m Xl Xl (some bn))).size=h.size:=H.size_put _ _ _;have e1:(h.put it (.iter m Xl Xl (some bn))).at it= .iter m Xl Xl (some bn):=Yf (XP o1 rfl) _;have e2:(h.put it (.iter m Xl Xl (some bn))).at m= .map (Yv kv vv ll bs) Xl:=by rw [X9 ZI5,hm]
  have hent:Zzt kv vv (h.put it (.iter m Xl Xl (some bn))) it y:=by
   unfold Zzt Zel;simp only [e1,e2,Nat.beq_refl,Cq1,Zj7 hb2 h1 h2]
  obtain⟨ex,s3,⟨q1,q2,q3⟩,q4⟩:=WO.body (body y p hp (h.put it (.iter m Xl Xl (some bn))) (Yj T fr) ZBO (Sp.start (Nat.le_of_eq hsz.symm) Z0.nil) hent);refine⟨ex,s3,⟨q1,fun t' ht'=>?_,?_⟩,?_⟩
  ·rw [q2 t' ht',Xr,if_neg ht']
  ·dsimp only;rw [hpn];exact q3
  ·rw [hd];intro ρ F a w i1 i2 i3 Q' i4;exact q4 i1 i2 i3 Q' i4
 have key:=fun(e:XX) (s2:Fs)=>Zuz (X:=X) (n:=n) (wm:=wm) (rd:=rd) (rest:=rest) (id:=id) (s:= ⟨fr,ds,h,none⟩) (e:=e) (s2:=s2) (T:=T) (v:=v) pn hops hop hgu hat o1 hm (Nat.le_refl _) (Zic hb2 hb3) o2 htT hd (by rwa [Nat.blt_eq] at hdn) ZJi hv Zir
 cases q with
 | true=>
   refine⟨.panic v,⟨Yj T fr,ds,h.put it .dead,none⟩,Ju rfl _ _ ZBO Zz0,key _ _ (fun hall=>?_) fun _=>⟨rfl,rfl⟩⟩;exfalso;obtain⟨y,hy,hyb⟩:=m2.1 rfl;obtain⟨j,hj⟩:=List.mem_iff_getElem?.1 hy;have hjl:= (Li0 hj).1;have h2:bs[j]? =some (bs[j]'(by omega)):=List.getElem?_eq_getElem _;have:=hall _ (ZxA hj h2);rw [Zk2 j y _ hj h2 true hyb] at this;cases this
 | false=>
   obtain⟨e,s2,⟨q1,q2⟩,q3⟩:=WO.body (over rfl _ _ ZBO Zz0);refine⟨e,s2,q2,key e s2 (fun _=>⟨q1,?_⟩) fun⟨x,hx,hp⟩=>?_⟩
   ·rw [hd];intro ρ F a w i1 i2 i3 Q' i4;exact q3 i1 i2 i3 Q' i4
   ·exfalso;obtain⟨j,y,bn,h1,h2,rfl⟩:=Znf hx;obtain⟨p,hp'⟩:=m1 y (List.mem_iff_getElem?.2 ⟨j,h1⟩);have hpn:=Zk2 j y bn h1 h2 p hp';rw [show pn bn=true from hp] at hpn;subst hpn;exact absurd (m2.2 ⟨y,List.mem_iff_getElem?.2 ⟨j,h1⟩,hp'⟩) (by simp)
end
end Go.YD
end
end
section
noncomputable section
namespace Go.YD
open Go.Lf
variable {X:Ctx} {n wm:Nat} {rd:Option Nat} {ops:Array Oper} {l:List Oper} {fr:Fr} {ds:List Deferred} {h h1 h2 h0:H} {T:Nat ->Prop} {G Gr Ga Gb:List (Ast wm)}
inductive FzS (wm:Nat):H ->H ->Prop
 | refl (h:H):FzS wm h h
 | step {h h':H} {i:Nat} {cs:List Value} {z:Nat} (hw:wm <=i) (hr:h.at i= .row cs true z) (k:FzS wm (h.put i (.row cs false 0)) h'):FzS wm h h'
theorem FzS.trans {h h1 h2:H} (a:FzS wm h h1) (b:FzS wm h1 h2):FzS wm h h2:=by
 induction a with
 | refl _=>exact b
 | step hw hr _ ih=>exact .step hw hr (ih b)
theorem WO.fzS {Q:XX ->Fs ->Prop} {h h':H} (a:FzS wm h h') (k:WO X n wm rd ops l ⟨fr,ds,h',none⟩ Q):WO X n wm rd ops l ⟨fr,ds,h,none⟩ Q:=by
 induction a with
 | refl _=>exact k
 | step hw hr _ ih=>exact WO.Zkk hw hr (ih k)
theorem XM.fzs {α:Type} {e:Uh α} {a:Option Addr} {c:Nat} {xs:List α} (so:XM e wm wm h a c xs):∃ h',FzS wm h h'∧Up wm (XZ a) h h'∧Sl e wm h' a c xs:=by
 rcases so.mem with⟨rfl,rfl,rfl⟩ | ⟨i,o,cs,rfl,h1,h2,h3,h4,h5⟩
 ·exact⟨h,.refl h,⟨Nat.le_refl _,fun _ _ _=>rfl,fun i hb=>by obtain⟨o,hb⟩:=hb;cases hb⟩,Sl.nil⟩
 ·have hown:(h.at i).own=true:=by rw [h2];rfl
  have hu:Up wm (XZ (some ⟨i,o,none⟩)) h (h.put i (.row cs false 0)):=
   ⟨Nat.le_refl _,fun j _ hn=>X9 (fun q=>hn ⟨o,by rw [q]⟩) _,fun j hb=>by obtain⟨o',hb⟩:=hb;cases hb;exact⟨h1,hown⟩⟩
  exact⟨_,.step h1 h2 (.refl _),hu,⟨so.max,so.cap,so.nl,.inr ⟨i,o,cs,false,0,rfl,Yf (XP h2 rfl) _,.inr rfl,h5.mono (hu.fz (Nat.le_refl _))⟩⟩⟩
theorem ZnF {α:Type} {e:Uh α} (ps:Nat ->Option Addr×Nat×Nat):∀ (xs:List (List α)) (k:Nat) (h:H) (Gr:List (Ast wm)),Sp wm T h0 (Yq (fun k x=>(XB e).YO wm (ps k) x) k xs ++ Gr) h ->
 ∃ h',FzS wm h h'∧Fz wm h h'∧Sp wm T h0 Gr h'∧∀ j x,xs[j]? =some x ->(ps (k + j)).2.1=x.length∧Sl e wm h' (ps (k + j)).1 (ps (k + j)).2.2 x
 | [],k,h,Gr,hS=>⟨h,.refl h,Fz.refl _ _,hS,fun j x hj=>by simp at hj⟩
 | x::xs,k,h,Gr,hS=>by
   have hS:Sp wm T h0 (ow wm e (ps k).1 (ps k).2.1 (ps k).2.2 x::(Yq (fun k x=>(XB e).YO wm (ps k) x) (k + 1) xs ++ Gr)) h:=hS;have hg:=hS.get k0;obtain⟨h1,f1,u1,s1⟩:=hg.2.fzs;have hS1:= (ZAo hS k0 u1 s1).2.drop k0;obtain⟨h2,f2,z2,hS2,hall⟩:=ZnF ps xs (k + 1) h1 Gr hS1;refine⟨h2,f1.trans f2,(u1.fz (Nat.le_refl _)).trans z2,hS2,fun j y hj=>?_⟩;cases j with
   | zero=>simp at hj;subst hj;exact⟨hg.1,s1.mono z2⟩
   | succ j=>
     have:=hall j y (by simpa using hj);have e1:k + 1 + j=k + (j + 1):=by omega
     rwa [e1] at this
theorem ZCo {α:Type} {e:Uh α} {a:Option Addr} {nn c:Nat} {ps:Nat ->Option Addr×Nat×Nat} {xs:List (List α)} (hS:Sp wm T h0 G h) (pk:Pk G (nst wm (XB e) a nn c ps xs) Gr):∃ h',FzS wm h h'∧nn=xs.length∧Sp wm T h0 (UH wm (Ql (Ql e)) (a,c) xs::Gr) h':=by
 obtain⟨g1,g2,g3,g4⟩:=hS.get pk
 let O:Ast wm:=ow wm (Zt3 (XB e).sz (XB e).pos) a ((XB e).rows ps xs).length c ((XB e).rows ps xs)
 have hS1:Sp wm T h0 ((XB e).parts wm ps xs ++ (O::Gr)) h:=by
  have h1:Sp wm T h0 ((O::(XB e).parts wm ps xs) ++ Gr) h:=by
   refine Sp.say (Ga:= [nst wm (XB e) a nn c ps xs]) (Gr:=Gr) (hS.perm pk.perm) (Z0.cons ⟨rfl,g2⟩ g3 fun i f=>g4 i f) fun i f=>?_
   rcases XO.cons.1 f with f | f
   ·exact⟨_,List.mem_singleton.2 rfl,.inl f⟩
   ·exact⟨_,List.mem_singleton.2 rfl,.inr f⟩
  exact h1.perm (by
   rw [List.cons_append];exact(List.perm_middle).symm)
 obtain⟨h1,f1,z1,hS2,hall⟩:=ZnF ps xs 0 h (O::Gr) hS1;obtain⟨h2,f2,u2,s2⟩:= (hS2.get k0).2.fzs;refine⟨h2,f1.trans f2,g1,hS2.one k0 u2 (fun _ q=>q) ?_ fun _ z=>z.elim⟩;show Sl (Ql e) wm h2 a c xs;have hlen:((XB e).rows ps xs).length=xs.length:=Za2 _ _ _;refine⟨by rw [← hlen];exact s2.max,by rw [← hlen];exact s2.cap,s2.nl,?_⟩;rcases s2.mem with q | ⟨i,o,cs,own,z,q1,q2,q3,q4⟩
 ·left;apply List.eq_nil_of_length_eq_zero;rw [← hlen,q];rfl
 ·refine .inr ⟨i,o,cs,own,z,q1,q2,q3,⟨by have:=q4.len;rw [hlen] at this;exact this,fun k x hk=>?_⟩⟩;obtain⟨n1,n2⟩:=hall k x hk;rw [Nat.zero_add] at n1 n2
  have hrow:((XB e).rows ps xs)[k]? =some ((XB e).raw (ps k) x):=by
   unfold Ne.rows;rw [UO,hk,Nat.zero_add];rfl
  obtain⟨_,w1,_⟩:=q4.get k _ hrow;refine⟨((ps k).1,(ps k).2.2),?_,n2.mono (u2.fz (Nat.le_refl _))⟩;have w2:(cs.drop (o + k * 1)).take 1= [Value.slice (ps k).1 (ps k).2.1 (ps k).2.2]:=w1;rw [n1] at w2;exact w2
theorem WO.Zye {Q:XX ->Fs ->Prop} {α:Type} {e:Uh α} {a:Option Addr} {nn c:Nat} {ps:Nat ->Option Addr×Nat×Nat} {xs:List (List α)} (hS:Sp wm T h0 G h) (pk:Pk G (nst wm (XB e) a nn c ps xs) Gr) (k:∀ h',nn=xs.length∧Sp wm T h0 (UH wm (Ql (Ql e)) (a,c) xs::Gr) h' ->WO X n wm rd ops l ⟨fr,ds,h',none⟩ Q):WO X n wm rd ops l ⟨fr,ds,h,none⟩ Q:=
 let⟨h',f,hh⟩:=ZCo hS pk;WO.fzS f (k h' hh)
end Go.YD
end
end
section
end
section
namespace Go.Proofs.Ytekpjgmhkkjhgaa
structure Za where
 name:Int
 root:Bool
 from_:Int
 has:Int
 out:Int
 use:Bool
 deriving DecidableEq,Inhabited
structure Zd where
 kind:Int
 Zx:Int
 name:Int
 via:Int
 w:Int
 deriving DecidableEq,Inhabited
structure Zb where
 cells:(List (List Za))
 notes:(List Zd)
 names:Int
 freed:(List Int)
 deriving DecidableEq,Inhabited
structure Zo where
 ZT:Int
 at_:Int
 name:Int
 Zx:Int
 deriving DecidableEq,Inhabited
structure Yp where
 at_:Int
 name:Int
 deriving DecidableEq,Inhabited
structure Uz where
 ZT:Int
 at_:Int
 name:Int
 Zx:Int
 deriving DecidableEq,Inhabited
structure Zf where
 e0:Int
 e1:Int
 deriving DecidableEq,Inhabited
structure Store where
 machines:Int
 names:Int
 cells:(List (Zf×Za))
 notes:(List Zd)
 freed:(List Int)
 deriving DecidableEq,Inhabited
structure Model where
 uses:(List Yp)
 ways:(List Yp)
 deriving DecidableEq,Inhabited
def ZaF (x y:Za):Bool:= [x.name==y.name,x.root==y.root,x.from_==y.from_,x.has==y.has,x.out==y.out,x.use==y.use].all id
def Zac (x y:Yp):Bool:= [x.at_==y.at_,x.name==y.name].all id
def ZCM:Option Bool:=some true
def ZvV (x:Int):Option Int:=Go.Lf.Qo x
end Go.Proofs.Ytekpjgmhkkjhgaa
end
section
set_option maxRecDepth 100000
noncomputable section
namespace Go.Proofs.Ytekpjgmhkkjhgaa
open Go.YD Go.Lf
def Zq:Uh Za where
 sz:=6
 pos:=by decide
 Par:=Unit
 dflt:= ()
 sh:=fun _ x=>[.int .i64 x.name,.bool x.root,.int .i64 x.from_,.int .i64 x.has,.int .i64 x.out,.bool x.use]
 len:=fun _ _=>rfl
 one:=fun _ _=>rfl
 F:=fun _ _ _ _=>True
 mono:=fun _ x=>x
 up:=fun _ x=>x
def Zi:Uh Zd where
 sz:=5
 pos:=by decide
 Par:=Unit
 dflt:= ()
 sh:=fun _ x=>[.int .i64 x.kind,.int .i64 x.Zx,.int .i64 x.name,.int .i64 x.via,.int .i64 x.w]
 len:=fun _ _=>rfl
 one:=fun _ _=>rfl
 F:=fun _ _ _ _=>True
 mono:=fun _ x=>x
 up:=fun _ x=>x
def Z9:Uh Yp where
 sz:=2
 pos:=by decide
 Par:=Unit
 dflt:= ()
 sh:=fun _ x=>[.int .i64 x.at_,.int .i64 x.name]
 len:=fun _ _=>rfl
 one:=fun _ _=>rfl
 F:=fun _ _ _ _=>True
 mono:=fun _ x=>x
 up:=fun _ x=>x
def Zo3:Uh Uz where
 sz:=4
 pos:=by decide
 Par:=Unit
 dflt:= ()
 sh:=fun _ x=>[.int .u8 x.ZT,.int .u8 x.at_,.int .u8 x.name,.int .u8 x.Zx]
 len:=fun _ _=>rfl
 one:=fun _ _=>rfl
 F:=fun _ _ _ _=>True
 mono:=fun _ x=>x
 up:=fun _ x=>x
def Zh (x:Zf):Value:= .agg [.int .i64 x.e0,.int .i64 x.e1].toArray
def Zn (x:Za):Value:= .agg [.int .i64 x.name,.bool x.root,.int .i64 x.from_,.int .i64 x.has,.int .i64 x.out,.bool x.use].toArray
theorem ZmO:XX.P.underlying 3=some (.int .i64):=Kq0
theorem ZH8:XX.P.underlying 4=some .bool:=Kq0
theorem ZoR:XX.P.underlying 5=some (.int .u8):=Kq0
theorem Za0:XX.P.underlying 22=some (.slice 59):=Kq0
theorem Ul:XX.P.underlying 23=some (.slice 58):=Kq0
theorem Qk:XX.P.underlying 24=some (.slice 3):=Kq0
theorem ZDZ:XX.P.underlying 38=some (.slice 29):=Kq0
theorem ZDY:XX.P.underlying 43=some (.slice 91):=Kq0
theorem Zgv:XX.P.underlying 59=some (.slice 61):=Kq0
theorem ZhN:XX.P.underlying 62=some (.slice 80):=Kq0
theorem Qj:XX.P.underlying 63=some (.slice 73):=Kq0
theorem Zzw:XX.P.underlying 69=some (.slice 5):=Kq0
theorem Uk:XX.P.underlying 95=some (.map 113 61):=Kq0
theorem Wd:XX.P.underlying 110=some (.map 113 3):=Kq0
theorem ZAL:XX.P.underlying 160=some (.int .u64):=Kq0
theorem Xk:Yu XX.P 3=some false:=Kq0
theorem ZHi:Yu XX.P 4=some false:=Kq0
theorem ZDd:Yu XX.P 5=some false:=Kq0
theorem Zja:Yu XX.P 22=some false:=Kq0
theorem Zi9:Yu XX.P 23=some false:=Kq0
theorem Zoy:Yu XX.P 24=some false:=Kq0
theorem Uv:Yu XX.P 26=some true:=Kq0
theorem ZrM:Yu XX.P 27=some false:=Kq0
theorem Ze8:Yu XX.P 29=some true:=Kq0
theorem ZwC:Yu XX.P 32=some false:=Kq0
theorem ZHh:Yu XX.P 56=some false:=Kq0
theorem Ze7:Yu XX.P 58=some true:=Kq0
theorem ZkI:Yu XX.P 59=some false:=Kq0
theorem Zg0:Yu XX.P 61=some true:=Kq0
theorem Zi8:Yu XX.P 63=some false:=Kq0
theorem Uu:Yu XX.P 65=some true:=Kq0
theorem ZcR:Yu XX.P 73=some true:=Kq0
theorem ZrL:Yu XX.P 80=some true:=Kq0
theorem ZHg:Yu XX.P 91=some true:=Kq0
theorem ZwB:Yu XX.P 94=some false:=Kq0
theorem ZgZ:Yu XX.P 95=some false:=Kq0
theorem Zmt:Yu XX.P 110=some false:=Kq0
theorem ZDe:Yu XX.P 113=some true:=Kq0
theorem Y4:Yc XX.P 3=some 1:=Kq0
theorem Zzz:Yc XX.P 4=some 1:=Kq0
theorem ZtN:Yc XX.P 5=some 1:=Kq0
theorem ZAS:Yc XX.P 22=some 1:=Kq0
theorem Zo0:Yc XX.P 23=some 1:=Kq0
theorem ZAR:Yc XX.P 24=some 1:=Kq0
theorem YV:Yc XX.P 26=some 4:=Kq0
theorem ZaQ:Yc XX.P 29=some 4:=Kq0
theorem ZAQ:Yc XX.P 32=some 1:=Kq0
theorem XT:Yc XX.P 58=some 5:=Kq0
theorem Zbu:Yc XX.P 59=some 1:=Kq0
theorem JF:Yc XX.P 61=some 6:=Kq0
theorem ZtM:Yc XX.P 63=some 1:=Kq0
theorem YZ:Yc XX.P 65=some 2:=Kq0
theorem YU:Yc XX.P 73=some 2:=Kq0
theorem Zbt:Yc XX.P 80=some 4:=Kq0
theorem ZAP:Yc XX.P 91=some 4:=Kq0
theorem ZAO:Yc XX.P 94=some 1:=Kq0
theorem ZkY:Yc XX.P 110=some 1:=Kq0
theorem Zxk:Yc XX.P 113=some 2:=Kq0
theorem Zde:ZA XX.P 26 0 0:=ZA.of Kq0
theorem ZlB:ZA XX.P 26 1 1:=ZA.of Kq0
theorem Zrf:ZA XX.P 26 2 2:=ZA.of Kq0
theorem ZlA:ZA XX.P 26 3 3:=ZA.of Kq0
theorem Zhu:ZA XX.P 29 0 0:=ZA.of Kq0
theorem ZaC:ZA XX.P 29 1 1:=ZA.of Kq0
theorem ZbO:ZA XX.P 29 2 2:=ZA.of Kq0
theorem KG:ZA XX.P 29 3 3:=ZA.of Kq0
theorem Zyw:ZA XX.P 58 0 0:=ZA.of Kq0
theorem Zyv:ZA XX.P 58 1 1:=ZA.of Kq0
theorem Zyu:ZA XX.P 58 2 2:=ZA.of Kq0
theorem Zyt:ZA XX.P 58 3 3:=ZA.of Kq0
theorem Zre:ZA XX.P 58 4 4:=ZA.of Kq0
theorem Zrd:ZA XX.P 61 0 0:=ZA.of Kq0
theorem Zrc:ZA XX.P 61 1 1:=ZA.of Kq0
theorem Zrb:ZA XX.P 61 2 2:=ZA.of Kq0
theorem Zlz:ZA XX.P 61 3 3:=ZA.of Kq0
theorem Zys:ZA XX.P 61 4 4:=ZA.of Kq0
theorem Zyr:ZA XX.P 61 5 5:=ZA.of Kq0
theorem ZbN:ZA XX.P 65 0 0:=ZA.of Kq0
theorem Zra:ZA XX.P 65 1 1:=ZA.of Kq0
theorem Zyq:ZA XX.P 73 0 0:=ZA.of Kq0
theorem Zyp:ZA XX.P 73 1 1:=ZA.of Kq0
theorem Zly:ZA XX.P 80 0 0:=ZA.of Kq0
theorem Zyo:ZA XX.P 80 1 1:=ZA.of Kq0
theorem Zyn:ZA XX.P 80 2 2:=ZA.of Kq0
theorem Zym:ZA XX.P 80 3 3:=ZA.of Kq0
theorem Zyl:ZA XX.P 91 2 2:=ZA.of Kq0
theorem Zyk:ZA XX.P 91 3 3:=ZA.of Kq0
theorem Zyj:ZA XX.P 97 0 0:=ZA.of Kq0
theorem Zyi:ZA XX.P 97 1 1:=ZA.of Kq0
theorem Zyh:ZA XX.P 97 2 2:=ZA.of Kq0
theorem Zlx:ZA XX.P 97 3 3:=ZA.of Kq0
theorem Zyg:ZA XX.P 97 4 4:=ZA.of Kq0
theorem Wv:YG XX.P 3=some (.int .i64 0):=Kq0
theorem ZAE:YG XX.P 24=some (.slice none 0 0):=Kq0
theorem ZdH:YG XX.P 26=some (.agg #[.slice none 0 0,.slice none 0 0,.int .i64 0,.slice none 0 0]):=Kq0
theorem ZoG:YG XX.P 29=some (.agg #[.int .i64 0,.int .i64 0,.int .i64 0,.int .i64 0]):=Kq0
theorem ZAD:YG XX.P 32=some (.int .i64 0):=Kq0
theorem Zfi:YG XX.P 58=some (.agg #[.int .i64 0,.int .i64 0,.int .i64 0,.int .i64 0,.int .i64 0]):=Kq0
theorem Ztx:YG XX.P 59=some (.slice none 0 0):=Kq0
theorem UD:YG XX.P 61=some (.agg #[.int .i64 0,.bool false,.int .i64 0,.int .i64 0,.int .i64 0,.bool false]):=Kq0
theorem Zfh:YG XX.P 65=some (.agg #[.slice none 0 0,.slice none 0 0]):=Kq0
theorem ZaM:YG XX.P 73=some (.agg #[.int .i64 0,.int .i64 0]):=Kq0
theorem Ztw:YG XX.P 80=some (.agg #[.int .u8 0,.int .u8 0,.int .u8 0,.int .u8 0]):=Kq0
theorem ZAC:YG XX.P 91=some (.agg #[.int .i64 0,.int .i64 0,.int .i64 0,.int .i64 0]):=Kq0
theorem ZAB:YG XX.P 94=some (.pointer none):=Kq0
theorem Ztv:YG XX.P 97=some (.agg #[.int .i64 0,.int .i64 0,.map none,.slice none 0 0,.slice none 0 0]):=Kq0
theorem Zw6:YG XX.P 110=some (.map none):=Kq0
theorem Zqv:YG XX.P 113=some (.agg #[.int .i64 0,.int .i64 0]):=Kq0
theorem Zon:ZaL XX.P 26 [.slice none 0 0,.slice none 0 0,.int .i64 0,.slice none 0 0] [(0,1),(1,1),(2,1),(3,1)]:= ⟨_,_,ZdH,rfl,Try.underlying26,by kernel_rfl⟩
theorem Zi1:ZaL XX.P 29 [.int .i64 0,.int .i64 0,.int .i64 0,.int .i64 0] [(0,1),(1,1),(2,1),(3,1)]:= ⟨_,_,ZoG,rfl,Try.underlying29,by kernel_rfl⟩
theorem ZrD:ZaL XX.P 58 [.int .i64 0,.int .i64 0,.int .i64 0,.int .i64 0,.int .i64 0] [(0,1),(1,1),(2,1),(3,1),(4,1)]:= ⟨_,_,Zfi,rfl,Try.underlying58,by kernel_rfl⟩
theorem ZAv:ZaL XX.P 61 [.int .i64 0,.bool false,.int .i64 0,.int .i64 0,.int .i64 0,.bool false] [(0,1),(1,1),(2,1),(3,1),(4,1),(5,1)]:= ⟨_,_,UD,rfl,Try.underlying61,by kernel_rfl⟩
theorem ZG1:ZaL XX.P 65 [.slice none 0 0,.slice none 0 0] [(0,1),(1,1)]:= ⟨_,_,Zfh,rfl,Try.underlying65,by kernel_rfl⟩
theorem ZkD:ZaL XX.P 73 [.int .i64 0,.int .i64 0] [(0,1),(1,1)]:= ⟨_,_,ZaM,rfl,Try.underlying73,by kernel_rfl⟩
theorem Zwi:ZaL XX.P 97 [.int .i64 0,.int .i64 0,.map none,.slice none 0 0,.slice none 0 0] [(0,1),(1,1),(2,1),(3,1),(4,1)]:= ⟨_,_,Ztv,rfl,Try.underlying97,by kernel_rfl⟩
theorem X8:ZrQ XX.P 113 [.int .i64 0,.int .i64 0] 1:= ⟨_,_,_,Zqv,rfl,Try.underlying113,by kernel_rfl⟩
theorem Zi7:Zg1 XX.P #[23,23] 5 40:= ⟨58,.agg #[.int .i64 0,.int .i64 0,.int .i64 0,.int .i64 0,.int .i64 0],by kernel_rfl⟩
theorem Ze3:Zg1 XX.P #[24,24] 1 8:= ⟨3,.int .i64 0,by kernel_rfl⟩
theorem Zwv:Zg1 XX.P #[59,59] 6 48:= ⟨61,.agg #[.int .i64 0,.bool false,.int .i64 0,.int .i64 0,.int .i64 0,.bool false],by kernel_rfl⟩
theorem Zai:Zg1 XX.P #[63,63] 2 16:= ⟨73,.agg #[.int .i64 0,.int .i64 0],by kernel_rfl⟩
theorem ZGK (x y:Za):Zzs XX.P 61 (Zq.sh () x) (Zq.sh () y) (ZaF x y):=
 ⟨by kernel_rfl,Zku (d:=9999) (bs:= [x.name==y.name,x.root==y.root,x.from_==y.from_,x.has==y.has,x.out==y.out,x.use==y.use]) Try.underlying61 Kq0 ⟨⟨by decide,_,_,YM Kq0 rfl,YM Kq0 rfl,eq_int Kq0⟩,⟨by decide,_,_,YM Kq0 rfl,YM Kq0 rfl,Zl7 Kq0⟩,⟨by decide,_,_,YM Kq0 rfl,YM Kq0 rfl,eq_int Kq0⟩,⟨by decide,_,_,YM Kq0 rfl,YM Kq0 rfl,eq_int Kq0⟩,⟨by decide,_,_,YM Kq0 rfl,YM Kq0 rfl,eq_int Kq0⟩,⟨by decide,_,_,YM Kq0 rfl,YM Kq0 rfl,Zl7 Kq0⟩,trivial⟩⟩
theorem Zrv (x y:Yp):Zzs XX.P 73 (Z9.sh () x) (Z9.sh () y) (Zac x y):=
 ⟨by kernel_rfl,Zku (d:=9999) (bs:= [x.at_==y.at_,x.name==y.name]) Try.underlying73 Kq0 ⟨⟨by decide,_,_,YM Kq0 rfl,YM Kq0 rfl,eq_int Kq0⟩,⟨by decide,_,_,YM Kq0 rfl,YM Kq0 rfl,eq_int Kq0⟩,trivial⟩⟩
theorem YW:Zb1 XX.P 113 Zh:=Zb1.ZKH (et:=3) Kq0 Kq0 Kq0 (fun x=>x.e0) (fun x=>x.e1) (fun _=>rfl) (fun x y=>by cases x;cases y;simp)
theorem ZC5:Zeh XX.P 59=some 24:=Kq0
theorem ZFs:(XX.fns.get 14).isSome=true:=Kq0
theorem ZFr:(XX.fns.get 15).isSome=true:=Kq0
theorem Zu8:(XX.fns.get 17).isSome=true:=Kq0
theorem ZFq:(XX.fns.get 37).isSome=true:=Kq0
theorem ZFp:(XX.fns.get 38).isSome=true:=Kq0
theorem Zz9:(XX.fns.get 39).isSome=true:=Kq0
theorem Zu7:(XX.fns.get 41).isSome=true:=Kq0
theorem Zu6:(XX.fns.get 42).isSome=true:=Kq0
theorem Zq1:(XX.fns.get 43).isSome=true:=Kq0
theorem Zu5:(XX.fns.get 44).isSome=true:=Kq0
theorem Zz8:(XX.fns.get 45).isSome=true:=Kq0
theorem ZFo:(XX.fns.get 46).isSome=true:=Kq0
theorem ZFn:(XX.fns.get 47).isSome=true:=Kq0
theorem ZFm:(XX.fns.get 48).isSome=true:=Kq0
theorem ZFl:(XX.fns.get 49).isSome=true:=Kq0
theorem Zu4:(XX.fns.get 52).isSome=true:=Kq0
theorem ZFk:(XX.fns.get 54).isSome=true:=Kq0
theorem ZFj:(XX.fns.get 55).isSome=true:=Kq0
theorem Zu3:(XX.fns.get 56).isSome=true:=Kq0
theorem Zz7:(XX.fns.get 57).isSome=true:=Kq0
theorem ZFi:(XX.fns.get 66).isSome=true:=Kq0
theorem Zz6:(XX.fns.get 68).isSome=true:=Kq0
theorem Zu2:(XX.fns.get 71).isSome=true:=Kq0
theorem Zq0:(XX.fns.get 75).isSome=true:=Kq0
theorem ZFh:(XX.fns.get 76).isSome=true:=Kq0
theorem Zz5:(XX.fns.get 77).isSome=true:=Kq0
theorem ZFg:(XX.fns.get 78).isSome=true:=Kq0
theorem ZFf:(XX.fns.get 79).isSome=true:=Kq0
theorem ZFe:(XX.fns.get 80).isSome=true:=Kq0
theorem ZFd:(XX.fns.get 81).isSome=true:=Kq0
theorem Zz4:(XX.fns.get 86).isSome=true:=Kq0
theorem Zz3:(XX.fns.get 87).isSome=true:=Kq0
theorem ZFc:(XX.fns.get 88).isSome=true:=Kq0
theorem Zu1:(XX.fns.get 89).isSome=true:=Kq0
theorem ZFb:(XX.fns.get 90).isSome=true:=Kq0
theorem ZFa:(XX.fns.get 91).isSome=true:=Kq0
theorem ZqZ:(XX.fns.get 92).isSome=true:=Kq0
theorem ZE9:(XX.fns.get 94).isSome=true:=Kq0
theorem Zz2:(XX.fns.get 95).isSome=true:=Kq0
theorem Zlo:(XX.fns.get 103).isSome=true:=Kq0
theorem Zit:(XX.fns.get 104).isSome=true:=Kq0
theorem Zvd:(XX.fns.get 105).isSome=true:=Kq0
theorem Zpy:(XX.fns.get 106).isSome=true:=Kq0
theorem Zpx:(XX.fns.get 110).isSome=true:=Kq0
theorem ZBN:(XX.fns.get 111).isSome=true:=Kq0
theorem ZBM:(XX.fns.get 112).isSome=true:=Kq0
theorem ZBL:(XX.fns.get 113).isSome=true:=Kq0
theorem ZBK:(XX.fns.get 114).isSome=true:=Kq0
theorem Zvc:(XX.fns.get 115).isSome=true:=Kq0
theorem ZBJ:(XX.fns.get 116).isSome=true:=Kq0
theorem Zln:(XX.fns.get 117).isSome=true:=Kq0
theorem ZBI:(XX.fns.get 118).isSome=true:=Kq0
theorem Zvb:(XX.fns.get 119).isSome=true:=Kq0
theorem ZBH:(XX.fns.get 120).isSome=true:=Kq0
theorem Zpw:(XX.fns.get 124).isSome=true:=Kq0
theorem ZBG:(XX.fns.get 125).isSome=true:=Kq0
theorem ZBF:(XX.fns.get 126).isSome=true:=Kq0
theorem ZBE:(XX.fns.get 127).isSome=true:=Kq0
theorem ZBD:(XX.fns.get 128).isSome=true:=Kq0
theorem Zpv:(XX.fns.get 133).isSome=true:=Kq0
theorem Zva:(XX.fns.get 138).isSome=true:=Kq0
theorem Zu9:(XX.fns.get 143).isSome=true:=Kq0
end Go.Proofs.Ytekpjgmhkkjhgaa
end
end
section
noncomputable section
namespace Go.YD
open Go.Lf
class Zep (P:Program) (t:TypeId):Prop where
 out:Yu P t=some false
class ZjW (P:Program) (t:TypeId):Prop where
 out:Yu P t=some true
class SzF (P:Program) (t:TypeId) (n:outParam Nat):Prop where
 out:Yc P t=some n
class JY (P:Program) (t:TypeId) (f:Nat) (o:outParam Nat):Prop where
 out:ZA P t f o
class ZjU (P:Program) (t:TypeId) (e:outParam TypeId):Prop where
 out:P.underlying t=some (.slice e)
class ZDn (P:Program) (t:TypeId):Prop where
 out:P.underlying t=some .bool
class ZcX (P:Program) (t:TypeId) (v:outParam Value):Prop where
 out:YG P t=some v
theorem ia {v:Value} (h:QY v=false):QY v=false:=h
theorem Zap {fr:Fr} {t:Nat} {c:Bool} {v:Value} (h:fr.at t=cond c v undef) (ha:QY v=false) (hc:c=true):Z6 fr (.tmp t)=some v:=Xm h ha hc
section
variable {X:Ctx} {h:H} {fr:Fr} {ty:TypeId} {p':String} {af:Array Edge} {g:Option (Nat×Bool)} {d:Option Tmp} {wm:Nat} {T:Nat ->Prop} {h0:H} {G Gr:List (Ast wm)}
theorem ZG6 {x:Operand} {t:TypeId} {f off b o:Nat} [hf:JY X.P t f off] (hx:Z6 fr x=some (.pointer (some ⟨b,o,none⟩))):Xt X h (Z6 fr) ⟨d,.fieldAddr t x f,ty,p',af,g⟩=some (.val (.pointer (some ⟨b,o + off,none⟩)),.none):=Ye hf.out hx
theorem ZKG {x:Operand} {t:TypeId} {b oo:Nat} {vs:List Value} {v:Value} [ht:Zep X.P t] (hx:Z6 fr x=some (.pointer (some ⟨b,oo,none⟩))) (hS:Sp wm T h0 G h) (pp:Pk G (bx wm b vs) Gr) (hv:vs[oo]? =some v):
 Xt X h (Z6 fr) ⟨d,.load t x,ty,p',af,g⟩=some (.val v,.none):=ZL ht.out hx (hS.Xc pp) (Nat.zero_add _).symm hv
theorem ZG5 {x:Operand} {t:TypeId} {b oo sz:Nat} {vs ws:List Value} [ht:ZjW X.P t] [hs:SzF X.P t sz] (hx:Z6 fr x=some (.pointer (some ⟨b,oo,none⟩))) (hS:Sp wm T h0 G h) (pp:Pk G (bx wm b vs) Gr) (hj:Nat.ble (oo + sz) vs.length=true) (hv:(vs.drop oo).take sz=ws):
 Xt X h (Z6 fr) ⟨d,.load t x,ty,p',af,g⟩=some (.val (.agg ws.toArray),.none):=Yo ht.out hs.out hx (hS.Xc pp) (Nat.zero_add _).symm hj hv
theorem ZG7 {dd:Tmp} {x:Operand} {t:TypeId} {v:Value} {vs:List Value} (hx:Z6 fr x=some v) (hS:Sp wm T h0 G h) (hv:v.cells.toList=vs):
 HN X wm ⟨some dd,.box t x,ty,p',af,g⟩ fr h (fun v h'=>∃ b,h.size=b∧v= .pointer (some ⟨b,0,none⟩)∧Sp wm T h0 (bx wm b vs::G) h'):=Zm0 hS hx hv
theorem ZG8 {dd:Tmp} {t:TypeId} {v:Value} {vs:List Value} [hz:ZcX X.P t v] (hS:Sp wm T h0 G h) (hv:v.cells.toList=vs):
 HN X wm ⟨some dd,.alloc t,ty,p',af,g⟩ fr h (fun v h'=>∃ b,h.size=b∧v= .pointer (some ⟨b,0,none⟩)∧Sp wm T h0 (bx wm b vs::G) h'):=W9 hS hz.out hv
theorem ZKF {x y:Operand} {t:TypeId} {b o sz:Nat} {cs cs' vs:List Value} {v:Value} [hs:SzF X.P t sz] (hx:Z6 fr x=some (.pointer (some ⟨b,o,none⟩))) (hS:Sp wm T h0 G h) (pk:Pk G (bx wm b cs) Gr) (hy:Z6 fr y=some v)
 (hvs:v.cells.toList=vs) (hn:Nat.beq vs.length sz=true) (hl:Nat.ble (o + sz) cs.length=true) (hc:vs.all Value.oneCell'=true) (hv:splice cs o vs=cs'):
 HU X wm ⟨none,.store t x y,ty,p',af,g⟩ fr h (fun i=>i=b) (fun h'=>Sp wm T h0 (bx wm b cs'::Gr) h'):=Qe hS pk hs.out hx hy hvs hn hl hc hv
theorem ZG4 {x:Operand} {t e':TypeId} {a:Option Addr} {mm cc dd:Nat} [hu:ZjU X.P t e'] (hx:Z6 fr x=some (.slice a mm cc)):
 Xt X h (Z6 fr) ⟨some dd,.call {callee:= .builtin .len,args:=#[x],argTypes:=#[t]},ty,p',af,g⟩=some (.val (.int .i64 (mm:Int)),.none):=QS hu.out hx rfl
end
section
variable {X:Ctx} {n wm:Nat} {rd:Option Nat} {ops:Array Oper} {l:List Oper} {fr:Fr} {ds:List Deferred} {h:H} {ty:TypeId} {p:String} {af:Array Edge} {g:Option (Nat×Bool)} {sf:ST} {m:Nat}
theorem WX.w2 {Q:Fr ->H ->Prop} {d:Nat} {op:Op} {v:Value} (hg:ZY ops ⟨some d,op,ty,p,af,g⟩ fr) (hd:Nat.blt d n=true) (hM:okM ops sf m ⟨some d,op,ty,p,af,g⟩=true) (ha:Xt X h (Z6 fr) ⟨some d,op,ty,p,af,g⟩=some (.val v,.none)) (k:WX X n wm rd ops sf (m + 1) h l (Tr.set fr d v) Q):
 WX X n wm rd ops sf m h (⟨some d,op,ty,p,af,g⟩::l) fr Q:=WX.w hg hd ha k hM
theorem WX.gv2 {Q:Fr ->H ->Prop} {d:Nat} {op:Op} {c:Bool} {v:Value} (hg:Zg ops ⟨some d,op,ty,p,af,g⟩ fr c) (hd:Nat.blt d n=true) (hM:okM ops sf m ⟨some d,op,ty,p,af,g⟩=true) (ha:c=true ->Xt X h (Z6 fr) ⟨some d,op,ty,p,af,g⟩=some (.val v,.none)) (k:WX X n wm rd ops sf (m + 1) h l (Tr.set fr d (cond c v undef)) Q):
 WX X n wm rd ops sf m h (⟨some d,op,ty,p,af,g⟩::l) fr Q:=WX.gv hg hd ha k hM
end
structure Kp (q:Prop):Prop where
 out:q
section
variable {X:Ctx} {n wm:Nat} {rd:Option Nat} {Q:XX ->Fs ->Prop}
theorem E0 {p:Prop}(h:p:=by(focus (repeat (first | with_reducible exact fh | ((with_reducible apply Zp);exact rfl) | ((with_reducible apply ZV);exact rfl) | ((with_reducible apply ZB);exact rfl) | ((with_reducible apply Ze);exact rfl) | with_reducible assumption));first|done|fail)):p:=h
theorem cn {c:Operand} {a b:Code} {t:Bool} {fr:Fr} {ds:List Deferred} {h:H} {α:Type} {x y r:α} (hL:(bif t then x else y)=r) (h1:t=true ->x=r ->WC X n wm rd a ⟨fr,ds,h,none⟩ Q) (h2:t=false ->y=r ->WC X n wm rd b ⟨fr,ds,h,none⟩ Q) (hc:Z6 fr c=some (.bool t):=by(first | exact XG rfl | (apply Zk;exact E0;(first | exact ia rfl | assumption)) | (apply Zap;exact E0;(first | exact ia rfl | assumption);assumption) | fail)):WC X n wm rd (.cond c a b) ⟨fr,ds,h,none⟩ Q:=
 WC.Ut hc (fun e=>h1 e (Y2 e hL)) (fun e=>h2 e (Y3 e hL))
theorem rt {fn:Func} {fr:Fr} {h h0:H} {T:Nat ->Prop} {G G':List (Ast wm)} {wr:Option Nat} {t:Tmp} {β:Type} {x r:β} {g:β ->Value} (hL:some x=some r) (hT:T=XO G) (hS:Sp wm T h0 G' h) (hr:fn.results.toList= [.tmp t]:=by exact rfl) (hv:Z6 fr (.tmp t)=some (g x):=by(first | exact XG rfl | (apply Zk;exact E0;(first | exact ia rfl | assumption)) | (apply Zap;exact E0;(first | exact ia rfl | assumption);assumption) | fail)):
 ZW X fn (fun e h'=>∃ v,e= .ret v∧CP (fun v Gb=>v=g r∧Gb= []) G h0 v h') .ret ⟨fr,[],h,wr⟩:=by
 cases hL;exact ZW.XY hr (Zy hv Zm) ⟨_,⟨rfl,rfl⟩,hT ▸ hS.only .n⟩
theorem bg {f:FuncId} {fn:Func} {c:Code} {args:List Value} {n:Nat} {K:Value ->List (Ast wm) ->Prop} {G:List (Ast wm)} {h:H} {fr:Fr} (hnt:fn.ntmps=n) (ZK:wm <=h.size) (hO:Z0 G h)
 (k:∀ T,T=XO (wm:=wm) G ->Sp wm T h G h ->WC X n wm none c ⟨fr,[],h,none⟩ (ZW X fn (fun e h'=>∃ v,e= .ret v∧CP K G h v h'))) (hf:X.fns.get f=some fn:=by kernel_rfl) (hb:fn.body=some c:=by exact rfl) (hn:args.length <=n:=by simp)
 (hfr:XQ args 0 .nil=fr:=by(simp only [ZC,ZJ,Nat.reduceAdd];exact rfl)):WR X f args.toArray wm h (CP K G h):=by
 subst hfr;exact WF.begin hf hb hnt hn (k _ rfl (Sp.start ZK hO))
end
theorem lk {p:Prop} (h:p:=by(first | exact XG rfl | (apply Zk;exact E0;(first | exact ia rfl | assumption)) | (apply Zap;exact E0;(first | exact ia rfl | assumption);assumption) | fail)):p:=h
theorem lks {p:Prop} (h:p:=by
 repeat (first | exact Zl | (apply Zc;(focus (first | exact XG rfl | (apply Zk;exact E0;(first | exact ia rfl | assumption)) | (apply Zap;exact E0;(first | exact ia rfl | assumption);assumption) | fail);done)))
 done):p:=h
theorem Xa {p:Prop} (h:p:=by
 repeat (first | with_reducible exact fh | ((with_reducible apply Zp);exact rfl) | ((with_reducible apply ZV);exact rfl) | ((with_reducible apply ZB);exact rfl) | ((with_reducible apply Ze);exact rfl) | with_reducible assumption | refine⟨?_,?_⟩)
 done):p:=h
theorem r1 {p q:Prop} (k:q) (h:Kp q ->p:=by
 intro k
 first
 | refine WO.nil ?_
 | refine ZX.Z4 ?_
 | refine WC.seq ?_
 | refine WC.region ?_
 | ((first | apply WO.w gN rfl | (apply WO.gv;(focus (first | (apply Zg.yes rfl rfl rfl;exact E0) | (apply Zg.no rfl rfl rfl;exact E0) | (apply Zg.ZrS rfl rfl rfl;exact E0) | (apply Zg.no2 rfl rfl rfl;exact E0) | fail);done);rfl;intro hg) | (apply WX.w2 gN;rfl;rfl) | (apply WX.gv2;(focus (first | (apply Zg.yes rfl rfl rfl;exact E0) | (apply Zg.no rfl rfl rfl;exact E0) | (apply Zg.ZrS rfl rfl rfl;exact E0) | (apply Zg.no2 rfl rfl rfl;exact E0) | fail);done);rfl;rfl;intro hg));(focus (first
   | ((with_reducible apply Zz);(first | exact XG rfl | (apply Zk;exact E0;(first | exact ia rfl | assumption)) | (apply Zap;exact E0;(first | exact ia rfl | assumption);assumption) | fail))
   | ((with_reducible apply ZKG);(focus (first | exact XG rfl | (apply Zk;exact E0;(first | exact ia rfl | assumption)) | (apply Zap;exact E0;(first | exact ia rfl | assumption);assumption) | fail);done);assumption;(focus (first | exact k0 | exact k1 | exact k2 | exact k3 | exact k4 | exact k5 | exact k6 | exact k7 | (repeat (first | exact k7 | apply Pk.s)));done);rfl)
   | ((with_reducible apply ZG6);(first | exact XG rfl | (apply Zk;exact E0;(first | exact ia rfl | assumption)) | (apply Zap;exact E0;(first | exact ia rfl | assumption);assumption) | fail))
   | ((with_reducible apply Zw);(first | exact XG rfl | (apply Zk;exact E0;(first | exact ia rfl | assumption)) | (apply Zap;exact E0;(first | exact ia rfl | assumption);assumption) | fail))
   | ((with_reducible apply ZR);(focus (first | exact XG rfl | (apply Zk;exact E0;(first | exact ia rfl | assumption)) | (apply Zap;exact E0;(first | exact ia rfl | assumption);assumption) | fail);done);(focus (first | exact XG rfl | (apply Zk;exact E0;(first | exact ia rfl | assumption)) | (apply Zap;exact E0;(first | exact ia rfl | assumption);assumption) | fail);done);(first | with_reducible exact KR | with_reducible exact Qu | with_reducible exact Uw | with_reducible exact Zbn | with_reducible exact Zth | with_reducible exact ZwI | with_reducible exact Ux | with_reducible exact ZwH | with_reducible exact Ztj | with_reducible exact Ztk ZDn.out | with_reducible exact Zti ZDn.out))
   | ((with_reducible apply ZG5);(focus (first | exact XG rfl | (apply Zk;exact E0;(first | exact ia rfl | assumption)) | (apply Zap;exact E0;(first | exact ia rfl | assumption);assumption) | fail);done);assumption;(focus (first | exact k0 | exact k1 | exact k2 | exact k3 | exact k4 | exact k5 | exact k6 | exact k7 | (repeat (first | exact k7 | apply Pk.s)));done);rfl;(focus simp only [Nat.zero_add,Nat.reduceAdd,List.drop_succ_cons,List.drop_zero,List.take_succ_cons,List.take_zero,List.take_nil];rfl))
   | ((with_reducible apply ZG4);(first | exact XG rfl | (apply Zk;exact E0;(first | exact ia rfl | assumption)) | (apply Zap;exact E0;(first | exact ia rfl | assumption);assumption) | fail))
   | ((with_reducible apply YF);(focus (first | exact XG rfl | (apply Zk;exact E0;(first | exact ia rfl | assumption)) | (apply Zap;exact E0;(first | exact ia rfl | assumption);assumption) | fail);done);rfl)
   | ((with_reducible apply Zag);(first | exact XG rfl | (apply Zk;exact E0;(first | exact ia rfl | assumption)) | (apply Zap;exact E0;(first | exact ia rfl | assumption);assumption) | fail))
   | ((with_reducible apply Zqb);(first | exact XG rfl | (apply Zk;exact E0;(first | exact ia rfl | assumption)) | (apply Zap;exact E0;(first | exact ia rfl | assumption);assumption) | fail))
   | ((with_reducible apply QM);(focus (first | exact XG rfl | (apply Zk;exact E0;(first | exact ia rfl | assumption)) | (apply Zap;exact E0;(first | exact ia rfl | assumption);assumption) | fail);done);(focus (apply Zao;exact E0);done);(first | exact XG rfl | (apply Zk;exact E0;(first | exact ia rfl | assumption)) | (apply Zap;exact E0;(first | exact ia rfl | assumption);assumption) | fail))
   | ((with_reducible apply ZkF);(focus (first | exact XG rfl | (apply Zk;exact E0;(first | exact ia rfl | assumption)) | (apply Zap;exact E0;(first | exact ia rfl | assumption);assumption) | fail);done);(focus (first | exact XG rfl | (apply Zk;exact E0;(first | exact ia rfl | assumption)) | (apply Zap;exact E0;(first | exact ia rfl | assumption);assumption) | fail);done);(apply Zao;exact E0))
   | fail)))
 | (apply WO.hu gN;(focus (first | (((with_reducible apply ZKF));(focus (first | exact XG rfl | (apply Zk;exact E0;(first | exact ia rfl | assumption)) | (apply Zap;exact E0;(first | exact ia rfl | assumption);assumption) | fail);done);assumption;(focus (first | exact k0 | exact k1 | exact k2 | exact k3 | exact k4 | exact k5 | exact k6 | exact k7 | (repeat (first | exact k7 | apply Pk.s)));done);(focus (first | exact XG rfl | (apply Zk;exact E0;(first | exact ia rfl | assumption)) | (apply Zap;exact E0;(first | exact ia rfl | assumption);assumption) | fail);done);(focus (first | (simp only [Zgg,Zeg,ZcK,Zge,Zgf,Zgi,ZbT,cells_func,ZaY,Zad,ZcL];exact rfl) | exact rfl));exact rfl;exact rfl;exact rfl;(focus simp only [splice,List.take_succ_cons,List.take_zero,List.drop_succ_cons,List.drop_zero,List.cons_append,List.nil_append,List.append_nil,List.length_cons,List.length_nil,Nat.reduceAdd,Nat.zero_add,List.take_nil,List.drop_nil];exact rfl)) | fail)))
 | (apply WO.hn gN rfl;(focus (first | (((with_reducible apply ZG7));(focus (first | exact XG rfl | (apply Zk;exact E0;(first | exact ia rfl | assumption)) | (apply Zap;exact E0;(first | exact ia rfl | assumption);assumption) | fail);done);assumption;(focus (first | (simp only [Zgg,Zeg,ZcK,Zge,Zgf,Zgi,ZbT,cells_func,ZaY,Zad,ZcL];exact rfl) | exact rfl))) | (((with_reducible apply ZG8));assumption;(focus (first | (simp only [Zgg,Zeg,ZcK,Zge,Zgf,Zgi,ZbT,cells_func,ZaY,Zad,ZcL];exact rfl) | exact rfl))) | fail)))
 | refine WC.skip ?_
 | refine WC.ret ?_
 | refine WC.block ?_
 | refine WC.exit ?_
 | refine ZX.ret ?_
 | refine ZX.exit ?_
 | refine Qh.ret ?_
 | refine Qh.Z4 ?_
 | refine Qh.here ?_
 | refine Yk.exit ?_
 | refine Yk.ret ?_
 | refine WX.nil ?_
 | fail
 exact k.out):p:=h ⟨k⟩
theorem r2 {p q:Prop} (k:q) (h:Kp q ->p:=by
 intro k
 iterate 2 (refine r1 ?_)
 exact k.out):p:=h ⟨k⟩
theorem r3 {p q:Prop} (k:q) (h:Kp q ->p:=by
 intro k
 iterate 3 (refine r1 ?_)
 exact k.out):p:=h ⟨k⟩
theorem r4 {p q:Prop} (k:q) (h:Kp q ->p:=by
 intro k
 iterate 4 (refine r1 ?_)
 exact k.out):p:=h ⟨k⟩
theorem r6 {p q:Prop} (k:q) (h:Kp q ->p:=by
 intro k
 iterate 6 (refine r1 ?_)
 exact k.out):p:=h ⟨k⟩
theorem r8 {p q:Prop} (k:q) (h:Kp q ->p:=by
 intro k
 iterate 8 (refine r1 ?_)
 exact k.out):p:=h ⟨k⟩
theorem UU {p q:Prop} (k:q) (h:Kp q ->p:=by
 intro k
 iterate 12 (refine r1 ?_)
 exact k.out):p:=h ⟨k⟩
theorem r16 {p q:Prop} (k:q) (h:Kp q ->p:=by
 intro k
 iterate 16 (refine r1 ?_)
 exact k.out):p:=h ⟨k⟩
end Go.YD
end
end
section
noncomputable section
namespace Go.Proofs.Ytekpjgmhkkjhgaa
open Go.YD Go.Lf
instance:Zep XX.P 3:= ⟨Xk⟩
instance:Zep XX.P 4:= ⟨ZHi⟩
instance:Zep XX.P 5:= ⟨ZDd⟩
instance:Zep XX.P 22:= ⟨Zja⟩
instance:Zep XX.P 23:= ⟨Zi9⟩
instance:Zep XX.P 24:= ⟨Zoy⟩
instance:ZjW XX.P 26:= ⟨Uv⟩
instance:Zep XX.P 27:= ⟨ZrM⟩
instance:ZjW XX.P 29:= ⟨Ze8⟩
instance:Zep XX.P 32:= ⟨ZwC⟩
instance:Zep XX.P 56:= ⟨ZHh⟩
instance:ZjW XX.P 58:= ⟨Ze7⟩
instance:Zep XX.P 59:= ⟨ZkI⟩
instance:ZjW XX.P 61:= ⟨Zg0⟩
instance:Zep XX.P 63:= ⟨Zi8⟩
instance:ZjW XX.P 65:= ⟨Uu⟩
instance:ZjW XX.P 73:= ⟨ZcR⟩
instance:ZjW XX.P 80:= ⟨ZrL⟩
instance:ZjW XX.P 91:= ⟨ZHg⟩
instance:Zep XX.P 94:= ⟨ZwB⟩
instance:Zep XX.P 95:= ⟨ZgZ⟩
instance:Zep XX.P 110:= ⟨Zmt⟩
instance:ZjW XX.P 113:= ⟨ZDe⟩
instance:SzF XX.P 3 1:= ⟨Y4⟩
instance:SzF XX.P 4 1:= ⟨Zzz⟩
instance:SzF XX.P 5 1:= ⟨ZtN⟩
instance:SzF XX.P 22 1:= ⟨ZAS⟩
instance:SzF XX.P 23 1:= ⟨Zo0⟩
instance:SzF XX.P 24 1:= ⟨ZAR⟩
instance:SzF XX.P 26 4:= ⟨YV⟩
instance:SzF XX.P 29 4:= ⟨ZaQ⟩
instance:SzF XX.P 32 1:= ⟨ZAQ⟩
instance:SzF XX.P 58 5:= ⟨XT⟩
instance:SzF XX.P 59 1:= ⟨Zbu⟩
instance:SzF XX.P 61 6:= ⟨JF⟩
instance:SzF XX.P 63 1:= ⟨ZtM⟩
instance:SzF XX.P 65 2:= ⟨YZ⟩
instance:SzF XX.P 73 2:= ⟨YU⟩
instance:SzF XX.P 80 4:= ⟨Zbt⟩
instance:SzF XX.P 91 4:= ⟨ZAP⟩
instance:SzF XX.P 94 1:= ⟨ZAO⟩
instance:SzF XX.P 110 1:= ⟨ZkY⟩
instance:SzF XX.P 113 2:= ⟨Zxk⟩
instance:JY XX.P 26 0 0:= ⟨Zde⟩
instance:JY XX.P 26 1 1:= ⟨ZlB⟩
instance:JY XX.P 26 2 2:= ⟨Zrf⟩
instance:JY XX.P 26 3 3:= ⟨ZlA⟩
instance:JY XX.P 29 0 0:= ⟨Zhu⟩
instance:JY XX.P 29 1 1:= ⟨ZaC⟩
instance:JY XX.P 29 2 2:= ⟨ZbO⟩
instance:JY XX.P 29 3 3:= ⟨KG⟩
instance:JY XX.P 58 0 0:= ⟨Zyw⟩
instance:JY XX.P 58 1 1:= ⟨Zyv⟩
instance:JY XX.P 58 2 2:= ⟨Zyu⟩
instance:JY XX.P 58 3 3:= ⟨Zyt⟩
instance:JY XX.P 58 4 4:= ⟨Zre⟩
instance:JY XX.P 61 0 0:= ⟨Zrd⟩
instance:JY XX.P 61 1 1:= ⟨Zrc⟩
instance:JY XX.P 61 2 2:= ⟨Zrb⟩
instance:JY XX.P 61 3 3:= ⟨Zlz⟩
instance:JY XX.P 61 4 4:= ⟨Zys⟩
instance:JY XX.P 61 5 5:= ⟨Zyr⟩
instance:JY XX.P 65 0 0:= ⟨ZbN⟩
instance:JY XX.P 65 1 1:= ⟨Zra⟩
instance:JY XX.P 73 0 0:= ⟨Zyq⟩
instance:JY XX.P 73 1 1:= ⟨Zyp⟩
instance:JY XX.P 80 0 0:= ⟨Zly⟩
instance:JY XX.P 80 1 1:= ⟨Zyo⟩
instance:JY XX.P 80 2 2:= ⟨Zyn⟩
instance:JY XX.P 80 3 3:= ⟨Zym⟩
instance:JY XX.P 91 2 2:= ⟨Zyl⟩
instance:JY XX.P 91 3 3:= ⟨Zyk⟩
instance:JY XX.P 97 0 0:= ⟨Zyj⟩
instance:JY XX.P 97 1 1:= ⟨Zyi⟩
instance:JY XX.P 97 2 2:= ⟨Zyh⟩
instance:JY XX.P 97 3 3:= ⟨Zlx⟩
instance:JY XX.P 97 4 4:= ⟨Zyg⟩
instance:ZjU XX.P 22 59:= ⟨Za0⟩
instance:ZjU XX.P 23 58:= ⟨Ul⟩
instance:ZjU XX.P 24 3:= ⟨Qk⟩
instance:ZjU XX.P 38 29:= ⟨ZDZ⟩
instance:ZjU XX.P 43 91:= ⟨ZDY⟩
instance:ZjU XX.P 59 61:= ⟨Zgv⟩
instance:ZjU XX.P 62 80:= ⟨ZhN⟩
instance:ZjU XX.P 63 73:= ⟨Qj⟩
instance:ZjU XX.P 69 5:= ⟨Zzw⟩
instance:ZDn XX.P 4:= ⟨ZH8⟩
instance:ZcX XX.P 3 (.int .i64 0):= ⟨Wv⟩
instance:ZcX XX.P 24 (.slice none 0 0):= ⟨ZAE⟩
instance:ZcX XX.P 26 (.agg #[.slice none 0 0,.slice none 0 0,.int .i64 0,.slice none 0 0]):= ⟨ZdH⟩
instance:ZcX XX.P 29 (.agg #[.int .i64 0,.int .i64 0,.int .i64 0,.int .i64 0]):= ⟨ZoG⟩
instance:ZcX XX.P 32 (.int .i64 0):= ⟨ZAD⟩
instance:ZcX XX.P 58 (.agg #[.int .i64 0,.int .i64 0,.int .i64 0,.int .i64 0,.int .i64 0]):= ⟨Zfi⟩
instance:ZcX XX.P 59 (.slice none 0 0):= ⟨Ztx⟩
instance:ZcX XX.P 61 (.agg #[.int .i64 0,.bool false,.int .i64 0,.int .i64 0,.int .i64 0,.bool false]):= ⟨UD⟩
instance:ZcX XX.P 65 (.agg #[.slice none 0 0,.slice none 0 0]):= ⟨Zfh⟩
instance:ZcX XX.P 73 (.agg #[.int .i64 0,.int .i64 0]):= ⟨ZaM⟩
instance:ZcX XX.P 80 (.agg #[.int .u8 0,.int .u8 0,.int .u8 0,.int .u8 0]):= ⟨Ztw⟩
instance:ZcX XX.P 91 (.agg #[.int .i64 0,.int .i64 0,.int .i64 0,.int .i64 0]):= ⟨ZAC⟩
instance:ZcX XX.P 94 (.pointer none):= ⟨ZAB⟩
instance:ZcX XX.P 97 (.agg #[.int .i64 0,.int .i64 0,.map none,.slice none 0 0,.slice none 0 0]):= ⟨Ztv⟩
instance:ZcX XX.P 110 (.map none):= ⟨Zw6⟩
instance:ZcX XX.P 113 (.agg #[.int .i64 0,.int .i64 0]):= ⟨Zqv⟩
end Go.Proofs.Ytekpjgmhkkjhgaa
end
end
section
namespace Go.Proofs.Ytekpjgmhkkjhgaa
open Go.Lf
end Go.Proofs.Ytekpjgmhkkjhgaa
end
section
set_option maxRecDepth 20000
noncomputable section
namespace Go.Proofs.Ytekpjgmhkkjhgaa
open Go.YD Go.Lf
end Go.Proofs.Ytekpjgmhkkjhgaa
end
end
section
namespace Go.Proofs.Ytekpjgmhkkjhgaa
open Go.Lf
def ZlT (p0:(List Int)) (p1:(List Int)):Int ->(Int ->Option Bool) ->Option Bool:=fun v6 ZgH=>
 (bif decide (v6 < (p0.length:Int)) then(Ym p0 v6).bind fun x9=>(Ym p1 v6).bind fun x12=>(bif(x9 !=x12) then some false else ZgH (ZP (v6 + 1))) else some true)
def ZsK (F:Nat) (p0:(List Int)) (p1:(List Int)):Option Bool:=
 (bif((p0.length:Int) != (p1.length:Int)) then some false else loop F (ZlT p0 p1) 0)
def ZpS (p0:(List Yp)):Option (List Yp):=
 (app 16 ([]:List Yp) p0).bind fun z3=>some z3
def ZcA (p0:Uz) (p1:Int) (p2:Int) (p3:Int) (x5:Int) (v14:Int) (v26:Int) (x28:Int):Bool ->Option (Zo×Bool):=fun v41=>
 (bif v41 then some ((Zo.mk 2 x5 v14 v26),((decide (p2 > 0)) && (decide (p1 > 1)))) else(bif(x28==3) then some ((Zo.mk 3 x5 v14 0),decide (p2 > 0)) else(bif(x28==4) then some ((Zo.mk 4 x5 v14 v26),((decide (p2 > 0)) && (decide (p1 > 1)))) else(bif(p3==0) then some ((Zo.mk 0 0 0 0),false) else(Zam (ZP p0.at_) p3).bind fun x47=>some ((Zo.mk 5 x47 0 0),true)))))
def ZcB (p0:Uz) (p1:Int) (p2:Int) (p3:Int) (x5:Int) (v14:Int):Int ->Option (Zo×Bool):=fun v26=>
 (Zam p0.ZT 9).bind fun x28=>(bif(x28==0) then some ((Zo.mk 1 x5 0 0),decide (p2 < 12)) else(bif(x28==1) then(ZcA p0 p1 p2 p3 x5 v14 v26 x28) (x28==1) else(ZcA p0 p1 p2 p3 x5 v14 v26 x28) (x28==2)))
def ZcC (p0:Uz) (p1:Int) (p2:Int) (p3:Int) (x5:Int):Int ->Option (Zo×Bool):=fun v14=>
 (bif decide (p1 > 1) then(Zam (ZP p0.Zx) (ZP (p1 - 1))).bind fun x49=>(Zam (ZP ((ZP (x5 + 1)) + x49)) p1).bind fun x50=>(ZcB p0 p1 p2 p3 x5 v14) x50 else(ZcB p0 p1 p2 p3 x5 v14) 0)
def ZnQ (p0:Uz) (p1:Int) (p2:Int) (p3:Int):Option (Zo×Bool):=
 (Zam (ZP p0.at_) p1).bind fun x5=>(bif decide (p2 > 0) then(Zam (ZP p0.name) p2).bind fun x51=>(ZcC p0 p1 p2 p3 x5) x51 else(ZcC p0 p1 p2 p3 x5) 0)
def ZiD (p0:Zo) (p1:Int):Bool ->Option Bool:=fun v10=>
 (bif v10 then(bif((decide (p0.at_ >=0)) && (decide (p0.at_ < p1))) then some ((((decide (p0.Zx >=0)) && (decide (p0.Zx < p1))) && (p0.at_ !=p0.Zx)) && (decide (p0.name >=0))) else some ((false && (p0.at_ !=p0.Zx)) && (decide (p0.name >=0)))) else(bif(p0.ZT==3) then some ((((decide (p0.at_ >=0)) && (decide (p0.at_ < p1))) && (decide (p0.name >=0))) && (p0.Zx==0)) else some ((((p0.ZT==5) && (decide (p0.at_ >=0))) && (p0.name==0)) && (p0.Zx==0))))
def ZsI (p0:Zo) (p1:Int):Option Bool:=
 (bif(p0.ZT==1) then some ((((decide (p0.at_ >=0)) && (decide (p0.at_ < p1))) && (p0.name==0)) && (p0.Zx==0)) else(bif(p0.ZT==2) then(ZiD p0 p1) (p0.ZT==2) else(ZiD p0 p1) (p0.ZT==4)))
end Go.Proofs.Ytekpjgmhkkjhgaa
end
section
set_option maxRecDepth 20000
noncomputable section
namespace Go.Proofs.Ytekpjgmhkkjhgaa
open Go.YD Go.Lf
theorem ZCI {F wm:Nat} {h:H} {p0 p1:(List Int)} {Zv:Option Addr} {Zu:Nat} {Yz:Option Addr} {Yy:Nat} {r:Bool} (ZK:wm <=h.size) (ZM:Sl (ZO .i64) wm h Zv Zu p0) (Jd:Sl (ZO .i64) wm h Yz Yy p1) (hL:ZsK F p0 p1=some r):
 WR XX 37 #[.slice Zv p0.length Zu,.slice Yz p1.length Yy] wm h (CP (fun(v:Value) (Gb:List (Ast wm))=>v= .bool r∧Gb= []) [] h):=by
 refine bg Try.ntmps37 ZK Z0.nil ?_;intro T hT hS;unfold ZsK at hL;refine UU ?_;refine r3 ?_;refine cn hL ?_ ?_
 ·intro hc hL;refine r6 ?_;refine r1 ?_;exact rt hL hT hS
 ·intro hc hL;refine r8 ?_;refine r3 ?_;refine WC.loop (WL.lift hL (fun(v6:Int) (s:Fs)=>∃ (JD:Fr) (h1:H),s= ⟨JD,[],h1,none⟩∧Sp wm T h [] h1∧JD.at 0= .slice Zv p0.length Zu∧JD.at 1= .slice Yz p1.length Yy∧JD.at 12= .int .i64 (p0.length:Int)∧JD.at 13= .int .i64 v6) ⟨_,_,rfl,hS.only .n,Xa⟩ ?_);clear hL hS;rintro ZgH v6 s Zio hL ⟨JD,h1,rfl,hS,e3,e4,e5,e7⟩;dsimp only [ZlT] at hL;refine r6 ?_;refine cn hL ?_ ?_
  ·intro hc hL;refine r8 ?_;refine r3 ?_;refine WC.Yt mixed Kq0 ?_;refine r2 ?_;obtain⟨x9,hx9,hL⟩:=bind_some hL;obtain⟨b10,o11,_,Znx,ZnC,Znz,ZAi⟩:=Sl.at_ ZM hx9;refine WX.w gN rfl (Yb Qk Y4 lk lk rfl Znx hx9) ?_ rfl;refine WX.w gN rfl (ZL Xk (Zk fh rfl) (At.fz hS.fz Znz ZnC) (j:=0) rfl (v:= .int .i64 x9) rfl) ?_ rfl;refine r2 ?_;obtain⟨x12,Zju,hL⟩:=bind_some hL;obtain⟨b13,o14,_,Znw,ZnB,Zny,Zvj⟩:=Sl.at_ Jd Zju;refine WX.w gN rfl (Yb Qk Y4 lk lk rfl Znw Zju) ?_ rfl;refine WX.w gN rfl (ZL Xk (Zk fh rfl) (At.fz hS.fz Zny ZnB) (j:=0) rfl (v:= .int .i64 x12) rfl) ?_ rfl;refine r3 ?_;refine cn hL ?_ ?_
   ·intro hc hL;refine r8 ?_;refine r3 ?_;exact rt hL hT hS
   ·intro hc hL;refine r6 ?_;refine r1 ?_;exact Yk.Z4 (Zio _ _ hL ⟨_,_,rfl,hS.only .n,Xa⟩)
  ·intro hc hL;refine r8 ?_;refine r3 ?_;exact rt hL hT hS
theorem ZCJ {F:Nat} {h:H} {p0 p1:(List Int)} {Zv:Option Addr} {Zu:Nat} {Yz:Option Addr} {Yy:Nat} {r:Bool} (ZM:Sl (ZO .i64) h.size h Zv Zu p0) (Jd:Sl (ZO .i64) h.size h Yz Yy p1) (hL:ZsK F p0 p1=some r):Pure XX 37 #[.slice Zv p0.length Zu,.slice Yz p1.length Yy] h (.bool r):=
 WR.QO rfl (ZCI (Nat.le_refl _) ZM Jd hL)
theorem ZpR {wm:Nat} {h:H} {p0:(List Yp)} {Zv:Option Addr} {Zu:Nat} {r:(List Yp)} (ZK:wm <=h.size) (ZM:Sl Z9 wm h Zv Zu p0) (hL:ZpS p0=some r):
 WR XX 42 #[.slice Zv p0.length Zu] wm h (CP (fun(v:Value) (Gb:List (Ast wm))=>∃ (XI:Option Addr) (Qc:Nat) (XH:Nat),v= .slice XI Qc XH∧Gb= [ow wm Z9 XI Qc XH r]) [] h):=by
 refine bg Try.ntmps42 ZK Z0.nil ?_;intro T hT hS;unfold ZpS at hL;refine r8 ?_;rcases Sl.cases ZM with⟨rfl,rfl,rfl⟩ | ⟨qa,rfl⟩
 ·
  refine r1 ?_;refine WO.w gN rfl (ZR (Zk fh rfl) (XG rfl) (Zgr Qj)) ?_;refine r2 ?_;refine WC.Zmf lk rfl ?_;rw [Zqe _ (by decide)] at hL;replace hL:some []=some r:=hL;refine r6 ?_;refine r1 ?_;have hS:=hS.nil (e:=Z9);have hr:=Oi0 hL;subst hr;exact ZW.XY rfl (Zy lk Zm) ⟨_,⟨none,0,0,rfl,rfl⟩,hT ▸ hS.only (.c k0 .n)⟩
 ·
  refine r1 ?_;refine WO.w gN rfl (ZR (Zk fh rfl) (XG rfl) (Zgs Qj)) ?_;refine r2 ?_;refine WC.Zef lk rfl ?_;refine r4 ?_;refine WO.hn gN rfl (Zg5 (e:=Z9) hS Qj YU ZaM rfl rfl rfl ZI rfl [] rfl (xs:= ([]:List Yp)) rfl (by intro q hq;cases hq) rfl) ?_;rintro _ h2 ⟨b1,eb1,rfl,hS⟩;refine r1 ?_;obtain⟨z3,hz3,hL⟩:=bind_some hL;refine WO.hv gN rfl (Zey (e:=Z9) hS k0 Zai lk lk (Sl.src (hS.sl ZM)) rfl hz3) ?_;rintro _ h6 ⟨a4,c5,rfl,hS⟩;refine r4 ?_;have hr:=Oi0 hL;subst hr;exact ZW.XY rfl (Zy lk Zm) ⟨_,⟨a4,z3.length,c5,rfl,rfl⟩,hT ▸ hS.only (.c k0 .n)⟩
theorem ZvQ {wm:Nat} {h:H} {p0:Uz} {p1 p2 p3:Int} {r:(Zo×Bool)} (ZK:wm <=h.size) (hL:ZnQ p0 p1 p2 p3=some r):
 WR XX 45 #[.agg [.int .u8 p0.ZT,.int .u8 p0.at_,.int .u8 p0.name,.int .u8 p0.Zx].toArray,.int .i64 p1,.int .i64 p2,.int .i64 p3] wm h (CP (fun(v:Value) (Gb:List (Ast wm))=>v= .tuple [.agg [.int .i64 r.1.ZT,.int .i64 r.1.at_,.int .i64 r.1.name,.int .i64 r.1.Zx].toArray,.bool r.2].toArray∧Gb= []) [] h):=by
 refine bg Try.ntmps45 ZK Z0.nil ?_;intro T hT hS;unfold ZnQ at hL;refine r3 ?_;rintro _ h2 ⟨b1,eb1,rfl,hS⟩;refine r1 ?_;rintro _ h4 ⟨b3,eb3,rfl,hS⟩;refine r6 ?_;refine r1 ?_;refine WO.w gN rfl (ZcO ZoR ZmO lk) ?_;refine r1 ?_;obtain⟨x5,hx5,hL⟩:=bind_some hL;refine WO.w gN rfl (ZR (Zk (Ze rfl fh) rfl) (Zk fh rfl) (QA hx5)) ?_;refine r4 ?_;refine r1 ?_;refine WC.Zal (r:=r) (fun(v14:Int) (s:Fs)=>∃ (fr7:Fr) (h6:H),s= ⟨fr7,[],h6,none⟩∧Sp wm T h [bx wm b1 [.int .u8 p0.ZT,.int .u8 p0.at_,.int .u8 p0.name,.int .u8 p0.Zx],bx wm b3 [.int .i64 0,.int .i64 0,.int .i64 0,.int .i64 0]] h6∧fr7.at 1= .int .i64 p1∧fr7.at 2= .int .i64 p2∧fr7.at 3= .int .i64 p3∧fr7.at 4= .pointer (some ⟨b1,0,none⟩)∧fr7.at 8= .pointer (some ⟨b3,0,none⟩)∧fr7.at 10= .int .i64 x5∧fr7.at 11= .int .i64 v14∧fr7.at 12= .int .i64 0) (ZcC p0 p1 p2 p3 x5) ?_ ?_
 ·clear hL hS;rintro v14 s hL ⟨fr7,h6,rfl,hS,e8,e9,e10,e11,e12,e13,e15,e16⟩;dsimp only [ZcC] at hL;refine WC.Zal (r:=r) (fun(v26:Int) (s:Fs)=>∃ (K8:Fr) (h17:H),s= ⟨K8,[],h17,none⟩∧Sp wm T h [bx wm b1 [.int .u8 p0.ZT,.int .u8 p0.at_,.int .u8 p0.name,.int .u8 p0.Zx],bx wm b3 [.int .i64 0,.int .i64 0,.int .i64 0,.int .i64 0]] h17∧K8.at 1= .int .i64 p1∧K8.at 2= .int .i64 p2∧K8.at 3= .int .i64 p3∧K8.at 4= .pointer (some ⟨b1,0,none⟩)∧K8.at 8= .pointer (some ⟨b3,0,none⟩)∧K8.at 10= .int .i64 x5∧K8.at 11= .int .i64 v14∧K8.at 12= .int .i64 v26) (ZcB p0 p1 p2 p3 x5 v14) ?_ ?_
  ·clear hL hS;rintro v26 s hL ⟨K8,h17,rfl,hS,e19,e20,e21,e22,e23,e24,e25,e27⟩;dsimp only [ZcB] at hL;refine r4 ?_;refine r1 ?_;obtain⟨x28,hx28,hL⟩:=bind_some hL;refine WO.w gN rfl (ZR (Zk fh rfl) (XG rfl) (QA hx28)) ?_;refine r8 ?_;refine r1 ?_;refine cn hL ?_ ?_
   ·intro hc hL;refine r3 ?_;refine WO.w gN rfl (Xu Zi1 (Zj lk (Zj lk ZI)) rfl (cs':= [.int .i64 1,.int .i64 x5,.int .i64 0,.int .i64 0]) rfl) ?_;refine r3 ?_;rintro h29 hS;refine r6 ?_;have hr:=Oi0 hL;subst hr;exact ZW.gen (vs:= [.agg [.int .i64 1,.int .i64 x5,.int .i64 0,.int .i64 0].toArray,.bool (decide (p2 < 12))]) rfl (ZU (Zp rfl (ZB rfl e23)) (Z8 Ze8 ZaQ (hS.Xc k0) (j:=0) rfl rfl (ws:= [.int .i64 1,.int .i64 x5,.int .i64 0,.int .i64 0]) rfl) (Zy lk Zm)) rfl ⟨_,⟨rfl,rfl⟩,hT ▸ hS.only .n⟩
   ·intro hc hL;refine WC.Zal (r:=r) (fun(v41:Bool) (s:Fs)=>∃ (Zha:Fr) (h30:H),s= ⟨Zha,[],h30,none⟩∧Sp wm T h [bx wm b1 [.int .u8 p0.ZT,.int .u8 p0.at_,.int .u8 p0.name,.int .u8 p0.Zx],bx wm b3 [.int .i64 0,.int .i64 0,.int .i64 0,.int .i64 0]] h30∧Zha.at 1= .int .i64 p1∧Zha.at 2= .int .i64 p2∧Zha.at 3= .int .i64 p3∧Zha.at 4= .pointer (some ⟨b1,0,none⟩)∧Zha.at 8= .pointer (some ⟨b3,0,none⟩)∧Zha.at 10= .int .i64 x5∧Zha.at 11= .int .i64 v14∧Zha.at 12= .int .i64 v26∧Zha.at 40= .int .u8 x28∧Zha.at 47= .bool v41) (ZcA p0 p1 p2 p3 x5 v14 v26 x28) ?_ ?_
    ·clear hL hS;rintro v41 s hL ⟨Zha,h30,rfl,hS,e32,e33,e34,e35,e36,e37,e38,e39,e40,e42⟩;dsimp only [ZcA] at hL;refine cn hL ?_ ?_
     ·intro hc hL;refine r4 ?_;refine r1 ?_;refine WO.w gN rfl (Xu Zi1 (Zj lk (Zj lk (Zj lk (Zj lk ZI)))) rfl (cs':= [.int .i64 2,.int .i64 x5,.int .i64 v14,.int .i64 v26]) rfl) ?_;refine r6 ?_;refine r1 ?_;rintro h43 hS;refine r6 ?_;have hr:=Oi0 hL;subst hr;exact ZW.gen (vs:= [.agg [.int .i64 2,.int .i64 x5,.int .i64 v14,.int .i64 v26].toArray,.bool ((decide (p2 > 0)) && (decide (p1 > 1)))]) rfl (ZU (Zp rfl (ZB rfl (Ze rfl e36))) (Z8 Ze8 ZaQ (hS.Xc k0) (j:=0) rfl rfl (ws:= [.int .i64 2,.int .i64 x5,.int .i64 v14,.int .i64 v26]) rfl) (Zy lk Zm)) rfl ⟨_,⟨rfl,rfl⟩,hT ▸ hS.only .n⟩
     ·intro hc hL;refine r6 ?_;refine cn hL ?_ ?_
      ·intro hc hL;refine r4 ?_;refine WO.w gN rfl (Xu Zi1 (Zj lk (Zj lk (Zj lk ZI))) rfl (cs':= [.int .i64 3,.int .i64 x5,.int .i64 v14,.int .i64 0]) rfl) ?_;refine r3 ?_;rintro h44 hS;refine r6 ?_;have hr:=Oi0 hL;subst hr;exact ZW.gen (vs:= [.agg [.int .i64 3,.int .i64 x5,.int .i64 v14,.int .i64 0].toArray,.bool (decide (p2 > 0))]) rfl (ZU (Zp rfl e36) (Z8 Ze8 ZaQ (hS.Xc k0) (j:=0) rfl rfl (ws:= [.int .i64 3,.int .i64 x5,.int .i64 v14,.int .i64 0]) rfl) (Zy lk Zm)) rfl ⟨_,⟨rfl,rfl⟩,hT ▸ hS.only .n⟩
      ·intro hc hL;refine r6 ?_;refine cn hL ?_ ?_
       ·intro hc hL;refine r4 ?_;refine r1 ?_;refine WO.w gN rfl (Xu Zi1 (Zj lk (Zj lk (Zj lk (Zj lk ZI)))) rfl (cs':= [.int .i64 4,.int .i64 x5,.int .i64 v14,.int .i64 v26]) rfl) ?_;refine r6 ?_;refine r1 ?_;rintro h45 hS;refine r6 ?_;have hr:=Oi0 hL;subst hr;exact ZW.gen (vs:= [.agg [.int .i64 4,.int .i64 x5,.int .i64 v14,.int .i64 v26].toArray,.bool ((decide (p2 > 0)) && (decide (p1 > 1)))]) rfl (ZU (Zp rfl (ZV rfl (ZB rfl (Ze rfl e36)))) (Z8 Ze8 ZaQ (hS.Xc k0) (j:=0) rfl rfl (ws:= [.int .i64 4,.int .i64 x5,.int .i64 v14,.int .i64 v26]) rfl) (Zy lk Zm)) rfl ⟨_,⟨rfl,rfl⟩,hT ▸ hS.only .n⟩
       ·intro hc hL;refine r8 ?_;refine r2 ?_;refine cn hL ?_ ?_
        ·intro hc hL;refine r2 ?_;refine WO.w gN rfl (Xu Zi1 ZI rfl (cs':= [.int .i64 0,.int .i64 0,.int .i64 0,.int .i64 0]) rfl) ?_;refine r1 ?_;rintro h46 hS;refine r4 ?_;refine r1 ?_;have hr:=Oi0 hL;subst hr;exact ZW.gen (vs:= [.agg [.int .i64 0,.int .i64 0,.int .i64 0,.int .i64 0].toArray,.bool false]) rfl (ZU (Zp rfl e36) (Z8 Ze8 ZaQ (hS.Xc k0) (j:=0) rfl rfl (ws:= [.int .i64 0,.int .i64 0,.int .i64 0,.int .i64 0]) rfl) (Zy lk Zm)) rfl ⟨_,⟨rfl,rfl⟩,hT ▸ hS.only .n⟩
        ·intro hc hL;refine r6 ?_;refine WO.w gN rfl (ZcO ZoR ZmO lk) ?_;refine r1 ?_;obtain⟨x47,ZBf,hL⟩:=bind_some hL;refine WO.w gN rfl (ZR (Zk (Ze rfl fh) rfl) (Zk fh rfl) (QA ZBf)) ?_;refine WO.w gN rfl (Xu Zi1 (Zj lk (Zj lk ZI)) rfl (cs':= [.int .i64 5,.int .i64 x47,.int .i64 0,.int .i64 0]) rfl) ?_;refine r1 ?_;rintro h48 hS;refine r4 ?_;have hr:=Oi0 hL;subst hr;exact ZW.gen (vs:= [.agg [.int .i64 5,.int .i64 x47,.int .i64 0,.int .i64 0].toArray,.bool true]) rfl (ZU (Zp rfl (ZV rfl (Ze rfl e36))) (Z8 Ze8 ZaQ (hS.Xc k0) (j:=0) rfl rfl (ws:= [.int .i64 5,.int .i64 x47,.int .i64 0,.int .i64 0]) rfl) (Zy lk Zm)) rfl ⟨_,⟨rfl,rfl⟩,hT ▸ hS.only .n⟩
    ·skip;refine r6 ?_;refine cn hL ?_ ?_
     ·intro hc hL;refine r1 ?_;exact YI.Z4 _ hL ⟨_,_,rfl,hS.only (.c k0 (.c k0 .n)),Xa⟩
     ·intro hc hL;refine r4 ?_;exact YI.Z4 _ hL ⟨_,_,rfl,hS.only (.c k0 (.c k0 .n)),Xa⟩
  ·skip;refine r6 ?_;refine cn hL ?_ ?_
   ·intro hc hL;refine r4 ?_;refine r1 ?_;refine WO.w gN rfl (ZcO ZoR ZmO lk) ?_;refine r2 ?_;obtain⟨x49,Zsm,hL⟩:=bind_some hL;refine WO.w gN rfl (ZR (Zk (ZB rfl fh) rfl) (Zk fh rfl) (QA Zsm)) ?_;refine r2 ?_;obtain⟨x50,ZBe,hL⟩:=bind_some hL;refine WO.w gN rfl (ZR (Zk (Ze rfl fh) rfl) (Zk fh rfl) (QA ZBe)) ?_;refine r2 ?_;exact YI.Z4 _ hL ⟨_,_,rfl,hS.only (.c k0 (.c k0 .n)),Xa⟩
   ·intro hc hL;refine r1 ?_;exact YI.Z4 _ hL ⟨_,_,rfl,hS.only (.c k0 (.c k0 .n)),Xa⟩
 ·skip;refine r6 ?_;refine cn hL ?_ ?_
  ·intro hc hL;refine r3 ?_;refine WO.w gN rfl (ZcO ZoR ZmO lk) ?_;refine r1 ?_;obtain⟨x51,ZIQ,hL⟩:=bind_some hL;refine WO.w gN rfl (ZR (Zk (Ze rfl fh) rfl) (Zk fh rfl) (QA ZIQ)) ?_;refine r2 ?_;exact YI.Z4 _ hL ⟨_,_,rfl,hS.only (.c k1 (.c k0 .n)),Xa⟩
  ·intro hc hL;refine r1 ?_;exact YI.Z4 _ hL ⟨_,_,rfl,hS.only (.c k1 (.c k0 .n)),Xa⟩
theorem ZCD {wm:Nat} {h:H} {p0:Zo} {p1:Int} {r:Bool} (ZK:wm <=h.size) (hL:ZsI p0 p1=some r):
 WR XX 55 #[.agg [.int .i64 p0.ZT,.int .i64 p0.at_,.int .i64 p0.name,.int .i64 p0.Zx].toArray,.int .i64 p1] wm h (CP (fun(v:Value) (Gb:List (Ast wm))=>v= .bool r∧Gb= []) [] h):=by
 refine WF.begin (args:= [_,_]) (fn:=Try.f55) Kq0 (by exact rfl) Try.ntmps55 (by simp) ?_;simp only [ZC,ZJ,Nat.reduceAdd];obtain⟨T,hT,hS⟩:∃ T,T=XO (wm:=wm) []∧Sp wm T h [] h:= ⟨_,rfl,Sp.start ZK Z0.nil⟩
 unfold ZsI at hL;refine WC.seq ?_;refine WC.region ?_;refine WO.hn gN rfl (Zm0 hS (Zk (Ze rfl fh) rfl) (vs:= [.int .i64 p0.ZT,.int .i64 p0.at_,.int .i64 p0.name,.int .i64 p0.Zx]) rfl) ?_;rintro _ h2 ⟨b1,eb1,rfl,hS⟩;refine WO.hn gN rfl (Zm0 hS (Zk (Ze rfl fh) rfl) (vs:= [.int .i64 p1]) rfl) ?_;rintro _ h4 ⟨b3,eb3,rfl,hS⟩;refine WO.w gN rfl (Zw (XG rfl)) ?_;refine WO.nil ?_;refine ZX.Z4 ?_;refine WC.seq ?_;refine WC.region ?_;refine WO.w gN rfl (ZbW (Zc (Zk (Ze rfl fh) rfl) Zl)) ?_;refine WO.w gN rfl (Zw (Zk fh rfl)) ?_;refine WO.nil ?_;refine ZX.Z4 ?_;refine WC.seq ?_;refine WC.seq ?_;refine WC.region ?_;refine WO.w gN rfl (Ye Zhu (Zk (ZV rfl fh) rfl)) ?_;refine WO.w gN rfl (ZL ZrM (Zk fh rfl) (hS.Xc k1) (j:=0) rfl (v:= .int .i64 p0.ZT) rfl) ?_;refine WO.nil ?_;refine ZX.Z4 ?_;refine WC.block ?_;refine WC.seq ?_;refine WC.region ?_;refine WO.w gN rfl (ZR (Zk fh rfl) (XG rfl) Qu) ?_;refine WO.w gN rfl (Zw (Zk fh rfl)) ?_;refine WO.nil ?_;refine ZX.Z4 ?_;refine WC.Ut (Zk fh rfl) (fun hc=>?_) (fun hc=>?_)
 ·replace hL:=Y2 hc hL;refine WC.seq ?_;refine WC.region ?_;refine WO.w gN rfl (Zz (Zk (ZV rfl fh) rfl)) ?_;refine WO.w gN rfl (Ye ZaC (Zk (Zp rfl (Ze rfl fh)) rfl)) ?_;refine WO.w gN rfl (ZL Xk (Zk fh rfl) (hS.Xc k1) (j:=1) rfl (v:= .int .i64 p0.at_) rfl) ?_;refine WO.inl gN rfl (Y1.clo (first:= []) (cap:= [.pointer (some ⟨b3,0,none⟩)]) (Zk (ZB rfl fh) rfl) ZqZ (Zc (Zk fh rfl) Zl) rfl) (WF.begin (args:= [_,_]) (fn:=Try.f92) Kq0 (by exact rfl) Try.ntmps92 (by simp) ?_);simp only [ZC,ZJ,Nat.reduceAdd];refine WC.seq ?_;refine WC.region ?_;refine WO.w gN rfl (Zw (XG rfl)) ?_;refine WO.nil ?_;refine ZX.Z4 ?_;refine WC.seq ?_;refine WC.region ?_;refine WO.w gN rfl (Zz (Zk (ZB rfl fh) rfl)) ?_;refine WO.w gN rfl (ZR (Zk fh rfl) (XG rfl) Ux) ?_;refine WO.w gN rfl (Zz (Zk fh rfl)) ?_;refine WO.gv (Zg.yes rfl rfl rfl fh) rfl (fun hg=>(Zz (Zk (ZV rfl (Ze rfl fh)) rfl))) ?_;refine WO.gv (Zg.yes rfl rfl rfl (Ze rfl fh)) rfl (fun hg=>(ZL Xk (Zk (ZV rfl (Ze rfl fh)) rfl) (hS.Xc k0) (j:=0) rfl (v:= .int .i64 p1) rfl)) ?_;refine WO.gv (Zg.yes rfl rfl rfl (ZB rfl fh)) rfl (fun hg=>(ZR (Xm (Ze rfl fh) rfl hg) (Xm fh rfl hg) Uw)) ?_;refine WO.w gN rfl (QM (Zk (ZB rfl (Ze rfl fh)) rfl) (Zao fh) (XG rfl)) ?_;refine WO.w gN rfl (Zw (Zk fh rfl)) ?_;refine WO.nil ?_;refine ZX.Z4 ?_;refine WC.ret ?_;refine ZW.XY rfl (Zy (Zk fh rfl) Zm) ?_;refine WO.w gN rfl (Zz (Zk fh rfl)) ?_;refine WO.gv (Zg.yes rfl rfl rfl fh) rfl (fun hg=>(Ye ZbO (Zk (Zp rfl (ZV rfl (Ze rfl fh))) rfl))) ?_;refine WO.gv (Zg.yes rfl rfl rfl (Ze rfl fh)) rfl (fun hg=>(ZL Xk (Xm fh rfl hg) (hS.Xc k1) (j:=2) rfl (v:= .int .i64 p0.name) rfl)) ?_;refine WO.gv (Zg.yes rfl rfl rfl (ZB rfl fh)) rfl (fun hg=>(ZR (Xm fh rfl hg) (XG rfl) Qu)) ?_;refine WO.w gN rfl (QM (Zk (ZB rfl (Ze rfl fh)) rfl) (Zao fh) (XG rfl)) ?_;refine WO.w gN rfl (Zz (Zk fh rfl)) ?_;refine WO.gv (Zg.yes rfl rfl rfl fh) rfl (fun hg=>(Ye KG (Zk (Zp rfl (Zp rfl (ZB rfl fh))) rfl))) ?_;refine WO.gv (Zg.yes rfl rfl rfl (Ze rfl fh)) rfl (fun hg=>(ZL Xk (Xm fh rfl hg) (hS.Xc k1) (j:=3) rfl (v:= .int .i64 p0.Zx) rfl)) ?_;refine WO.gv (Zg.yes rfl rfl rfl (ZB rfl fh)) rfl (fun hg=>(ZR (Xm fh rfl hg) (XG rfl) Qu)) ?_;refine WO.w gN rfl (QM (Zk (ZB rfl (Ze rfl fh)) rfl) (Zao fh) (XG rfl)) ?_;refine WO.w gN rfl (Zw (Zk fh rfl)) ?_;refine WO.nil ?_;refine ZX.Z4 ?_;refine WC.ret ?_;refine Qh.ret ?_;refine ZX.ret ?_;have hr:=Oi0 hL;subst hr;exact ZW.XY rfl (Zy (Zk fh rfl) Zm) ⟨_,⟨rfl,rfl⟩,hT ▸ hS.only .n⟩
 ·replace hL:=Y3 hc hL;refine WC.Zal (r:=r) (fun(v10:Bool) (s:Fs)=>∃ (fr6:Fr) (h5:H),s= ⟨fr6,[],h5,none⟩∧Sp wm T h [bx wm b1 [.int .i64 p0.ZT,.int .i64 p0.at_,.int .i64 p0.name,.int .i64 p0.Zx],bx wm b3 [.int .i64 p1]] h5∧fr6.at 2= .pointer (some ⟨b1,0,none⟩)∧fr6.at 5= .func (.func 92) #[] [.pointer (some ⟨b3,0,none⟩)].toArray∧fr6.at 8= .int .i64 p0.ZT∧fr6.at 25= .bool v10) (ZiD p0 p1) ?_ ?_
  ·clear hL hS;rintro v10 s hL ⟨fr6,h5,rfl,hS,e7,e8,e9,e11⟩;dsimp only [ZiD] at hL;refine WC.Ut (Zk e11 rfl) (fun hc=>?_) (fun hc=>?_)
   ·replace hL:=Y2 hc hL;refine WC.seq ?_;refine WC.region ?_;refine WO.w gN rfl (Zz (Zk e8 rfl)) ?_;refine WO.w gN rfl (Ye ZaC (Zk (Ze rfl e7) rfl)) ?_;refine WO.w gN rfl (ZL Xk (Zk fh rfl) (hS.Xc k0) (j:=1) rfl (v:= .int .i64 p0.at_) rfl) ?_;refine WO.inl gN rfl (Y1.clo (first:= []) (cap:= [.pointer (some ⟨b3,0,none⟩)]) (Zk (ZB rfl fh) rfl) ZqZ (Zc (Zk fh rfl) Zl) rfl) (WF.begin (args:= [_,_]) (fn:=Try.f92) Kq0 (by exact rfl) Try.ntmps92 (by simp) ?_);simp only [ZC,ZJ,Nat.reduceAdd];refine WC.seq ?_;refine WC.region ?_;refine WO.w gN rfl (Zw (XG rfl)) ?_;refine WO.nil ?_;refine ZX.Z4 ?_;refine WC.seq ?_;refine WC.region ?_;refine WO.w gN rfl (Zz (Zk (ZB rfl fh) rfl)) ?_;refine WO.w gN rfl (ZR (Zk fh rfl) (XG rfl) Ux) ?_;refine WO.w gN rfl (Zz (Zk fh rfl)) ?_;refine WO.gv (Zg.yes rfl rfl rfl fh) rfl (fun hg=>(Zz (Zk (ZV rfl (Ze rfl fh)) rfl))) ?_;refine WO.gv (Zg.yes rfl rfl rfl (Ze rfl fh)) rfl (fun hg=>(ZL Xk (Zk (ZV rfl (Ze rfl fh)) rfl) (hS.Xc k1) (j:=0) rfl (v:= .int .i64 p1) rfl)) ?_;refine WO.gv (Zg.yes rfl rfl rfl (ZB rfl fh)) rfl (fun hg=>(ZR (Xm (Ze rfl fh) rfl hg) (Xm fh rfl hg) Uw)) ?_;refine WO.w gN rfl (QM (Zk (ZB rfl (Ze rfl fh)) rfl) (Zao fh) (XG rfl)) ?_;refine WO.w gN rfl (Zw (Zk fh rfl)) ?_;refine WO.nil ?_;refine ZX.Z4 ?_;refine WC.ret ?_;refine ZW.XY rfl (Zy (Zk fh rfl) Zm) ?_;refine WO.w gN rfl (Zz (Zk fh rfl)) ?_;refine WO.gv (Zg.yes rfl rfl rfl fh) rfl (fun hg=>(Zz (Zk (ZV rfl (Ze rfl e8)) rfl))) ?_;refine WO.gv (Zg.yes rfl rfl rfl (Ze rfl fh)) rfl (fun hg=>(Ye KG (Zk (ZV rfl (ZB rfl e7)) rfl))) ?_;refine WO.gv (Zg.yes rfl rfl rfl (ZB rfl fh)) rfl (fun hg=>(ZL Xk (Xm fh rfl hg) (hS.Xc k0) (j:=3) rfl (v:= .int .i64 p0.Zx) rfl)) ?_;refine WO.Zlp (Zg.yes rfl rfl rfl (ZB rfl (Ze rfl fh))) (fun Zlm=>?_) (fun Zlm=>?_)
    ·replace hL:=Y2 Zlm hL;refine WO.inl (Zg.on (Zg.yes rfl rfl rfl (ZB rfl (Ze rfl fh))) Zlm) rfl (Y1.clo (first:= []) (cap:= [.pointer (some ⟨b3,0,none⟩)]) (Xm (ZB rfl fh) rfl Zlm) ZqZ (Zc (Xm fh rfl Zlm) Zl) rfl) (WF.begin (args:= [_,_]) (fn:=Try.f92) Kq0 (by exact rfl) Try.ntmps92 (by simp) ?_);simp only [ZC,ZJ,Nat.reduceAdd];refine WC.seq ?_;refine WC.region ?_;refine WO.w gN rfl (Zw (XG rfl)) ?_;refine WO.nil ?_;refine ZX.Z4 ?_;refine WC.seq ?_;refine WC.region ?_;refine WO.w gN rfl (Zz (Zk (ZB rfl fh) rfl)) ?_;refine WO.w gN rfl (ZR (Zk fh rfl) (XG rfl) Ux) ?_;refine WO.w gN rfl (Zz (Zk fh rfl)) ?_;refine WO.gv (Zg.yes rfl rfl rfl fh) rfl (fun hg=>(Zz (Zk (ZV rfl (Ze rfl fh)) rfl))) ?_;refine WO.gv (Zg.yes rfl rfl rfl (Ze rfl fh)) rfl (fun hg=>(ZL Xk (Zk (ZV rfl (Ze rfl fh)) rfl) (hS.Xc k1) (j:=0) rfl (v:= .int .i64 p1) rfl)) ?_;refine WO.gv (Zg.yes rfl rfl rfl (ZB rfl fh)) rfl (fun hg=>(ZR (Xm (Ze rfl fh) rfl hg) (Xm fh rfl hg) Uw)) ?_;refine WO.w gN rfl (QM (Zk (ZB rfl (Ze rfl fh)) rfl) (Zao fh) (XG rfl)) ?_;refine WO.w gN rfl (Zw (Zk fh rfl)) ?_;refine WO.nil ?_;refine ZX.Z4 ?_;refine WC.ret ?_;refine ZW.XY rfl (Zy (Zk fh rfl) Zm) ?_;refine WO.w gN rfl (Zmm (Zk (ZV rfl fh) rfl) Zlm (Zk fh rfl)) ?_;refine WO.w gN rfl (Zz (Zk fh rfl)) ?_;refine WO.gv (Zg.yes rfl rfl rfl fh) rfl (fun hg=>(Ye ZaC (Zk (Zp rfl (ZB rfl (Ze rfl e7))) rfl))) ?_;refine WO.gv (Zg.yes rfl rfl rfl (Ze rfl fh)) rfl (fun hg=>(ZL Xk (Xm fh rfl hg) (hS.Xc k0) (j:=1) rfl (v:= .int .i64 p0.at_) rfl)) ?_;refine WO.gv (Zg.yes rfl rfl rfl (ZB rfl fh)) rfl (fun hg=>(Ye KG (Zk (Zp rfl (ZV rfl (Ze rfl e7))) rfl))) ?_;refine WO.gv (Zg.yes rfl rfl rfl (ZB rfl (Ze rfl fh))) rfl (fun hg=>(ZL Xk (Xm fh rfl hg) (hS.Xc k0) (j:=3) rfl (v:= .int .i64 p0.Zx) rfl)) ?_;refine WO.gv (Zg.yes rfl rfl rfl (ZV rfl fh)) rfl (fun hg=>(ZR (Xm (ZB rfl fh) rfl hg) (Xm fh rfl hg) Zbn)) ?_;refine WO.w gN rfl (QM (Zk (ZV rfl (Ze rfl fh)) rfl) (Zao fh) (XG rfl)) ?_;refine WO.w gN rfl (Zz (Zk fh rfl)) ?_;refine WO.gv (Zg.yes rfl rfl rfl fh) rfl (fun hg=>(Ye ZbO (Zk (Zp rfl (Zp rfl (ZB rfl e7))) rfl))) ?_;refine WO.gv (Zg.yes rfl rfl rfl (Ze rfl fh)) rfl (fun hg=>(ZL Xk (Xm fh rfl hg) (hS.Xc k0) (j:=2) rfl (v:= .int .i64 p0.name) rfl)) ?_;refine WO.gv (Zg.yes rfl rfl rfl (ZB rfl fh)) rfl (fun hg=>(ZR (Xm fh rfl hg) (XG rfl) Ux)) ?_;refine WO.w gN rfl (QM (Zk (ZB rfl (Ze rfl fh)) rfl) (Zao fh) (XG rfl)) ?_;refine WO.w gN rfl (Zw (Zk fh rfl)) ?_;refine WO.nil ?_;refine ZX.Z4 ?_;refine WC.ret ?_;refine Qh.ret ?_;refine ZX.ret ?_;have hr:=Oi0 hL;subst hr;exact ZW.XY rfl (Zy (Zk fh rfl) Zm) ⟨_,⟨rfl,rfl⟩,hT ▸ hS.only .n⟩
    ·replace hL:=Y3 Zlm hL;refine WO.Zne (Zg.yes rfl rfl rfl (ZB rfl (Ze rfl fh))) Zlm rfl ?_;refine WO.w gN rfl (Zmn (Zk (ZV rfl fh) rfl) Zlm (XG rfl)) ?_;refine WO.w gN rfl (Zz (Zk fh rfl)) ?_;refine WO.gv (Zg.yes rfl rfl rfl fh) rfl (fun hg=>(Ye ZaC (Zk (Zp rfl (ZB rfl (Ze rfl e7))) rfl))) ?_;refine WO.gv (Zg.yes rfl rfl rfl (Ze rfl fh)) rfl (fun hg=>(ZL Xk (Xm fh rfl hg) (hS.Xc k0) (j:=1) rfl (v:= .int .i64 p0.at_) rfl)) ?_;refine WO.gv (Zg.yes rfl rfl rfl (ZB rfl fh)) rfl (fun hg=>(Ye KG (Zk (Zp rfl (ZV rfl (Ze rfl e7))) rfl))) ?_;refine WO.gv (Zg.yes rfl rfl rfl (ZB rfl (Ze rfl fh))) rfl (fun hg=>(ZL Xk (Xm fh rfl hg) (hS.Xc k0) (j:=3) rfl (v:= .int .i64 p0.Zx) rfl)) ?_;refine WO.gv (Zg.yes rfl rfl rfl (ZV rfl fh)) rfl (fun hg=>(ZR (Xm (ZB rfl fh) rfl hg) (Xm fh rfl hg) Zbn)) ?_;refine WO.w gN rfl (QM (Zk (ZV rfl (Ze rfl fh)) rfl) (Zao fh) (XG rfl)) ?_;refine WO.w gN rfl (Zz (Zk fh rfl)) ?_;refine WO.gv (Zg.yes rfl rfl rfl fh) rfl (fun hg=>(Ye ZbO (Zk (Zp rfl (Zp rfl (ZB rfl e7))) rfl))) ?_;refine WO.gv (Zg.yes rfl rfl rfl (Ze rfl fh)) rfl (fun hg=>(ZL Xk (Xm fh rfl hg) (hS.Xc k0) (j:=2) rfl (v:= .int .i64 p0.name) rfl)) ?_;refine WO.gv (Zg.yes rfl rfl rfl (ZB rfl fh)) rfl (fun hg=>(ZR (Xm fh rfl hg) (XG rfl) Ux)) ?_;refine WO.w gN rfl (QM (Zk (ZB rfl (Ze rfl fh)) rfl) (Zao fh) (XG rfl)) ?_;refine WO.w gN rfl (Zw (Zk fh rfl)) ?_;refine WO.nil ?_;refine ZX.Z4 ?_;refine WC.ret ?_;refine Qh.ret ?_;refine ZX.ret ?_;have hr:=Oi0 hL;subst hr;exact ZW.XY rfl (Zy (Zk fh rfl) Zm) ⟨_,⟨rfl,rfl⟩,hT ▸ hS.only .n⟩
   ·replace hL:=Y3 hc hL;refine WC.seq ?_;refine WC.region ?_;refine WO.w gN rfl (ZR (Zk e9 rfl) (XG rfl) Qu) ?_;refine WO.w gN rfl (Zw (Zk fh rfl)) ?_;refine WO.nil ?_;refine ZX.Z4 ?_;refine WC.Ut (Zk fh rfl) (fun hc=>?_) (fun hc=>?_)
    ·replace hL:=Y2 hc hL;refine WC.seq ?_;refine WC.region ?_;refine WO.w gN rfl (Zz (Zk (ZB rfl e8) rfl)) ?_;refine WO.w gN rfl (Ye ZaC (Zk (ZB rfl (Ze rfl e7)) rfl)) ?_;refine WO.w gN rfl (ZL Xk (Zk fh rfl) (hS.Xc k0) (j:=1) rfl (v:= .int .i64 p0.at_) rfl) ?_;refine WO.inl gN rfl (Y1.clo (first:= []) (cap:= [.pointer (some ⟨b3,0,none⟩)]) (Zk (ZB rfl fh) rfl) ZqZ (Zc (Zk fh rfl) Zl) rfl) (WF.begin (args:= [_,_]) (fn:=Try.f92) Kq0 (by exact rfl) Try.ntmps92 (by simp) ?_);simp only [ZC,ZJ,Nat.reduceAdd];refine WC.seq ?_;refine WC.region ?_;refine WO.w gN rfl (Zw (XG rfl)) ?_;refine WO.nil ?_;refine ZX.Z4 ?_;refine WC.seq ?_;refine WC.region ?_;refine WO.w gN rfl (Zz (Zk (ZB rfl fh) rfl)) ?_;refine WO.w gN rfl (ZR (Zk fh rfl) (XG rfl) Ux) ?_;refine WO.w gN rfl (Zz (Zk fh rfl)) ?_;refine WO.gv (Zg.yes rfl rfl rfl fh) rfl (fun hg=>(Zz (Zk (ZV rfl (Ze rfl fh)) rfl))) ?_;refine WO.gv (Zg.yes rfl rfl rfl (Ze rfl fh)) rfl (fun hg=>(ZL Xk (Zk (ZV rfl (Ze rfl fh)) rfl) (hS.Xc k1) (j:=0) rfl (v:= .int .i64 p1) rfl)) ?_;refine WO.gv (Zg.yes rfl rfl rfl (ZB rfl fh)) rfl (fun hg=>(ZR (Xm (Ze rfl fh) rfl hg) (Xm fh rfl hg) Uw)) ?_;refine WO.w gN rfl (QM (Zk (ZB rfl (Ze rfl fh)) rfl) (Zao fh) (XG rfl)) ?_;refine WO.w gN rfl (Zw (Zk fh rfl)) ?_;refine WO.nil ?_;refine ZX.Z4 ?_;refine WC.ret ?_;refine ZW.XY rfl (Zy (Zk fh rfl) Zm) ?_;refine WO.w gN rfl (Zz (Zk fh rfl)) ?_;refine WO.gv (Zg.yes rfl rfl rfl fh) rfl (fun hg=>(Ye ZbO (Zk (ZV rfl (ZB rfl (Ze rfl e7))) rfl))) ?_;refine WO.gv (Zg.yes rfl rfl rfl (Ze rfl fh)) rfl (fun hg=>(ZL Xk (Xm fh rfl hg) (hS.Xc k0) (j:=2) rfl (v:= .int .i64 p0.name) rfl)) ?_;refine WO.gv (Zg.yes rfl rfl rfl (ZB rfl fh)) rfl (fun hg=>(ZR (Xm fh rfl hg) (XG rfl) Ux)) ?_;refine WO.w gN rfl (QM (Zk (ZB rfl (Ze rfl fh)) rfl) (Zao fh) (XG rfl)) ?_;refine WO.w gN rfl (Zz (Zk fh rfl)) ?_;refine WO.gv (Zg.yes rfl rfl rfl fh) rfl (fun hg=>(Ye KG (Zk (Zp rfl (ZV rfl e7)) rfl))) ?_;refine WO.gv (Zg.yes rfl rfl rfl (Ze rfl fh)) rfl (fun hg=>(ZL Xk (Xm fh rfl hg) (hS.Xc k0) (j:=3) rfl (v:= .int .i64 p0.Zx) rfl)) ?_;refine WO.gv (Zg.yes rfl rfl rfl (ZB rfl fh)) rfl (fun hg=>(ZR (Xm fh rfl hg) (XG rfl) Qu)) ?_;refine WO.w gN rfl (QM (Zk (ZB rfl (Ze rfl fh)) rfl) (Zao fh) (XG rfl)) ?_;refine WO.w gN rfl (Zw (Zk fh rfl)) ?_;refine WO.nil ?_;refine ZX.Z4 ?_;refine WC.ret ?_;refine Qh.ret ?_;refine ZX.ret ?_;have hr:=Oi0 hL;subst hr;exact ZW.XY rfl (Zy (Zk fh rfl) Zm) ⟨_,⟨rfl,rfl⟩,hT ▸ hS.only .n⟩
    ·replace hL:=Y3 hc hL;refine WC.skip ?_;refine Qh.Z4 ?_;refine ZX.Z4 ?_;refine WC.seq ?_;refine WC.region ?_;refine WO.w gN rfl (Ye Zhu (Zk (ZB rfl e7) rfl)) ?_;refine WO.w gN rfl (ZL ZrM (Zk fh rfl) (hS.Xc k0) (j:=0) rfl (v:= .int .i64 p0.ZT) rfl) ?_;refine WO.w gN rfl (ZR (Zk fh rfl) (XG rfl) Qu) ?_;refine WO.w gN rfl (Zz (Zk fh rfl)) ?_;refine WO.gv (Zg.yes rfl rfl rfl fh) rfl (fun hg=>(Ye ZaC (Zk (ZV rfl (ZB rfl e7)) rfl))) ?_;refine WO.gv (Zg.yes rfl rfl rfl (Ze rfl fh)) rfl (fun hg=>(ZL Xk (Xm fh rfl hg) (hS.Xc k0) (j:=1) rfl (v:= .int .i64 p0.at_) rfl)) ?_;refine WO.gv (Zg.yes rfl rfl rfl (ZB rfl fh)) rfl (fun hg=>(ZR (Xm fh rfl hg) (XG rfl) Ux)) ?_;refine WO.w gN rfl (QM (Zk (ZB rfl (Ze rfl fh)) rfl) (Zao fh) (XG rfl)) ?_;refine WO.w gN rfl (Zz (Zk fh rfl)) ?_;refine WO.gv (Zg.yes rfl rfl rfl fh) rfl (fun hg=>(Ye ZbO (Zk (Zp rfl (ZB rfl (Ze rfl e7))) rfl))) ?_;refine WO.gv (Zg.yes rfl rfl rfl (Ze rfl fh)) rfl (fun hg=>(ZL Xk (Xm fh rfl hg) (hS.Xc k0) (j:=2) rfl (v:= .int .i64 p0.name) rfl)) ?_;refine WO.gv (Zg.yes rfl rfl rfl (ZB rfl fh)) rfl (fun hg=>(ZR (Xm fh rfl hg) (XG rfl) Qu)) ?_;refine WO.w gN rfl (QM (Zk (ZB rfl (Ze rfl fh)) rfl) (Zao fh) (XG rfl)) ?_;refine WO.w gN rfl (Zz (Zk fh rfl)) ?_;refine WO.gv (Zg.yes rfl rfl rfl fh) rfl (fun hg=>(Ye KG (Zk (Zp rfl (Zp rfl e7)) rfl))) ?_;refine WO.gv (Zg.yes rfl rfl rfl (Ze rfl fh)) rfl (fun hg=>(ZL Xk (Xm fh rfl hg) (hS.Xc k0) (j:=3) rfl (v:= .int .i64 p0.Zx) rfl)) ?_;refine WO.gv (Zg.yes rfl rfl rfl (ZB rfl fh)) rfl (fun hg=>(ZR (Xm fh rfl hg) (XG rfl) Qu)) ?_;refine WO.w gN rfl (QM (Zk (ZB rfl (Ze rfl fh)) rfl) (Zao fh) (XG rfl)) ?_;refine WO.w gN rfl (Zw (Zk fh rfl)) ?_;refine WO.nil ?_;refine ZX.Z4 ?_;refine WC.ret ?_;have hr:=Oi0 hL;subst hr;exact ZW.XY rfl (Zy (Zk fh rfl) Zm) ⟨_,⟨rfl,rfl⟩,hT ▸ hS.only .n⟩
  ·skip;refine WC.seq ?_;refine WC.region ?_;refine WO.w gN rfl (ZR (Zk (ZB rfl fh) rfl) (XG rfl) Qu) ?_;refine WO.w gN rfl (Zw (Zk fh rfl)) ?_;refine WO.nil ?_;refine ZX.Z4 ?_;refine WC.Ut (Zk fh rfl) (fun hc=>?_) (fun hc=>?_)
   ·replace hL:=Y2 hc hL;refine WC.skip ?_;exact YI.Z4 _ hL ⟨_,_,rfl,hS.only (.c k1 (.c k0 .n)),(Zp rfl (ZB rfl fh)),(ZV rfl (ZB rfl fh)),(ZV rfl fh),fh⟩
   ·replace hL:=Y3 hc hL;refine WC.region ?_;refine WO.w gN rfl (ZR (Zk (ZV rfl fh) rfl) (XG rfl) Qu) ?_;refine WO.w gN rfl (Zw (Zk fh rfl)) ?_;refine WO.nil ?_;exact YI.Z4 _ hL ⟨_,_,rfl,hS.only (.c k1 (.c k0 .n)),(Zp rfl (ZV rfl fh)),(Zp rfl fh),(ZV rfl (ZB rfl fh)),fh⟩
theorem ZCE {h:H} {p0:Zo} {p1:Int} {r:Bool} (hL:ZsI p0 p1=some r):Pure XX 55 #[.agg [.int .i64 p0.ZT,.int .i64 p0.at_,.int .i64 p0.name,.int .i64 p0.Zx].toArray,.int .i64 p1] h (.bool r):=
 WR.QO rfl (ZCD (Nat.le_refl _) hL)
end Go.Proofs.Ytekpjgmhkkjhgaa
end
end
section
namespace Go.Proofs.Ytekpjgmhkkjhgaa
open Go.Lf
def ZfV (v29:Int) (ZdX:(Int×(List (Zf×Int))×(List (Zf×Int)) ->Option ((List (Zf×Int))×(List (Zf×Int))))):(List (Zf×Int))×(List (Zf×Int)) ->Option ((List (Zf×Int))×(List (Zf×Int))):=fun(v41,v42)=>
 ZdX (ZP (v29 + 1),v41,v42)
def ZiC (p0:Store):Int×(List (Zf×Int))×(List (Zf×Int)) ->(Int×(List (Zf×Int))×(List (Zf×Int)) ->Option ((List (Zf×Int))×(List (Zf×Int)))) ->Option ((List (Zf×Int))×(List (Zf×Int))):=fun(v29,v31,v32) ZdX=>
 (bif decide (v29 < (p0.notes.length:Int)) then(Ym p0.notes v29).bind fun x43=>(bif(x43.kind==1) then(ZaT v32 (Zf.mk x43.via x43.name) 0).bind fun x49=>(ZfV v29 ZdX) (v31,Y9 (Kg v32 (Zf.mk x43.via x43.name) 0) (Zf.mk x43.via x43.name) (ZP (x49 + x43.w))) else(bif(x43.kind==2) then(ZaT v32 (Zf.mk x43.Zx x43.name) 0).bind fun x53=>(ZfV v29 ZdX) (v31,Y9 (Kg v32 (Zf.mk x43.Zx x43.name) 0) (Zf.mk x43.Zx x43.name) (ZP (x53 + x43.w))) else(ZaT v31 (Zf.mk x43.Zx x43.name) 0).bind fun x57=>(ZfV v29 ZdX) (Y9 (Kg v31 (Zf.mk x43.Zx x43.name) 0) (Zf.mk x43.Zx x43.name) (ZP (x57 + 16)),v32))) else some (v31,v32))
def ZfW (F:Nat) (p0:Store):(List (Zf×Int))×(List (Zf×Int)) ->Option ((List (Zf×Int))×(List (Zf×Int))):=fun(v20,v21)=>
 loop F (ZiC p0) (0,v20,v21)
def ZlL (F:Nat) (p0:Store) (v80:Int) (ZdU:(Int×(List (Zf×Int))×(List (Zf×Int)) ->Option ((List (Zf×Int))×(List (Zf×Int))))):(List (Zf×Int))×(List (Zf×Int)) ->Option ((List (Zf×Int))×(List (Zf×Int))):=fun(v96,v97)=>
 (bif(!true) then(ZfW F p0) (v96,v97) else ZdU (ZP (v80 + 1),v96,v97))
def ZpL (F:Nat) (p0:Store) (v70:Int) (ZdW:(Int×(List (Zf×Int))×(List (Zf×Int)) ->Option ((List (Zf×Int))×(List (Zf×Int))))):Int×(List (Zf×Int))×(List (Zf×Int)) ->(Int×(List (Zf×Int))×(List (Zf×Int)) ->Option ((List (Zf×Int))×(List (Zf×Int)))) ->Option ((List (Zf×Int))×(List (Zf×Int))):=fun(v80,v82,v83) ZdU=>
 (bif decide (v80 < p0.names) then(Zav p0.cells (Zf.mk v70 v80) (Za.mk 0 false 0 0 0 false)).bind fun x85=>(bif x85.2 then(ZaT v82 (Zf.mk v70 x85.1.name) 0).bind fun x99=>(bif decide (x85.1.from_ >=0) then(ZaT v83 (Zf.mk x85.1.from_ x85.1.name) 0).bind fun x103=>(ZlL F p0 v80 ZdU) (Y9 (Kg v82 (Zf.mk v70 x85.1.name) 0) (Zf.mk v70 x85.1.name) (ZP (x99 + x85.1.out)),Y9 (Kg v83 (Zf.mk x85.1.from_ x85.1.name) 0) (Zf.mk x85.1.from_ x85.1.name) (ZP (x103 + x85.1.has))) else(ZlL F p0 v80 ZdU) (Y9 (Kg v82 (Zf.mk v70 x85.1.name) 0) (Zf.mk v70 x85.1.name) (ZP (x99 + x85.1.out)),v83)) else ZdU (ZP (v80 + 1),v82,v83)) else ZdW (ZP (v70 + 1),v82,v83))
def ZpM (F:Nat) (p0:Store):Int×(List (Zf×Int))×(List (Zf×Int)) ->(Int×(List (Zf×Int))×(List (Zf×Int)) ->Option ((List (Zf×Int))×(List (Zf×Int)))) ->Option ((List (Zf×Int))×(List (Zf×Int))):=fun(v70,v72,v73) ZdW=>
 (bif decide (v70 < p0.machines) then loop F (ZpL F p0 v70 ZdW) (0,v72,v73) else(ZfW F p0) (v72,v73))
def ZsG (F:Nat) (p0:Store):Option ((List (Zf×Int))×(List (Zf×Int))):=
 loop F (ZpM F p0) (0,[],[])
def ZvL (p0:(List Yp)) (p1:Int) (p2:Int):Option (List Yp):=
 (slL p0 p1 p2).bind fun z1=>(bif(p1==p2) then some p0 else(slL p0 0 p1).bind fun z4=>(slL p0 p2 (p0.length:Int)).bind fun z13=>(app 16 z4 z13).bind fun z17=>some z17)
def ZfU (p0:(List Yp)) (p1:Yp):Int ->(Int ->Option Int) ->Option Int:=fun v8 Zh9=>
 (bif decide (v8 < (p0.length:Int)) then(Ym p0 v8).bind fun x11=>(bif Zac p1 x11 then some v8 else Zh9 (ZP (v8 + 1))) else some (-1))
def ZyA (F:Nat) (p0:(List Yp)) (p1:Yp):Option Int:=
 loop F (ZfU p0 p1) 0
end Go.Proofs.Ytekpjgmhkkjhgaa
end
section
set_option maxRecDepth 20000
noncomputable section
namespace Go.Proofs.Ytekpjgmhkkjhgaa
open Go.YD Go.Lf
theorem ZvM {F wm:Nat} {h:H} {p0:Store} {ZN:Option Nat} {Zt:Option Addr} {Zr:Nat} {ZH:Option Addr} {ZG Xw U7:Nat} {r:((List (Zf×Int))×(List (Zf×Int)))} (ZK:wm <=h.size) (Y7:At h Xw U7 [.int .i64 p0.machines,.int .i64 p0.names,.map ZN,.slice Zt p0.notes.length Zr,.slice ZH p0.freed.length ZG]) (Y6:Stb wm h Xw) (ZM:UM Zh Zn wm h ZN p0.cells) (YA:Sl Zi wm h Zt Zr p0.notes) (YC:Sl (ZO .i64) wm h ZH ZG p0.freed) (hL:ZsG F p0=some r):
 WR XX 68 #[.pointer (some ⟨Xw,U7,none⟩)] wm h (CP (fun(v:Value) (Gb:List (Ast wm))=>∃ (Zcb:Nat) (ZzC:Nat),v= .tuple [.map (some Zcb),.map (some ZzC)].toArray∧Gb= [mp wm Zh (Value.int .i64) (some Zcb) r.1,mp wm Zh (Value.int .i64) (some ZzC) r.2]) [] h):=by
 refine WF.Zgk (args:= [_]) (fn:=Try.f68) Kq0 (by exact rfl) Try.ntmps68 (by simp) ?_;simp only [ZC,ZJ,Nat.reduceAdd];obtain⟨T,hT,hS⟩:∃ T,T=XO (wm:=wm) []∧Sp wm T h [] h:= ⟨_,rfl,Sp.start ZK Z0.nil⟩
 unfold ZsG at hL;refine r3 ?_;rintro _ h2 ⟨b1,eb1,rfl,hS⟩;refine r1 ?_;rintro _ h4 ⟨b3,eb3,rfl,hS⟩;refine r4 ?_;refine WO.hn gN rfl (ZtY Zh (Value.int .i64) hS) ?_;rintro _ h5 ⟨b6,eb6,rfl,hS⟩;refine WO.hn gN rfl (ZtY Zh (Value.int .i64) hS) ?_;rintro _ h7 ⟨b8,eb8,rfl,hS⟩;refine r1 ?_;rintro h9 hS;refine r1 ?_;rintro h10 hS;refine r6 ?_;refine WO.inl gN rfl (Y1.fn Zu2 (Zc lk Zl)) (WF.begin (args:= [_]) (fn:=Try.f71) Kq0 (by exact rfl) Try.ntmps71 (by simp) ?_);simp only [ZC,ZJ,Nat.reduceAdd];refine r3 ?_;rintro _ h12 ⟨b11,ZOQ,rfl,hS⟩;refine r4 ?_;refine r1 ?_;refine WO.w gN rfl (ZbW (Zc lk Zl)) ?_;refine r4 ?_;refine ZW.XY rfl (Zy lk Zm) ?_;refine r3 ?_;refine WC.Zo2 (first:= []) (cap:= [.pointer (some ⟨b11,0,none⟩)]) hS lk Zpx ?_;intro h13 l14 Zob Zzp Zq5 hS;refine WR.Znm (r:=r) (fun(p:(List (Zf×Int))×(List (Zf×Int))) (v:Value) (h18:H)=>match p with | (v20,v21)=>v= .tuple [].toArray∧Sp wm T h [bx wm b1 [.map (some b6)],bx wm b3 [.map (some b8)],bx wm b11 [.pointer (some ⟨Xw,U7,none⟩)],mp wm Zh (Value.int .i64) (some b6) v20,mp wm Zh (Value.int .i64) (some b8) v21,ob wm l14 Zzp,ob wm Zob .deferred] h18) (ZfW F p0) ?_ (WF.begin (args:= [_,_]) (fn:=Try.f110) Kq0 (by exact rfl) Try.ntmps110 (by simp) ?_)
 ·clear hL hS;rintro⟨v20,v21⟩ v h18 hL ⟨rfl,hS⟩;dsimp only [ZfW] at hL;refine RgE.sp Zq5 hS k5 ?_;rintro h22 hS;refine r8 ?_;refine WO.w gN rfl (ZL Zi9 (Zk fh rfl) (At.fz hS.fz Y6 Y7) (j:=3) rfl (v:= .slice Zt p0.notes.length Zr) rfl) ?_;refine r4 ?_;refine r1 ?_;refine WC.loop (WL.lift hL (fun(p:Int×(List (Zf×Int))×(List (Zf×Int))) (s:Fs)=>match p with | (v29,v31,v32)=>∃ (ZpD:Fr) (h23:H),s= ⟨ZpD,[⟨.collected Zob,#[]⟩],h23,none⟩∧Sp wm T h [bx wm b1 [.map (some b6)],bx wm b3 [.map (some b8)],mp wm Zh (Value.int .i64) (some b6) v31,mp wm Zh (Value.int .i64) (some b8) v32,ob wm Zob .deferred] h23∧ZpD.at 2= .pointer (some ⟨b1,0,none⟩)∧ZpD.at 3= .pointer (some ⟨b3,0,none⟩)∧ZpD.at 43= .slice Zt p0.notes.length Zr∧ZpD.at 44= .int .i64 (p0.notes.length:Int)∧ZpD.at 45= .int .i64 v29) ⟨_,_,rfl,hS.only (.c k0 (.c k0 (.c k1 (.c k1 (.c k1 .n))))),Xa⟩ ?_);clear hL hS;rintro ZdX ⟨v29,v31,v32⟩ s ZxZ hL ⟨ZpD,h23,rfl,hS,e25,e26,e27,e28,e30⟩;dsimp only [ZiC] at hL;refine r6 ?_;refine cn hL ?_ ?_
  ·intro hc hL;refine r2 ?_;refine WC.Zal (r:=r) (fun(p:(List (Zf×Int))×(List (Zf×Int))) (s:Fs)=>match p with | (v41,v42)=>∃ (ZpC:Fr) (h34:H),s= ⟨ZpC,[⟨.collected Zob,#[]⟩],h34,none⟩∧Sp wm T h [bx wm b1 [.map (some b6)],bx wm b3 [.map (some b8)],mp wm Zh (Value.int .i64) (some b6) v41,mp wm Zh (Value.int .i64) (some b8) v42,ob wm Zob .deferred] h34∧ZpC.at 2= .pointer (some ⟨b1,0,none⟩)∧ZpC.at 3= .pointer (some ⟨b3,0,none⟩)∧ZpC.at 43= .slice Zt p0.notes.length Zr∧ZpC.at 44= .int .i64 (p0.notes.length:Int)∧ZpC.at 45= .int .i64 v29) (ZfV v29 ZdX) ?_ ?_
   ·clear hL hS;rintro⟨v41,v42⟩ s hL ⟨ZpC,h34,rfl,hS,e36,e37,e38,e39,e40⟩;dsimp only [ZfV] at hL;refine r4 ?_;exact Yk.Z4 (ZxZ _ _ hL ⟨_,_,rfl,hS.only (.c k0 (.c k0 (.c k0 (.c k0 (.c k0 .n))))),Xa⟩)
   ·skip;refine r3 ?_;obtain⟨x43,Zpi,hL⟩:=bind_some hL;obtain⟨b44,o45,_,Zvf,Zvn,Zvk,ZFQ⟩:=Sl.at_ YA Zpi;refine WO.w gN rfl (Yb Ul XT lk lk rfl Zvf Zpi) ?_;refine WO.w gN rfl (Yo Ze7 XT (Zk fh rfl) (At.fz hS.fz Zvk Zvn) (j:=0) rfl rfl (ws:= [.int .i64 x43.kind,.int .i64 x43.Zx,.int .i64 x43.name,.int .i64 x43.via,.int .i64 x43.w]) rfl) ?_;refine r1 ?_;rintro _ h47 ⟨b46,ZKf,rfl,hS⟩;refine r1 ?_;rintro h48 hS;refine UU ?_;refine r3 ?_;refine cn hL ?_ ?_
    ·intro hc hL;refine WC.Yt mixed Kq0 ?_;refine r4 ?_;refine r1 ?_;refine WX.w gN rfl (Xi X8 (Zj lk (Zj lk ZI)) rfl (cs':= [.int .i64 x43.via,.int .i64 x43.name]) rfl) ?_ rfl;obtain⟨x49,Zsm,hL⟩:=bind_some hL;refine WX.ZuC (kv:=Zh) (vv:= (Value.int .i64)) (k:= (Zf.mk x43.via x43.name)) (z:=0) gN rfl YW Wd Wv (Zk (ZV rfl (Ze rfl fh)) rfl) (Zk fh rfl) (hS.get k4).at_ Zsm 10 (w:= .int .i64 x49) rfl (fun _=>rfl) ?_ rfl;refine r3 ?_;refine WX.ZvZ (kv:=Zh) (vv:= (Value.int .i64)) (k:= (Zf.mk x43.via x43.name)) (z:=0) gN rfl hS k4 YW Wd Wv (Zk (Zp rfl (Ze rfl fh)) rfl) (Zk (ZV rfl fh) rfl) ?_ rfl 6 Kq0 Kq0 (by simp);rintro _ h50 ⟨b51,rfl,hS⟩;refine WX.w gN rfl (YF lk (v:= .int .i64 (b51:Nat)) rfl) ?_ Kq0;refine WX.hu gN (ZmZ (kv:=Zh) (vv:= (Value.int .i64)) (v:=ZP (x49 + x43.w)) hS k0 (Zk (Zp rfl (ZB rfl (Ze rfl fh))) rfl) (Zk fh rfl) (Zk (ZB rfl fh) rfl)) ?_ rfl Kq0 [] Kq0 Yd.e;rintro h52 hS;refine r3 ?_;exact YI.Z4 _ hL ⟨_,_,rfl,hS.only (.c k2 (.c k2 (.c k2 (.c k0 (.c k1 .n))))),Xa⟩
    ·intro hc hL;refine r6 ?_;refine cn hL ?_ ?_
     ·intro hc hL;refine WC.Yt mixed Kq0 ?_;refine r4 ?_;refine r1 ?_;refine WX.w gN rfl (Xi X8 (Zj lk (Zj lk ZI)) rfl (cs':= [.int .i64 x43.Zx,.int .i64 x43.name]) rfl) ?_ rfl;obtain⟨x53,ZBd,hL⟩:=bind_some hL;refine WX.ZuC (kv:=Zh) (vv:= (Value.int .i64)) (k:= (Zf.mk x43.Zx x43.name)) (z:=0) gN rfl YW Wd Wv (Zk (ZV rfl (Ze rfl fh)) rfl) (Zk fh rfl) (hS.get k4).at_ ZBd 10 (w:= .int .i64 x53) rfl (fun _=>rfl) ?_ rfl;refine r3 ?_;refine WX.ZvZ (kv:=Zh) (vv:= (Value.int .i64)) (k:= (Zf.mk x43.Zx x43.name)) (z:=0) gN rfl hS k4 YW Wd Wv (Zk (Zp rfl (Ze rfl fh)) rfl) (Zk (ZV rfl fh) rfl) ?_ rfl 6 Kq0 Kq0 (by simp);rintro _ h54 ⟨b55,rfl,hS⟩;refine WX.w gN rfl (YF lk (v:= .int .i64 (b55:Nat)) rfl) ?_ Kq0;refine WX.hu gN (ZmZ (kv:=Zh) (vv:= (Value.int .i64)) (v:=ZP (x53 + x43.w)) hS k0 (Zk (Zp rfl (ZB rfl (Ze rfl fh))) rfl) (Zk fh rfl) (Zk (ZB rfl fh) rfl)) ?_ rfl Kq0 [] Kq0 Yd.e;rintro h56 hS;refine r3 ?_;exact YI.Z4 _ hL ⟨_,_,rfl,hS.only (.c k2 (.c k2 (.c k2 (.c k0 (.c k1 .n))))),Xa⟩
     ·intro hc hL;refine WC.Yt mixed Kq0 ?_;refine r4 ?_;refine r1 ?_;refine WX.w gN rfl (Xi X8 (Zj lk (Zj lk ZI)) rfl (cs':= [.int .i64 x43.Zx,.int .i64 x43.name]) rfl) ?_ rfl;obtain⟨x57,ZIO,hL⟩:=bind_some hL;refine WX.ZuC (kv:=Zh) (vv:= (Value.int .i64)) (k:= (Zf.mk x43.Zx x43.name)) (z:=0) gN rfl YW Wd Wv (Zk (ZV rfl (Ze rfl fh)) rfl) (Zk fh rfl) (hS.get k3).at_ ZIO 8 (w:= .int .i64 x57) rfl (fun _=>rfl) ?_ rfl;refine r1 ?_;refine WX.ZvZ (kv:=Zh) (vv:= (Value.int .i64)) (k:= (Zf.mk x43.Zx x43.name)) (z:=0) gN rfl hS k3 YW Wd Wv (Zk (ZV rfl (ZB rfl (Ze rfl fh))) rfl) (Zk (ZB rfl fh) rfl) ?_ rfl 6 Kq0 Kq0 (by simp);rintro _ h58 ⟨b59,rfl,hS⟩;refine WX.w gN rfl (YF lk (v:= .int .i64 (b59:Nat)) rfl) ?_ Kq0;refine WX.hu gN (ZmZ (kv:=Zh) (vv:= (Value.int .i64)) (v:=ZP (x57 + 16)) hS k0 (Zk (Zp rfl (Ze rfl fh)) rfl) (Zk fh rfl) (Zk (ZB rfl fh) rfl)) ?_ rfl Kq0 [] Kq0 Yd.e;rintro h60 hS;refine r3 ?_;exact YI.Z4 _ hL ⟨_,_,rfl,hS.only (.c k2 (.c k2 (.c k0 (.c k1 (.c k1 .n))))),Xa⟩
  ·intro hc hL;refine r6 ?_;refine WC.Yt mixed Kq0 ?_;refine r1 ?_;refine WX.wr (fun x=>x=b3) hS gN rfl (fun _ _ hR=>ZL Zmt (Zk (ZB rfl e26) rfl) (At.eqv (hR b3 rfl) (hS.Xc k1)) (j:=0) rfl (v:= .map (some b8)) rfl) ?_ rfl rfl;rintro h61 e62 hS;refine WX.hu gN (Qe hS k0 ZkY lk lk (vs:= [.map (some b6)]) rfl rfl rfl rfl (cs':= [.map (some b6)]) rfl) ?_ rfl rfl [1] Kq0 (.c .z (hS.dj (.c k0 (.c k0 .n))) Yd.e);rintro h63 hS;refine WX.hu gN (Qe hS k1 ZkY lk lk (vs:= [.map (some b8)]) rfl rfl rfl rfl (cs':= [.map (some b8)]) rfl) ?_ rfl Kq0 [] Kq0 Yd.e;rintro h64 hS;refine r3 ?_;refine Qb.ZCX hS k4 ?_;rintro h65 hS;have hr:=Oi0 hL;subst hr;exact Qb.gen rfl (ZU (ZB rfl (Ze rfl e25)) (KP Zmt (hS.Xc k1) (j:=0) rfl (v:= .map (some b6)) rfl) (ZU (ZB rfl (Ze rfl e26)) (KP Zmt (hS.Xc k0) (j:=0) rfl (v:= .map (some b8)) rfl) Zm)) rfl ⟨_,⟨b6,b8,rfl,rfl⟩,hT ▸ hS.only (.c k2 (.c k2 .n))⟩
 ·skip;simp only [ZC,ZJ,Nat.reduceAdd];refine r6 ?_;refine WC.loop (WL.lift hL (fun(p:Int×(List (Zf×Int))×(List (Zf×Int))) (s:Fs)=>match p with | (v70,v72,v73)=>∃ (ZvA:Fr) (h66:H),s= ⟨ZvA,[],h66,none⟩∧Sp wm T h [bx wm b11 [.pointer (some ⟨Xw,U7,none⟩)],bx wm b1 [.map (some b6)],bx wm b3 [.map (some b8)],mp wm Zh (Value.int .i64) (some b6) v72,mp wm Zh (Value.int .i64) (some b8) v73,ob wm l14 Zzp,ob wm Zob .deferred] h66∧ZvA.at 0= .func (.yield l14) #[] #[]∧ZvA.at 1= .pointer (some ⟨b11,0,none⟩)∧ZvA.at 3= .int .i64 v70) ⟨_,_,rfl,hS.only (.c k2 (.c k3 (.c k2 (.c k3 (.c k2 (.c k0 (.c k0 .n))))))),Xa⟩ ?_);clear hL hS;rintro ZdW ⟨v70,v72,v73⟩ s Zli hL ⟨ZvA,h66,rfl,hS,e68,e69,e71⟩;dsimp only [ZpM] at hL;refine r6 ?_;refine r1 ?_;refine WO.w gN rfl (ZL Xk (Zk fh rfl) (At.fz hS.fz Y6 Y7) (j:=0) rfl (v:= .int .i64 p0.machines) rfl) ?_;refine r3 ?_;refine cn hL ?_ ?_
  ·intro hc hL;refine r8 ?_;refine r2 ?_;refine WC.loop (WL.lift hL (fun(p:Int×(List (Zf×Int))×(List (Zf×Int))) (s:Fs)=>match p with | (v80,v82,v83)=>∃ (Zsw:Fr) (h75:H),s= ⟨Zsw,[],h75,none⟩∧Sp wm T h [bx wm b11 [.pointer (some ⟨Xw,U7,none⟩)],bx wm b1 [.map (some b6)],bx wm b3 [.map (some b8)],mp wm Zh (Value.int .i64) (some b6) v82,mp wm Zh (Value.int .i64) (some b8) v83,ob wm l14 Zzp,ob wm Zob .deferred] h75∧Zsw.at 0= .func (.yield l14) #[] #[]∧Zsw.at 1= .pointer (some ⟨b11,0,none⟩)∧Zsw.at 3= .int .i64 v70∧Zsw.at 4= .int .i64 v80) ⟨_,_,rfl,hS.only (.c k0 (.c k0 (.c k0 (.c k0 (.c k0 (.c k0 (.c k0 .n))))))),Xa⟩ ?_);clear hL hS;rintro ZdU ⟨v80,v82,v83⟩ s ZqX hL ⟨Zsw,h75,rfl,hS,e77,e78,e79,e81⟩;dsimp only [ZpL] at hL;refine r6 ?_;refine r1 ?_;refine WO.w gN rfl (ZL Xk (Zk fh rfl) (At.fz hS.fz Y6 Y7) (j:=1) rfl (v:= .int .i64 p0.names) rfl) ?_;refine r3 ?_;refine cn hL ?_ ?_
   ·intro hc hL;refine r8 ?_;refine r1 ?_;refine WO.w gN rfl (ZL ZgZ (Zk fh rfl) (At.fz hS.fz Y6 Y7) (j:=2) rfl (v:= .map ZN) rfl) ?_;refine r2 ?_;refine WO.w gN rfl (Xi X8 (Zj lk (Zj lk ZI)) rfl (cs':= [.int .i64 v70,.int .i64 v80]) rfl) ?_;obtain⟨x85,ZII,hL⟩:=bind_some hL;refine WO.w gN rfl (Zah (kv:=Zh) (vv:=Zn) (k:= (Zf.mk v70 v80)) (z:= (Za.mk 0 false 0 0 0 false)) YW Uk UD (Zk (ZB rfl (Ze rfl fh)) rfl) (Zk fh rfl) (hS.ms ZM).at_ ZII (w:= .agg [.int .i64 x85.1.name,.bool x85.1.root,.int .i64 x85.1.from_,.int .i64 x85.1.has,.int .i64 x85.1.out,.bool x85.1.use].toArray) rfl) ?_;refine r4 ?_;rintro _ h87 ⟨b86,ZOu,rfl,hS⟩;refine r1 ?_;rintro h88 hS;refine r8 ?_;refine r2 ?_;refine WO.Zlp (Zg.yes rfl rfl rfl (ZB rfl (Ze rfl fh))) (fun Zg6=>?_) (fun Zg6=>?_)
    ·replace hL:=Y2 Zg6 hL;refine WO.ZAF (Zg.on (Zg.yes rfl rfl rfl (ZB rfl (Ze rfl fh))) Zg6) rfl (Xm (ZB rfl fh) rfl Zg6) (Zc (Xm (Ze rfl fh) rfl Zg6) (Zc (Xm fh rfl Zg6) Zl)) hS k6 Zq5 rfl rfl ?_;refine r6 ?_;refine r1 ?_;rintro _ h91 ⟨b90,ZOt,rfl,hS⟩;refine r1 ?_;rintro h92 hS;refine r1 ?_;refine AsK.sp Zq5 hS k7 ?_;rintro h93 hS;refine WC.jn (r:=r) (fun(p:(List (Zf×Int))×(List (Zf×Int))) (s:Fs)=>match p with | (v96,v97)=>∃ (ZGD:Fr) (h94:H),s= ⟨ZGD,[],h94,none⟩∧Sp wm T h [bx wm b1 [.map (some b6)],bx wm b3 [.map (some b8)],bx wm b11 [.pointer (some ⟨Xw,U7,none⟩)],bx wm b86 [.int .i64 x85.1.name,.bool x85.1.root,.int .i64 x85.1.from_,.int .i64 x85.1.has,.int .i64 x85.1.out,.bool x85.1.use],mp wm Zh (Value.int .i64) (some b6) v96,mp wm Zh (Value.int .i64) (some b8) v97,ob wm l14 (bsy Zzp),ob wm Zob .deferred] h94) (ZlL F p0 v80 ZdU) ?_ ?_
     ·clear hL hS;rintro⟨v96,v97⟩ s hL ⟨ZGD,h94,rfl,hS⟩;dsimp only [ZlL] at hL;refine BdK.sp Zq5 hS k6 ?_;rintro h98 hS;refine WO.w (Zg.on (Zg.yes rfl rfl rfl (ZV rfl fh)) Zg6) rfl (Zag lk) ?_;refine WO.w gN rfl (Zmm lk Zg6 lk) ?_;refine r2 ?_;refine cn hL ?_ ?_
      ·intro hc hL;refine r8 ?_;refine r1 ?_;exact ZW.gen (vs:= []) rfl Zm rfl ⟨_,hL,⟨rfl,hS.only (.c k1 (.c k1 (.c k1 (.c k2 (.c k2 (.c k0 (.c k1 .n)))))))⟩⟩
      ·intro hc hL;refine r8 ?_;exact Yk.Z4 (ZqX _ _ hL ⟨_,_,rfl,hS.only (.c k3 (.c k1 (.c k1 (.c k2 (.c k2 (.c k0 (.c k1 .n))))))),Xa⟩)
     ·skip;refine r2 ?_;refine WC.Yt mixed Kq0 ?_;refine r4 ?_;refine WX.w gN rfl (Xi X8 (Zj lk (Zj lk ZI)) rfl (cs':= [.int .i64 v70,.int .i64 x85.1.name]) rfl) ?_ rfl;obtain⟨x99,hx99,hL⟩:=bind_some hL;refine WX.ZuC (kv:=Zh) (vv:= (Value.int .i64)) (k:= (Zf.mk v70 x85.1.name)) (z:=0) gN rfl YW Wd Wv (Zk (ZV rfl fh) rfl) (Zk fh rfl) (hS.get k6).at_ hx99 9 (w:= .int .i64 x99) rfl (fun _=>rfl) ?_ rfl;refine r3 ?_;refine WX.ZvZ (kv:=Zh) (vv:= (Value.int .i64)) (k:= (Zf.mk v70 x85.1.name)) (z:=0) gN rfl hS k6 YW Wd Wv (Zk (Zp rfl fh) rfl) (Zk (ZV rfl fh) rfl) ?_ rfl 5 Kq0 Kq0 (by simp);rintro _ ZJ7 ⟨ZHb,rfl,hS⟩;refine WX.w gN rfl (YF lk (v:= .int .i64 (ZHb:Nat)) rfl) ?_ Kq0;refine WX.hu gN (ZmZ (kv:=Zh) (vv:= (Value.int .i64)) (v:=ZP (x99 + x85.1.out)) hS k0 (Zk (Zp rfl (ZB rfl fh)) rfl) (Zk fh rfl) (Zk (ZB rfl fh) rfl)) ?_ rfl Kq0 [] Kq0 Yd.e;rintro ZCn hS;refine r8 ?_;refine r1 ?_;refine cn hL ?_ ?_
      ·intro hc hL;refine WC.Yt mixed Kq0 ?_;refine r4 ?_;refine r1 ?_;refine WX.w gN rfl (Xi X8 (Zj lk (Zj lk ZI)) rfl (cs':= [.int .i64 x85.1.from_,.int .i64 x85.1.name]) rfl) ?_ rfl;obtain⟨x103,Zkd,hL⟩:=bind_some hL;refine WX.ZuC (kv:=Zh) (vv:= (Value.int .i64)) (k:= (Zf.mk x85.1.from_ x85.1.name)) (z:=0) gN rfl YW Wd Wv (Zk (ZV rfl (Ze rfl fh)) rfl) (Zk fh rfl) (hS.get k7).at_ Zkd 10 (w:= .int .i64 x103) rfl (fun _=>rfl) ?_ rfl;refine r3 ?_;refine WX.ZvZ (kv:=Zh) (vv:= (Value.int .i64)) (k:= (Zf.mk x85.1.from_ x85.1.name)) (z:=0) gN rfl hS k7 YW Wd Wv (Zk (Zp rfl (Ze rfl fh)) rfl) (Zk (ZV rfl fh) rfl) ?_ rfl 6 Kq0 Kq0 (by simp);rintro _ Zyc ⟨ZHa,rfl,hS⟩;refine WX.w gN rfl (YF lk (v:= .int .i64 (ZHa:Nat)) rfl) ?_ Kq0;refine WX.hu gN (ZmZ (kv:=Zh) (vv:= (Value.int .i64)) (v:=ZP (x103 + x85.1.has)) hS k0 (Zk (Zp rfl (ZB rfl (Ze rfl fh))) rfl) (Zk fh rfl) (Zk (ZB rfl fh) rfl)) ?_ rfl Kq0 [] Kq0 Yd.e;rintro ZJ6 hS;refine r2 ?_;exact JnK.Z4 _ hL ⟨_,_,rfl,hS.only (.c k6 (.c k6 (.c k5 (.c k4 (.c k1 (.c k0 (.c k0 (.c k1 .n))))))))⟩
      ·intro hc hL;refine r2 ?_;exact JnK.Z4 _ hL ⟨_,_,rfl,hS.only (.c k5 (.c k5 (.c k4 (.c k3 (.c k0 (.c k2 (.c k0 (.c k1 .n))))))))⟩
    ·replace hL:=Y3 Zg6 hL;refine WO.Zne (Zg.yes rfl rfl rfl (ZB rfl (Ze rfl fh))) Zg6 rfl ?_;refine WO.Zne (Zg.yes rfl rfl rfl (ZV rfl fh)) Zg6 rfl ?_;refine WO.w gN rfl (Zmn lk Zg6 lk) ?_;refine r2 ?_;refine WC.Zef lk rfl ?_;refine r8 ?_;exact Yk.Z4 (ZqX _ _ hL ⟨_,_,rfl,hS.only (.c k1 (.c k1 (.c k1 (.c k1 (.c k1 (.c k1 (.c k1 .n))))))),Xa⟩)
   ·intro hc hL;refine r8 ?_;refine r3 ?_;exact Yk.Z4 (Zli _ _ hL ⟨_,_,rfl,hS.only (.c k0 (.c k0 (.c k0 (.c k0 (.c k0 (.c k0 (.c k0 .n))))))),Xa⟩)
  ·intro hc hL;refine r4 ?_;refine ZW.Z4 ?_;exact ZW.gen (vs:= []) rfl Zm rfl ⟨_,hL,⟨rfl,hS.only (.c k1 (.c k1 (.c k0 (.c k0 (.c k0 (.c k0 (.c k0 .n)))))))⟩⟩
theorem ZCA {wm:Nat} {h:H} {p0:(List Yp)} {p1 p2:Int} {Zv:Option Addr} {Zu XE:Nat} {r:(List Yp)} (ZK:wm <=h.size) (hO:Z0 (wm:=wm) [ow wm Z9 Zv XE Zu p0] h) (hL:ZvL p0 p1 p2=some r):
 WR XX 78 #[.slice Zv XE Zu,.int .i64 p1,.int .i64 p2] wm h (CP (fun(v:Value) (Gb:List (Ast wm))=>∃ (XI:Option Addr) (Qc:Nat) (XH:Nat),v= .slice XI Qc XH∧Gb= [ow wm Z9 XI Qc XH r]) [ow wm Z9 Zv XE Zu p0] h):=by
 refine bg Try.ntmps78 ZK hO ?_;intro T hT hS;unfold ZvL at hL;obtain rfl:=hS.on k0;refine UU ?_;obtain⟨z1,hz1,hL⟩:=bind_some hL;refine WO.he gN rfl (ZtW (hS.get k0).2 rfl Qj YU (Zk (ZV rfl fh) rfl) (Zk (ZB rfl (Ze rfl fh)) rfl) (Zk (ZB rfl fh) rfl) (Zk fh rfl) hz1) ?_;rintro v2 hv3;refine r8 ?_;refine r2 ?_;refine cn hL ?_ ?_
 ·intro hc hL;refine r8 ?_;have hr:=Oi0 hL;subst hr;exact ZW.XY rfl (Zy lk Zm) ⟨_,⟨Zv,p0.length,Zu,rfl,rfl⟩,hT ▸ hS.only (.c k0 .n)⟩
 ·intro hc hL;refine r8 ?_;refine r2 ?_;refine WC.Yt mixed Kq0 ?_;refine r2 ?_;obtain⟨z4,hz4,hL⟩:=bind_some hL;have Zis:= (hS.get k0).2.cap;refine WX.he gN rfl (ZtV (hS.get k0).2 rfl Qj YU (Zk (Ze rfl fh) rfl) (Zk fh rfl) hz4) ?_ rfl;rintro _ ⟨a5,c6,ea7,ec8,rfl,ZBm⟩;have Zv0:=ec8.symm;refine r2 ?_;obtain⟨z13,Zpg,hL⟩:=bind_some hL;refine WX.he gN rfl (ZtX (hS.get k0).2 rfl Qj YU (Zk (Ze rfl fh) rfl) (.inr ⟨_,YL (Zk fh rfl)⟩) (.inl ⟨rfl,rfl⟩) Zpg) ?_ rfl;rintro _ ⟨a14,c15,rfl,ZBl⟩;obtain⟨z17,Zpf,hL⟩:=bind_some hL;have ZBa:= (ZBl.own (hS.get k0).2).src;have hS:=hS.sub k0 ZBm;refine WX.hv gN rfl (ZzB (e:=Z9) hS k0 Zai lk lk ZBa rfl Zpf (Zv0 ▸ Nat.le_trans (ZhA hz1 hz4 Zpg Zpf) Zis)) ?_ rfl rfl [] Kq0 Yd.e;rintro _ h19 ⟨rfl,hS⟩;refine WX.w gN rfl (Zw lk) ?_ Kq0;refine r8 ?_;refine WO.he gN rfl (ZtU (hS.get k0).2 Qj YU (Zk (ZB rfl (Ze rfl fh)) rfl) (Zk (Ze rfl fh) rfl) (Zk fh rfl) (ZhA hz1 hz4 Zpg Zpf) (Zv0 ▸ Zis)) ?_;rintro _ ⟨a20,c21,rfl,ZBo⟩;refine WO.hw gN (ZzA hS k0 ZBo rfl Qj ZaM rfl (Zk fh rfl)) ?_;rintro h24 hS;refine r8 ?_;refine r1 ?_;have hr:=Oi0 hL;subst hr;exact ZW.XY rfl (Zy lk Zm) ⟨_,⟨a5,z17.length,c6,rfl,rfl⟩,hT ▸ hS.only (.c k0 .n)⟩
theorem ZCz {F wm:Nat} {h:H} {p0:(List Yp)} {p1:Yp} {Zv:Option Addr} {Zu:Nat} {r:Int} (ZK:wm <=h.size) (ZM:Sl Z9 wm h Zv Zu p0) (hL:ZyA F p0 p1=some r):
 WR XX 79 #[.slice Zv p0.length Zu,.agg [.int .i64 p1.at_,.int .i64 p1.name].toArray] wm h (CP (fun(v:Value) (Gb:List (Ast wm))=>v= .int .i64 r∧Gb= []) [] h):=by
 refine bg Try.ntmps79 ZK Z0.nil ?_;intro T hT hS;unfold ZyA at hL;refine r3 ?_;rintro _ h2 ⟨b1,eb1,rfl,hS⟩;refine UU ?_;refine WC.loop (WL.lift hL (fun(v8:Int) (s:Fs)=>∃ (fr4:Fr) (h3:H),s= ⟨fr4,[],h3,none⟩∧Sp wm T h [bx wm b1 [.int .i64 p1.at_,.int .i64 p1.name]] h3∧fr4.at 0= .slice Zv p0.length Zu∧fr4.at 3= .pointer (some ⟨b1,0,none⟩)∧fr4.at 7= .int .i64 (p0.length:Int)∧fr4.at 8= .int .i64 v8) ⟨_,_,rfl,hS.only (.c k0 .n),Xa⟩ ?_);clear hL hS;rintro Zh9 v8 s Zll hL ⟨fr4,h3,rfl,hS,e5,e6,e7,e9⟩;dsimp only [ZfU] at hL;refine r6 ?_;refine cn hL ?_ ?_
 ·intro hc hL;refine r8 ?_;refine r3 ?_;refine WC.Yt mixed Kq0 ?_;refine r3 ?_;obtain⟨x11,Zlf,hL⟩:=bind_some hL;obtain⟨b12,o13,_,Zvi,Zvs,Zvm,ZFU⟩:=Sl.at_ ZM Zlf;refine WX.w gN rfl (Yb Qj YU lk lk rfl Zvi Zlf) ?_ rfl;refine WX.w gN rfl (Yo ZcR YU (Zk fh rfl) (At.fz hS.fz Zvm Zvs) (j:=0) rfl rfl (ws:= [.int .i64 x11.at_,.int .i64 x11.name]) rfl) ?_ rfl;refine WX.w gN rfl (ZR (Zk (ZV rfl fh) rfl) (Zk fh rfl) (Zjc (xs:= [.int .i64 p1.at_,.int .i64 p1.name]) (ys:= [.int .i64 x11.at_,.int .i64 x11.name]) (Zrv p1 x11) rfl rfl)) ?_ rfl;refine r2 ?_;refine cn hL ?_ ?_
  ·intro hc hL;refine UU ?_;exact rt hL hT hS
  ·intro hc hL;refine r6 ?_;refine r1 ?_;exact Yk.Z4 (Zll _ _ hL ⟨_,_,rfl,hS.only (.c k0 .n),Xa⟩)
 ·intro hc hL;refine r8 ?_;refine r3 ?_;exact rt hL hT hS
end Go.Proofs.Ytekpjgmhkkjhgaa
end
end
section
namespace Go.Proofs.Ytekpjgmhkkjhgaa
open Go.Lf
def ZlI (p0:(List Yp)) (p1:(List Yp)):Int ->(Int ->Option Bool) ->Option Bool:=fun v6 ZgH=>
 (bif decide (v6 < (p0.length:Int)) then(Ym p0 v6).bind fun x9=>(Ym p1 v6).bind fun x12=>(bif(!(Zac x9 x12)) then some false else ZgH (ZP (v6 + 1))) else some true)
def ZsF (F:Nat) (p0:(List Yp)) (p1:(List Yp)):Option Bool:=
 (bif((p0.length:Int) != (p1.length:Int)) then some false else loop F (ZlI p0 p1) 0)
def ZpK (p0:(List Zd)):Option (List Zd):=
 (app 40 ([]:List Zd) p0).bind fun z3=>some z3
def ZpJ (p0:(List Int)):Option (List Int):=
 (app 8 ([]:List Int) p0).bind fun z3=>some z3
def Ziz (v25:Int) (Zfx:(Int×(List Int) ->Option (List Int))):(List Int) ->Option (List Int):=fun v39=>
 Zfx (ZP (v25 + 1),v39)
def ZiA (p0:Store) (p1:Int):Int×(List Int) ->(Int×(List Int) ->Option (List Int)) ->Option (List Int):=fun(v25,v27) Zfx=>
 (bif decide (v25 < (p0.notes.length:Int)) then(Ym p0.notes v25).bind fun x43=>(bif((x43.kind==3) && (x43.name==p1)) then(app 8 v27 [x43.Zx]).bind fun z51=>(Ziz v25 Zfx) z51 else(Ziz v25 Zfx) v27) else some v27)
def ZfR (F:Nat) (p0:Store) (p1:Int):(List Int) ->Option (List Int):=fun v14=>
 loop F (ZiA p0 p1) (0,v14)
def ZlH (F:Nat) (p0:Store) (p1:Int) (v73:Int) (ZdV:(Int×(List Int) ->Option (List Int))):(List Int) ->Option (List Int):=fun v91=>
 (bif(!true) then(ZfR F p0 p1) v91 else ZdV (ZP (v73 + 1),v91))
def ZpG (F:Nat) (p0:Store) (p1:Int) (v61:Int) (Zk7:(Int×(List Int) ->Option (List Int))):Int×(List Int) ->(Int×(List Int) ->Option (List Int)) ->Option (List Int):=fun(v73,v75) ZdV=>
 (bif decide (v73 < p0.names) then(Zav p0.cells (Zf.mk v61 v73) (Za.mk 0 false 0 0 0 false)).bind fun x80=>(bif x80.2 then(bif((x80.1.name==p1) && x80.1.root) then(app 8 v75 [v61]).bind fun z98=>(ZlH F p0 p1 v73 ZdV) z98 else(ZlH F p0 p1 v73 ZdV) v75) else ZdV (ZP (v73 + 1),v75)) else Zk7 (ZP (v61 + 1),v75))
def ZpH (F:Nat) (p0:Store) (p1:Int):Int×(List Int) ->(Int×(List Int) ->Option (List Int)) ->Option (List Int):=fun(v61,v63) Zk7=>
 (bif decide (v61 < p0.machines) then loop F (ZpG F p0 p1 v61 Zk7) (0,v63) else(ZfR F p0 p1) v63)
def ZvH (F:Nat) (p0:Store) (p1:Int):Option (List Int):=
 loop F (ZpH F p0 p1) (0,[])
def Ziw (v7:Int) (Un:(Int ->Option Bool)):Unit ->Option Bool:=fun _=>
 Un (ZP (v7 + 1))
def Zix (p0:Store) (p1:Int) (p2:Int) (v7:Int) (Un:(Int ->Option Bool)):Int×Bool×Int×Int×Bool×Int×Int×Int×Bool ->(Int×Bool×Int×Int×Bool×Int×Int×Int×Bool ->Option Bool) ->Option Bool:=fun(v26,v29,v34,v36,v37,v38,v39,v40,v41) Zuo=>
 (bif decide (v34 < p0.machines) then(bif(v26==p2) then(Ziw v7 Un) () else(bif((!v29) || (decide (v38 < 0))) then some false else(Zav p0.cells (Zf.mk v38 p1) (Za.mk 0 false 0 0 0 false)).bind fun x43=>Zuo (v38,x43.2,ZP (v34 + 1),x43.1.name,x43.1.root,x43.1.from_,x43.1.has,x43.1.out,x43.1.use))) else(bif(v26 !=p2) then some false else(Ziw v7 Un) ()))
def Ziy (F:Nat) (p0:Store) (p1:Int) (p2:Int):Int ->(Int ->Option Bool) ->Option Bool:=fun v7 Un=>
 (bif decide (v7 < p0.machines) then(Zav p0.cells (Zf.mk v7 p1) (Za.mk 0 false 0 0 0 false)).bind fun x17=>(bif(!x17.2) then(Ziw v7 Un) () else loop F (Zix p0 p1 p2 v7 Un) (v7,x17.2,0,x17.1.name,x17.1.root,x17.1.from_,x17.1.has,x17.1.out,x17.1.use)) else some true)
def ZsE (F:Nat) (p0:Store) (p1:Int) (p2:Int):Option Bool:=
 loop F (Ziy F p0 p1 p2) 0
end Go.Proofs.Ytekpjgmhkkjhgaa
end
section
set_option maxRecDepth 20000
noncomputable section
namespace Go.Proofs.Ytekpjgmhkkjhgaa
open Go.YD Go.Lf
theorem ZCx {F wm:Nat} {h:H} {p0 p1:(List Yp)} {Zv:Option Addr} {Zu:Nat} {Yz:Option Addr} {Yy:Nat} {r:Bool} (ZK:wm <=h.size) (ZM:Sl Z9 wm h Zv Zu p0) (Jd:Sl Z9 wm h Yz Yy p1) (hL:ZsF F p0 p1=some r):
 WR XX 80 #[.slice Zv p0.length Zu,.slice Yz p1.length Yy] wm h (CP (fun(v:Value) (Gb:List (Ast wm))=>v= .bool r∧Gb= []) [] h):=by
 refine bg Try.ntmps80 ZK Z0.nil ?_;intro T hT hS;unfold ZsF at hL;refine UU ?_;refine r3 ?_;refine cn hL ?_ ?_
 ·intro hc hL;refine r6 ?_;refine r1 ?_;exact rt hL hT hS
 ·intro hc hL;refine r8 ?_;refine r3 ?_;refine WC.loop (WL.lift hL (fun(v6:Int) (s:Fs)=>∃ (JD:Fr) (h1:H),s= ⟨JD,[],h1,none⟩∧Sp wm T h [] h1∧JD.at 0= .slice Zv p0.length Zu∧JD.at 1= .slice Yz p1.length Yy∧JD.at 12= .int .i64 (p0.length:Int)∧JD.at 13= .int .i64 v6) ⟨_,_,rfl,hS.only .n,Xa⟩ ?_);clear hL hS;rintro ZgH v6 s Zio hL ⟨JD,h1,rfl,hS,e3,e4,e5,e7⟩;dsimp only [ZlI] at hL;refine r6 ?_;refine cn hL ?_ ?_
  ·intro hc hL;refine r8 ?_;refine r3 ?_;refine WC.Yt mixed Kq0 ?_;refine r2 ?_;obtain⟨x9,hx9,hL⟩:=bind_some hL;obtain⟨b10,o11,_,Znx,ZnC,Znz,ZAi⟩:=Sl.at_ ZM hx9;refine WX.w gN rfl (Yb Qj YU lk lk rfl Znx hx9) ?_ rfl;refine WX.w gN rfl (Yo ZcR YU (Zk fh rfl) (At.fz hS.fz Znz ZnC) (j:=0) rfl rfl (ws:= [.int .i64 x9.at_,.int .i64 x9.name]) rfl) ?_ rfl;refine r2 ?_;obtain⟨x12,Zju,hL⟩:=bind_some hL;obtain⟨b13,o14,_,Znw,ZnB,Zny,Zvj⟩:=Sl.at_ Jd Zju;refine WX.w gN rfl (Yb Qj YU lk lk rfl Znw Zju) ?_ rfl;refine WX.w gN rfl (Yo ZcR YU (Zk fh rfl) (At.fz hS.fz Zny ZnB) (j:=0) rfl rfl (ws:= [.int .i64 x12.at_,.int .i64 x12.name]) rfl) ?_ rfl;refine WX.w gN rfl (ZR (Zk (ZV rfl fh) rfl) (Zk fh rfl) (ZoA (xs:= [.int .i64 x9.at_,.int .i64 x9.name]) (ys:= [.int .i64 x12.at_,.int .i64 x12.name]) (Zrv x9 x12) rfl rfl)) ?_ rfl;refine r2 ?_;refine cn hL ?_ ?_
   ·intro hc hL;refine r8 ?_;refine r3 ?_;exact rt hL hT hS
   ·intro hc hL;refine r6 ?_;refine r1 ?_;exact Yk.Z4 (Zio _ _ hL ⟨_,_,rfl,hS.only .n,Xa⟩)
  ·intro hc hL;refine r8 ?_;refine r3 ?_;exact rt hL hT hS
theorem ZCy {F:Nat} {h:H} {p0 p1:(List Yp)} {Zv:Option Addr} {Zu:Nat} {Yz:Option Addr} {Yy:Nat} {r:Bool} (ZM:Sl Z9 h.size h Zv Zu p0) (Jd:Sl Z9 h.size h Yz Yy p1) (hL:ZsF F p0 p1=some r):Pure XX 80 #[.slice Zv p0.length Zu,.slice Yz p1.length Yy] h (.bool r):=
 WR.QO rfl (ZCx (Nat.le_refl _) ZM Jd hL)
theorem ZvK {wm:Nat} {h:H} {p0:(List Zd)} {Zv:Option Addr} {Zu:Nat} {r:(List Zd)} (ZK:wm <=h.size) (ZM:Sl Zi wm h Zv Zu p0) (hL:ZpK p0=some r):
 WR XX 86 #[.slice Zv p0.length Zu] wm h (CP (fun(v:Value) (Gb:List (Ast wm))=>∃ (XI:Option Addr) (Qc:Nat) (XH:Nat),v= .slice XI Qc XH∧Gb= [ow wm Zi XI Qc XH r]) [] h):=by
 refine bg Try.ntmps86 ZK Z0.nil ?_;intro T hT hS;unfold ZpK at hL;refine r8 ?_;rcases Sl.cases ZM with⟨rfl,rfl,rfl⟩ | ⟨qa,rfl⟩
 ·
  refine r1 ?_;refine WO.w gN rfl (ZR (Zk fh rfl) (XG rfl) (Zgr Ul)) ?_;refine r2 ?_;refine WC.Zmf lk rfl ?_;rw [Zqe _ (by decide)] at hL;replace hL:some []=some r:=hL;refine r6 ?_;refine r1 ?_;have hS:=hS.nil (e:=Zi);have hr:=Oi0 hL;subst hr;exact ZW.XY rfl (Zy lk Zm) ⟨_,⟨none,0,0,rfl,rfl⟩,hT ▸ hS.only (.c k0 .n)⟩
 ·
  refine r1 ?_;refine WO.w gN rfl (ZR (Zk fh rfl) (XG rfl) (Zgs Ul)) ?_;refine r2 ?_;refine WC.Zef lk rfl ?_;refine r4 ?_;refine WO.hn gN rfl (Zg5 (e:=Zi) hS Ul XT Zfi rfl rfl rfl ZI rfl [] rfl (xs:= ([]:List Zd)) rfl (by intro q hq;cases hq) rfl) ?_;rintro _ h2 ⟨b1,eb1,rfl,hS⟩;refine r1 ?_;obtain⟨z3,hz3,hL⟩:=bind_some hL;refine WO.hv gN rfl (Zey (e:=Zi) hS k0 Zi7 lk lk (Sl.src (hS.sl ZM)) rfl hz3) ?_;rintro _ h6 ⟨a4,c5,rfl,hS⟩;refine r4 ?_;have hr:=Oi0 hL;subst hr;exact ZW.XY rfl (Zy lk Zm) ⟨_,⟨a4,z3.length,c5,rfl,rfl⟩,hT ▸ hS.only (.c k0 .n)⟩
theorem ZvJ {wm:Nat} {h:H} {p0:(List Int)} {Zv:Option Addr} {Zu:Nat} {r:(List Int)} (ZK:wm <=h.size) (ZM:Sl (ZO .i64) wm h Zv Zu p0) (hL:ZpJ p0=some r):
 WR XX 87 #[.slice Zv p0.length Zu] wm h (CP (fun(v:Value) (Gb:List (Ast wm))=>∃ (XI:Option Addr) (Qc:Nat) (XH:Nat),v= .slice XI Qc XH∧Gb= [ow wm (ZO .i64) XI Qc XH r]) [] h):=by
 refine bg Try.ntmps87 ZK Z0.nil ?_;intro T hT hS;unfold ZpJ at hL;refine r8 ?_;rcases Sl.cases ZM with⟨rfl,rfl,rfl⟩ | ⟨qa,rfl⟩
 ·
  refine r1 ?_;refine WO.w gN rfl (ZR (Zk fh rfl) (XG rfl) (Zgr Qk)) ?_;refine r2 ?_;refine WC.Zmf lk rfl ?_;rw [Zqe _ (by decide)] at hL;replace hL:some []=some r:=hL;refine r6 ?_;refine r1 ?_;have hS:=hS.nil (e:= (ZO .i64));have hr:=Oi0 hL;subst hr;exact ZW.XY rfl (Zy lk Zm) ⟨_,⟨none,0,0,rfl,rfl⟩,hT ▸ hS.only (.c k0 .n)⟩
 ·
  refine r1 ?_;refine WO.w gN rfl (ZR (Zk fh rfl) (XG rfl) (Zgs Qk)) ?_;refine r2 ?_;refine WC.Zef lk rfl ?_;refine r4 ?_;refine WO.hn gN rfl (Zg5 (e:= (ZO .i64)) hS Qk Y4 Wv rfl rfl rfl ZI rfl [] rfl (xs:= ([]:List Int)) rfl (by intro q hq;cases hq) rfl) ?_;rintro _ h2 ⟨b1,eb1,rfl,hS⟩;refine r1 ?_;obtain⟨z3,hz3,hL⟩:=bind_some hL;refine WO.hv gN rfl (Zey (e:= (ZO .i64)) hS k0 Ze3 lk lk (Sl.src (hS.sl ZM)) rfl hz3) ?_;rintro _ h6 ⟨a4,c5,rfl,hS⟩;refine r4 ?_;have hr:=Oi0 hL;subst hr;exact ZW.XY rfl (Zy lk Zm) ⟨_,⟨a4,z3.length,c5,rfl,rfl⟩,hT ▸ hS.only (.c k0 .n)⟩
theorem ZCu {F wm:Nat} {h:H} {p0:Store} {p1:Int} {ZN:Option Nat} {Zt:Option Addr} {Zr:Nat} {ZH:Option Addr} {ZG Xw U7:Nat} {r:(List Int)} (ZK:wm <=h.size) (Y7:At h Xw U7 [.int .i64 p0.machines,.int .i64 p0.names,.map ZN,.slice Zt p0.notes.length Zr,.slice ZH p0.freed.length ZG]) (Y6:Stb wm h Xw) (ZM:UM Zh Zn wm h ZN p0.cells) (YA:Sl Zi wm h Zt Zr p0.notes) (YC:Sl (ZO .i64) wm h ZH ZG p0.freed) (hL:ZvH F p0 p1=some r):
 WR XX 90 #[.pointer (some ⟨Xw,U7,none⟩),.int .i64 p1] wm h (CP (fun(v:Value) (Gb:List (Ast wm))=>∃ (XI:Option Addr) (Qc:Nat) (XH:Nat),v= .slice XI Qc XH∧Gb= [ow wm (ZO .i64) XI Qc XH r]) [] h):=by
 refine WF.Zgk (args:= [_,_]) (fn:=Try.f90) Kq0 (by exact rfl) Try.ntmps90 (by simp) ?_;simp only [ZC,ZJ,Nat.reduceAdd];obtain⟨T,hT,hS⟩:∃ T,T=XO (wm:=wm) []∧Sp wm T h [] h:= ⟨_,rfl,Sp.start ZK Z0.nil⟩
 unfold ZvH at hL;refine r3 ?_;rintro _ h2 ⟨b1,eb1,rfl,hS⟩;refine r6 ?_;rintro _ h4 ⟨b3,eb3,rfl,hS⟩;refine r6 ?_;refine WO.inl gN rfl (Y1.fn Zu2 (Zc lk Zl)) (WF.begin (args:= [_]) (fn:=Try.f71) Kq0 (by exact rfl) Try.ntmps71 (by simp) ?_);simp only [ZC,ZJ,Nat.reduceAdd];refine r3 ?_;rintro _ h6 ⟨b5,eb5,rfl,hS⟩;refine r4 ?_;refine r1 ?_;refine WO.w gN rfl (ZbW (Zc lk Zl)) ?_;refine r4 ?_;refine ZW.XY rfl (Zy lk Zm) ?_;refine r3 ?_;refine WC.Zo2 (first:= []) (cap:= [.pointer (some ⟨b5,0,none⟩)]) hS lk Zpx ?_;intro h7 l8 df9 Zzq Zq6 hS;refine WR.Znm (r:=r) (fun(v14:(List Int)) (v:Value) (h12:H)=>∃ (a15:Option Addr) (c16:Nat) (n17:Nat),v= .tuple [].toArray∧Sp wm T h [bx wm b1 [.int .i64 p1],ow wm (ZO .i64) a15 n17 c16 v14,bx wm b3 [.slice a15 n17 c16],bx wm b5 [.pointer (some ⟨Xw,U7,none⟩)],ob wm l8 Zzq,ob wm df9 .deferred] h12) (ZfR F p0 p1) ?_ (WF.begin (args:= [_,_]) (fn:=Try.f110) Kq0 (by exact rfl) Try.ntmps110 (by simp) ?_)
 ·clear hL hS;rintro v14 v h12 hL ⟨a15,c16,n17,rfl,hS⟩;obtain rfl:=hS.on k1;dsimp only [ZfR] at hL;refine RgE.sp Zq6 hS k4 ?_;rintro h18 hS;refine r8 ?_;refine WO.w gN rfl (ZL Zi9 (Zk fh rfl) (At.fz hS.fz Y6 Y7) (j:=3) rfl (v:= .slice Zt p0.notes.length Zr) rfl) ?_;refine r4 ?_;refine r1 ?_;refine WC.loop (WL.lift hL (fun(p:Int×(List Int)) (s:Fs)=>match p with | (v25,v27)=>∃ (K7:Fr) (h19:H) (a28:Option Addr) (c29:Nat) (n30:Nat),s= ⟨K7,[⟨.collected df9,#[]⟩],h19,none⟩∧Sp wm T h [bx wm b1 [.int .i64 p1],ow wm (ZO .i64) a28 n30 c29 v27,bx wm b3 [.slice a28 n30 c29],ob wm df9 .deferred] h19∧K7.at 3= .pointer (some ⟨b1,0,none⟩)∧K7.at 5= .pointer (some ⟨b3,0,none⟩)∧K7.at 29= .slice Zt p0.notes.length Zr∧K7.at 30= .int .i64 (p0.notes.length:Int)∧K7.at 31= .int .i64 v25) ⟨_,_,a15,c16,v14.length,rfl,hS.only (.c k0 (.c k0 (.c k0 (.c k1 .n)))),Xa⟩ ?_);clear hL hS;rintro Zfx ⟨v25,v27⟩ s Zx0 hL ⟨K7,h19,a28,c29,n30,rfl,hS,e21,e22,e23,e24,e26⟩;obtain rfl:=hS.on k1;dsimp only [ZiA] at hL;refine r6 ?_;refine cn hL ?_ ?_
  ·intro hc hL;refine r2 ?_;refine WC.Zal (r:=r) (fun(v39:(List Int)) (s:Fs)=>∃ (Zcx:Fr) (h32:H) (a40:Option Addr) (c41:Nat) (n42:Nat),s= ⟨Zcx,[⟨.collected df9,#[]⟩],h32,none⟩∧Sp wm T h [bx wm b1 [.int .i64 p1],ow wm (ZO .i64) a40 n42 c41 v39,bx wm b3 [.slice a40 n42 c41],ob wm df9 .deferred] h32∧Zcx.at 3= .pointer (some ⟨b1,0,none⟩)∧Zcx.at 5= .pointer (some ⟨b3,0,none⟩)∧Zcx.at 29= .slice Zt p0.notes.length Zr∧Zcx.at 30= .int .i64 (p0.notes.length:Int)∧Zcx.at 31= .int .i64 v25) (Ziz v25 Zfx) ?_ ?_
   ·clear hL hS;rintro v39 s hL ⟨Zcx,h32,a40,c41,n42,rfl,hS,e34,e35,e36,e37,e38⟩;obtain rfl:=hS.on k1;dsimp only [Ziz] at hL;refine r4 ?_;exact Yk.Z4 (Zx0 _ _ hL ⟨_,_,a40,c41,v39.length,rfl,hS.only (.c k0 (.c k0 (.c k0 (.c k0 .n)))),Xa⟩)
   ·skip;refine r3 ?_;obtain⟨x43,Zpi,hL⟩:=bind_some hL;obtain⟨b44,o45,_,Zvf,Zvn,Zvk,ZFQ⟩:=Sl.at_ YA Zpi;refine WO.w gN rfl (Yb Ul XT lk lk rfl Zvf Zpi) ?_;refine WO.w gN rfl (Yo Ze7 XT (Zk fh rfl) (At.fz hS.fz Zvk Zvn) (j:=0) rfl rfl (ws:= [.int .i64 x43.kind,.int .i64 x43.Zx,.int .i64 x43.name,.int .i64 x43.via,.int .i64 x43.w]) rfl) ?_;refine r1 ?_;rintro _ h47 ⟨b46,ZKf,rfl,hS⟩;refine r1 ?_;rintro h48 hS;refine UU ?_;refine r3 ?_;refine cn hL ?_ ?_
    ·intro hc hL;refine r4 ?_;refine WO.hn gN rfl (Zg5 (e:= (ZO .i64)) hS Qk Y4 Wv rfl rfl rfl (Zj lk ZI) rfl [((),x43.Zx)] rfl (xs:= [x43.Zx]) rfl (by intro q hq;simp only [List.mem_cons,List.not_mem_nil,or_false] at hq;subst hq;exact trivial) rfl) ?_;rintro _ h50 ⟨b49,ZKe,rfl,hS⟩;obtain⟨z51,ZIz,hL⟩:=bind_some hL;refine WO.hv gN rfl (Zey (e:= (ZO .i64)) hS k3 Ze3 lk lk (hS.Jv k0) (hS.on k0) ZIz) ?_;rintro _ h54 ⟨a52,c53,rfl,hS⟩;refine r1 ?_;rintro h55 hS;refine r2 ?_;exact YI.Z4 _ hL ⟨_,_,a52,c53,z51.length,rfl,hS.only (.c k4 (.c k1 (.c k0 (.c k2 .n)))),Xa⟩
    ·intro hc hL;refine r2 ?_;exact YI.Z4 _ hL ⟨_,_,a28,c29,v27.length,rfl,hS.only (.c k1 (.c k1 (.c k1 (.c k1 .n)))),Xa⟩
  ·intro hc hL;refine UU ?_;refine Qb.ZCX hS k3 ?_;rintro h56 hS;have hr:=Oi0 hL;subst hr;exact Qb.gen rfl (Zy lk Zm) rfl ⟨_,⟨a28,v27.length,c29,rfl,rfl⟩,hT ▸ hS.only (.c k1 .n)⟩
 ·skip;simp only [ZC,ZJ,Nat.reduceAdd];refine r6 ?_;have hS:=hS.nil (e:= (ZO .i64));refine WC.loop (WL.lift hL (fun(p:Int×(List Int)) (s:Fs)=>match p with | (v61,v63)=>∃ (ZvB:Fr) (h57:H) (a64:Option Addr) (c65:Nat) (n66:Nat),s= ⟨ZvB,[],h57,none⟩∧Sp wm T h [bx wm b5 [.pointer (some ⟨Xw,U7,none⟩)],bx wm b1 [.int .i64 p1],ow wm (ZO .i64) a64 n66 c65 v63,bx wm b3 [.slice a64 n66 c65],ob wm l8 Zzq,ob wm df9 .deferred] h57∧ZvB.at 0= .func (.yield l8) #[] #[]∧ZvB.at 1= .pointer (some ⟨b5,0,none⟩)∧ZvB.at 3= .int .i64 v61) ⟨_,_,none,0,0,rfl,hS.only (.c k3 (.c k4 (.c k0 (.c k2 (.c k0 (.c k0 .n)))))),Xa⟩ ?_);clear hL hS;rintro Zk7 ⟨v61,v63⟩ s ZxS hL ⟨ZvB,h57,a64,c65,n66,rfl,hS,e59,e60,e62⟩;obtain rfl:=hS.on k2;dsimp only [ZpH] at hL;refine r6 ?_;refine r1 ?_;refine WO.w gN rfl (ZL Xk (Zk fh rfl) (At.fz hS.fz Y6 Y7) (j:=0) rfl (v:= .int .i64 p0.machines) rfl) ?_;refine r3 ?_;refine cn hL ?_ ?_
  ·intro hc hL;refine r8 ?_;refine r2 ?_;refine WC.loop (WL.lift hL (fun(p:Int×(List Int)) (s:Fs)=>match p with | (v73,v75)=>∃ (Zsx:Fr) (h68:H) (a76:Option Addr) (c77:Nat) (n78:Nat),s= ⟨Zsx,[],h68,none⟩∧Sp wm T h [bx wm b5 [.pointer (some ⟨Xw,U7,none⟩)],bx wm b1 [.int .i64 p1],ow wm (ZO .i64) a76 n78 c77 v75,bx wm b3 [.slice a76 n78 c77],ob wm l8 Zzq,ob wm df9 .deferred] h68∧Zsx.at 0= .func (.yield l8) #[] #[]∧Zsx.at 1= .pointer (some ⟨b5,0,none⟩)∧Zsx.at 3= .int .i64 v61∧Zsx.at 4= .int .i64 v73) ⟨_,_,a64,c65,v63.length,rfl,hS.only (.c k0 (.c k0 (.c k0 (.c k0 (.c k0 (.c k0 .n)))))),Xa⟩ ?_);clear hL hS;rintro ZdV ⟨v73,v75⟩ s ZqY hL ⟨Zsx,h68,a76,c77,n78,rfl,hS,e70,e71,e72,e74⟩;obtain rfl:=hS.on k2;dsimp only [ZpG] at hL;refine r6 ?_;refine r1 ?_;refine WO.w gN rfl (ZL Xk (Zk fh rfl) (At.fz hS.fz Y6 Y7) (j:=1) rfl (v:= .int .i64 p0.names) rfl) ?_;refine r3 ?_;refine cn hL ?_ ?_
   ·intro hc hL;refine r8 ?_;refine r1 ?_;refine WO.w gN rfl (ZL ZgZ (Zk fh rfl) (At.fz hS.fz Y6 Y7) (j:=2) rfl (v:= .map ZN) rfl) ?_;refine r2 ?_;refine WO.w gN rfl (Xi X8 (Zj lk (Zj lk ZI)) rfl (cs':= [.int .i64 v61,.int .i64 v73]) rfl) ?_;obtain⟨x80,ZBb,hL⟩:=bind_some hL;refine WO.w gN rfl (Zah (kv:=Zh) (vv:=Zn) (k:= (Zf.mk v61 v73)) (z:= (Za.mk 0 false 0 0 0 false)) YW Uk UD (Zk (ZB rfl (Ze rfl fh)) rfl) (Zk fh rfl) (hS.ms ZM).at_ ZBb (w:= .agg [.int .i64 x80.1.name,.bool x80.1.root,.int .i64 x80.1.from_,.int .i64 x80.1.has,.int .i64 x80.1.out,.bool x80.1.use].toArray) rfl) ?_;refine r4 ?_;rintro _ h82 ⟨b81,ZOw,rfl,hS⟩;refine r1 ?_;rintro h83 hS;refine r8 ?_;refine r2 ?_;refine WO.Zlp (Zg.yes rfl rfl rfl (ZB rfl (Ze rfl fh))) (fun Zg7=>?_) (fun Zg7=>?_)
    ·replace hL:=Y2 Zg7 hL;refine WO.ZAF (Zg.on (Zg.yes rfl rfl rfl (ZB rfl (Ze rfl fh))) Zg7) rfl (Xm (ZB rfl fh) rfl Zg7) (Zc (Xm (Ze rfl fh) rfl Zg7) (Zc (Xm fh rfl Zg7) Zl)) hS k5 Zq6 rfl rfl ?_;refine r6 ?_;refine r1 ?_;rintro _ h86 ⟨b85,ZOv,rfl,hS⟩;refine r1 ?_;rintro h87 hS;refine r1 ?_;refine AsK.sp Zq6 hS k6 ?_;rintro h88 hS;refine WC.jn (r:=r) (fun(v91:(List Int)) (s:Fs)=>∃ (ZGE:Fr) (h89:H) (a92:Option Addr) (c93:Nat) (n94:Nat),s= ⟨ZGE,[],h89,none⟩∧Sp wm T h [bx wm b1 [.int .i64 p1],ow wm (ZO .i64) a92 n94 c93 v91,bx wm b3 [.slice a92 n94 c93],bx wm b5 [.pointer (some ⟨Xw,U7,none⟩)],bx wm b81 [.int .i64 x80.1.name,.bool x80.1.root,.int .i64 x80.1.from_,.int .i64 x80.1.has,.int .i64 x80.1.out,.bool x80.1.use],ob wm l8 (bsy Zzq),ob wm df9 .deferred] h89) (ZlH F p0 p1 v73 ZdV) ?_ ?_
     ·clear hL hS;rintro v91 s hL ⟨ZGE,h89,a92,c93,n94,rfl,hS⟩;obtain rfl:=hS.on k1;dsimp only [ZlH] at hL;refine BdK.sp Zq6 hS k5 ?_;rintro h95 hS;refine WO.w (Zg.on (Zg.yes rfl rfl rfl (ZV rfl fh)) Zg7) rfl (Zag lk) ?_;refine WO.w gN rfl (Zmm lk Zg7 lk) ?_;refine r2 ?_;refine cn hL ?_ ?_
      ·intro hc hL;refine r8 ?_;refine r1 ?_;exact ZW.gen (vs:= []) rfl Zm rfl ⟨_,hL,⟨a92,c93,v91.length,rfl,hS.only (.c k1 (.c k1 (.c k1 (.c k1 (.c k0 (.c k1 .n))))))⟩⟩
      ·intro hc hL;refine r8 ?_;exact Yk.Z4 (ZqY _ _ hL ⟨_,_,a92,c93,v91.length,rfl,hS.only (.c k4 (.c k1 (.c k1 (.c k1 (.c k0 (.c k1 .n)))))),Xa⟩)
     ·skip;refine UU ?_;refine r1 ?_;refine cn hL ?_ ?_
      ·intro hc hL;refine r3 ?_;refine WO.hn gN rfl (Zg5 (e:= (ZO .i64)) hS Qk Y4 Wv rfl rfl rfl (Zj lk ZI) rfl [((),v61)] rfl (xs:= [v61]) rfl (by intro q hq;simp only [List.mem_cons,List.not_mem_nil,or_false] at hq;subst hq;exact trivial) rfl) ?_;rintro _ h97 ⟨b96,ZOr,rfl,hS⟩;obtain⟨z98,ZIv,hL⟩:=bind_some hL;refine WO.hv gN rfl (Zey (e:= (ZO .i64)) hS k6 Ze3 lk lk (hS.Jv k0) (hS.on k0) ZIv) ?_;rintro _ ZGB ⟨a99,ZKE,rfl,hS⟩;refine r1 ?_;rintro ZCn hS;refine r2 ?_;exact JnK.Z4 _ hL ⟨_,_,a99,ZKE,z98.length,rfl,hS.only (.c k7 (.c k1 (.c k0 (.c k4 (.c k3 (.c k1 (.c k2 .n)))))))⟩
      ·intro hc hL;refine r2 ?_;exact JnK.Z4 _ hL ⟨_,_,a76,c77,v75.length,rfl,hS.only (.c k4 (.c k4 (.c k4 (.c k3 (.c k2 (.c k0 (.c k1 .n)))))))⟩
    ·replace hL:=Y3 Zg7 hL;refine WO.Zne (Zg.yes rfl rfl rfl (ZB rfl (Ze rfl fh))) Zg7 rfl ?_;refine WO.Zne (Zg.yes rfl rfl rfl (ZV rfl fh)) Zg7 rfl ?_;refine WO.w gN rfl (Zmn lk Zg7 lk) ?_;refine r2 ?_;refine WC.Zef lk rfl ?_;refine r8 ?_;exact Yk.Z4 (ZqY _ _ hL ⟨_,_,a76,c77,v75.length,rfl,hS.only (.c k1 (.c k1 (.c k1 (.c k1 (.c k1 (.c k1 .n)))))),Xa⟩)
   ·intro hc hL;refine r8 ?_;refine r3 ?_;exact Yk.Z4 (ZxS _ _ hL ⟨_,_,a76,c77,v75.length,rfl,hS.only (.c k0 (.c k0 (.c k0 (.c k0 (.c k0 (.c k0 .n)))))),Xa⟩)
  ·intro hc hL;refine r4 ?_;refine ZW.Z4 ?_;exact ZW.gen (vs:= []) rfl Zm rfl ⟨_,hL,⟨a64,c65,v63.length,rfl,hS.only (.c k1 (.c k1 (.c k1 (.c k0 (.c k0 (.c k0 .n))))))⟩⟩
theorem ZCs {F wm:Nat} {h:H} {p0:Store} {p1 p2:Int} {ZN:Option Nat} {Zt:Option Addr} {Zr:Nat} {ZH:Option Addr} {ZG Xw U7:Nat} {r:Bool} (ZK:wm <=h.size) (Y7:At h Xw U7 [.int .i64 p0.machines,.int .i64 p0.names,.map ZN,.slice Zt p0.notes.length Zr,.slice ZH p0.freed.length ZG]) (Y6:Stb wm h Xw) (ZM:UM Zh Zn wm h ZN p0.cells) (YA:Sl Zi wm h Zt Zr p0.notes) (YC:Sl (ZO .i64) wm h ZH ZG p0.freed) (hL:ZsE F p0 p1 p2=some r):
 WR XX 91 #[.pointer (some ⟨Xw,U7,none⟩),.int .i64 p1,.int .i64 p2] wm h (CP (fun(v:Value) (Gb:List (Ast wm))=>v= .bool r∧Gb= []) [] h):=by
 refine bg Try.ntmps91 ZK Z0.nil ?_;intro T hT hS;unfold ZsE at hL;refine r4 ?_;refine r1 ?_;refine WC.scope ?_;refine r1 ?_;refine WC.label ?_;refine r6 ?_;refine r1 ?_;refine WO.w gN rfl (ZL Xk (Zk fh rfl) (At.fz hS.fz Y6 Y7) (j:=0) rfl (v:= .int .i64 p0.machines) rfl) ?_;refine r4 ?_;refine WC.loop (WL.lift hL (fun(v7:Int) (s:Fs)=>∃ (JD:Fr) (h1:H),s= ⟨JD,[],h1,none⟩∧Sp wm T h [] h1∧JD.at 0= .pointer (some ⟨Xw,U7,none⟩)∧JD.at 1= .int .i64 p1∧JD.at 2= .int .i64 p2∧JD.at 13= .int .i64 p0.machines∧JD.at 14= .int .i64 v7) ⟨_,_,rfl,hS.only .n,Xa⟩ ?_);clear hL hS;rintro Un v7 s Zin hL ⟨JD,h1,rfl,hS,e3,e4,e5,e6,e8⟩;dsimp only [Ziy] at hL;refine r6 ?_;refine cn hL ?_ ?_
 ·intro hc hL;refine r2 ?_;refine WC.Zal (r:=r) (fun(_:Unit) (s:Fs)=>∃ (U9:Fr) (h10:H),s= ⟨U9,[],h10,none⟩∧Sp wm T h [] h10∧U9.at 0= .pointer (some ⟨Xw,U7,none⟩)∧U9.at 1= .int .i64 p1∧U9.at 2= .int .i64 p2∧U9.at 13= .int .i64 p0.machines∧U9.at 14= .int .i64 v7) (Ziw v7 Un) ?_ ?_
  ·clear hL hS;rintro _ s hL ⟨U9,h10,rfl,hS,e12,e13,e14,e15,e16⟩;dsimp only [Ziw] at hL;refine r4 ?_;exact Yk.Z4 (Zin _ _ hL ⟨_,_,rfl,hS.only .n,Xa⟩)
  ·skip;refine UU ?_;refine WO.w gN rfl (ZL ZgZ (Zk fh rfl) (At.fz hS.fz Y6 Y7) (j:=2) rfl (v:= .map ZN) rfl) ?_;refine r2 ?_;refine WO.w gN rfl (Xi X8 (Zj lk (Zj lk ZI)) rfl (cs':= [.int .i64 v7,.int .i64 p1]) rfl) ?_;obtain⟨x17,ZBk,hL⟩:=bind_some hL;refine WO.w gN rfl (Zah (kv:=Zh) (vv:=Zn) (k:= (Zf.mk v7 p1)) (z:= (Za.mk 0 false 0 0 0 false)) YW Uk UD (Zk (ZB rfl (Ze rfl fh)) rfl) (Zk fh rfl) (hS.ms ZM).at_ ZBk (w:= .agg [.int .i64 x17.1.name,.bool x17.1.root,.int .i64 x17.1.from_,.int .i64 x17.1.has,.int .i64 x17.1.out,.bool x17.1.use].toArray) rfl) ?_;refine r4 ?_;rintro _ h19 ⟨b18,ZOO,rfl,hS⟩;refine r1 ?_;rintro h20 hS;refine r8 ?_;refine r2 ?_;refine cn hL ?_ ?_
   ·intro hc hL;refine r3 ?_;exact YI.Z4 _ hL ⟨_,_,rfl,hS.only .n,Xa⟩
   ·intro hc hL;refine r8 ?_;refine WO.w gN rfl (ZL Xk (Zk fh rfl) (At.fz hS.fz Y6 Y7) (j:=0) rfl (v:= .int .i64 p0.machines) rfl) ?_;refine r4 ?_;refine WC.loop (WL.lift hL (fun(p:Int×Bool×Int×Int×Bool×Int×Int×Int×Bool) (s:Fs)=>match p with | (v26,v29,v34,v36,v37,v38,v39,v40,v41)=>∃ (Zhb:Fr) (h21:H),s= ⟨Zhb,[],h21,none⟩∧Sp wm T h [bx wm b18 [.int .i64 v36,.bool v37,.int .i64 v38,.int .i64 v39,.int .i64 v40,.bool v41]] h21∧Zhb.at 0= .pointer (some ⟨Xw,U7,none⟩)∧Zhb.at 1= .int .i64 p1∧Zhb.at 2= .int .i64 p2∧Zhb.at 7= .int .i64 v26∧Zhb.at 8= .pointer (some ⟨b18,0,none⟩)∧Zhb.at 9= .bool v29∧Zhb.at 13= .int .i64 p0.machines∧Zhb.at 14= .int .i64 v7∧Zhb.at 33= .int .i64 p0.machines∧Zhb.at 34= .int .i64 v34) ⟨_,_,rfl,hS.only (.c k0 .n),Xa⟩ ?_);clear hL hS;rintro Zuo ⟨v26,v29,v34,v36,v37,v38,v39,v40,v41⟩ s ZxX hL ⟨Zhb,h21,rfl,hS,e23,e24,e25,e27,e28,e30,e31,e32,e33,e35⟩;dsimp only [Zix] at hL;refine r6 ?_;refine cn hL ?_ ?_
    ·intro hc hL;refine UU ?_;refine cn hL ?_ ?_
     ·intro hc hL;refine r2 ?_;refine Qh.other rfl ?_;refine r2 ?_;refine Qh.other rfl ?_;refine r2 ?_;exact YI.Z4 _ hL ⟨_,_,rfl,hS.only .n,Xa⟩
     ·intro hc hL;refine UU ?_;refine r2 ?_;refine cn hL ?_ ?_
      ·intro hc hL;refine UU ?_;refine r1 ?_;refine YI.ret ?_;refine r3 ?_;refine Ztn.ret ?_;exact rt hL hT hS
      ·intro hc hL;refine UU ?_;refine r1 ?_;refine WO.w gN rfl (ZL ZgZ (Zk fh rfl) (At.fz hS.fz Y6 Y7) (j:=2) rfl (v:= .map ZN) rfl) ?_;refine r2 ?_;refine WO.w gN rfl (Xi X8 (Zj lk (Zj lk ZI)) rfl (cs':= [.int .i64 v38,.int .i64 p1]) rfl) ?_;obtain⟨x43,Zpi,hL⟩:=bind_some hL;refine WO.w gN rfl (Zah (kv:=Zh) (vv:=Zn) (k:= (Zf.mk v38 p1)) (z:= (Za.mk 0 false 0 0 0 false)) YW Uk UD (Zk (ZB rfl (Ze rfl fh)) rfl) (Zk fh rfl) (hS.ms ZM).at_ Zpi (w:= .agg [.int .i64 x43.1.name,.bool x43.1.root,.int .i64 x43.1.from_,.int .i64 x43.1.has,.int .i64 x43.1.out,.bool x43.1.use].toArray) rfl) ?_;refine r4 ?_;rintro h44 hS;refine r8 ?_;exact Yk.Z4 (ZxX _ _ hL ⟨_,_,rfl,hS.only (.c k0 .n),Xa⟩)
    ·intro hc hL;refine UU ?_;refine cn hL ?_ ?_
     ·intro hc hL;refine r6 ?_;refine r1 ?_;refine YI.ret ?_;refine r3 ?_;refine Ztn.ret ?_;exact rt hL hT hS
     ·intro hc hL;refine r2 ?_;exact YI.Z4 _ hL ⟨_,_,rfl,hS.only .n,Xa⟩
 ·intro hc hL;refine r8 ?_;refine r3 ?_;refine Ztn.ret ?_;exact rt hL hT hS
theorem ZCt {F:Nat} {h:H} {p0:Store} {p1 p2:Int} {ZN:Option Nat} {Zt:Option Addr} {Zr:Nat} {ZH:Option Addr} {ZG Xw U7:Nat} {r:Bool} (Y7:At h Xw U7 [.int .i64 p0.machines,.int .i64 p0.names,.map ZN,.slice Zt p0.notes.length Zr,.slice ZH p0.freed.length ZG]) (Y6:Stb h.size h Xw) (ZM:UM Zh Zn h.size h ZN p0.cells) (YA:Sl Zi h.size h Zt Zr p0.notes) (YC:Sl (ZO .i64) h.size h ZH ZG p0.freed) (hL:ZsE F p0 p1 p2=some r):Pure XX 91 #[.pointer (some ⟨Xw,U7,none⟩),.int .i64 p1,.int .i64 p2] h (.bool r):=
 WR.QO rfl (ZCs (Nat.le_refl _) Y7 Y6 ZM YA YC hL)
end Go.Proofs.Ytekpjgmhkkjhgaa
end
end
section
namespace Go.Proofs.Ytekpjgmhkkjhgaa
open Go.Lf
def Zdh (p0:(List Int)) (p1:Int):Int ->(Int ->Option Int) ->Option Int:=fun v6 ZgH=>
 (bif decide (v6 < (p0.length:Int)) then(Ym p0 v6).bind fun x9=>(bif(p1==x9) then some v6 else ZgH (ZP (v6 + 1))) else some (-1))
def Zrq (F:Nat) (p0:(List Int)) (p1:Int):Option Int:=
 loop F (Zdh p0 p1) 0
end Go.Proofs.Ytekpjgmhkkjhgaa
end
section
set_option maxRecDepth 20000
noncomputable section
namespace Go.Proofs.Ytekpjgmhkkjhgaa
open Go.YD Go.Lf
theorem ZyM {F wm:Nat} {h:H} {p0:(List Int)} {p1:Int} {Zv:Option Addr} {Zu:Nat} {r:Int} (ZK:wm <=h.size) (ZM:Sl (ZO .i64) wm h Zv Zu p0) (hL:Zrq F p0 p1=some r):
 WR XX 112 #[.slice Zv p0.length Zu,.int .i64 p1] wm h (CP (fun(v:Value) (Gb:List (Ast wm))=>v= .int .i64 r∧Gb= []) [] h):=by
 refine bg Try.ntmps112 ZK Z0.nil ?_;intro T hT hS;unfold Zrq at hL;refine UU ?_;refine r2 ?_;refine WC.loop (WL.lift hL (fun(v6:Int) (s:Fs)=>∃ (JD:Fr) (h1:H),s= ⟨JD,[],h1,none⟩∧Sp wm T h [] h1∧JD.at 0= .slice Zv p0.length Zu∧JD.at 1= .int .i64 p1∧JD.at 7= .int .i64 (p0.length:Int)∧JD.at 8= .int .i64 v6) ⟨_,_,rfl,hS.only .n,Xa⟩ ?_);clear hL hS;rintro ZgH v6 s Zio hL ⟨JD,h1,rfl,hS,e3,e4,e5,e7⟩;dsimp only [Zdh] at hL;refine r6 ?_;refine cn hL ?_ ?_
 ·intro hc hL;refine UU ?_;refine r3 ?_;obtain⟨x9,hx9,hL⟩:=bind_some hL;obtain⟨b10,o11,_,Znx,ZnC,Znz,ZAi⟩:=Sl.at_ ZM hx9;refine WO.w gN rfl (Yb Qk Y4 lk lk rfl Znx hx9) ?_;refine WO.w gN rfl (ZL Xk (Zk fh rfl) (At.fz hS.fz Znz ZnC) (j:=0) rfl (v:= .int .i64 x9) rfl) ?_;refine r3 ?_;refine cn hL ?_ ?_
  ·intro hc hL;refine UU ?_;exact rt hL hT hS
  ·intro hc hL;refine r6 ?_;refine r1 ?_;exact Yk.Z4 (Zio _ _ hL ⟨_,_,rfl,hS.only .n,Xa⟩)
 ·intro hc hL;refine r8 ?_;refine r3 ?_;exact rt hL hT hS
end Go.Proofs.Ytekpjgmhkkjhgaa
end
end
section
namespace Go.Proofs.Ytekpjgmhkkjhgaa
open Go.Lf
def ZnV (p0:Store) (p1:Zo):Option (PR Unit):=
 (Zav p0.cells (Zf.mk p1.at_ p1.name) (Za.mk 0 false 0 0 0 false)).bind fun x3=>(bif(p1.ZT==1) then(bif decide (p0.names >=12) then some (.Ju 3) else some (.ok ())) else(bif(p1.ZT==5) then(bif decide (p1.at_ >= (p0.notes.length:Int)) then some (.Ju 5) else some (.ok ())) else(bif(p1.ZT==4) then(bif((!x3.2) || (!x3.1.root)) then some (.Ju 7) else some (.ok ())) else(bif((!x3.2) || (!x3.1.use)) then some (.Ju 7) else some (.ok ())))))
def ZaE (p0:Store) (p1:Zd):Option Store:=
 (app 40 p0.notes [p1]).bind fun z5=>some (Store.mk p0.machines p0.names p0.cells z5 p0.freed)
def ZnT (p0:(List Zd)) (p1:Int) (p2:Int):Option (List Zd):=
 (slL p0 p1 p2).bind fun z1=>(bif(p1==p2) then some p0 else(slL p0 0 p1).bind fun z4=>(slL p0 p2 (p0.length:Int)).bind fun z13=>(app 40 z4 z13).bind fun z17=>some z17)
def ZnS (p0:Int):Option Za:=
 some (Za.mk p0 false (-1) 0 0 false)
end Go.Proofs.Ytekpjgmhkkjhgaa
end
section
set_option maxRecDepth 20000
noncomputable section
namespace Go.Proofs.Ytekpjgmhkkjhgaa
open Go.YD Go.Lf
theorem Zrp {wm:Nat} {h:H} {p0:Store} {p1:Zo} {ZN:Option Nat} {Zt:Option Addr} {Zr:Nat} {ZH:Option Addr} {ZG Xw U7:Nat} {r:(PR Unit)} (ZK:wm <=h.size) (Y7:At h Xw U7 [.int .i64 p0.machines,.int .i64 p0.names,.map ZN,.slice Zt p0.notes.length Zr,.slice ZH p0.freed.length ZG]) (Y6:Stb wm h Xw) (ZM:UM Zh Zn wm h ZN p0.cells) (YA:Sl Zi wm h Zt Zr p0.notes) (YC:Sl (ZO .i64) wm h ZH ZG p0.freed) (hL:ZnV p0 p1=some r):
 WF XX 115 #[.pointer (some ⟨Xw,U7,none⟩),.agg [.int .i64 p1.ZT,.int .i64 p1.at_,.int .i64 p1.name,.int .i64 p1.Zx].toArray] wm h (PQ 32 (fun(r:Unit) (v:Value) (Gb:List (Ast wm))=>v= .tuple [].toArray∧Gb= []) [] h r):=by
 refine WF.Zgk (args:= [_,_]) (fn:=Try.f115) Kq0 (by exact rfl) Try.ntmps115 (by simp) ?_;simp only [ZC,ZJ,Nat.reduceAdd];obtain⟨T,hT,hS⟩:∃ T,T=XO (wm:=wm) []∧Sp wm T h [] h:= ⟨_,rfl,Sp.start ZK Z0.nil⟩
 unfold ZnV at hL;refine r3 ?_;rintro _ h2 ⟨b1,eb1,rfl,hS⟩;refine r3 ?_;refine WC.Yt mixed Kq0 ?_;refine r3 ?_;refine WX.w gN rfl (ZL ZgZ (Zk fh rfl) (At.fz hS.fz Y6 Y7) (j:=2) rfl (v:= .map ZN) rfl) ?_ rfl;refine r4 ?_;refine WX.w gN rfl (Xi X8 (Zj lk (Zj lk ZI)) rfl (cs':= [.int .i64 p1.at_,.int .i64 p1.name]) rfl) ?_ rfl;obtain⟨x3,hx3,hL⟩:=bind_some hL;refine WX.w gN rfl (Zah (kv:=Zh) (vv:=Zn) (k:= (Zf.mk p1.at_ p1.name)) (z:= (Za.mk 0 false 0 0 0 false)) YW Uk UD (Zk (ZV rfl (Ze rfl fh)) rfl) (Zk fh rfl) (hS.ms ZM).at_ hx3 (w:= .agg [.int .i64 x3.1.name,.bool x3.1.root,.int .i64 x3.1.from_,.int .i64 x3.1.has,.int .i64 x3.1.out,.bool x3.1.use].toArray) rfl) ?_ rfl;refine r3 ?_;refine WX.hn gN rfl (W9 hS UD (vs:= [.int .i64 0,.bool false,.int .i64 0,.int .i64 0,.int .i64 0,.bool false]) rfl) ?_ rfl;rintro _ h5 ⟨b4,eb4,rfl,hS⟩;refine WX.hu gN (Qe hS k0 JF lk lk (vs:= [.int .i64 x3.1.name,.bool x3.1.root,.int .i64 x3.1.from_,.int .i64 x3.1.has,.int .i64 x3.1.out,.bool x3.1.use]) rfl rfl rfl rfl (cs':= [.int .i64 x3.1.name,.bool x3.1.root,.int .i64 x3.1.from_,.int .i64 x3.1.has,.int .i64 x3.1.out,.bool x3.1.use]) rfl) ?_ rfl rfl [] Kq0 Yd.e;rintro h6 hS;refine WX.w gN rfl (Zw lk) ?_ Kq0;refine UU ?_;refine r3 ?_;refine cn hL ?_ ?_
 ·intro hc hL;refine r4 ?_;refine r1 ?_;refine WO.w gN rfl (ZL Xk (Zk fh rfl) (At.fz hS.fz Y6 Y7) (j:=1) rfl (v:= .int .i64 p0.names) rfl) ?_;refine r3 ?_;refine cn hL ?_ ?_
  ·intro hc hL;refine r1 ?_;refine WO.w gN rfl (Zgl lk Kq0) ?_;refine WO.pnc gN lk ?_;refine Qh.panic ?_;refine Qb.ofX ?_;refine Zbp.Ju ?_;have hr:=Oi0 hL;subst hr;exact⟨rfl,hT ▸ hS.only .n⟩
  ·intro hc hL;refine r2 ?_;refine Qb.Z4 ?_;have hr:=Oi0 hL;subst hr;exact Qb.Zvx rfl Zm rfl ⟨_,⟨rfl,rfl⟩,hT ▸ hS.only .n⟩
 ·intro hc hL;refine r6 ?_;refine cn hL ?_ ?_
  ·intro hc hL;refine r1 ?_;refine WC.Yt mixed Kq0 ?_;refine r4 ?_;refine r1 ?_;refine WX.w gN rfl (ZL Zi9 (Zk fh rfl) (At.fz hS.fz Y6 Y7) (j:=3) rfl (v:= .slice Zt p0.notes.length Zr) rfl) ?_ rfl;refine r4 ?_;refine cn hL ?_ ?_
   ·intro hc hL;refine r1 ?_;refine WO.w gN rfl (Zgl lk Kq0) ?_;refine WO.pnc gN lk ?_;refine Qh.panic ?_;refine Qb.ofX ?_;refine Zbp.Ju ?_;have hr:=Oi0 hL;subst hr;exact⟨rfl,hT ▸ hS.only .n⟩
   ·intro hc hL;refine r2 ?_;refine Qb.Z4 ?_;have hr:=Oi0 hL;subst hr;exact Qb.Zvx rfl Zm rfl ⟨_,⟨rfl,rfl⟩,hT ▸ hS.only .n⟩
  ·intro hc hL;refine r6 ?_;refine cn hL ?_ ?_
   ·intro hc hL;refine r8 ?_;refine r3 ?_;refine cn hL ?_ ?_
    ·intro hc hL;refine r1 ?_;refine WO.w gN rfl (Zgl lk Kq0) ?_;refine WO.pnc gN lk ?_;refine Qh.panic ?_;refine Qb.ofX ?_;refine Zbp.Ju ?_;have hr:=Oi0 hL;subst hr;exact⟨rfl,hT ▸ hS.only .n⟩
    ·intro hc hL;refine r2 ?_;refine Qb.Z4 ?_;have hr:=Oi0 hL;subst hr;exact Qb.Zvx rfl Zm rfl ⟨_,⟨rfl,rfl⟩,hT ▸ hS.only .n⟩
   ·intro hc hL;refine r8 ?_;refine r3 ?_;refine cn hL ?_ ?_
    ·intro hc hL;refine r1 ?_;refine WO.w gN rfl (Zgl lk Kq0) ?_;refine WO.pnc gN lk ?_;refine Qh.panic ?_;refine Qb.ofX ?_;refine Zbp.Ju ?_;have hr:=Oi0 hL;subst hr;exact⟨rfl,hT ▸ hS.only .n⟩
    ·intro hc hL;refine r2 ?_;refine Qb.Z4 ?_;have hr:=Oi0 hL;subst hr;exact Qb.Zvx rfl Zm rfl ⟨_,⟨rfl,rfl⟩,hT ▸ hS.only .n⟩
theorem Zhx {wm:Nat} {h:H} {p0:Store} {p1:Zd} {ZN:Nat} {Zt:Option Addr} {Zr Xz:Nat} {ZH:Option Addr} {ZG XV Xw:Nat} {r:Store} (ZK:wm <=h.size) (hO:Z0 (wm:=wm) [bx wm Xw [.int .i64 p0.machines,.int .i64 p0.names,.map (some ZN),.slice Zt Xz Zr,.slice ZH XV ZG],mp wm Zh Zn (some ZN) p0.cells,ow wm Zi Zt Xz Zr p0.notes,ow wm (ZO .i64) ZH XV ZG p0.freed] h) (hL:ZaE p0 p1=some r):
 WR XX 117 #[.pointer (some ⟨Xw,0,none⟩),.agg [.int .i64 p1.kind,.int .i64 p1.Zx,.int .i64 p1.name,.int .i64 p1.via,.int .i64 p1.w].toArray] wm h (CP (fun(v:Value) (Gb:List (Ast wm))=>∃ (JK:Nat) (JP:Option Addr) (JI:Nat) (JM:Nat) (JO:Option Addr) (JH:Nat) (JL:Nat),v= .tuple [].toArray∧Gb= [bx wm Xw [.int .i64 r.machines,.int .i64 r.names,.map (some JK),.slice JP JI JM,.slice JO JH JL],mp wm Zh Zn (some JK) r.cells,ow wm Zi JP JI JM r.notes,ow wm (ZO .i64) JO JH JL r.freed]) [bx wm Xw [.int .i64 p0.machines,.int .i64 p0.names,.map (some ZN),.slice Zt Xz Zr,.slice ZH XV ZG],mp wm Zh Zn (some ZN) p0.cells,ow wm Zi Zt Xz Zr p0.notes,ow wm (ZO .i64) ZH XV ZG p0.freed] h):=by
 refine bg Try.ntmps117 ZK hO ?_;intro T hT hS;unfold ZaE at hL;obtain rfl:=hS.on k2;obtain rfl:=hS.on k3;refine r3 ?_;rintro _ h2 ⟨b1,eb1,rfl,hS⟩;refine r2 ?_;refine WC.Yt mixed Kq0 ?_;refine r6 ?_;refine WX.hn gN rfl (Zg5 (e:=Zi) hS Ul XT Zfi rfl rfl rfl (Zj lk ZI) rfl [((),p1)] rfl (xs:= [p1]) rfl (by intro q hq;simp only [List.mem_cons,List.not_mem_nil,or_false] at hq;subst hq;exact trivial) rfl) ?_ rfl;rintro _ h4 ⟨b3,eb3,rfl,hS⟩;obtain⟨z5,hz5,hL⟩:=bind_some hL;refine WX.hv gN rfl (Zey (e:=Zi) hS k4 Zi7 lk lk (hS.Jv k0) (hS.on k0) hz5) ?_ rfl rfl [] Kq0 Yd.e;rintro _ h8 ⟨a6,c7,rfl,hS⟩;refine WX.w gN rfl (Zqb lk) ?_ Kq0;refine WX.w gN rfl (Ye Zlx lk) ?_ Kq0;refine WX.hu gN (Qe hS k3 Zo0 lk lk (vs:= [.slice a6 z5.length c7]) rfl rfl rfl rfl (cs':= [.int .i64 p0.machines,.int .i64 p0.names,.map (some ZN),.slice a6 z5.length c7,.slice ZH p0.freed.length ZG]) rfl) ?_ rfl Kq0 [] Kq0 Yd.e;rintro h9 hS;refine r1 ?_;refine ZW.Z4 ?_;have hr:=Oi0 hL;subst hr;exact ZW.gen (vs:= []) rfl Zm rfl ⟨_,⟨ZN,a6,z5.length,c7,ZH,p0.freed.length,ZG,rfl,rfl⟩,hT ▸ hS.only (.c k0 (.c k3 (.c k0 (.c k2 .n))))⟩
theorem ZyI {wm:Nat} {h:H} {p0:(List Zd)} {p1 p2:Int} {Zv:Option Addr} {Zu XE:Nat} {r:(List Zd)} (ZK:wm <=h.size) (hO:Z0 (wm:=wm) [ow wm Zi Zv XE Zu p0] h) (hL:ZnT p0 p1 p2=some r):
 WR XX 118 #[.slice Zv XE Zu,.int .i64 p1,.int .i64 p2] wm h (CP (fun(v:Value) (Gb:List (Ast wm))=>∃ (XI:Option Addr) (Qc:Nat) (XH:Nat),v= .slice XI Qc XH∧Gb= [ow wm Zi XI Qc XH r]) [ow wm Zi Zv XE Zu p0] h):=by
 refine bg Try.ntmps118 ZK hO ?_;intro T hT hS;unfold ZnT at hL;obtain rfl:=hS.on k0;refine UU ?_;obtain⟨z1,hz1,hL⟩:=bind_some hL;refine WO.he gN rfl (ZtW (hS.get k0).2 rfl Ul XT (Zk (ZV rfl fh) rfl) (Zk (ZB rfl (Ze rfl fh)) rfl) (Zk (ZB rfl fh) rfl) (Zk fh rfl) hz1) ?_;rintro v2 hv3;refine r8 ?_;refine r2 ?_;refine cn hL ?_ ?_
 ·intro hc hL;refine r8 ?_;have hr:=Oi0 hL;subst hr;exact ZW.XY rfl (Zy lk Zm) ⟨_,⟨Zv,p0.length,Zu,rfl,rfl⟩,hT ▸ hS.only (.c k0 .n)⟩
 ·intro hc hL;refine r8 ?_;refine r2 ?_;refine WC.Yt mixed Kq0 ?_;refine r2 ?_;obtain⟨z4,hz4,hL⟩:=bind_some hL;have Zis:= (hS.get k0).2.cap;refine WX.he gN rfl (ZtV (hS.get k0).2 rfl Ul XT (Zk (Ze rfl fh) rfl) (Zk fh rfl) hz4) ?_ rfl;rintro _ ⟨a5,c6,ea7,ec8,rfl,ZBm⟩;have Zv0:=ec8.symm;refine r2 ?_;obtain⟨z13,Zpg,hL⟩:=bind_some hL;refine WX.he gN rfl (ZtX (hS.get k0).2 rfl Ul XT (Zk (Ze rfl fh) rfl) (.inr ⟨_,YL (Zk fh rfl)⟩) (.inl ⟨rfl,rfl⟩) Zpg) ?_ rfl;rintro _ ⟨a14,c15,rfl,ZBl⟩;obtain⟨z17,Zpf,hL⟩:=bind_some hL;have ZBa:= (ZBl.own (hS.get k0).2).src;have hS:=hS.sub k0 ZBm;refine WX.hv gN rfl (ZzB (e:=Zi) hS k0 Zi7 lk lk ZBa rfl Zpf (Zv0 ▸ Nat.le_trans (ZhA hz1 hz4 Zpg Zpf) Zis)) ?_ rfl rfl [] Kq0 Yd.e;rintro _ h19 ⟨rfl,hS⟩;refine WX.w gN rfl (Zw lk) ?_ Kq0;refine r8 ?_;refine WO.he gN rfl (ZtU (hS.get k0).2 Ul XT (Zk (ZB rfl (Ze rfl fh)) rfl) (Zk (Ze rfl fh) rfl) (Zk fh rfl) (ZhA hz1 hz4 Zpg Zpf) (Zv0 ▸ Zis)) ?_;rintro _ ⟨a20,c21,rfl,ZBo⟩;refine WO.hw gN (ZzA hS k0 ZBo rfl Ul Zfi rfl (Zk fh rfl)) ?_;rintro h24 hS;refine r8 ?_;refine r1 ?_;have hr:=Oi0 hL;subst hr;exact ZW.XY rfl (Zy lk Zm) ⟨_,⟨a5,z17.length,c6,rfl,rfl⟩,hT ▸ hS.only (.c k0 .n)⟩
theorem Zro {wm:Nat} {h:H} {p0:Int} {r:Za} (ZK:wm <=h.size) (hL:ZnS p0=some r):
 WR XX 119 #[.int .i64 p0] wm h (CP (fun(v:Value) (Gb:List (Ast wm))=>v= .agg [.int .i64 r.name,.bool r.root,.int .i64 r.from_,.int .i64 r.has,.int .i64 r.out,.bool r.use].toArray∧Gb= []) [] h):=by
 refine bg Try.ntmps119 ZK Z0.nil ?_;intro T hT hS;unfold ZnS at hL;refine r3 ?_;rintro _ h2 ⟨b1,eb1,rfl,hS⟩;refine r4 ?_;refine r1 ?_;refine WO.w gN rfl (Xu ZAv (Zj lk (Zj lk ZI)) rfl (cs':= [.int .i64 p0,.bool false,.int .i64 (-1),.int .i64 0,.int .i64 0,.bool false]) rfl) ?_;refine r1 ?_;rintro h3 hS;refine r3 ?_;have hr:=Oi0 hL;subst hr;exact ZW.XY rfl (ZU (ZB rfl fh) (Z8 Zg0 JF (hS.Xc k0) (j:=0) rfl rfl (ws:= [.int .i64 p0,.bool false,.int .i64 (-1),.int .i64 0,.int .i64 0,.bool false]) rfl) Zm) ⟨_,⟨rfl,rfl⟩,hT ▸ hS.only .n⟩
end Go.Proofs.Ytekpjgmhkkjhgaa
end
end
section
namespace Go.Proofs.Ytekpjgmhkkjhgaa
open Go.Lf
def ZiN (p0:Store) (p1:Int):Option Bool:=
 some ((decide (p1 >=0)) && (decide (p1 < p0.machines)))
def Zkr (p0:Int):Option Bool:=
 some (p0 !=p0)
end Go.Proofs.Ytekpjgmhkkjhgaa
end
section
set_option maxRecDepth 20000
noncomputable section
namespace Go.Proofs.Ytekpjgmhkkjhgaa
open Go.YD Go.Lf
theorem ZlW {wm:Nat} {h:H} {p0:Store} {p1:Int} {ZN:Option Nat} {Zt:Option Addr} {Zr:Nat} {ZH:Option Addr} {ZG Xw U7:Nat} {r:Bool} (ZK:wm <=h.size) (Y7:At h Xw U7 [.int .i64 p0.machines,.int .i64 p0.names,.map ZN,.slice Zt p0.notes.length Zr,.slice ZH p0.freed.length ZG]) (Y6:Stb wm h Xw) (ZM:UM Zh Zn wm h ZN p0.cells) (YA:Sl Zi wm h Zt Zr p0.notes) (YC:Sl (ZO .i64) wm h ZH ZG p0.freed) (hL:ZiN p0 p1=some r):
 WR XX 124 #[.pointer (some ⟨Xw,U7,none⟩),.int .i64 p1] wm h (CP (fun(v:Value) (Gb:List (Ast wm))=>v= .bool r∧Gb= []) [] h):=by
 refine bg Try.ntmps124 ZK Z0.nil ?_;intro T hT hS;unfold ZiN at hL;refine UU ?_;refine r2 ?_;refine WO.gv (Zg.yes rfl rfl rfl (ZV rfl fh)) rfl (fun hg=>(ZL Xk (Xm fh rfl hg) (At.fz hS.fz Y6 Y7) (j:=0) rfl (v:= .int .i64 p0.machines) rfl)) ?_;refine r6 ?_;exact rt hL hT hS
theorem ZyB {wm:Nat} {h:H} {p0:Int} {r:Bool} (ZK:wm <=h.size) (hL:Zkr p0=some r):
 WR XX 143 #[.int .i64 p0] wm h (CP (fun(v:Value) (Gb:List (Ast wm))=>v= .bool r∧Gb= []) [] h):=by
 refine bg Try.ntmps143 ZK Z0.nil ?_;intro T hT hS;unfold Zkr at hL;refine UU ?_;refine r2 ?_;exact rt hL hT hS
theorem Zrg {h:H} {p0:Int} {r:Bool} (hL:Zkr p0=some r):Pure XX 143 #[.int .i64 p0] h (.bool r):=
 WR.QO rfl (ZyB (Nat.le_refl _) hL)
end Go.Proofs.Ytekpjgmhkkjhgaa
end
end
section
namespace Go.Proofs.Ytekpjgmhkkjhgaa
open Go.Lf
def ZjD (F:Nat) (p0:(List Yp)) (p1:Yp):Option Bool:=
 (ZyA F p0 p1).bind fun x3=>some (decide (x3 >=0))
def ZfY (p0:Store) (x7:(List Zd)) (x13:(List Int)):(List (List Za)) ->Option Zb:=fun v31=>
 some (Zb.mk v31 x7 p0.names x13)
def ZlM (p0:Store) (x7:(List Zd)) (x13:(List Int)) (v40:Int) (WG:(Int×(List (List Za)) ->Option Zb)):Int×(List (List Za)) ->(Int×(List (List Za)) ->Option Zb) ->Option Zb:=fun(v50,v52) Zcl=>
 (bif decide (v50 < p0.names) then(Zav p0.cells (Zf.mk v40 v50) (Za.mk 0 false 0 0 0 false)).bind fun x55=>(bif x55.2 then(Ym v52 v40).bind fun x66=>(app 48 x66 [x55.1]).bind fun z74=>(Ym v52 v40).bind fun x78=>(bif(!true) then(ZfY p0 x7 x13) (JG v52 v40 z74) else Zcl (ZP (v50 + 1),JG v52 v40 z74)) else Zcl (ZP (v50 + 1),v52)) else WG (ZP (v40 + 1),v52))
def ZlN (F:Nat) (p0:Store) (x7:(List Zd)) (x13:(List Int)):Int×(List (List Za)) ->(Int×(List (List Za)) ->Option Zb) ->Option Zb:=fun(v40,v42) WG=>
 (bif decide (v40 < p0.machines) then loop F (ZlM p0 x7 x13 v40 WG) (0,v42) else(ZfY p0 x7 x13) v42)
def ZnP (F:Nat) (p0:Store):Option Zb:=
 (mkL ([]:(List Za)) 24 p0.machines p0.machines).bind fun z3=>(ZpK p0.notes).bind fun x7=>(ZpJ p0.freed).bind fun x13=>loop F (ZlN F p0 x7 x13) (0,z3)
def ZaV (v24:Int) (Zk8:(Int×(List (Zf×Za)) ->Option Store)) (x28:(List Za)):Int×(List (Zf×Za)) ->(Int×(List (Zf×Za)) ->Option Store) ->Option Store:=fun(v42,v44) Zun=>
 (bif decide (v42 < (x28.length:Int)) then(Ym x28 v42).bind fun x46=>Zun (ZP (v42 + 1),Y9 v44 (Zf.mk v24 x46.name) x46) else Zk8 (ZP (v24 + 1),v44))
def ZaW (F:Nat) (p0:Zb) (x5:(List Zd)) (x11:(List Int)):Int×(List (Zf×Za)) ->(Int×(List (Zf×Za)) ->Option Store) ->Option Store:=fun(v24,v26) Zk8=>
 (bif decide (v24 < (p0.cells.length:Int)) then(Ym p0.cells v24).bind fun x28=>loop F (ZaV v24 Zk8 x28) (0,v26) else some (Store.mk (p0.cells.length:Int) p0.names v26 x5 x11))
def ZjC (F:Nat) (p0:Zb):Option Store:=
 (ZpK p0.notes).bind fun x5=>(ZpJ p0.freed).bind fun x11=>loop F (ZaW F p0 x5 x11) (0,[])
end Go.Proofs.Ytekpjgmhkkjhgaa
end
