/- Kept Part 9 of the proof. -/
import Derived.Test.YtekpjgmhkkjhgaaWa8
set_option linter.all false
set_option maxHeartbeats 2000000
section
noncomputable section
namespace Go.Yw
open Go.Lf
variable {X:Ctx} {n wm:Nat} {rd:Option Nat} {ops:Array Oper} {l:List Oper} {fr:Fr} {ds:List Deferred} {h h1 h2 h0:H} {ty:TypeId} {p:String} {af:Array Edge} {g:Option (Nat×Bool)} {m:Nat} {T:Nat ->Prop} {G Gr Ga Gb:List (Ast wm)} {d:Nat} {sf:ST}
def HW (X:Ctx) (wm:Nat) (o:Oper) (fr:Fr) (h:H) (K:H ->Prop):Prop:=∃ v E h1,Xt X h (ZX fr) o=some (.val v,E)∧E.apply wm h=some h1∧K h1
theorem WO.hw {Q:XX ->Fs ->Prop} {op:Op} {K:H ->Prop} (hg:ZP ops ⟨none,op,ty,p,af,g⟩ fr) (s:HW X wm ⟨none,op,ty,p,af,g⟩ fr h K) (k:∀ h',K h' ->WO X n wm rd ops l ⟨fr,ds,h',none⟩ Q):
 WO X n wm rd ops (⟨none,op,ty,p,af,g⟩::l) ⟨fr,ds,h,none⟩ Q:=let⟨_,_,h1,ha,hE,hk⟩:=s;WO.val hg rfl ha hE (k h1 hk)
theorem Qq {t:TypeId} {x:Operand} {lo hi mx:Option Operand} {a:Option Addr} {nn c:Nat} {vlo vhi vmx:Option Value} {v:Value} (hx:ZX fr x=some (.slice a nn c)) (el1:evo (ZX fr) lo=some vlo) (eh1:evo (ZX fr) hi=some vhi) (em1:evo (ZX fr) mx=some vmx) (hv:aslice X.P h t (.slice a nn c) vlo vhi vmx=some v):
 Xt X h (ZX fr) ⟨some d,.slice t x lo hi mx,ty,p,af,g⟩=some (.val v,.none):=by
 show(match ZX fr x,evo (ZX fr) lo,evo (ZX fr) hi,evo (ZX fr) mx with
  | some x,some lo,some hi,some mx=>bif plain x && not (Znh x) then(match lo,hi,mx with
     | lo,hi,mx=>bif Qx (lo.toList ++ hi.toList ++ mx.toList) then pN (Za0 X.P (Instr.sliceAt t x lo hi mx)) else none)
    else vN (aslice X.P h t x lo hi mx)
  | _,_,_,_=>none)=_
 rw [hx,el1,eh1,em1];show(bif plain (.slice a nn c) && not (Znh (.slice a nn c)) then _ else vN (aslice X.P h t (.slice a nn c) vlo vhi vmx))=_;have:Znh (.slice a nn c)=true:=rfl;rw [this,Bool.not_true,Bool.and_false,Cq0,hv];rfl
section
variable {α:Type} {e:Um α} {t el:TypeId} {x:Operand} {a:Option Addr} {nn c:Nat} {xs zs ws us:List α} {a1 a2 a3:Int}
theorem Zzd {lo hi mx:Operand} (so:XL e wm wm h a c xs) (hn:nn=xs.length) (hu:X.P.underlying t=some (.slice el)) (hs:Z7 X.P el=some e.sz) (hx:ZX fr x=some (.slice a nn c))
 (hlo:ZX fr lo=some (.int .i64 a1)) (hhi:ZX fr hi=some (.int .i64 a2)) (hmx:ZX fr mx=some (.int .i64 (xs.length:Nat))) (hz:slL xs a1 a2=some zs):
 ∃ v,Xt X h (ZX fr) ⟨some d,.slice t x (some lo) (some hi) (some mx),ty,p,af,g⟩=some (.val v,.none):=by
 obtain⟨l,k,rfl,rfl,hlk,hkx,rfl⟩:=Wd hz;subst hn;have e1:obN (some (.int .i64 (l:Int))) 0=some l:=rfl;have e2:∀ q,obN (some (.int .i64 (k:Int))) q=some k:=fun q=>rfl
 have e3:Zcz (.int .i64 ((xs.length:Nat):Int))=some xs.length:=rfl;rcases so.mem with⟨rfl,rfl,rfl⟩ | ⟨i,o,cs,rfl,q2,q3,q4,q5,q6⟩
 ·have hk0:k=0:=by simpa using hkx
  have hl0:l=0:=by omega
  subst hk0 hl0;refine⟨.slice none 0 0,Qq hx (YM hlo) (YM hhi) (YM hmx) ?_⟩
  have:aslice X.P h t (.slice none 0 0) (some (.int .i64 ((0:Nat):Int))) (some (.int .i64 ((0:Nat):Int))) (some (.int .i64 ((0:Nat):Int)))=some (.slice none 0 0):=by
   unfold aslice;simp only [hu,hs]
   rfl
  exact this
 ·refine⟨.slice (some ⟨i,bif Nat.beq xs.length l then o else o + l * e.sz,none⟩) (k - l) (2 * (xs.length - l)),Qq hx (YM hlo) (YM hhi) (YM hmx) ?_⟩;unfold aslice;simp only [hu,hs,e1,e2,e3];rw [Nm0 hlk,Nm0 hkx,Nm0 q4]
  rfl
theorem Zzc {hi:Operand} (so:XL e wm wm h a c xs) (hn:nn=xs.length) (hu:X.P.underlying t=some (.slice el)) (hs:Z7 X.P el=some e.sz) (hx:ZX fr x=some (.slice a nn c))
 (hhi:ZX fr hi=some (.int .i64 a2)) (hz:slL xs 0 a2=some zs):
 ∃ a' c',a'=a∧c'=c∧Xt X h (ZX fr) ⟨some d,.slice t x none (some hi) none,ty,p,af,g⟩=some (.val (.slice a' zs.length c'),.none)∧Zj5 e a c xs a' c' zs:=by
 obtain⟨l,k,hl0,rfl,hlk,hkx,rfl⟩:=Wd hz;have hl0:l=0:=by omega
 subst hl0 hn;have hlen:((xs.take k).drop 0).length=k:=by rw [List.drop_zero,List.length_take];omega
 have e2:∀ q,obN (some (.int .i64 (k:Int))) q=some k:=fun q=>rfl
 have e1:obN none 0=some 0:=rfl;refine⟨a,c,rfl,rfl,?_⟩;rcases so.mem with⟨rfl,rfl,rfl⟩ | ⟨i,o,cs,rfl,q2,q3,q4,q5,q6⟩
 ·have hk0:k=0:=by simpa using hkx
  subst hk0;refine⟨Qq hx rfl (YM hhi) rfl ?_,Zqp rfl⟩
  have:aslice X.P h t (.slice none 0 0) none (some (.int .i64 ((0:Nat):Int))) none=some (.slice none 0 0):=by
   unfold aslice;simp only [hu,hs]
   rfl
  exact this
 ·refine⟨Qq hx rfl (YM hhi) rfl ?_,Zk5 hlk hkx (.inl ⟨by omega,by omega⟩)⟩;rw [hlen];unfold aslice;simp only [hu,hs,e1,e2];rw [Nm0 (Nat.zero_le k),Nm0 (Nat.le_trans hkx q4)];simp only [Bool.and_self,Cq1];cases hev:Nat.beq (c % 2) 0 with
  | true=>
    have:=Nb0 hev;have hc:2 * (c / 2 - 0)=c:=by omega
    simp only [Cq1,Nat.zero_mul,Nat.add_zero,Nat.sub_zero];cases Nat.beq (c / 2) 0 <;> simp only [Cq1,Cq0] <;> congr 2 <;> omega
  | false=>
    simp only [Cq0]
    rfl
structure Tl (e:Um α) (a:Option Addr) (c k n3:Nat) (a3:Option Addr):Prop where
 out:n3=0∨∃ i o,a=some ⟨i,o,none⟩∧a3=some ⟨i,o + k * e.sz,none⟩∧k + n3 <=c / 2
theorem Zzb {lo hi:Operand} {mm:Nat} (so:XL e wm wm h a c zs) (hu:X.P.underlying t=some (.slice el)) (hs:Z7 X.P el=some e.sz) (hx:ZX fr x=some (.slice a zs.length c))
 (hlo:ZX fr lo=some (.int .i64 (zs.length:Nat))) (hhi:ZX fr hi=some (.int .i64 (mm:Nat))) (hm:zs.length <=mm) (hc:mm <=c / 2):
 ∃ a' c',Xt X h (ZX fr) ⟨some d,.slice t x (some lo) (some hi) none,ty,p,af,g⟩=some (.val (.slice a' (mm - zs.length) c'),.none)∧Tl e a c zs.length (mm - zs.length) a':=by
 have e1:obN (some (.int .i64 ((zs.length:Nat):Int))) 0=some zs.length:=rfl;have e2:∀ q,obN (some (.int .i64 (mm:Int))) q=some mm:=fun q=>rfl
 rcases so.mem with⟨rfl,rfl,rfl⟩ | ⟨i,o,cs,rfl,q2,q3,q4,q5,q6⟩
 ·have hk0:mm=0:=by omega
  subst hk0;refine⟨none,0,Qq hx (YM hlo) (YM hhi) rfl ?_,⟨.inl rfl⟩⟩
  have:aslice X.P h t (.slice none 0 0) (some (.int .i64 ((0:Nat):Int))) (some (.int .i64 ((0:Nat):Int))) none=some (.slice none 0 0):=by
   unfold aslice;simp only [hu,hs]
   rfl
  exact this
 ·have hmain:∀ v,(bif Nat.beq (c % 2) 0 then some (Value.slice (some ⟨i,bif Nat.beq (c / 2) zs.length then o else o + zs.length * e.sz,none⟩) (mm - zs.length) (2 * (c / 2 - zs.length)))
   else bif Nat.beq zs.length 0 then some (.slice (some ⟨i,o,none⟩) mm c)
   else some (.slice (some ⟨i,o + zs.length * e.sz,none⟩) (mm - zs.length) (2 * (c / 2 - zs.length) + 1)))=some v ->aslice X.P h t (.slice (some ⟨i,o,none⟩) zs.length c) (some (.int .i64 ((zs.length:Nat):Int))) (some (.int .i64 (mm:Int))) none=some v:=fun v hv=>by
   unfold aslice;simp only [hu,hs,e1,e2];rw [Nm0 hm,Nm0 hc,q3];have b2:(Nat.beq e.sz e.sz && Nat.ble 1 e.sz)=true:=by rw [Nat.beq_refl,Nm0 (show 1 <=e.sz from e.pos)];rfl
   simp only [b2,Bool.and_self,Cq1];exact hv
  cases hev:Nat.beq (c % 2) 0 with
  | true=>
    rw [hev] at hmain;refine⟨_,_,Qq hx (YM hlo) (YM hhi) rfl (hmain _ rfl),⟨?_⟩⟩;cases hcl:Nat.beq (c / 2) zs.length with
    | true=>have:=Nb0 hcl;left;omega
    | false=>right;exact⟨i,o,rfl,rfl,by omega⟩
  | false=>
    rw [hev] at hmain;cases hl0:Nat.beq zs.length 0 with
    | true=>
      have h00:=Nb0 hl0;rw [hl0] at hmain;refine⟨some ⟨i,o,none⟩,c,Qq hx (YM hlo) (YM hhi) rfl (hmain _ ?_),⟨.inr ⟨i,o,rfl,by rw [h00];simp,by omega⟩⟩⟩;rw [h00];rfl
    | false=>
      rw [hl0] at hmain;exact⟨_,_,Qq hx (YM hlo) (YM hhi) rfl (hmain _ rfl),⟨.inr ⟨i,o,rfl,rfl,by omega⟩⟩⟩
theorem ZmK (z:List Value) (k:Nat):(Un z k).length=k * z.length:=by unfold Un;simp
theorem ZzE {ts:Array TypeId} {rest:List TypeId} {n3 c3:Nat} {z:Value} {a3':Option Addr} (hS:Sp wm T h0 G h) (pk:Pk G (ow wm e a nn c zs) Gr) (tl:Tl e a c zs.length n3 a3') (hts:ts.toList=t::rest) (hu:X.P.underlying t=some (.slice el)) (hz:YE X.P el=some z) (hzl:z.cells.toList.length=e.sz) (hx:ZX fr x=some (.slice a3' n3 c3)):
 HW X wm ⟨none,.call {callee:= .builtin .clear,args:=#[x],argTypes:=ts},ty,p,af,g⟩ fr h (fun h'=>Sp wm T h0 (ow wm e a nn c zs::Gr) h'):=by
 have key:∀ E,Zau X.P h t (.slice a3' n3 c3)=some E ->Xt X h (ZX fr) ⟨none,.call {callee:= .builtin .clear,args:=#[x],argTypes:=ts},ty,p,af,g⟩=some (.val (.tuple #[]),E):=fun E hE=>by
  have hev:evs (ZX fr) (#[x]:Array Operand).toList=some [.slice a3' n3 c3]:=Zc hx Zl;rw [QZ,hev];show(match ts.toList with | t::_=>(match Zau X.P h t (.slice a3' n3 c3) with | some E=>some (AN.val (.tuple #[]),E) | none=>none) | []=>none)=_;rw [hts];dsimp only;rw [hE]
 obtain⟨h1,so⟩:=hS.get pk;by_cases h0':n3=0
 ·refine⟨_,.none,h,key _ ?_,rfl,hS.perm pk.perm⟩;unfold Zau;simp only [hu,h0',Nat.beq_refl,Cq1]
 ·rcases tl.out with q | ⟨i,o,rfl,rfl,hcap⟩
  ·exact absurd q h0'
  ·rcases so.mem with⟨q,_⟩ | ⟨i',o',cs,q,q2,q3,q4,q5,q6⟩
   ·cases q
   ·cases q;have hb:Nat.beq n3 0=false:=by rw [Bool.eq_false_iff];intro q;exact h0' (Nb0 q)
    have hfit:o + zs.length * e.sz + n3 * e.sz <=cs.length:=by
     have:(zs.length + n3) * e.sz <=c / 2 * e.sz:=Nat.mul_le_mul_right _ hcap;rw [Nat.add_mul] at this;omega
    have hzr:(Un z.cells.toList n3).length=n3 * e.sz:=by rw [ZmK,hzl]
    have hl2:o + zs.length * e.sz + (Un z.cells.toList n3).length <=cs.length:=by rw [hzr];exact hfit
    have hu':Up wm (fun j=>j=i) h (h.put i (.row (splice cs (o + zs.length * e.sz) (Un z.cells.toList n3)) true e.sz)):=Up.put q2 (by rw [q3];rfl);refine⟨_,.upd i (.row (splice cs (o + zs.length * e.sz) (Un z.cells.toList n3)) true e.sz),_,key _ ?_,?_,hS.one pk hu' (fun j q=>⟨o,by rw [q]⟩) ⟨h1,so.max,.inr ⟨i,o,_,rfl,q2,Z9 (XE q3 rfl) _,q4,by rw [Q7 _ _ _ hl2];exact q5,?_⟩⟩ fun j q=>.inl q⟩
    ·unfold Zau;simp only [hu,hb,Cq0,hz,q3,hzl];rw [Nm0 hfit];rfl
    ·show(bif Nat.ble wm i && (h.at i).own then some (h.put i _) else none)=_;rw [q3,Nm0 q2];rfl
    ·refine⟨by rw [Q7 _ _ _ hl2];exact q6.len,fun k x hk=>?_⟩;obtain⟨q,g1,g2⟩:=q6.get k x hk;refine⟨q,?_,e.mono (hu'.fz (Nat.le_refl _)) g2⟩;have hkl:= (Li0 hk).1;have:(k + 1) * e.sz <=zs.length * e.sz:=Nat.mul_le_mul_right _ hkl;rw [Nat.succ_mul] at this;rw [ZdY hl2 (.inl (by omega)),g1]
theorem Zzi {ts:Array TypeId} {x y:Operand} {Uj:Nat} {b2:Option Addr} {c2:Nat} {ys:List α} (hi:Zfk X.P ts e.sz Uj) (hx:ZX fr x=some (.slice a xs.length c)) (hy:ZX fr y=some (.slice b2 ys.length c2)) (so:XL e wm wm h a c xs) (sr:Src e wm h b2 c2 ys) (hr:xs.length + ys.length <=c / 2):
 ∃ E,Xt X h (ZX fr) ⟨some d,.call {callee:= .builtin .append,args:=#[x,y],argTypes:=ts},ty,p,af,g⟩=some (.val (.slice a (xs ++ ys).length c),E):=by
 obtain⟨el,z,hi⟩:=hi;obtain⟨new,n1,n2,n3⟩:=sr.reads;have n4:=n3.one n2;have hev:evs (ZX fr) (#[x,y]:Array Operand).toList=some [.slice a xs.length c,.slice b2 ys.length c2]:=Zc hx (Zc hy Zl);have hls:Qf (.slice b2 ys.length c2)=ys.length:=rfl
 have key:∀ (v:Value) (E:Eff),Qa X.P h ts (.slice a xs.length c) (.slice b2 ys.length c2)=some (v,E) ->Xt X h (ZX fr) ⟨some d,.call {callee:= .builtin .append,args:=#[x,y],argTypes:=ts},ty,p,af,g⟩=some (.val v,E):=by
  intro v E hE;rw [QZ,hev];show vE (Qa X.P h ts (.slice a xs.length c) (.slice b2 ys.length c2))=_;rw [hE];rfl
 have hle2:(xs ++ ys).length=xs.length + ys.length:=List.length_append;by_cases hy0:ys= []
 ·subst hy0;refine⟨.none,key _ _ ?_⟩;unfold Qa;rw [hi];dsimp only;rw [n1];dsimp only;rw [hls,Nm0 hr,hle2];rfl
 ·have hyl:0 < ys.length:=List.length_pos_iff.2 hy0;rcases so.mem with⟨rfl,rfl,rfl⟩ | ⟨i,o,cs,rfl,hlo2,hrow,hc1,hc2,hel⟩
  ·exfalso;simp at hr;exact hy0 hr
  ·refine⟨.upd i (.row (splice cs (o + xs.length * e.sz) new) true e.sz),key _ _ ?_⟩
   have hfit:o + xs.length * e.sz + new.length <=cs.length:=by
    rw [n2];have:(xs.length + ys.length) * e.sz <=c / 2 * e.sz:=Nat.mul_le_mul_right _ hr;rw [Nat.add_mul] at this;omega
   unfold Qa;rw [hi];dsimp only;rw [n1];dsimp only;rw [hls,Nm0 hr];have b1:Nat.beq ys.length 0=false:=by rw [Bool.eq_false_iff];intro q;have:=Nb0 q;omega
   rw [b1,hrow];simp only [Cq1,Cq0];rw [Nm0 hfit,n4,hle2];rfl
theorem ZzF {ts:Array TypeId} {x y:Operand} {Uj:Nat} {b2:Option Addr} {n2 c2:Nat} {ys:List α} (hS:Sp wm T h0 G h) (pk:Pk G (ow wm e a nn c xs) Gr) (hi:Zfk X.P ts e.sz Uj) (hx:ZX fr x=some (.slice a nn c)) (hy:ZX fr y=some (.slice b2 n2 c2)) (sr:Src e wm h b2 c2 ys) (hn:n2=ys.length) (ha:app Uj xs ys=some zs) (hr:zs.length <=c / 2):
 HV X wm ⟨some d,.call {callee:= .builtin .append,args:=#[x,y],argTypes:=ts},ty,p,af,g⟩ fr h (X7 a) (fun v h'=>v= .slice a zs.length c∧Sp wm T h0 (ow wm e a zs.length c zs::Gr) h'):=by
 obtain⟨v,E,h1,e1,e2,e3,e4,a',c',rfl,hS'⟩:=Zd3 (d:=d) (ty:=ty) (p:=p) (af:=af) (g:=g) hS pk hi hx hy sr hn ha;obtain⟨h1',so⟩:=hS.get pk;obtain⟨rfl,_⟩:=Zji ha;subst h1' hn;obtain⟨E',e5⟩:=Zzi (d:=d) (ty:=ty) (p:=p) (af:=af) (g:=g) hi hx hy so sr (by rw [List.length_append] at hr;exact hr);rw [e5] at e1;cases e1;exact⟨_,_,h1,e5,e2,e3,e4,rfl,hS'⟩
theorem ZhH {b:Nat} {i j:Int} {u v:List α} (h3:slL xs i j=some ws) (h1:slL xs 0 i=some u) (h2:slL xs j xs.length=some v) (ha:app b u v=some zs):zs.length <=xs.length:=by
 obtain⟨l,k,rfl,rfl,hlk,hkx,rfl⟩:=Wd h3;obtain⟨l1,k1,hl1,hk1,_,_,rfl⟩:=Wd h1;obtain⟨l2,k2,hl2,hk2,_,_,rfl⟩:=Wd h2;obtain⟨rfl,_⟩:=Zji ha;simp only [List.length_append,List.length_drop,List.length_take];omega
end
section
variable {κ ν:Type} [DecidableEq κ] {kt vt:TypeId} {kv:κ ->Value} {vv:ν ->Value} {i:Nat} {ll:List (κ×ν)}
theorem ZA7 {ts:Array TypeId} {t:TypeId} {rest:List TypeId} {x y:Operand} {k:κ} (hS:Sp wm T h0 G h) (pk:Pk G (mp wm kv vv (some i) ll) Gr) (K:Zaz X.P kt kv) (hts:ts.toList=t::rest) (hu:X.P.underlying t=some (.map kt vt)) (hx:ZX fr x=some (.map (some i))) (hy:ZX fr y=some (kv k)):
 HW X wm ⟨none,.call {callee:= .builtin .delete,args:=#[x,y],argTypes:=ts},ty,p,af,g⟩ fr h (fun h'=>Sp wm T h0 (mp wm kv vv (some i) (Zbf ll k)::Gr) h'):=by
 obtain⟨h',⟨E,ha,hE,_⟩,u,ho⟩:=ZC9 (d:=none) (ty:=ty) (p:=p) (af:=af) (g:=g) K hts hu (Nat.le_refl wm) hx rfl hy (hS.get pk);exact⟨_,E,h',ha,hE,hS.one pk u (fun j e=>by cases e;rfl) ho fun j e=>.inl e⟩
end
end Go.Yw
end
end
section
noncomputable section
namespace Go.Yw
open Go.Lf
variable {X:Ctx} {n wm:Nat} {rd:Option Nat} {ops:Array Oper} {l:List Oper} {fr:Fr} {ds:List Deferred} {h h1 h2 h0:H} {ty:TypeId} {p:String} {af:Array Edge} {g:Option (Nat×Bool)} {m:Nat} {T:Nat ->Prop} {G Gr Ga Gb:List (Ast wm)} {d:Nat} {sf:ST}
def HE (X:Ctx) (o:Oper) (fr:Fr) (h:H) (K:Value ->Prop):Prop:=∃ v,Xt X h (ZX fr) o=some (.val v,.none)∧K v
theorem WO.he {Q:XX ->Fs ->Prop} {op:Op} {K:Value ->Prop} (hg:ZP ops ⟨some d,op,ty,p,af,g⟩ fr) (hd:Nat.blt d n=true) (s:HE X ⟨some d,op,ty,p,af,g⟩ fr h K) (k:∀ v,K v ->WO X n wm rd ops l ⟨Tr.set fr d v,ds,h,none⟩ Q):
 WO X n wm rd ops (⟨some d,op,ty,p,af,g⟩::l) ⟨fr,ds,h,none⟩ Q:=let⟨v,ha,hk⟩:=s;WO.w hg hd ha (k v hk)
theorem WX.he {Q:Fr ->H ->Prop} {op:Op} {K:Value ->Prop} (hg:ZP ops ⟨some d,op,ty,p,af,g⟩ fr) (hd:Nat.blt d n=true) (s:HE X ⟨some d,op,ty,p,af,g⟩ fr h K) (k:∀ v,K v ->WX X n wm rd ops sf (m + 1) h l (Tr.set fr d v) Q) (hM:okM ops sf m ⟨some d,op,ty,p,af,g⟩=true):
 WX X n wm rd ops sf m h (⟨some d,op,ty,p,af,g⟩::l) fr Q:=let⟨v,ha,hk⟩:=s;WX.w hg hd ha (k v hk) hM
section
variable {α:Type} {e:Um α} {t el:TypeId} {x:Operand} {a:Option Addr} {nn c:Nat} {xs zs ws us:List α} {a1 a2 a3:Int}
theorem ZtO {lo hi:Option Operand} (so:XL e wm wm h a c xs) (hn:nn=xs.length) (hu:X.P.underlying t=some (.slice el)) (hs:Z7 X.P el=some e.sz) (hx:ZX fr x=some (.slice a nn c))
 (hlo:evo (ZX fr) lo=some none∧a1=0∨∃ k,evo (ZX fr) lo=some (some (.int k a1))) (hhi:evo (ZX fr) hi=some none∧a2=xs.length∨∃ k,evo (ZX fr) hi=some (some (.int k a2))) (hz:slL xs a1 a2=some zs):
 HE X ⟨some d,.slice t x lo hi none,ty,p,af,g⟩ fr h (fun v=>∃ a' c',v= .slice a' zs.length c'∧Zj5 e a c xs a' c' zs):=
 let⟨a',c',h1,h2⟩:=Zv9 (d:=d) (ty:=ty) (p:=p) (af:=af) (g:=g) so hn hu hs hx hlo hhi hz;⟨_,h1,a',c',rfl,h2⟩
theorem ZtN {lo hi mx:Operand} (so:XL e wm wm h a c xs) (hn:nn=xs.length) (hu:X.P.underlying t=some (.slice el)) (hs:Z7 X.P el=some e.sz) (hx:ZX fr x=some (.slice a nn c))
 (hlo:ZX fr lo=some (.int .i64 a1)) (hhi:ZX fr hi=some (.int .i64 a2)) (hmx:ZX fr mx=some (.int .i64 (xs.length:Nat))) (hz:slL xs a1 a2=some zs):
 HE X ⟨some d,.slice t x (some lo) (some hi) (some mx),ty,p,af,g⟩ fr h (fun _=>True):=let⟨v,hv⟩:=Zzd (d:=d) (ty:=ty) (p:=p) (af:=af) (g:=g) so hn hu hs hx hlo hhi hmx hz;⟨v,hv,trivial⟩
theorem ZtL {hi:Operand} (so:XL e wm wm h a c xs) (hn:nn=xs.length) (hu:X.P.underlying t=some (.slice el)) (hs:Z7 X.P el=some e.sz) (hx:ZX fr x=some (.slice a nn c))
 (hhi:ZX fr hi=some (.int .i64 a2)) (hz:slL xs 0 a2=some zs):
 HE X ⟨some d,.slice t x none (some hi) none,ty,p,af,g⟩ fr h (fun v=>∃ a' c',a'=a∧c'=c∧v= .slice a' zs.length c'∧Zj5 e a c xs a' c' zs):=
 let⟨a',c',h1,h2,h3,h4⟩:=Zzc (d:=d) (ty:=ty) (p:=p) (af:=af) (g:=g) so hn hu hs hx hhi hz;⟨_,h3,a',c',h1,h2,rfl,h4⟩
theorem ZtK {lo hi:Operand} {mm:Nat} (so:XL e wm wm h a c zs) (hu:X.P.underlying t=some (.slice el)) (hs:Z7 X.P el=some e.sz) (hx:ZX fr x=some (.slice a zs.length c))
 (hlo:ZX fr lo=some (.int .i64 (zs.length:Nat))) (hhi:ZX fr hi=some (.int .i64 (mm:Nat))) (hm:zs.length <=mm) (hc:mm <=c / 2):
 HE X ⟨some d,.slice t x (some lo) (some hi) none,ty,p,af,g⟩ fr h (fun v=>∃ a' c',v= .slice a' (mm - zs.length) c'∧Tl e a c zs.length (mm - zs.length) a'):=
 let⟨a',c',h1,h2⟩:=Zzb (d:=d) (ty:=ty) (p:=p) (af:=af) (g:=g) so hu hs hx hlo hhi hm hc;⟨_,h1,a',c',rfl,h2⟩
theorem ZA6 {lo:Operand} {kk:IntKind} (so:XL e wm wm h a c xs) (hn:nn=xs.length) (hu:X.P.underlying t=some (.slice el)) (hs:Z7 X.P el=some e.sz) (hx:ZX fr x=some (.slice a nn c))
 (hlo:ZX fr lo=some (.int kk a1)) (hz:slL xs a1 xs.length=some zs):
 HE X ⟨some d,.slice t x (some lo) none none,ty,p,af,g⟩ fr h (fun v=>∃ a' c',v= .slice a' zs.length c'∧Zj5 e a c xs a' c' zs∧Tl e a c a1.toNat zs.length a'):=by
 obtain⟨a',c',h1,h2⟩:=Zv9 (lo:=some lo) (hi:=none) (d:=d) (ty:=ty) (p:=p) (af:=af) (g:=g) so hn hu hs hx (.inr ⟨_,YM hlo⟩) (.inl ⟨rfl,rfl⟩) hz;refine⟨_,h1,a',c',rfl,h2,⟨?_⟩⟩;obtain⟨l,k,rfl,hk,hlk,hkx,rfl⟩:=Wd hz;have hk:k=xs.length:=by omega
 subst hk;have hlen:((xs.take xs.length).drop l).length=xs.length - l:=by rw [List.length_drop,List.length_take];omega
 rw [hlen] at h1 ⊢;by_cases h00:xs.length - l=0
 ·exact .inl h00
 ·right;subst hn;have e1:obN (some (.int kk (l:Int))) 0=some l:=rfl;have e2:obN none xs.length=some xs.length:=rfl;rcases so.mem with⟨rfl,rfl,rfl⟩ | ⟨i,o,cs,rfl,q2,q3,q4,q5,q6⟩
  ·simp at h00
  ·refine⟨i,o,rfl,?_,by show l + _ <=_;omega⟩
   have key:∀ v,aslice X.P h t (.slice (some ⟨i,o,none⟩) xs.length c) (some (.int kk (l:Int))) none none=some v ->v= .slice a' (xs.length - l) c':=fun v hv=>by
    have:=Qq (lo:=some lo) (hi:=none) (mx:=none) (d:=d) (ty:=ty) (p:=p) (af:=af) (g:=g) hx (YM hlo) rfl rfl hv;rw [h1] at this;cases this;rfl
   unfold aslice at key;simp only [hu,hs,e1,e2] at key;rw [Nm0 hlk,Nm0 q4,q3] at key;have b2:(Nat.beq e.sz e.sz && Nat.ble 1 e.sz)=true:=by rw [Nat.beq_refl,Nm0 (show 1 <=e.sz from e.pos)];rfl
   simp only [b2,Bool.and_self,Cq1] at key;show a'=some ⟨i,o + l * e.sz,none⟩;cases hev:Nat.beq (c % 2) 0 with
   | true=>
     rw [hev] at key;have hcl:Nat.beq (c / 2) l=false:=by rw [Bool.eq_false_iff];intro q;have:=Nb0 q;omega
     rw [hcl] at key;have:=key _ rfl;cases this;rfl
   | false=>
     rw [hev] at key;cases hl0:Nat.beq l 0 with
     | true=>
       have ZKz:=Nb0 hl0;subst ZKz;rw [hl0] at key;have:=key _ rfl;cases this;simp
     | false=>
       rw [hl0] at key;have:=key _ rfl;cases this;rfl
theorem ZmY {cs vs:List Value} {q j k:Nat} (hl:q + vs.length <=cs.length) (hj:j + k <=vs.length):((splice cs q vs).drop (q + j)).take k= (vs.drop j).take k:=by
 apply List.ext_getElem?;intro t;by_cases ht:t < k
 ·rw [List.getElem?_take_of_lt ht,List.getElem?_take_of_lt ht,List.getElem?_drop,List.getElem?_drop,ZbB _ _ _ _ hl,if_pos (by omega)];congr 1;omega
 ·rw [List.getElem?_eq_none (by rw [List.length_take];omega),List.getElem?_eq_none (by rw [List.length_take];omega)]
theorem ZA8 {ts:Array TypeId} {rest:List TypeId} {k n3 c3:Nat} {z:Value} {a3':Option Addr} {q0:e.Par} {x0:α} (hS:Sp wm T h0 G h) (pk:Pk G (ow wm e a nn c xs) Gr) (tl:Tl e a c k n3 a3') (hk:k + n3=xs.length) (hts:ts.toList=t::rest) (hu:X.P.underlying t=some (.slice el)) (hz:YE X.P el=some z) (hsh:z.cells.toList=e.sh q0 x0) (hF:∀ h',e.F wm h' q0 x0) (hx:ZX fr x=some (.slice a3' n3 c3)):
 HW X wm ⟨none,.call {callee:= .builtin .clear,args:=#[x],argTypes:=ts},ty,p,af,g⟩ fr h (fun h'=>Sp wm T h0 (ow wm e a nn c (xs.take k ++ List.replicate n3 x0)::Gr) h'):=by
 have hzl:z.cells.toList.length=e.sz:=by rw [hsh,e.len]
 have key:∀ E,Zau X.P h t (.slice a3' n3 c3)=some E ->Xt X h (ZX fr) ⟨none,.call {callee:= .builtin .clear,args:=#[x],argTypes:=ts},ty,p,af,g⟩=some (.val (.tuple #[]),E):=fun E hE=>by
  have hev:evs (ZX fr) (#[x]:Array Operand).toList=some [.slice a3' n3 c3]:=Zc hx Zl;rw [QZ,hev];show(match ts.toList with | t::_=>(match Zau X.P h t (.slice a3' n3 c3) with | some E=>some (AN.val (.tuple #[]),E) | none=>none) | []=>none)=_;rw [hts];dsimp only;rw [hE]
 obtain⟨h1,so⟩:=hS.get pk;by_cases h0':n3=0
 ·refine⟨_,.none,h,key _ ?_,rfl,?_⟩
  ·unfold Zau;simp only [hu,h0',Nat.beq_refl,Cq1]
  ·have:xs.take k ++ List.replicate n3 x0=xs:=by rw [h0',List.take_of_length_le (by omega)];simp
   rw [this];exact hS.perm pk.perm
 ·rcases tl.out with q | ⟨i,o,rfl,rfl,hcap⟩
  ·exact absurd q h0'
  ·rcases so.mem with⟨q,_⟩ | ⟨i',o',cs,q,q2,q3,q4,q5,q6⟩
   ·cases q
   ·cases q;have hb:Nat.beq n3 0=false:=by rw [Bool.eq_false_iff];intro q;exact h0' (Nb0 q)
    have hle:=q6.len;have hkn:k * e.sz + n3 * e.sz=xs.length * e.sz:=by rw [← Nat.add_mul,hk]
    have hfit:o + k * e.sz + n3 * e.sz <=cs.length:=by omega
    have hzr:(Un z.cells.toList n3).length=n3 * e.sz:=by rw [ZmK,hzl]
    have hl2:o + k * e.sz + (Un z.cells.toList n3).length <=cs.length:=by rw [hzr];exact hfit
    have hlen:(xs.take k ++ List.replicate n3 x0).length=xs.length:=by rw [List.length_append,List.length_take,List.length_replicate];omega
    have hu':Up wm (fun j=>j=i) h (h.put i (.row (splice cs (o + k * e.sz) (Un z.cells.toList n3)) true e.sz)):=Up.put q2 (by rw [q3];rfl);refine⟨_,.upd i (.row (splice cs (o + k * e.sz) (Un z.cells.toList n3)) true e.sz),_,key _ ?_,?_,hS.one pk hu' (fun j q=>⟨o,by rw [q]⟩) ⟨h1.trans hlen.symm,by rw [hlen];exact so.max,.inr ⟨i,o,_,rfl,q2,Z9 (XE q3 rfl) _,by rw [hlen];exact q4,by rw [Q7 _ _ _ hl2];exact q5,?_⟩⟩ fun j q=>.inl q⟩
    ·unfold Zau;simp only [hu,hb,Cq0,hz,q3,hzl];rw [Nm0 hfit];rfl
    ·show(bif Nat.ble wm i && (h.at i).own then some (h.put i _) else none)=_;rw [q3,Nm0 q2];rfl
    ·refine⟨by rw [hlen,Q7 _ _ _ hl2];exact q6.len,fun j x hj=>?_⟩;by_cases hjk:j < k
     ·rw [List.getElem?_append_left (by rw [List.length_take];omega),List.getElem?_take_of_lt hjk] at hj;obtain⟨q,g1,g2⟩:=q6.get j x hj;refine⟨q,?_,e.mono (hu'.fz (Nat.le_refl _)) g2⟩;have:(j + 1) * e.sz <=k * e.sz:=Nat.mul_le_mul_right _ hjk;rw [Nat.succ_mul] at this;rw [ZdY hl2 (.inl (by omega)),g1]
     ·have hjl:j < xs.length:=by have:= (Li0 hj).1;rwa [hlen] at this
      have hx0:x=x0:=by
       rw [List.getElem?_append_right (by rw [List.length_take];omega),List.getElem?_replicate] at hj;split at hj
       ·exact(Oi0 hj).symm
       ·cases hj
      refine⟨q0,?_,by rw [hx0];exact hF _⟩
      have e0:o + j * e.sz=o + k * e.sz + (j - k) * e.sz:=by
       have:k * e.sz + (j - k) * e.sz=j * e.sz:=by rw [← Nat.add_mul];congr 1;omega
       omega
      have e1:(j - k) * e.sz + e.sz <= (Un z.cells.toList n3).length:=by
       rw [hzr];have:(j - k + 1) * e.sz <=n3 * e.sz:=Nat.mul_le_mul_right _ (by omega);rw [Nat.succ_mul] at this;exact this
      rw [e0,ZmY hl2 e1];have:=Zka z.cells.toList n3 (j - k) (by omega);rw [hzl] at this;rw [this,hsh,hx0]
end
theorem Zxd {α:Type} {xs zs:List α} {a1:Int} (hz:slL xs a1 xs.length=some zs):a1.toNat + zs.length=xs.length:=by
 obtain⟨l,k,rfl,hk,hlk,hkx,rfl⟩:=Wd hz;rw [List.length_drop,List.length_take];have:(l:Int).toNat=l:=rfl;omega
end Go.Yw
end
end
section
noncomputable section
namespace Go.Yw
open Go.Lf
variable {X:Ctx} {n wm U1:Nat} {fr:Fr} {h:H} {ty:TypeId} {p:String} {af:Array Edge} {g:Option (Nat×Bool)} {d:Nat}
section
variable {α:Type} {e:Um α} {t el:TypeId} {x:Operand} {a:Option Addr} {nn c:Nat} {xs zs:List α} {a2:Int}
theorem Sl.pre {k:Nat} (s:Sl e wm h a c xs) (hk:k <=xs.length):Sl e wm h a c (xs.take k):=by
 have hlen:(xs.take k).length=k:=by rw [List.length_take];omega
 refine⟨by rw [hlen];exact Nat.le_trans hk s.max,by rw [hlen];exact Nat.le_trans hk s.cap,s.nl,?_⟩;rcases s.mem with q | ⟨i,o,cs,own,z,q1,q2,q3,q4⟩
 ·left;subst q;simp
 ·refine .inr ⟨i,o,cs,own,z,q1,q2,q3,?_⟩;have:=q4.piece (Nat.zero_le k) hk
  simpa using this
theorem XL.pre {k:Nat} (s:XL e wm wm h a c xs) (hk:k <=xs.length):XL e wm wm h a c (xs.take k):=by
 have hlen:(xs.take k).length=k:=by rw [List.length_take];omega
 refine⟨by rw [hlen];exact Nat.le_trans hk s.max,?_⟩;rcases s.mem with⟨q1,q2,q3⟩ | ⟨i,o,cs,q1,q2,q3,q4,q5,q6⟩
 ·left;subst q3;exact⟨q1,q2,by simp⟩
 ·refine .inr ⟨i,o,cs,q1,q2,q3,by rw [hlen];omega,q5,?_⟩;have:=q6.piece (Nat.zero_le k) hk
  simpa using this
theorem ZtM {hi:Operand} {kk:IntKind} (so:Sl e U1 h a c xs) (hn:nn=xs.length) (hu:X.P.underlying t=some (.slice el)) (hs:Z7 X.P el=some e.sz) (hx:ZX fr x=some (.slice a nn c))
 (hhi:ZX fr hi=some (.int kk a2)) (hz:slL xs 0 a2=some zs):
 HE X ⟨some d,.slice t x none (some hi) none,ty,p,af,g⟩ fr h (fun v=>∃ a' c',v= .slice a' zs.length c'∧Zj5 e a c xs a' c' zs):=by
 obtain⟨l,k,hl0,rfl,hlk,hkx,rfl⟩:=Wd hz;have hl0:l=0:=by omega
 subst hl0 hn;have hlen:((xs.take k).drop 0).length=k:=by rw [List.drop_zero,List.length_take];omega
 have e2:∀ q,obN (some (.int kk (k:Int))) q=some k:=fun q=>rfl
 have e1:obN none 0=some 0:=rfl
 have sub:Zj5 e a c xs a c ((xs.take k).drop 0):=by
  rw [List.drop_zero];exact⟨fun s=>s.pre hkx,fun s=>s.pre hkx,fun i q=>q⟩
 refine⟨.slice a k c,?_,a,c,by rw [hlen],sub⟩;have hcap:=so.cap;rcases so.nl with⟨rfl,rfl⟩ | ⟨rfl,rfl⟩ | ⟨i,o,rfl⟩
 ·have hx0:xs= []:=List.length_eq_zero_iff.1 (by omega);subst hx0;have hk0:k=0:=by simpa using hkx
  subst hk0;refine Qq hx rfl (YM hhi) rfl ?_
  have:aslice X.P h t (.slice none 0 0) none (some (.int kk ((0:Nat):Int))) none=some (.slice none 0 0):=by
   unfold aslice;simp only [hu,hs]
   rfl
  exact this
 ·have hx0:xs= []:=List.length_eq_zero_iff.1 (by omega);subst hx0;have hk0:k=0:=by simpa using hkx
  subst hk0;refine Qq hx rfl (YM hhi) rfl ?_
  have:aslice X.P h t (.slice (some ⟨0,0,some 0⟩) 0 0) none (some (.int kk ((0:Nat):Int))) none=some (.slice (some ⟨0,0,some 0⟩) 0 0):=by
   unfold aslice;simp only [hu,hs]
   rfl
  exact this
 ·refine Qq hx rfl (YM hhi) rfl ?_;unfold aslice;simp only [hu,hs,e1,e2];rw [Nm0 (Nat.zero_le k),Nm0 (Nat.le_trans hkx hcap)];simp only [Bool.and_self,Cq1];cases hev:Nat.beq (c % 2) 0 with
  | true=>
    have:=Nb0 hev;simp only [Cq1,Nat.zero_mul,Nat.add_zero,Nat.sub_zero];have hc:2 * (c / 2)=c:=by omega
    rw [hc];cases Nat.beq (c / 2) 0 <;> rfl
  | false=>
    simp only [Cq0]
    rfl
end
end Go.Yw
end
end
section
noncomputable section
namespace Go.Yw
open Go.Lf
variable {X:Ctx} {n wm:Nat} {rd:Option Nat} {ops:Array Oper} {l:List Oper} {fr:Fr} {ds:List Deferred} {h h1 h2 h0:H} {ty:TypeId} {p:String} {af:Array Edge} {g:Option (Nat×Bool)} {T:Nat ->Prop} {G Gr Ga Gb:List (Ast wm)} {d:Nat}
theorem ZtX {α β:Type} {y:α} {p:Int ->Option β} {k:α ->Option β} {r:β} (h:prC (.ok y) p k=some r):k y=some r:=h
theorem Zqt {α β:Type} {e:Int} {p:Int ->Option β} {k:α ->Option β} {r:β} (h:prC (.Jq e) p k=some r):p e=some r:=h
theorem Zt2 {α β:Type} {y:α} {p:Option β} {k:α ->Option β} {r:β} (h:opt (some y) p k=some r):k y=some r:=h
theorem Zt3 {α β:Type} {p:Option β} {k:α ->Option β} {r:β} (h:opt none p k=some r):p=some r:=h
def pv (t:TypeId) (k:Int):Value:= .iface t (.int .i64 k)
def PQ {β:Type} {wm:Nat} (t:TypeId) (K:β ->Value ->List (Ast wm) ->Prop) (Ga:List (Ast wm)) (h:H) (r:PR β):Kq ->H ->Prop:=fun e h'=>match r with
 | .ok b=>∃ v,e= .ret v∧CP (K b) Ga h v h'
 | .Jq k=>e= .Jq (pv t k)∧Sp wm (XM Ga) h [] h'
section
variable {β:Type} {t:TypeId} {K:β ->Value ->List (Ast wm) ->Prop} {f:FuncId} {args:Array Value}
theorem PQ.ok {b:β} (k:WF X f args wm h (PQ t K Ga h (.ok b))):WR X f args wm h (CP (K b) Ga h):=k
theorem PQ.Jq {k:Int} (w:WF X f args wm h (PQ t K Ga h (.Jq k))):∃ h',Sp wm (XM Ga) h [] h'∧Yo X (.call f args wm h) (.fin (.Jq (pv t k)) h'):=
 let⟨_,h',hq,hj⟩:=w;⟨h',hq.2,by have:=hq.1;subst this;exact hj⟩
theorem WO.clX {Q:XX ->Fs ->Prop} {op:Op} {k:Int} (hg:ZP ops ⟨some d,op,ty,p,af,g⟩ fr) (he:Xj X fr ⟨some d,op,ty,p,af,g⟩ f args) (hS:Sp wm T h0 G h) (pk:Sel G Ga Gr)
 (hc:∀ g':H,g'.size=h.size ->Fz wm h g' ->ZQ Ga g' ->WF X f args wm g' (PQ t K Ga g' (.Jq k))) (kk:∀ h',Sp wm T h0 Gr h' ->Q (.panic (pv t k)) ⟨fr,ds,h',none⟩):
 WO X n wm rd ops (⟨some d,op,ty,p,af,g⟩::l) ⟨fr,ds,h,none⟩ Q:=by
 obtain⟨h',hs,hj⟩:=PQ.Jq (hc h rfl (Fz.refl _ _) (hS.ZhA pk));exact WO.Zjc hg (he h) rfl hj (kk h' (hS.call pk hs))
theorem WO.ZK1 {Q:XX ->Fs ->Prop} {op:Op} {k:Int} {K:β ->Value ->List (Ast h.size) ->Prop} (hg:ZP ops ⟨some d,op,ty,p,af,g⟩ fr) (he:Xj X fr ⟨some d,op,ty,p,af,g⟩ f args) (hw:wm <=h.size) (hS:Sp wm T h0 G h)
 (hc:WF X f args h.size h (PQ t K [] h (.Jq k))) (kk:∀ h',Sp wm T h0 G h' ->Q (.panic (pv t k)) ⟨fr,ds,h',none⟩):
 WO X n wm rd ops (⟨some d,op,ty,p,af,g⟩::l) ⟨fr,ds,h,none⟩ Q:=by
 obtain⟨h',hs,hj⟩:=PQ.Jq hc;exact WO.Zjc hg (he h) rfl (hj.weaken hw (Nat.le_refl _)) (kk h' (Sp.clR (Gb:= []) hS hs .n))
theorem Qb.Zvn {fn:Func} {rs:List ResultVar} {vs:List Value} {v:Value} {b:β} {h0:H} (hr:fn.results.toList=rs) (hv:ZdD X.P fr h rs=some vs) (hl:(match vs with | [v]=>v | vs=>.tuple vs.toArray)=v) (k:CP (K b) Ga h0 v h):Qb X fn wm (PQ t K Ga h0 (.ok b)) .ret ⟨fr,[],h,none⟩:=
 Qb.gen (R:=fun v h'=>CP (K b) Ga h0 v h') hr hv hl k
end
def Zbx (X:Ctx) (fn:Func) (wm:Nat) (Q:Kq ->H ->Prop) (pm:PM) (s:Fs):Prop:=∃ E h',Q E h'∧Yo X (.leave fn wm pm s) (.fin E h')
section
variable {fn:Func} {R:Kq ->H ->Prop} {s:Fs} {v:Value} {pm:PM}
theorem Qb.ofP (k:Zbx X fn wm R .ret s):Qb X fn wm R .ret s:=let⟨E,h',h1,h2⟩:=k;⟨⟨.ret,E,h',rfl,h1,h2⟩⟩
theorem Qb.ofX (k:Zbx X fn wm R (.Jq v) s):Qb X fn wm R (.panic v) s:=let⟨E,h',h1,h2⟩:=k;⟨⟨.Jq v,E,h',rfl,h1,h2⟩⟩
theorem Zbx.ofL (k:Qb X fn wm R .ret s) (hp:pm= .ret):Zbx X fn wm R pm s:=by
 obtain⟨KC,E,h',e,h1,h2⟩:=k.out;cases e;subst hp;exact⟨E,h',h1,h2⟩
theorem Zbx.Jq (k:R (.Jq v) h):Zbx X fn wm R (.Jq v) ⟨fr,[],h,none⟩:=by
 refine⟨.Jq v,h,k,Jk (C:=cfg X fun _=>false) (ih:=fun _=>none) (fun _ _ h=>by cases h) ?_⟩;unfold Uw
 rfl
def DC (X:Ctx) (n wm:Nat) (c:Code) (pm:PM) (s:Fs) (Q:XX ->PM ->Fs ->Prop):Prop:=∃ e KC s',Q e KC s'∧Yo X (.Xo c n wm pm s) (.Xo e KC s')
structure DSq (X:Ctx) (n wm:Nat) (b:Code) (Q:XX ->PM ->Fs ->Prop) (e:XX) (pm:PM) (s:Fs):Prop where
 Yt:e= .normal
 k:DC X n wm b pm s Q
theorem DC.seq {a b:Code} {Q:XX ->PM ->Fs ->Prop} (k:DC X n wm a pm s (DSq X n wm b Q)):DC X n wm (.seq a b) pm s Q:=by
 obtain⟨e,pm1,s1,⟨rfl,e2,pm2,s2,hq,j2⟩,j1⟩:=k;obtain⟨_,_,_,q1,ka⟩:=XU.1 j1;cases q1;obtain⟨_,_,_,q2,kb⟩:=XU.1 j2;cases q2;refine⟨_,_,_,hq,XU.2 ⟨_,_,_,rfl,fun ρ a c0 cs w ZG hi hpm=>wpSIn_seq (Q5 (ka ρ a c0 cs w ZG hi hpm) ?_)⟩⟩;rintro e' a' cs' w' ⟨ρ',u',rfl,hp',he,hi',hst⟩;cases he;refine Q5 (kb ρ' a' {c0 with mode:=u'} cs w' (Nat.le_trans ZG hst.size) hi' hp') ?_;rintro e3 a3 cs3 w3 ⟨ρ3,u3,rfl,q1,q2,q3,q4⟩;exact⟨ρ3,u3,rfl,q1,q2,q3,hst.trans hi.rel.lt q4⟩
theorem DC.rgn {id:Nat} {ops:Array Oper} {dr:Bool} {Q:XX ->PM ->Fs ->Prop} (hn:(!dr && ops.toList.any isRecover)=false) (k:WC X n wm none (.region id ops dr) s (fun e s'=>Q e pm s')):DC X n wm (.region id ops dr) pm s Q:=by
 obtain⟨e,s',hq,j⟩:=k;refine⟨e,pm,s',hq,XU.2 (Jl (C:=cfg X fun _=>false) (ih:=Kt (.code (.region id ops dr) n wm none s) (.code e s')) (QN (Xp.2 ⟨_,_,rfl,j⟩)) ?_)⟩;unfold KI;dsimp only;rw [hn];unfold Zbn;rw [QO];rfl
theorem DC.skip {Q:XX ->PM ->Fs ->Prop} (k:Q .normal pm s):DC X n wm .skip pm s Q:=by
 obtain⟨e,s',hq,j⟩:WC X n wm none .skip s (fun e s'=>Q e pm s'):=WC.skip k;refine⟨e,pm,s',hq,XU.2 (Jl (C:=cfg X fun _=>false) (ih:=Kt (.code .skip n wm none s) (.code e s')) (QN (Xp.2 ⟨_,_,rfl,j⟩)) ?_)⟩;unfold KI Zbn;dsimp only;rw [QO];rfl
theorem DC.ZvU {c:Operand} {a b:Code} {t:Bool} {Q:XX ->PM ->Fs ->Prop} {fr:Fr} (hc:ZX fr c=some (.bool t)) (ht:t=true) (k:DC X n wm a pm ⟨fr,ds,h,none⟩ Q):DC X n wm (.cond c a b) pm ⟨fr,ds,h,none⟩ Q:=by
 subst ht;obtain⟨e,KC,s',hq,j⟩:=k;refine⟨e,KC,s',hq,XU.2 (Jl (C:=cfg X fun _=>false) (ih:=Kt (.Xo a n wm pm ⟨fr,ds,h,none⟩) (.Xo e KC s')) (QN j) ?_)⟩;unfold KI;dsimp only;rw [hc];exact QO _ _
theorem DC.ZvV {c:Operand} {a b:Code} {t:Bool} {Q:XX ->PM ->Fs ->Prop} {fr:Fr} (hc:ZX fr c=some (.bool t)) (ht:t=false) (k:DC X n wm b pm ⟨fr,ds,h,none⟩ Q):DC X n wm (.cond c a b) pm ⟨fr,ds,h,none⟩ Q:=by
 subst ht;obtain⟨e,KC,s',hq,j⟩:=k;refine⟨e,KC,s',hq,XU.2 (Jl (C:=cfg X fun _=>false) (ih:=Kt (.Xo b n wm pm ⟨fr,ds,h,none⟩) (.Xo e KC s')) (QN j) ?_)⟩;unfold KI;dsimp only;rw [hc];exact QO _ _
theorem DC.rec {id:Nat} {ops:Array Oper} {Q:XX ->PM ->Fs ->Prop} (KC:PM) (fr':Fr) (hd:ZnZ X n wm ops.toList ops.toList pm ⟨fr,ds,h,none⟩=some (KC,⟨fr',ds,h,none⟩)) (hn:ops.toList.any isRecover=true) (k:Q .normal KC ⟨fr',ds,h,none⟩):DC X n wm (.region id ops false) pm ⟨fr,ds,h,none⟩ Q:=by
 refine⟨.normal,KC,_,k,XU.2 (Jl (C:=cfg X fun _=>false) (ih:=fun _=>none) (fun _ _ h=>by cases h) ?_)⟩;unfold KI;dsimp only;rw [hn];have hd':ZnZ (cfg X fun _=>false).X n wm ops.toList ops.toList pm ⟨fr,ds,h,none⟩=some (KC,⟨fr',ds,h,none⟩):=hd;rw [hd'];rfl
structure DEn (X:Ctx) (fn:Func) (wm:Nat) (R:Kq ->H ->Prop) (fr:Fr) (ds:List Deferred) (e:XX) (pm:PM) (s:Fs):Prop where
 Yt:e= .normal
 no:s.ds= []
 k:Zbx X fn wm R (Zhr pm) ⟨fr,ds,s.h,none⟩
theorem Zbx.dfn {f:FuncId} {fn2:Func} {c:Code} {cap:List Value} {n2:Nat} (hf:X.fns.get f=some fn2) (hb:fn2.body=some c) (hnt:fn2.ntmps=n2) (hn:cap.length <=n2) (hr:fn2.results.toList= [])
 (k:DC X n2 wm c pm ⟨XT cap 0 .nil,[],h,none⟩ (DEn X fn wm R fr ds)):Zbx X fn wm R pm ⟨fr,⟨.fn (.func f) cap.toArray,#[]⟩::ds,h,none⟩:=by
 subst hnt;obtain⟨e,KC,s',⟨rfl,hno,E,h',hR,jl⟩,jd⟩:=k;obtain⟨fr',ds',h2,wr'⟩:=s';dsimp only at hno jl;subst hno
 have jc:Yo X (.dcall f (([]:List Value) ++ cap).toArray pm wm h) (.ZdC KC h2):=by
  refine ZdR (C:=cfg X fun _=>false) (ih:=Kt (.Xo c fn2.ntmps wm pm ⟨XT cap 0 .nil,[],h,none⟩) (.Xo .normal KC ⟨fr',[],h2,wr'⟩)) (QN jd) ?_;unfold Ze1;have hf':(cfg X fun _=>false).X.fns.get f=some fn2:=hf;rw [hf'];dsimp only;rw [hb];dsimp only;have e1:Nat.ble (([]:List Value) ++ cap).toArray.toList.length fn2.ntmps=true:=Nm0 hn;rw [e1,Cq1];rw [List.nil_append,QO];unfold ZvT;dsimp only;have e3:QJ (cfg X fun _=>false).X.P fn2 fr' h2=some (.tuple #[]):=by unfold QJ;rw [hr];rfl
  rw [e3]
 refine⟨E,h',hR,?_⟩
 classical
 let ih:Jf ->Option YJ:=fun j=>if j= .dcall f (([]:List Value) ++ cap).toArray pm wm h then some (.ZdC KC h2) else if j= .leave fn wm (Zhr KC) ⟨fr,ds,h2,none⟩ then some (.fin E h') else none
 refine Jk (C:=cfg X fun _=>false) (ih:=ih) ?_ ?_
 ·intro j r e;dsimp only [ih] at e;split at e
  ·rename_i hj;cases e;rw [hj];exact jc
  ·split at e
   ·rename_i hj;cases e;rw [hj];exact jl
   ·cases e
 ·unfold Uw;dsimp only;have hf':(cfg X fun _=>false).X.fns.get f=some fn2:=hf;rw [hf'];dsimp only;have i1:ih (.dcall f ((#[]:Array Value).toList ++ cap.toArray.toList).toArray pm wm h)=some (.ZdC KC h2):=by dsimp only [ih];rw [if_pos rfl]
  rw [i1];dsimp only [ih];rw [if_neg (by intro q;cases q),if_pos rfl]
end
section
theorem WO.dfr {Q:XX ->Fs ->Prop} {fo:Operand} {ts:Array TypeId} {f:FuncId} {cap:Array Value} (hg:ZP ops ⟨none,.defer {callee:= .value fo,args:=#[],argTypes:=ts},ty,p,af,g⟩ fr) (hf:ZX fr fo=some (.func (.func f) #[] cap))
 (k:WO X n wm none ops l ⟨fr,⟨.fn (.func f) cap,#[]⟩::ds,h,none⟩ Q):WO X n wm none ops (⟨none,.defer {callee:= .value fo,args:=#[],argTypes:=ts},ty,p,af,g⟩::l) ⟨fr,ds,h,none⟩ Q:=by
 refine WO.cons (ZbO X) (s1:= ⟨fr,⟨.fn (.func f) cap,#[]⟩::ds,h,none⟩) ?_ k
 have ha:Xt X h (ZX fr) ⟨none,.defer {callee:= .value fo,args:=#[],argTypes:=ts},ty,p,af,g⟩=some (.dfr ⟨.fn (.func f) cap,#[]⟩,.none):=by
  show(match evs (ZX fr) [] with
   | some args=>(match ZX fr fo with
     | some (.func (.func g) first cap)=>some (AN.dfr {target:= .fn (.func g) cap,args:=first ++ args.toArray},Eff.none)
     | _=>none)
   | none=>none)=_
  rw [hf];rfl
 unfold Ko;rw [hg.1,hg.2];dsimp only [Bool.not_true,Cq0,Cq1];rw [ha]
 rfl
theorem WO.pnc {Q:XX ->Fs ->Prop} {x:Operand} {t:TypeId} {v:Value} (hg:ZP ops ⟨none,.panic x,ty,p,af,g⟩ fr) (hx:ZX fr x=some (.iface t v)) (k:Q (.panic (.iface t v)) ⟨fr,ds,h,none⟩):WO X n wm rd ops (⟨none,.panic x,ty,p,af,g⟩::l) ⟨fr,ds,h,none⟩ Q:=by
 refine WO.panic (E:= .none) (h1:=h) hg ?_ rfl k
 show(match ZX fr x with
  | some (.iface t v)=>some (AN.panic (.iface t v),Eff.none)
  | _=>none)=_
 rw [hx]
theorem Zgz {x:Operand} {t:TypeId} {v:Value} (hx:ZX fr x=some v) (ht:(match X.P.underlying t with | some (.interface _)=>false | some _=>true | none=>false)=true):Xt X h (ZX fr) ⟨some d,.makeInterface t x,ty,p,af,g⟩=some (.val (.iface t v),.none):=by
 show(match ZX fr x,X.P.underlying t with
  | some _,some (.interface _)=>none
  | some v,some _=>some (AN.val (.iface t v),Eff.none)
  | _,_=>none)=_
 rw [hx];cases hh:X.P.underlying t with
 | none=>rw [hh] at ht;cases ht
 | some u=>
   rw [hh] at ht;cases u
   case interface=>cases ht
   all_goals rfl
end
end Go.Yw
end
end
section
noncomputable section
namespace Go.Yw
open Go.Lf
variable {X:Ctx} {n wm:Nat} {rd:Option Nat} {ops:Array Oper} {l:List Oper} {rest:Code}
theorem WO.body {s:Fs} {Q:XX ->Fs ->Prop} (k:WO X n wm rd ops l s (Qy X n wm rd rest Q)):∃ e s',Q e s'∧∀ {ρ:Ren} {F:Fence} {a:Act} {w:World},Inv ρ n s a w ->wm <=s.h.size ->FR' ρ rd F ->∀ Q':Exit ->Act ->World ->Prop,(∀ e' a' w',Y4 wm n ρ s.h w e s' e' a' w' ->Q' e' a' w') ->
 wpListIn F 0 X.P ops (Exit.then (rest.wpIn F 0 X.P Q') Q') l a w:=by
 obtain⟨e1,s1,hk,ho⟩:=k.out;have hk:=hk.out;cases e1 with
 | normal=>
   obtain⟨e,s',hq,hj⟩:=hk;obtain⟨_,_,q0,kb⟩:=Xp.1 hj;cases q0;refine⟨e,s',hq,fun{ρ F a w} hi hw hF Q' hQ=>ho _ hi hw hF fun e' a' w' hp=>?_⟩;obtain⟨ρ',he,hi',hst⟩:=hp;cases he;exact wpIn_mono (kb ρ' a' w' F (Nat.le_trans hw hst.size) hi' (hF.mono hst.ext)) fun e2 a2 w2 hp2=>hQ _ _ _ (Y4.trans hi.rel.lt hst hp2)
 | exit id=>
   refine⟨_,s1,hk,fun{ρ F a w} hi hw hF Q' hQ=>ho _ hi hw hF fun e' a' w' hp=>?_⟩;obtain⟨ρ',he,hi',hst⟩:=hp;cases he;exact hQ _ _ _ ⟨ρ',.exit id,hi',hst⟩
 | goto id=>
   refine⟨_,s1,hk,fun{ρ F a w} hi hw hF Q' hQ=>ho _ hi hw hF fun e' a' w' hp=>?_⟩;obtain⟨ρ',he,hi',hst⟩:=hp;cases he;exact hQ _ _ _ ⟨ρ',.goto id,hi',hst⟩
 | ret=>
   refine⟨_,s1,hk,fun{ρ F a w} hi hw hF Q' hQ=>ho _ hi hw hF fun e' a' w' hp=>?_⟩;obtain⟨ρ',he,hi',hst⟩:=hp;cases he;exact hQ _ _ _ ⟨ρ',.ret,hi',hst⟩
 | panic v=>
   refine⟨_,s1,hk,fun{ρ F a w} hi hw hF Q' hQ=>ho _ hi hw hF fun e' a' w' hp=>?_⟩;obtain⟨ρ',he,hi',hst⟩:=hp;cases he with
   | panic hv=>exact hQ _ _ _ ⟨ρ',.panic hv,hi',hst⟩
theorem EL.mem' {ρ:Ren} {es es':List MapEntry} (e:EL ρ es es') {x:MapEntry} (hx:x ∈ es):∃ x' ∈ es',x'.born=x.born:=by
 induction e with
 | nil=>cases hx
 | cons hk hp hb hv _ ih=>
   rcases List.mem_cons.1 hx with rfl | h
   ·exact⟨_,by simp,hb⟩
   ·obtain⟨x',h1,h2⟩:=ih h;exact⟨x',List.mem_cons_of_mem _ h1,h2⟩
theorem Zun {s:Fs} {id:Nat} {o:Oper} {t it m YH clock d:Nat} {es:List MapEntry} {T:List Nat} {v:Value} {e:XX} {s2:Fs} (Jq:Nat ->Bool)
 (hops:ops.toList=o::l) (hop:o.op= .next (.tmp t) false) (hgu:o.guard=none) (hfr:s.fr.at t= .pointer (some ⟨it,0,none⟩)) (hit:s.h.at it= .iter m clock YH none) (hm:s.h.at m= .map es clock) (hck:clock <=YH) (hborn:Ub clock es=true) (ZjD:wm <=it) (htT:t ∉ T) (hd:o.dst=some d) (hdn:d < n) (hdT:d ∈ T) (hv:plain v=true)
 (ZcI:∀ x ∈ es,∃ ex s3,(s3.ds=s.ds∧(∀ t,t ∉ T ->s3.fr.at t=s.fr.at t)∧(ex= .normal∧Jq x.born=false∨ex= .panic v∧Jq x.born=true))∧∀ {ρ:Ren} {F:Fence} {a:Act} {w:World},Inv ρ n {fr:=YU (ZH T s.fr) o.dst (.tuple #[.bool true,x.key,x.val]),ds:=s.ds,h:=s.h.put it (.iter m clock clock (some x.born)),wr:=s.wr} a w ->s.h.size <= (s.h.put it (.iter m clock clock (some x.born))).size ->FR' ρ rd F ->∀ Q':Exit ->Act ->World ->Prop,
   (∀ e' a' w',Y4 s.h.size n ρ (s.h.put it (.iter m clock clock (some x.born))) w ex s3 e' a' w' ->Q' e' a' w') ->wpListIn F 0 X.P ops (Exit.then (rest.wpIn F 0 X.P Q') Q') l a w)
 (hover:(∀ x ∈ es,Jq x.born=false) ->e ≠ .normal∧∀ {ρ:Ren} {F:Fence} {a:Act} {w:World},Inv ρ n {s with fr:=YU (ZH T s.fr) o.dst Uh,h:=s.h.put it .dead} a w ->wm <= (s.h.put it .dead).size ->FR' ρ rd F ->∀ Q':Exit ->Act ->World ->Prop,
   (∀ e' a' w',Y4 wm n ρ (s.h.put it .dead) w e s2 e' a' w' ->Q' e' a' w') ->wpListIn F 0 X.P ops (Exit.then (rest.wpIn F 0 X.P Q') Q') l a w)
 (ZJy:(∃ x ∈ es,Jq x.born=true) ->e= .panic v∧s2= {s with fr:=ZH T s.fr,h:=s.h.put it .dead}):Yo X (.loop (.seq (.region id ops false) rest) n wm rd s) (.code e s2):=by
 refine Zbg.2 ⟨e,s2,rfl,fun ρ a0 w0 F ZG hi0 hF=>?_⟩;obtain⟨dd,hdr⟩:∃ d,d=it:= ⟨_,rfl⟩
 have Ziw:=hi0.fr.val t (by rw [hfr];rfl);rw [hfr] at Ziw;generalize hpx:a0.tmps.getD t undef=px at Ziw;cases Ziw with
 | @ptr _ bi di _ Zad=>
 have hoi:=hi0.rel.obj _ _ _ Zad;rw [hit] at hoi;obtain⟨rfl,bm,ZzD,ZcD,Znt,_,Zae⟩:=hoi;have Zae:=Zae rfl;subst Zae;have hom:=hi0.rel.obj _ _ _ ZcD;rw [hm] at hom;obtain⟨_,es',Znn,hes⟩:=hom;have hilt:=hi0.rel.dom _ _ _ Zad;have ZFr:=hi0.rel.dom _ _ _ ZcD;have Ziy:m ≠ it:=fun z=>by rw [z,hit] at hm;cases hm
 have hold:∀ x ∈ es'.toList,x.born < clock:=by
  intro x hx;obtain⟨y,hy,_,_,hyb,_⟩:=hes.mem hx;rw [hyb];exact Zep hborn y hy
 have ZgY:∀ j b d,ρ j=some (b,d) ->b=bi ->j ≠ it ->((s.h.at j).live=true ->False):=by
  intro j b d hj hbb hne' hl;subst hbb;exact hne' (hi0.rel.inj it j b 0 d Zad hj (by rw [hit];rfl) hl).symm
 have hbne:bm ≠ bi:=fun z=>ZgY m bm 0 ZcD z Ziy (by rw [hm];rfl)
 have ZAb:s.h.size= (s.h.put it .dead).size:=rfl
 have ZcF:∀ {a:Act} {w:World} {K:Act ->World ->Prop} {Q:Exit ->Act ->World ->Prop} {v:Value} {w1:World},a.tmps.getD t undef= .pointer (some ⟨bi,0,none⟩) ->(Instr.next (.pointer (some ⟨bi,0,none⟩)) false o.type).run X.P w= .ok v w1 ->
  K (a.put o.dst v) w1 ->(if Region.wanted o (yielded ops a.tmps) then o.wpIn F 0 X.P a w K Q else(∀ f,o.about X.P w a.eval=some f ->F.fn f)∧K (a.put o.dst undef) w):=by
  intro a w K Q v w1 ht hrun hK;have hw:Region.wanted o (yielded ops a.tmps)=true:=by unfold Region.wanted;rw [hgu]
  rw [if_pos hw];refine⟨fun f _=>Wm hF f,?_⟩;have Ziv:o.semAt F.round a.eval=execOp a.eval o:=Oper.semAt_eq _ _ _ fun c hc=>by rw [hop] at hc;cases hc
  have he:a.eval (.tmp t)= .pointer (some ⟨bi,0,none⟩):=ht
  have hx:(execOp a.eval o).run X.P w= .ok (.value v) w1:=by
   unfold execOp;rw [hop];simp [he,hrun]
  rw [Ziv,hx];exact hK
 have ZFp:∀ t,t ∉ T ->t ≠ d:=fun t ht z=>by rw [z] at ht;exact ht hdT
 have ZgX:∀ (a:Act) (w:World),Inv ρ n {s with fr:=ZH T s.fr,h:=s.h.put it .dead} a w ->a.tmps.getD t undef= .pointer (some ⟨bi,0,none⟩):=by
  intro a w hi;have h0:VR ρ ((ZH T s.fr).at t) (a.tmps.getD t undef):=hi.fr.val t (by show XR ((ZH T s.fr).at t)=false;rw [YI,if_neg htT,hfr];rfl);rw [YI,if_neg htT,hfr] at h0;generalize a.tmps.getD t undef=y at h0;cases h0 with
  | ptr _ h1=>rw [Zad] at h1;cases h1;rfl
 have Znl:(∀ x ∈ es,Jq x.born=false) ->∀ (a:Act) (w:World),Inv ρ n {s with fr:=ZH T s.fr,h:=s.h.put it .dead} a w ->Stp wm ρ s.h w0 ρ (s.h.put it .dead) w ->a.tmps.getD t undef= .pointer (some ⟨bi,0,none⟩) ->
  (Instr.next (.pointer (some ⟨bi,0,none⟩)) false o.type).run X.P w= .ok Uh w ->LoopIn F 0 X.P (.seq (.region id ops false) rest) (Y4 wm n ρ s.h w0 e s2) a w:=by
  intro hall a w hi hst ht hrun;obtain⟨hne,hover⟩:=hover hall;refine Xc (wpIn_seq (wpIn_region_list ?_));rw [hops];refine ZcF ht hrun ?_
  have hio:Inv ρ n {s with fr:=YU (ZH T s.fr) o.dst Uh,h:=s.h.put it .dead} (a.put o.dst Uh) w:=by
   refine⟨hi.rel,?_,?_⟩
   ·rw [hd];exact hi.fr.set hdn (VR.Zz rfl)
   ·rw [hd];exact hi.ds
  refine hover hio ZG hF _ fun e3 a3 w3 hp=>?_
  have hp2:=Y4.trans hi0.rel.lt hst hp;obtain⟨ρ3,hx3,hi3,QR⟩:=hp2;cases hx3 with
  | normal=>exact(hne rfl).elim
  | exit id=>exact⟨ρ3,.exit id,hi3,QR⟩
  | goto id=>exact⟨ρ3,.goto id,hi3,QR⟩
  | ret=>exact⟨ρ3,.ret,hi3,QR⟩
  | panic hv=>exact⟨ρ3,.panic hv,hi3,QR⟩
 have Znv:∀ seen:Array Nat,(∀ b,seen.contains b=true ->Jq b=false) ->(leftOf es' seen).size=0 ->∀ x ∈ es,Jq x.born=false:=by
  intro seen Zbk h00 x hx;obtain⟨y,hy,hyb⟩:=hes.mem' hx;refine Zbk _ ?_;cases hc:seen.contains x.born with
  | true=>rfl
  | false=>
    exfalso;have:y ∈ leftOf es' seen:=Array.mem_filter.2 ⟨Array.mem_toList_iff.1 hy,by rw [hyb,hc];rfl⟩;rw [Array.eq_empty_of_size_eq_zero h00] at this;simp at this
 have head:∀ (k:Nat) (seen:Array Nat) (last:Nat) (a:Act) (w:World),(∀ b,seen.contains b=true ->Jq b=false) ->(leftOf es' seen).size <=k ->clock <=last ->w.heap[bi]? =some (.mapIter (some bm) clock seen last) ->w.heap[bm]? =some (.map es' clock) ->
  Inv ρ n {s with fr:=ZH T s.fr,h:=s.h.put it .dead} a w ->
  Stp wm ρ s.h w0 ρ (s.h.put it .dead) w ->LoopIn F 0 X.P (.seq (.region id ops false) rest) (Y4 wm n ρ s.h w0 e s2) a w:=by
  intro k
  induction k with
  | zero=>
    intro seen last a w Zbk hk hlast hblk ZaK hi hst;have ht:=ZgX a w hi;rcases Zdd (P:=X.P) o.type hblk ZaK hold (hlast) with⟨h00,hrun⟩ | ⟨e',he',_⟩
    ·exact Znl (Znv seen Zbk h00) a w hi hst ht hrun
    ·have:=Array.length_toList ▸ List.length_pos_of_mem he';omega
  | succ k ihk=>
    intro seen last a w Zbk hk hlast hblk ZaK hi hst;have ht:=ZgX a w hi;rcases Zdd (P:=X.P) o.type hblk ZaK hold (hlast) with⟨h00,hrun⟩ | ⟨e',he',w1,hw1,hsame,hrun⟩
    ·exact Znl (Znv seen Zbk h00) a w hi hst ht hrun
    ·have hmem:= (mem_left he').1;obtain⟨x,hx,hkey,hkp,hbn,hval⟩:=hes.mem hmem;obtain⟨ex,s3,⟨ZuK,hwr,hpn⟩,hbody⟩:=ZcI x hx;have Zno:bi < w.heap.size:= (hi.rel.dom _ _ _ Zad).2;have Zz9:bm < w.heap.size:= (hi.rel.dom _ _ _ ZcD).2;obtain⟨w2,hw2⟩:∃ w2,w2=w1.putObj bi (.mapIter (some bm) clock (seen.push e'.born) clock):= ⟨_,rfl⟩
     rw [← hw2] at hrun;have hsz2:w2.heap.size=w.heap.size:=by rw [hw2,World.putObj_size,hw1]
     have hother:∀ k,k ≠ bi ->w2.heap[k]? =w.heap[k]?:=fun k hk=>by rw [hw2,World.putObj_heap_other hk,hw1]
     have Znu:w2.heap[bi]? =some (.mapIter (some bm) clock (seen.push e'.born) clock):=by rw [hw2];exact World.putObj_heap_same (by rw [hw1];exact Zno)
     have Zaf:Same w w2:=by rw [hw2];exact⟨hsame.os,hsame.tape,hsame.output⟩
     have hrel:Rel ρ (s.h.put it (.iter m clock clock (some x.born))) w2:=by
      refine Zd5 hi.rel Zad ZgY hother hsz2 ⟨rfl,bm,seen.push e'.born,ZcD,Znu,fun z hz=>?_,fun z=>by cases z⟩;cases hz;rw [← hbn];simp
     have hie:Inv ρ n {fr:=YU (ZH T s.fr) o.dst (.tuple #[.bool true,x.key,x.val]),ds:=s.ds,h:=s.h.put it (.iter m clock clock (some x.born)),wr:=s.wr} (a.put o.dst (.tuple #[.bool true,e'.key,e'.val])) w2:=by
      refine⟨hrel,?_,?_⟩
      ·rw [hd];refine hi.fr.set hdn (.tuple _ _ rfl fun j y y' p q=>?_)
       match j,p,q with
       | 0,p,q=>simp at p q;subst p q;exact .bool true
       | 1,p,q=>simp at p q;subst p q;rw [hkey];exact VR.Zz hkp
       | 2,p,q=>simp at p q;subst p q;exact hval
       | j + 3,p,q=>simp at p
      ·rw [hd];exact hi.ds
     refine Xc (wpIn_seq (wpIn_region_list ?_));rw [hops];refine ZcF ht hrun ?_;refine hbody hie (Nat.le_refl _) hF _ fun e3 a3 w3 hp=>?_
     obtain⟨ρ3,hx3,hi3,QR⟩:=hp;obtain⟨q1,q2⟩:=KQ hrel QR;have Ziz:∀ b,b < w2.heap.size ->w3.heap[b]? =w2.heap[b]?:=fun b hb=>QR.frame b hb fun i d hi' e _=>by have:=hrel.lt i _ e;simp at this hi';omega
     have hinv:Inv ρ n {s with fr:=ZH T s.fr,h:=s.h.put it .dead} a3 w3:=by
      refine⟨?_,⟨hi3.fr.size,fun t hany=>?_⟩,?_⟩
      ·refine(K4 (i:=it) q1).congr rfl fun i=>?_
       rw [H.Xh,H.Xh];by_cases hii:i=it∧i < s.h.size
       ·rw [if_pos hii,if_pos (by simpa using hii)]
       ·rw [if_neg hii,if_neg (by simpa using hii),H.Xh,if_neg hii]
      ·change XR ((ZH T s.fr).at t)=false at hany
       show VR ρ ((ZH T s.fr).at t) _;rw [YI] at hany ⊢;by_cases U5:t ∈ T
       ·rw [if_pos U5] at hany;cases hany
       ·rw [if_neg U5] at hany ⊢;have h0:=hi.fr.val t (by show XR ((ZH T s.fr).at t)=false;rw [YI,if_neg U5];exact hany);have h0:VR ρ ((ZH T s.fr).at t) _:=h0;rw [YI,if_neg U5] at h0;have h1:=hi3.fr.val t (by rw [hwr t U5];exact hany);rw [hwr t U5] at h1;exact VR.back QR.ext h0 h1
      ·have h0:DsR ρ s.ds a.defers:=hi.ds;have h1:=hi3.ds;rw [ZuK] at h1;exact DsR.back QR.ext h0 h1
     have hstp:Stp wm ρ s.h w0 ρ (s.h.put it .dead) w3:=by
      refine⟨Ren.le_refl _,hst.size,hst.keep,hst.own,hst.live,QR.os.trans (Zaf.os.trans hst.os),QR.tape.trans (Zaf.tape.trans hst.tape),QR.output.trans (Zaf.output.trans hst.output),
       Nat.le_trans hst.YT (by rw [← hsz2];exact QR.YT),fun b hb hno=>?_,fun i b d p q=>by rw [p] at q;cases q⟩
      have hbb:b ≠ bi:=fun z=>by subst z;exact hno it 0 ZjD Zad (by rw [hit];rfl)
      have:=hst.YT;rw [Ziz b (by omega),hother b hbb,hst.frame b hb hno]
     rcases hpn with⟨rfl,hpf⟩ | ⟨rfl,hpt⟩
     ·cases hx3;show LoopIn F 0 X.P _ _ a3 w3
      exact ihk (seen.push e'.born) clock a3 w3 (fun b hb=>by
       rw [contains_push] at hb;rcases Bool.or_eq_true_iff.1 hb with z | z
       ·exact Zbk b z
       ·have:b=e'.born:=by simpa using z
        rw [this,hbn];exact hpf) (by have:=left_shrinks es' seen e' he';omega) (Nat.le_refl _) (by rw [Ziz bi (by omega)];exact Znu) (by rw [Ziz bm (by omega),hother bm hbne];exact ZaK) hinv hstp
     ·obtain⟨he,ZBB⟩:=ZJy ⟨x,hx,hpt⟩;cases hx3 with
      | panic hv3=>
        show Y4 wm n ρ s.h w0 e s2 _ a3 w3;rw [he,ZBB];have:=VR.YA hv hv3;subst this;exact⟨ρ,.panic (VR.Zz hv),hinv,hstp⟩
 have ZuC:Stp wm ρ s.h w0 ρ (s.h.put it .dead) w0:=by
  have kk:=JU (h:=s.h) (A:= .dead) ZjD (by rw [hit];rfl);exact⟨Ren.le_refl _,Nat.le_refl _,kk.keep,kk.own,kk.live,rfl,rfl,rfl,Nat.le_refl _,fun _ _ _=>rfl,fun i b d e e'=>by rw [e] at e';cases e'⟩
 refine head _ #[] YH a0 w0 (fun b hb=>by simp at hb) (Nat.le_refl _) hck Znt Znn ⟨K4 hi0.rel,⟨hi0.fr.size,fun t hany=>?_⟩,hi0.ds⟩ ZuC
 change XR ((ZH T s.fr).at t)=false at hany
 show VR ρ ((ZH T s.fr).at t) _;rw [YI] at hany ⊢;by_cases ht:t ∈ T
 ·rw [if_pos ht] at hany;cases hany
 ·rw [if_neg ht] at hany ⊢;exact hi0.fr.val t hany
def Agr (T:List Nat) (fr fr':Fr):Prop:=∀ t v,T.contains t=false ->fr.at t=v ->fr'.at t=v
theorem Agr.at {T:List Nat} {fr fr':Fr} (a:Agr T fr fr') {t:Nat} {v:Value} (ht:T.contains t=false) (h:fr.at t=v):fr'.at t=v:=a t v ht h
def MFr (T:List Nat) (fr f:Fr):Prop:=∀ t,t ∉ T ->f.at t=fr.at t
theorem MFr.z {T:List Nat} {fr:Fr}:MFr T fr fr:=fun _ _=>rfl
theorem MFr.s {T:List Nat} {fr f:Fr} {i:Nat} {v:Value} (hi:T.contains i=true) (h:MFr T fr f):MFr T fr (Tr.set f i v):=fun t ht=>by
 have hne:t ≠ i:=fun z=>ht (by subst z;rwa [List.contains_iff_mem] at hi)
 have:=J5 (fr:=f) (d:=some i) (v:=v) (t:=t);rw [show YU f (some i) v=Tr.set f i v from rfl] at this;rw [this,if_neg (fun z=>hne (Oi0 z).symm)];exact h t ht
structure Zqj (T:List Nat) (fr:Fr) (ds:List Deferred) (v:Value) (p:Bool) (e:XX) (s:Fs):Prop where
 ds:s.ds=ds
 fr:MFr T fr s.fr
 e:e= .normal∧p=false∨e= .panic v∧p=true
theorem Zqj.Yt {T:List Nat} {fr f:Fr} {ds:List Deferred} {v:Value} {h:H} (k:MFr T fr f):Zqj T fr ds v false .normal ⟨f,ds,h,none⟩:= ⟨rfl,k,.inl ⟨rfl,rfl⟩⟩
theorem Zqj.panic {T:List Nat} {fr f:Fr} {ds:List Deferred} {v:Value} {h:H} (k:MFr T fr f):Zqj T fr ds v true (.panic v) ⟨f,ds,h,none⟩:= ⟨rfl,k,.inr ⟨rfl,rfl⟩⟩
structure Zqh (Q:XX ->Fs ->Prop) (e:XX) (s:Fs):Prop where
 nn:e ≠ .normal
 k:Q e s
theorem Zqh.exit {Q:XX ->Fs ->Prop} {s:Fs} {id:Nat} (k:Q (.exit id) s):Zqh Q (.exit id) s:= ⟨(fun z=>by cases z),k⟩
def Zqm {κ ν:Type} (kv:κ ->Value) (vv:ν ->Value) (h:H) (it:Nat) (x:κ×ν):Prop:=Zc2 h (.pointer (some ⟨it,0,none⟩))=some (.tuple #[kv x.1,vv x.2])
section
variable {κ ν:Type} {kv:κ ->Value} {vv:ν ->Value} {ll:List (κ×ν)} {bs:List Nat}
theorem ZeM:∀ {ll:List (κ×ν)} {bs:List Nat} {x:MapEntry},x ∈ Yh kv vv ll bs ->∃ (j:Nat) (y:κ×ν) (b:Nat),ll[j]? =some y∧bs[j]? =some b∧x= ⟨kv y.1,vv y.2,b⟩:=by
 intro ll bs x hx;obtain⟨j,hj⟩:=List.mem_iff_getElem?.1 hx;unfold Yh at hj;rw [List.getElem?_zipWith] at hj;cases h1:ll[j]? with
 | none=>rw [h1] at hj;simp at hj
 | some y=>
   cases h2:bs[j]? with
   | none=>rw [h1,h2] at hj;simp at hj
   | some b=>rw [h1,h2] at hj;simp at hj;exact⟨j,y,b,h1,h2,hj.symm⟩
theorem ZqC {j:Nat} {y:κ×ν} {b:Nat} (h1:ll[j]? =some y) (h2:bs[j]? =some b):(⟨kv y.1,vv y.2,b⟩:MapEntry) ∈ Yh kv vv ll bs:=by
 refine List.mem_iff_getElem?.2 ⟨j,?_⟩;unfold Yh;rw [List.getElem?_zipWith,h1,h2]
theorem ZgS {b:Nat}:∀ {ll:List (κ×ν)} {bs:List Nat},b ∉ bs ->ZbP b (Yh kv vv ll bs)=true
 | [],_,_=>by unfold Yh;simp [ZbP]
 | _::_,[],_=>by unfold Yh;simp [ZbP]
 | x::ll,b'::bs,h=>by
   have ih:=ZgS (ll:=ll) (bs:=bs) (b:=b) (fun z=>h (by simp [z]));unfold Yh at ih ⊢;rw [List.zipWith_cons_cons];unfold ZbP;have:Nat.beq b' b=false:=by rw [Bool.eq_false_iff];intro q;exact h (by simp [Nb0 q])
   dsimp only;rw [this];exact ih
theorem Zee {YH:Nat}:∀ {ll:List (κ×ν)} {bs:List Nat},bs.Nodup ->(∀ b ∈ bs,b < YH) ->Ub YH (Yh kv vv ll bs)=true
 | [],_,_,_=>by unfold Yh;simp [Ub]
 | _::_,[],_,_=>by unfold Yh;simp [Ub]
 | x::ll,b::bs,hn,hl=>by
   rw [List.nodup_cons] at hn;have ih:=Zee (ll:=ll) (bs:=bs) hn.2 (fun b hb=>hl b (by simp [hb]));have hno:ZbP b (Yh kv vv ll bs)=true:=ZgS (ll:=ll) hn.1;unfold Yh at ih hno ⊢;rw [List.zipWith_cons_cons];unfold Ub;dsimp only;rw [hno,ih];have:Nat.blt b YH=true:=by rw [Nat.blt_eq];exact hl b (by simp)
   rw [this];rfl
theorem ZfK:∀ {ll:List (κ×ν)} {bs:List Nat} {j:Nat} {y:κ×ν} {b:Nat},bs.Nodup ->ll[j]? =some y ->bs[j]? =some b ->ZkM b (Yh kv vv ll bs)=some ⟨kv y.1,vv y.2,b⟩
 | [],_,_,_,_,_,h,_=>by simp at h
 | _::_,[],_,_,_,_,_,h=>by simp at h
 | x::ll,b'::bs,j,y,b,hn,h1,h2=>by
   rw [List.nodup_cons] at hn;unfold Yh;rw [List.zipWith_cons_cons];unfold ZkM;dsimp only;cases j with
   | zero=>
     simp at h1 h2;subst h1 h2;rw [Nat.beq_refl];rfl
   | succ j=>
     simp at h1 h2
     have:Nat.beq b' b=false:=by
      rw [Bool.eq_false_iff];intro q;have:=Nb0 q;subst this;exact hn.1 (List.mem_iff_getElem?.2 ⟨j,h2⟩)
     rw [this];exact ZfK hn.2 h1 h2
end
section
variable {wm:Nat} {G Gr:List (Ast wm)} {h h0:H} {T0:Nat ->Prop} {fr:Fr} {ds:List Deferred} {ty:TypeId} {p:String} {af:Array Edge} {g:Option (Nat×Bool)} {κ ν:Type} {kv:κ ->Value} {vv:ν ->Value} {ll:List (κ×ν)} {d:Nat}
theorem WO.rng {Q:XX ->Fs ->Prop} {t kt vt:TypeId} {x:Operand} {i:Nat} (hg:ZP ops ⟨some d,.range t x,ty,p,af,g⟩ fr) (hd:Nat.blt d n=true) (hS:Sp wm T0 h0 G h) (hu:X.P.underlying t=some (.map kt vt)) (hx:ZX fr x=some (.map (some i))) (s:MapAt kv vv h (some i) ll)
 (k:∀ h' b bs YH,Sp wm T0 h0 (ob wm b (.iter i YH YH none)::G) h' ->h'.at i= .map (Yh kv vv ll bs) YH ->bs.length=ll.length∧bs.Nodup∧(∀ x ∈ bs,x < YH) ->WO X n wm rd ops l ⟨Tr.set fr d (.pointer (some ⟨b,0,none⟩)),ds,h',none⟩ Q):
 WO X n wm rd ops (⟨some d,.range t x,ty,p,af,g⟩::l) ⟨fr,ds,h,none⟩ Q:=by
 rcases s.mem with⟨q,_⟩ | ⟨i',bs,YH,q,h1,h2,h3,h4⟩
 ·cases q
 ·cases q;refine WO.v (v:=Ji h) (E:= .new (.iter i YH YH none)) (h1:=h.push (.iter i YH YH none)) hg hd ?_ (Zmg h rfl) (k (h.push (.iter i YH YH none)) h.size bs YH (ZoP rfl hS) ?_ ⟨h2,h3,h4⟩)
  ·show(match ZX fr x with
    | some x=>vE (Zjh X.P h t x)
    | none=>none)=_
   rw [hx];dsimp only;unfold Zjh;simp only [hu,h1]
   rfl
  ·rw [ZaT (XE h1 rfl),h1]
theorem Zjf {x:Operand} {it:Nat} {y:κ×ν} (hx:ZX fr x=some (.pointer (some ⟨it,0,none⟩))) (he:Zqm kv vv h it y):Xt X h (ZX fr) ⟨some d,.entry x,ty,p,af,g⟩=some (.val (.tuple #[kv y.1,vv y.2]),.none):=by
 show(match ZX fr x with
  | some it=>vN (Zc2 h it)
  | none=>none)=_
 rw [hx];dsimp only;rw [show Zc2 h (.pointer (some ⟨it,0,none⟩))=_ from he];rfl
theorem WL.ZIW {Q:XX ->Fs ->Prop} {id:Nat} {o:Oper} {t it m YH:Nat} {bs:List Nat} {b:κ ->ν ->Option Bool} {q:Bool} (T:List Nat) (v:Value) (hq:Zkp b ll=some q) (hS:Sp wm T0 h0 G h) (pi:Pk G (ob wm it (.iter m YH YH none)) Gr) (hat:fr.at t= .pointer (some ⟨it,0,none⟩)) (hm:h.at m= .map (Yh kv vv ll bs) YH) (hb:bs.length=ll.length∧bs.Nodup∧∀ x ∈ bs,x < YH)
 (hops:ops.toList=o::l) (hop:o.op= .next (.tmp t) false) (hgu:o.guard=none) (hd:o.dst=some d) (hdn:Nat.blt d n=true) (hT:T.contains t=false) (hdT:T.contains d=true) (hv:plain v=true)
 (body:∀ (x:κ×ν) (p:Bool),b x.1 x.2=some p ->∀ h2 fr',Agr T fr fr' ->Sp h.size (XM ([]:List (Ast h.size))) h2 [] h2 ->Zqm kv vv h2 it x ->WO X n h.size rd ops l ⟨Tr.set fr' d (.tuple #[.bool true,kv x.1,vv x.2]),ds,h2,none⟩ (Qy X n h.size rd rest (Zqj T fr' ds v p)))
 (over:q=false ->∀ h' fr',Agr T fr fr' ->Sp wm T0 h0 Gr h' ->WO X n wm rd ops l ⟨Tr.set fr' d (.tuple #[.bool false]),ds,h',none⟩ (Qy X n wm rd rest (Zqh Q)))
 (Jq:q=true ->∀ h' fr',Agr T fr fr' ->Sp wm T0 h0 Gr h' ->Q (.panic v) ⟨fr',ds,h',none⟩):WL X n wm rd (.seq (.region id ops false) rest) ⟨fr,ds,h,none⟩ Q:=by
 obtain⟨hb1,hb2,hb3⟩:=hb;obtain⟨o1,o2,o3⟩:=hS.get pi;obtain⟨m1,m2⟩:=Zed hq
 have Zse:Agr T fr (ZH T fr):=fun t' v' ht' hv'=>by
  rw [YI,if_neg (fun z=>by rw [← List.contains_iff_mem] at z;rw [z] at ht';cases ht'),hv']
 have htT:t ∉ T:=fun z=>by rw [← List.contains_iff_mem] at z;rw [z] at hT;cases hT
 have ZBI:d ∈ T:=List.contains_iff_mem.1 hdT;have ZBD:m ≠ it:=fun z=>by rw [z,o1] at hm;cases hm
 classical
 let pn:Nat ->Bool:=fun bn=>decide (∃ (j:Nat) (y:κ×ν),ll[j]? =some y∧bs[j]? =some bn∧b y.1 y.2=some true)
 have ZbJ:∀ (j:Nat) (y:κ×ν) (bn:Nat),ll[j]? =some y ->bs[j]? =some bn ->∀ p,b y.1 y.2=some p ->pn bn=p:=by
  intro j y bn h1 h2 p hp;cases p with
  | true=>exact decide_eq_true ⟨j,y,h1,h2,hp⟩
  | false=>
    refine decide_eq_false ?_;rintro⟨j',y',h1',h2',hp'⟩
    have hj:j'=j:=by
     obtain⟨q1,e1⟩:=Li0 h2';obtain⟨q2,e2⟩:=Li0 h2;exact(List.getElem_inj hb2).1 (e1.trans e2.symm)
    subst hj;rw [h1] at h1';cases h1';rw [hp] at hp';cases hp'
 have Zns:Sp wm T0 h0 Gr (h.put it .dead):=
  Sp.step (Ga:= [ob wm it (.iter m YH YH none)]) (Gb:= []) (hS.perm pi.perm) (Up.put o2 (by rw [o1];rfl)) (fun i e=>⟨_,List.mem_singleton.2 rfl,e⟩) ZQ.nil fun i ⟨A,mm,f⟩=>by simp at mm
 have ZcI:∀ x ∈ Yh kv vv ll bs,∃ ex s3,(s3.ds=ds∧(∀ t,t ∉ T ->s3.fr.at t=fr.at t)∧(ex= .normal∧pn x.born=false∨ex= .panic v∧pn x.born=true))∧∀ {ρ:Ren} {F:Fence} {a:Act} {w:World},Inv ρ n {fr:=YU (ZH T fr) o.dst (.tuple #[.bool true,x.key,x.val]),ds:=ds,h:=h.put it (.iter m YH YH (some x.born)),wr:=none} a w ->h.size <= (h.put it (.iter m YH YH (some x.born))).size ->FR' ρ rd F ->∀ Q':Exit ->Act ->World ->Prop,
  (∀ e' a' w',Y4 h.size n ρ (h.put it (.iter m YH YH (some x.born))) w ex s3 e' a' w' ->Q' e' a' w') ->wpListIn F 0 X.P ops (Exit.then (rest.wpIn F 0 X.P Q') Q') l a w:=by
  intro x hx;obtain⟨j,y,bn,h1,h2,rfl⟩:=ZeM hx;obtain⟨p,hp⟩:=m1 y (List.mem_iff_getElem?.2 ⟨j,h1⟩);have hpn:=ZbJ j y bn h1 h2 p hp;have hsz:(h.put it (.iter m YH YH (some bn))).size=h.size:=H.size_put _ _ _;have e1:(h.put it (.iter m YH YH (some bn))).at it= .iter m YH YH (some bn):=Z9 (XE o1 rfl) _;have e2:(h.put it (.iter m YH YH (some bn))).at m= .map (Yh kv vv ll bs) YH:=by rw [Xr ZBD,hm]
  have hent:Zqm kv vv (h.put it (.iter m YH YH (some bn))) it y:=by
   unfold Zqm Zc2;simp only [e1,e2,Nat.beq_refl,Cq1,ZfK hb2 h1 h2]
  obtain⟨ex,s3,⟨q1,q2,q3⟩,q4⟩:=WO.body (body y p hp (h.put it (.iter m YH YH (some bn))) (ZH T fr) Zse (Sp.start (Nat.le_of_eq hsz.symm) ZQ.nil) hent);refine⟨ex,s3,⟨q1,fun t' ht'=>?_,?_⟩,?_⟩
  ·rw [q2 t' ht',YI,if_neg ht']
  ·dsimp only;rw [hpn];exact q3
  ·rw [hd];intro ρ F a w i1 i2 i3 Q' i4;exact q4 i1 i2 i3 Q' i4
 have key:=fun(e:XX) (s2:Fs)=>Zun (X:=X) (n:=n) (wm:=wm) (rd:=rd) (rest:=rest) (id:=id) (s:= ⟨fr,ds,h,none⟩) (e:=e) (s2:=s2) (T:=T) (v:=v) pn hops hop hgu hat o1 hm (Nat.le_refl _) (Zee hb2 hb3) o2 htT hd (by rwa [Nat.blt_eq] at hdn) ZBI hv ZcI
 cases q with
 | true=>
   refine⟨.panic v,⟨ZH T fr,ds,h.put it .dead,none⟩,Jq rfl _ _ Zse Zns,key _ _ (fun hall=>?_) fun _=>⟨rfl,rfl⟩⟩;exfalso;obtain⟨y,hy,hyb⟩:=m2.1 rfl;obtain⟨j,hj⟩:=List.mem_iff_getElem?.1 hy;have hjl:= (Li0 hj).1;have h2:bs[j]? =some (bs[j]'(by omega)):=List.getElem?_eq_getElem _;have:=hall _ (ZqC hj h2);rw [ZbJ j y _ hj h2 true hyb] at this;cases this
 | false=>
   obtain⟨e,s2,⟨q1,q2⟩,q3⟩:=WO.body (over rfl _ _ Zse Zns);refine⟨e,s2,q2,key e s2 (fun _=>⟨q1,?_⟩) fun⟨x,hx,hp⟩=>?_⟩
   ·rw [hd];intro ρ F a w i1 i2 i3 Q' i4;exact q3 i1 i2 i3 Q' i4
   ·exfalso;obtain⟨j,y,bn,h1,h2,rfl⟩:=ZeM hx;obtain⟨p,hp'⟩:=m1 y (List.mem_iff_getElem?.2 ⟨j,h1⟩);have hpn:=ZbJ j y bn h1 h2 p hp';rw [show pn bn=true from hp] at hpn;subst hpn;exact absurd (m2.2 ⟨y,List.mem_iff_getElem?.2 ⟨j,h1⟩,hp'⟩) (by simp)
end
end Go.Yw
end
end
section
noncomputable section
namespace Go.Yw
open Go.Lf
variable {X:Ctx} {n wm:Nat} {rd:Option Nat} {ops:Array Oper} {l:List Oper} {fr:Fr} {ds:List Deferred} {h h1 h2 h0:H} {T:Nat ->Prop} {G Gr Ga Gb:List (Ast wm)}
inductive FzS (wm:Nat):H ->H ->Prop
 | refl (h:H):FzS wm h h
 | step {h h':H} {i:Nat} {cs:List Value} {z:Nat} (hw:wm <=i) (hr:h.at i= .row cs true z) (k:FzS wm (h.put i (.row cs false 0)) h'):FzS wm h h'
theorem FzS.trans {h h1 h2:H} (a:FzS wm h h1) (b:FzS wm h1 h2):FzS wm h h2:=by
 induction a with
 | refl _=>exact b
 | step hw hr _ ih=>exact .step hw hr (ih b)
theorem WO.fzS {Q:XX ->Fs ->Prop} {h h':H} (a:FzS wm h h') (k:WO X n wm rd ops l ⟨fr,ds,h',none⟩ Q):WO X n wm rd ops l ⟨fr,ds,h,none⟩ Q:=by
 induction a with
 | refl _=>exact k
 | step hw hr _ ih=>exact WO.ZkD hw hr (ih k)
theorem XL.fzs {α:Type} {e:Um α} {a:Option Addr} {c:Nat} {xs:List α} (so:XL e wm wm h a c xs):∃ h',FzS wm h h'∧Up wm (X7 a) h h'∧Sl e wm h' a c xs:=by
 rcases so.mem with⟨rfl,rfl,rfl⟩ | ⟨i,o,cs,rfl,h1,h2,h3,h4,h5⟩
 ·exact⟨h,.refl h,⟨Nat.le_refl _,fun _ _ _=>rfl,fun i hb=>by obtain⟨o,hb⟩:=hb;cases hb⟩,Sl.nil⟩
 ·have hown:(h.at i).own=true:=by rw [h2];rfl
  have hu:Up wm (X7 (some ⟨i,o,none⟩)) h (h.put i (.row cs false 0)):=
   ⟨Nat.le_refl _,fun j _ hn=>Xr (fun q=>hn ⟨o,by rw [q]⟩) _,fun j hb=>by obtain⟨o',hb⟩:=hb;cases hb;exact⟨h1,hown⟩⟩
  exact⟨_,.step h1 h2 (.refl _),hu,⟨so.max,so.cap,so.nl,.inr ⟨i,o,cs,false,0,rfl,Z9 (XE h2 rfl) _,.inr rfl,h5.mono (hu.fz (Nat.le_refl _))⟩⟩⟩
theorem Znx {α:Type} {e:Um α} (ps:Nat ->Option Addr×Nat×Nat):∀ (xs:List (List α)) (k:Nat) (h:H) (Gr:List (Ast wm)),Sp wm T h0 (Ym (fun k x=>(Xf e).YN wm (ps k) x) k xs ++ Gr) h ->
 ∃ h',FzS wm h h'∧Fz wm h h'∧Sp wm T h0 Gr h'∧∀ j x,xs[j]? =some x ->(ps (k + j)).2.1=x.length∧Sl e wm h' (ps (k + j)).1 (ps (k + j)).2.2 x
 | [],k,h,Gr,hS=>⟨h,.refl h,Fz.refl _ _,hS,fun j x hj=>by simp at hj⟩
 | x::xs,k,h,Gr,hS=>by
   have hS:Sp wm T h0 (ow wm e (ps k).1 (ps k).2.1 (ps k).2.2 x::(Ym (fun k x=>(Xf e).YN wm (ps k) x) (k + 1) xs ++ Gr)) h:=hS;have hg:=hS.get k0;obtain⟨h1,f1,u1,s1⟩:=hg.2.fzs;have hS1:= (ZAu hS k0 u1 s1).2.drop k0;obtain⟨h2,f2,z2,hS2,hall⟩:=Znx ps xs (k + 1) h1 Gr hS1;refine⟨h2,f1.trans f2,(u1.fz (Nat.le_refl _)).trans z2,hS2,fun j y hj=>?_⟩;cases j with
   | zero=>simp at hj;subst hj;exact⟨hg.1,s1.mono z2⟩
   | succ j=>
     have:=hall j y (by simpa using hj);have e1:k + 1 + j=k + (j + 1):=by omega
     rwa [e1] at this
theorem ZCv {α:Type} {e:Um α} {a:Option Addr} {nn c:Nat} {ps:Nat ->Option Addr×Nat×Nat} {xs:List (List α)} (hS:Sp wm T h0 G h) (pk:Pk G (nst wm (Xf e) a nn c ps xs) Gr):∃ h',FzS wm h h'∧nn=xs.length∧Sp wm T h0 (fzA wm (rSl (rSl e)) (a,c) xs::Gr) h':=by
 obtain⟨g1,g2,g3,g4⟩:=hS.get pk
 let O:Ast wm:=ow wm (ZtT (Xf e).sz (Xf e).pos) a ((Xf e).rows ps xs).length c ((Xf e).rows ps xs)
 have hS1:Sp wm T h0 ((Xf e).parts wm ps xs ++ (O::Gr)) h:=by
  have h1:Sp wm T h0 ((O::(Xf e).parts wm ps xs) ++ Gr) h:=by
   refine Sp.say (Ga:= [nst wm (Xf e) a nn c ps xs]) (Gr:=Gr) (hS.perm pk.perm) (ZQ.cons ⟨rfl,g2⟩ g3 fun i f=>g4 i f) fun i f=>?_
   rcases XM.cons.1 f with f | f
   ·exact⟨_,List.mem_singleton.2 rfl,.inl f⟩
   ·exact⟨_,List.mem_singleton.2 rfl,.inr f⟩
  exact h1.perm (by
   rw [List.cons_append];exact(List.perm_middle).symm)
 obtain⟨h1,f1,z1,hS2,hall⟩:=Znx ps xs 0 h (O::Gr) hS1;obtain⟨h2,f2,u2,s2⟩:= (hS2.get k0).2.fzs;refine⟨h2,f1.trans f2,g1,hS2.one k0 u2 (fun _ q=>q) ?_ fun _ z=>z.elim⟩;show Sl (rSl e) wm h2 a c xs;have hlen:((Xf e).rows ps xs).length=xs.length:=Zba _ _ _;refine⟨by rw [← hlen];exact s2.max,by rw [← hlen];exact s2.cap,s2.nl,?_⟩;rcases s2.mem with q | ⟨i,o,cs,own,z,q1,q2,q3,q4⟩
 ·left;apply List.eq_nil_of_length_eq_zero;rw [← hlen,q];rfl
 ·refine .inr ⟨i,o,cs,own,z,q1,q2,q3,⟨by have:=q4.len;rw [hlen] at this;exact this,fun k x hk=>?_⟩⟩;obtain⟨n1,n2⟩:=hall k x hk;rw [Nat.zero_add] at n1 n2
  have hrow:((Xf e).rows ps xs)[k]? =some ((Xf e).raw (ps k) x):=by
   unfold Ne.rows;rw [UH,hk,Nat.zero_add];rfl
  obtain⟨_,w1,_⟩:=q4.get k _ hrow;refine⟨((ps k).1,(ps k).2.2),?_,n2.mono (u2.fz (Nat.le_refl _))⟩;have w2:(cs.drop (o + k * 1)).take 1= [Value.slice (ps k).1 (ps k).2.1 (ps k).2.2]:=w1;rw [n1] at w2;exact w2
theorem WO.ZKA {Q:XX ->Fs ->Prop} {α:Type} {e:Um α} {a:Option Addr} {nn c:Nat} {ps:Nat ->Option Addr×Nat×Nat} {xs:List (List α)} (hS:Sp wm T h0 G h) (pk:Pk G (nst wm (Xf e) a nn c ps xs) Gr) (k:∀ h',nn=xs.length∧Sp wm T h0 (fzA wm (rSl (rSl e)) (a,c) xs::Gr) h' ->WO X n wm rd ops l ⟨fr,ds,h',none⟩ Q):WO X n wm rd ops l ⟨fr,ds,h,none⟩ Q:=
 let⟨h',f,hh⟩:=ZCv hS pk;WO.fzS f (k h' hh)
end Go.Yw
end
end
section
namespace Go.Lf
def ZfM {κ ν:Type} (b:κ ->ν ->Option (Option Bool)):List (κ×ν) ->Option (Option Nat)
 | []=>some (some 0)
 | x::r=>(b x.1 x.2).bind fun p=>(ZfM b r).bind fun q=>some (p.bind fun c=>q.bind fun k=>some (bif c then k + 1 else k))
def Zca (up:Int ->Int):Nat ->Int ->Int
 | 0,a=>a
 | n + 1,a=>up (Zca up n a)
theorem Zkr {κ ν:Type} {b:κ ->ν ->Option (Option Bool)}:∀ {l:List (κ×ν)} {q:Option Nat},ZfM b l=some q ->(∀ x ∈ l,∃ p,b x.1 x.2=some p)∧(q=none↔∃ x ∈ l,b x.1 x.2=some none)∧∀ k,q=some k ->k=l.countP fun x=>decide (b x.1 x.2=some (some true))
 | [],q,h=>by cases h;simp
 | x::r,q,h=>by
   obtain⟨p,h1,h⟩:=bind_some h;obtain⟨q',h2,h⟩:=bind_some h;obtain⟨i1,i2,i3⟩:=Zkr h2;have h:=Oi0 h;refine⟨fun y hy=>?_,?_,fun k hk=>?_⟩
   ·rcases List.mem_cons.1 hy with z | z
    ·subst z;exact⟨p,h1⟩
    ·exact i1 y z
   ·constructor
    ·intro z;rw [z] at h;cases p with
     | none=>exact⟨x,by simp,h1⟩
     | some c=>
       cases q' with
       | none=>obtain⟨y,hy,hz⟩:=i2.1 rfl;exact⟨y,by simp [hy],hz⟩
       | some k=>cases h
    ·rintro⟨y,hy,hz⟩;rw [← h];rcases List.mem_cons.1 hy with z | z
     ·subst z;rw [h1] at hz;cases hz;rfl
     ·rw [i2.2 ⟨y,z,hz⟩];cases p <;> rfl
   ·rw [hk] at h;cases p with
    | none=>cases h
    | some c=>
      cases q' with
      | none=>cases h
      | some k'=>
        have:=i3 k' rfl;have h:=Oi0 h;rw [List.countP_cons,← this,← h,h1];cases c <;> simp
end Go.Lf
end
section
noncomputable section
namespace Go.Yw
open Go.Lf
theorem EL.ZAB {ρ:Ren} {es es':List MapEntry} (e:EL ρ es es'):es'.map (·.born)=es.map (·.born):=by
 induction e with
 | nil=>rfl
 | cons hk hp hb hv _ ih=>rw [List.map_cons,List.map_cons,ih,hb]
theorem ZoR {b:Nat}:∀ {es:List MapEntry},ZbP b es=true ->b ∉ es.map (·.born):=by
 intro es
 induction es with
 | nil=>intro _;simp
 | cons x es ih=>
   intro h;unfold ZbP at h;cases hb:Nat.beq x.born b with
   | true=>rw [hb] at h;cases h
   | false=>
     rw [hb,Cq0] at h;rw [List.map_cons,List.mem_cons];rintro(z | z)
     ·rw [z,Nat.beq_refl] at hb;cases hb
     ·exact ih h z
theorem ZjY {clock:Nat}:∀ {es:List MapEntry},Ub clock es=true ->(es.map (·.born)).Nodup:=by
 intro es
 induction es with
 | nil=>intro _;simp
 | cons x es ih=>
   intro h;unfold Ub at h;simp only [Ba0] at h;rw [List.map_cons,List.nodup_cons];exact⟨ZoR h.1.2,ih h.2⟩
theorem ZpQ {b:Nat} {p f g:Nat ->Bool} (hb:f b=true) (hg:∀ x,g x= (f x && !(x==b))):∀ {l:List MapEntry},(l.map (·.born)).Nodup ->b ∈ l.map (·.born) ->
 (l.filter fun x=>f x.born).countP (fun x=>p x.born)= (l.filter fun x=>g x.born).countP (fun x=>p x.born) + (bif p b then 1 else 0):=by
 intro l
 have none:∀ {l:List MapEntry},b ∉ l.map (·.born) ->(l.filter fun x=>g x.born)=l.filter fun x=>f x.born:=by
  intro l hl;refine List.filter_congr fun x hx=>?_
  have:x.born ≠ b:=fun z=>hl (List.mem_map.2 ⟨x,hx,z⟩)
  rw [hg];simp [this]
 induction l with
 | nil=>intro _ h;simp at h
 | cons x l ih=>
   intro hn hm;rw [List.map_cons,List.nodup_cons] at hn;rw [List.map_cons,List.mem_cons] at hm;by_cases hx:x.born=b
   ·have h1:b ∉ l.map (·.born):=by rw [← hx];exact hn.1
    have hgx:g x.born=false:=by rw [hg,hx];simp
    have hfx:f x.born=true:=by rw [hx];exact hb
    rw [List.filter_cons,if_pos hfx,List.filter_cons,if_neg (by rw [hgx];simp),none h1,List.countP_cons,hx];cases p b <;> rfl
   ·have h1:b ∈ l.map (·.born):=hm.resolve_left (fun z=>hx z.symm);have ih:=ih hn.2 h1;have hgx:g x.born=f x.born:=by rw [hg];simp [hx]
    rw [List.filter_cons,List.filter_cons,hgx];cases hf:f x.born with
    | true=>rw [if_pos rfl,if_pos rfl,List.countP_cons,List.countP_cons,ih];omega
    | false=>rw [if_neg (by simp),if_neg (by simp),ih]
theorem Zo0 (es':Array MapEntry) (seen:Array Nat) (p:Nat ->Bool) (hn:(es'.toList.map (·.born)).Nodup) {e':MapEntry} (he:e' ∈ (leftOf es' seen).toList):
 (leftOf es' seen).toList.countP (fun x=>p x.born)= (leftOf es' (seen.push e'.born)).toList.countP (fun x=>p x.born) + (bif p e'.born then 1 else 0):=by
 unfold leftOf at he ⊢;rw [Array.toList_filter,Array.toList_filter];rw [Array.toList_filter] at he;obtain⟨h1,h2⟩:=List.mem_filter.1 he
 exact ZpQ (b:=e'.born) (f:=fun z=>!seen.contains z) (g:=fun z=>!(seen.push e'.born).contains z) h2 (fun x=>by
  rw [contains_push];cases seen.contains x <;> simp
  ) hn (List.mem_map.2 ⟨e',h1,rfl⟩)
variable {X:Ctx} {n wm:Nat} {rd:Option Nat} {ops:Array Oper} {l:List Oper} {rest:Code}
def CAt:Option Nat ->Fr ->Value ->Prop
 | none,_,_=>True
 | some c,fr,v=>fr.at c=v
def CIn (T:List Nat):Option Nat ->Bool
 | none=>true
 | some c=>T.contains c
theorem Zxx {s:Fs} {id:Nat} {o:Oper} {t it m YH clock d r:Nat} {es:List MapEntry} {T:List Nat} {v:Value} {e:XX} {s2:Fs} (stp cnt:Nat ->Bool) (c:Option Nat) (cv:Nat ->Value)
 (hops:ops.toList=o::l) (hop:o.op= .next (.tmp t) false) (hgu:o.guard=none) (hfr:s.fr.at t= .pointer (some ⟨it,0,none⟩)) (hit:s.h.at it= .iter m clock YH none) (hm:s.h.at m= .map es clock) (hck:clock <=YH) (hborn:Ub clock es=true) (ZjD:wm <=it) (htT:t ∉ T) (hd:o.dst=some d) (hdn:d < n) (hdT:d ∈ T) (hv:plain v=true)
 (hcv:∀ k,plain (cv k)=true) (hcT:∀ c0,c=some c0 ->c0 ∈ T) (hc0:CAt c s.fr (cv 0))
 (ZcI:∀ x ∈ es,∀ k,∃ ex s3,(s3.ds=s.ds∧(∀ t,t ∉ T ->s3.fr.at t=s.fr.at t)∧(ex= .normal∧stp x.born=false∧CAt c s3.fr (cv (bif cnt x.born then k + 1 else k))∨ex= .ret∧stp x.born=true∧s3.fr.at r=v))∧∀ {ρ:Ren} {F:Fence} {a:Act} {w:World},Inv ρ n {fr:=YU (YU (ZH T s.fr) c (cv k)) o.dst (.tuple #[.bool true,x.key,x.val]),ds:=s.ds,h:=s.h.put it (.iter m clock clock (some x.born)),wr:=s.wr} a w ->s.h.size <= (s.h.put it (.iter m clock clock (some x.born))).size ->FR' ρ rd F ->∀ Q':Exit ->Act ->World ->Prop,
   (∀ e' a' w',Y4 s.h.size n ρ (s.h.put it (.iter m clock clock (some x.born))) w ex s3 e' a' w' ->Q' e' a' w') ->wpListIn F 0 X.P ops (Exit.then (rest.wpIn F 0 X.P Q') Q') l a w)
 (hover:(∀ x ∈ es,stp x.born=false) ->e ≠ .normal∧∀ {ρ:Ren} {F:Fence} {a:Act} {w:World},Inv ρ n {s with fr:=YU (YU (ZH T s.fr) c (cv (es.countP fun x=>cnt x.born))) o.dst Uh,h:=s.h.put it .dead} a w ->wm <= (s.h.put it .dead).size ->FR' ρ rd F ->∀ Q':Exit ->Act ->World ->Prop,
   (∀ e' a' w',Y4 wm n ρ (s.h.put it .dead) w e s2 e' a' w' ->Q' e' a' w') ->wpListIn F 0 X.P ops (Exit.then (rest.wpIn F 0 X.P Q') Q') l a w)
 (hstop:(∃ x ∈ es,stp x.born=true) ->e= .ret∧s2= {s with fr:=YU (ZH T s.fr) (some r) v,h:=s.h.put it .dead}):Yo X (.loop (.seq (.region id ops false) rest) n wm rd s) (.code e s2):=by
 refine Zbg.2 ⟨e,s2,rfl,fun ρ a0 w0 F ZG hi0 hF=>?_⟩;obtain⟨dd,hdr⟩:∃ d,d=it:= ⟨_,rfl⟩
 have Ziw:=hi0.fr.val t (by rw [hfr];rfl);rw [hfr] at Ziw;generalize hpx:a0.tmps.getD t undef=px at Ziw;cases Ziw with
 | @ptr _ bi di _ Zad=>
 have hoi:=hi0.rel.obj _ _ _ Zad;rw [hit] at hoi;obtain⟨rfl,bm,ZzD,ZcD,Znt,_,Zae⟩:=hoi;have Zae:=Zae rfl;subst Zae;have hom:=hi0.rel.obj _ _ _ ZcD;rw [hm] at hom;obtain⟨_,es',Znn,hes⟩:=hom;have hilt:=hi0.rel.dom _ _ _ Zad;have ZFr:=hi0.rel.dom _ _ _ ZcD;have Ziy:m ≠ it:=fun z=>by rw [z,hit] at hm;cases hm
 have hold:∀ x ∈ es'.toList,x.born < clock:=by
  intro x hx;obtain⟨y,hy,_,_,hyb,_⟩:=hes.mem hx;rw [hyb];exact Zep hborn y hy
 have hnd:(es'.toList.map (·.born)).Nodup:=by rw [hes.ZAB];exact ZjY hborn
 have htot:es'.toList.countP (fun x=>cnt x.born)=es.countP (fun x=>cnt x.born):=by
  have h1:∀ l:List MapEntry,l.countP (fun x=>cnt x.born)= (l.map (·.born)).countP cnt:=fun l=>by rw [List.countP_map];rfl
  rw [h1,h1,hes.ZAB]
 have ZgY:∀ j b d,ρ j=some (b,d) ->b=bi ->j ≠ it ->((s.h.at j).live=true ->False):=by
  intro j b d hj hbb hne' hl;subst hbb;exact hne' (hi0.rel.inj it j b 0 d Zad hj (by rw [hit];rfl) hl).symm
 have hbne:bm ≠ bi:=fun z=>ZgY m bm 0 ZcD z Ziy (by rw [hm];rfl)
 have ZAb:s.h.size= (s.h.put it .dead).size:=rfl
 have ZcF:∀ {a:Act} {w:World} {K:Act ->World ->Prop} {Q:Exit ->Act ->World ->Prop} {v:Value} {w1:World},a.tmps.getD t undef= .pointer (some ⟨bi,0,none⟩) ->(Instr.next (.pointer (some ⟨bi,0,none⟩)) false o.type).run X.P w= .ok v w1 ->
  K (a.put o.dst v) w1 ->(if Region.wanted o (yielded ops a.tmps) then o.wpIn F 0 X.P a w K Q else(∀ f,o.about X.P w a.eval=some f ->F.fn f)∧K (a.put o.dst undef) w):=by
  intro a w K Q v w1 ht hrun hK;have hw:Region.wanted o (yielded ops a.tmps)=true:=by unfold Region.wanted;rw [hgu]
  rw [if_pos hw];refine⟨fun f _=>Wm hF f,?_⟩;have Ziv:o.semAt F.round a.eval=execOp a.eval o:=Oper.semAt_eq _ _ _ fun c hc=>by rw [hop] at hc;cases hc
  have he:a.eval (.tmp t)= .pointer (some ⟨bi,0,none⟩):=ht
  have hx:(execOp a.eval o).run X.P w= .ok (.value v) w1:=by
   unfold execOp;rw [hop];simp [he,hrun]
  rw [Ziv,hx];exact hK
 have Zx3:∀ (k t:Nat),(YU (ZH T s.fr) c (cv k)).at t=if c=some t then cv k else if t ∈ T then ZDr else s.fr.at t:=by
  intro k t;rw [J5,YI]
 have hcn:∀ t,t ∉ T ->c ≠ some t:=fun t ht z=>ht (hcT t z)
 have ZgX:∀ (k:Nat) (a:Act) (w:World),Inv ρ n {s with fr:=YU (ZH T s.fr) c (cv k),h:=s.h.put it .dead} a w ->a.tmps.getD t undef= .pointer (some ⟨bi,0,none⟩):=by
  intro k a w hi;have hat:(YU (ZH T s.fr) c (cv k)).at t= .pointer (some ⟨it,0,none⟩):=by rw [Zx3,if_neg (hcn t htT),if_neg htT,hfr]
  have h0:VR ρ ((YU (ZH T s.fr) c (cv k)).at t) (a.tmps.getD t undef):=hi.fr.val t (by show XR ((YU (ZH T s.fr) c (cv k)).at t)=false;rw [hat];rfl);rw [hat] at h0;generalize a.tmps.getD t undef=y at h0;cases h0 with
  | ptr _ h1=>rw [Zad] at h1;cases h1;rfl
 have Znl:(∀ x ∈ es,stp x.born=false) ->∀ (k:Nat) (a:Act) (w:World),k=es.countP (fun x=>cnt x.born) ->Inv ρ n {s with fr:=YU (ZH T s.fr) c (cv k),h:=s.h.put it .dead} a w ->Stp wm ρ s.h w0 ρ (s.h.put it .dead) w ->a.tmps.getD t undef= .pointer (some ⟨bi,0,none⟩) ->
  (Instr.next (.pointer (some ⟨bi,0,none⟩)) false o.type).run X.P w= .ok Uh w ->LoopIn F 0 X.P (.seq (.region id ops false) rest) (Y4 wm n ρ s.h w0 e s2) a w:=by
  intro hall k a w hk hi hst ht hrun;obtain⟨hne,hover⟩:=hover hall;rw [← hk] at hover;refine Xc (wpIn_seq (wpIn_region_list ?_));rw [hops];refine ZcF ht hrun ?_
  have hio:Inv ρ n {s with fr:=YU (YU (ZH T s.fr) c (cv k)) o.dst Uh,h:=s.h.put it .dead} (a.put o.dst Uh) w:=by
   refine⟨hi.rel,?_,?_⟩
   ·rw [hd];exact hi.fr.set hdn (VR.Zz rfl)
   ·rw [hd];exact hi.ds
  refine hover hio ZG hF _ fun e3 a3 w3 hp=>?_
  have hp2:=Y4.trans hi0.rel.lt hst hp;obtain⟨ρ3,hx3,hi3,QR⟩:=hp2;cases hx3 with
  | normal=>exact(hne rfl).elim
  | exit id=>exact⟨ρ3,.exit id,hi3,QR⟩
  | goto id=>exact⟨ρ3,.goto id,hi3,QR⟩
  | ret=>exact⟨ρ3,.ret,hi3,QR⟩
  | panic hv=>exact⟨ρ3,.panic hv,hi3,QR⟩
 have Znv:∀ seen:Array Nat,(∀ b,seen.contains b=true ->stp b=false) ->(leftOf es' seen).size=0 ->∀ x ∈ es,stp x.born=false:=by
  intro seen Zbk h00 x hx;obtain⟨y,hy,hyb⟩:=hes.mem' hx;refine Zbk _ ?_;cases hc:seen.contains x.born with
  | true=>rfl
  | false=>
    exfalso;have:y ∈ leftOf es' seen:=Array.mem_filter.2 ⟨Array.mem_toList_iff.1 hy,by rw [hyb,hc];rfl⟩;rw [Array.eq_empty_of_size_eq_zero h00] at this;simp at this
 have head:∀ (k:Nat) (seen:Array Nat) (last j:Nat) (a:Act) (w:World),(∀ b,seen.contains b=true ->stp b=false) ->j + (leftOf es' seen).toList.countP (fun x=>cnt x.born)=es.countP (fun x=>cnt x.born) ->(leftOf es' seen).size <=k ->clock <=last ->w.heap[bi]? =some (.mapIter (some bm) clock seen last) ->w.heap[bm]? =some (.map es' clock) ->
  Inv ρ n {s with fr:=YU (ZH T s.fr) c (cv j),h:=s.h.put it .dead} a w ->
  Stp wm ρ s.h w0 ρ (s.h.put it .dead) w ->LoopIn F 0 X.P (.seq (.region id ops false) rest) (Y4 wm n ρ s.h w0 e s2) a w:=by
  intro k
  induction k with
  | zero=>
    intro seen last j a w Zbk hj hk hlast hblk ZaK hi hst;have ht:=ZgX j a w hi;rcases Zdd (P:=X.P) o.type hblk ZaK hold (hlast) with⟨h00,hrun⟩ | ⟨e',he',_⟩
    ·refine Znl (Znv seen Zbk h00) j a w ?_ hi hst ht hrun;rw [Array.eq_empty_of_size_eq_zero h00] at hj
     simpa using hj
    ·have:=Array.length_toList ▸ List.length_pos_of_mem he';omega
  | succ k ihk=>
    intro seen last j a w Zbk hj hk hlast hblk ZaK hi hst;have ht:=ZgX j a w hi;rcases Zdd (P:=X.P) o.type hblk ZaK hold (hlast) with⟨h00,hrun⟩ | ⟨e',he',w1,hw1,hsame,hrun⟩
    ·refine Znl (Znv seen Zbk h00) j a w ?_ hi hst ht hrun;rw [Array.eq_empty_of_size_eq_zero h00] at hj
     simpa using hj
    ·have hmem:= (mem_left he').1;obtain⟨x,hx,hkey,hkp,hbn,hval⟩:=hes.mem hmem;obtain⟨ex,s3,⟨ZuK,hwr,hpn⟩,hbody⟩:=ZcI x hx j;have Zno:bi < w.heap.size:= (hi.rel.dom _ _ _ Zad).2;have Zz9:bm < w.heap.size:= (hi.rel.dom _ _ _ ZcD).2;obtain⟨w2,hw2⟩:∃ w2,w2=w1.putObj bi (.mapIter (some bm) clock (seen.push e'.born) clock):= ⟨_,rfl⟩
     rw [← hw2] at hrun;have hsz2:w2.heap.size=w.heap.size:=by rw [hw2,World.putObj_size,hw1]
     have hother:∀ k,k ≠ bi ->w2.heap[k]? =w.heap[k]?:=fun k hk=>by rw [hw2,World.putObj_heap_other hk,hw1]
     have Znu:w2.heap[bi]? =some (.mapIter (some bm) clock (seen.push e'.born) clock):=by rw [hw2];exact World.putObj_heap_same (by rw [hw1];exact Zno)
     have Zaf:Same w w2:=by rw [hw2];exact⟨hsame.os,hsame.tape,hsame.output⟩
     have hrel:Rel ρ (s.h.put it (.iter m clock clock (some x.born))) w2:=by
      refine Zd5 hi.rel Zad ZgY hother hsz2 ⟨rfl,bm,seen.push e'.born,ZcD,Znu,fun z hz=>?_,fun z=>by cases z⟩;cases hz;rw [← hbn];simp
     have hie:Inv ρ n {fr:=YU (YU (ZH T s.fr) c (cv j)) o.dst (.tuple #[.bool true,x.key,x.val]),ds:=s.ds,h:=s.h.put it (.iter m clock clock (some x.born)),wr:=s.wr} (a.put o.dst (.tuple #[.bool true,e'.key,e'.val])) w2:=by
      refine⟨hrel,?_,?_⟩
      ·rw [hd];refine hi.fr.set hdn (.tuple _ _ rfl fun j y y' p q=>?_)
       match j,p,q with
       | 0,p,q=>simp at p q;subst p q;exact .bool true
       | 1,p,q=>simp at p q;subst p q;rw [hkey];exact VR.Zz hkp
       | 2,p,q=>simp at p q;subst p q;exact hval
       | j + 3,p,q=>simp at p
      ·rw [hd];exact hi.ds
     refine Xc (wpIn_seq (wpIn_region_list ?_));rw [hops];refine ZcF ht hrun ?_;refine hbody hie (Nat.le_refl _) hF _ fun e3 a3 w3 hp=>?_
     obtain⟨ρ3,hx3,hi3,QR⟩:=hp;obtain⟨q1,q2⟩:=KQ hrel QR;have Ziz:∀ b,b < w2.heap.size ->w3.heap[b]? =w2.heap[b]?:=fun b hb=>QR.frame b hb fun i d hi' e _=>by have:=hrel.lt i _ e;simp at this hi';omega
     have Zz7:Rel ρ (s.h.put it .dead) w3:=by
      refine(K4 (i:=it) q1).congr rfl fun i=>?_
      rw [H.Xh,H.Xh];by_cases hii:i=it∧i < s.h.size
      ·rw [if_pos hii,if_pos (by simpa using hii)]
      ·rw [if_neg hii,if_neg (by simpa using hii),H.Xh,if_neg hii]
     have hds:DsR ρ s.ds a3.defers:=by
      have h0:DsR ρ s.ds a.defers:=hi.ds;have h1:=hi3.ds;rw [ZuK] at h1;exact DsR.back QR.ext h0 h1
     have Zz8:∀ t,t ∉ T ->XR (s.fr.at t)=false ->VR ρ (s.fr.at t) (a3.tmps.getD t undef):=by
      intro t U5 hany;have e0:(YU (ZH T s.fr) c (cv j)).at t=s.fr.at t:=by rw [Zx3,if_neg (hcn t U5),if_neg U5]
      have h0:VR ρ ((YU (ZH T s.fr) c (cv j)).at t) _:=hi.fr.val t (by show XR ((YU (ZH T s.fr) c (cv j)).at t)=false;rw [e0];exact hany);rw [e0] at h0;have h1:=hi3.fr.val t (by rw [hwr t U5];exact hany);rw [hwr t U5] at h1;exact VR.back QR.ext h0 h1
     have hstp:Stp wm ρ s.h w0 ρ (s.h.put it .dead) w3:=by
      refine⟨Ren.le_refl _,hst.size,hst.keep,hst.own,hst.live,QR.os.trans (Zaf.os.trans hst.os),QR.tape.trans (Zaf.tape.trans hst.tape),QR.output.trans (Zaf.output.trans hst.output),
       Nat.le_trans hst.YT (by rw [← hsz2];exact QR.YT),fun b hb hno=>?_,fun i b d p q=>by rw [p] at q;cases q⟩
      have hbb:b ≠ bi:=fun z=>by subst z;exact hno it 0 ZjD Zad (by rw [hit];rfl)
      have:=hst.YT;rw [Ziz b (by omega),hother b hbb,hst.frame b hb hno]
     rcases hpn with⟨rfl,hpf,hcc⟩ | ⟨rfl,hpt,hrr⟩
     ·cases hx3;show LoopIn F 0 X.P _ _ a3 w3
      have hinv:Inv ρ n {s with fr:=YU (ZH T s.fr) c (cv (bif cnt x.born then j + 1 else j)),h:=s.h.put it .dead} a3 w3:=by
       refine⟨Zz7,⟨hi3.fr.size,fun t hany=>?_⟩,hds⟩
       change XR ((YU (ZH T s.fr) c _).at t)=false at hany
       show VR ρ ((YU (ZH T s.fr) c _).at t) _;rw [Zx3] at hany ⊢;by_cases hct:c=some t
       ·rw [if_pos hct];rw [hct] at hcc;have h1:=hi3.fr.val t (by rw [show s3.fr.at t=_ from hcc];exact(VR.Zz (ρ:=ρ) (hcv _)).Zlg);rw [show s3.fr.at t=_ from hcc] at h1;have:=VR.YA (hcv _) h1;rw [this];exact VR.Zz (hcv _)
       ·rw [if_neg hct] at hany ⊢;by_cases U5:t ∈ T
        ·rw [if_pos U5] at hany;cases hany
        ·rw [if_neg U5] at hany ⊢;exact Zz8 t U5 hany
      refine ihk (seen.push e'.born) clock _ a3 w3 (fun b hb=>by
       rw [contains_push] at hb;rcases Bool.or_eq_true_iff.1 hb with z | z
       ·exact Zbk b z
       ·have:b=e'.born:=by simpa using z
        rw [this,hbn];exact hpf) ?_ (by have:=left_shrinks es' seen e' he';omega) (Nat.le_refl _) (by rw [Ziz bi (by omega)];exact Znu) (by rw [Ziz bm (by omega),hother bm hbne];exact ZaK) hinv hstp
      have:=Zo0 es' seen cnt hnd he';rw [hbn] at this ⊢;cases hcx:cnt x.born <;> rw [hcx] at this <;> simp only [Cq1,Cq0] at this ⊢ <;> omega
     ·obtain⟨he,ZBB⟩:=hstop ⟨x,hx,hpt⟩;cases hx3 with
      | ret=>
        show Y4 wm n ρ s.h w0 e s2 _ a3 w3;rw [he,ZBB];refine⟨ρ,.ret,⟨Zz7,⟨hi3.fr.size,fun t hany=>?_⟩,hds⟩,hstp⟩
        change XR ((YU (ZH T s.fr) (some r) v).at t)=false at hany
        show VR ρ ((YU (ZH T s.fr) (some r) v).at t) _;rw [J5] at hany ⊢;by_cases hrt:some r=some t
        ·rw [if_pos hrt] at hany ⊢;have hrt:=Oi0 hrt;subst hrt;have h1:=hi3.fr.val r (by rw [hrr];exact(VR.Zz (ρ:=ρ) hv).Zlg);rw [hrr] at h1;have:=VR.YA hv h1;rw [this];exact VR.Zz hv
        ·rw [if_neg hrt] at hany ⊢;rw [YI] at hany ⊢;by_cases U5:t ∈ T
         ·rw [if_pos U5] at hany;cases hany
         ·rw [if_neg U5] at hany ⊢;exact Zz8 t U5 hany
 have ZuC:Stp wm ρ s.h w0 ρ (s.h.put it .dead) w0:=by
  have kk:=JU (h:=s.h) (A:= .dead) ZjD (by rw [hit];rfl);exact⟨Ren.le_refl _,Nat.le_refl _,kk.keep,kk.own,kk.live,rfl,rfl,rfl,Nat.le_refl _,fun _ _ _=>rfl,fun i b d e e'=>by rw [e] at e';cases e'⟩
 refine head _ #[] YH 0 a0 w0 (fun b hb=>by simp at hb) ?_ (Nat.le_refl _) hck Znt Znn ⟨K4 hi0.rel,⟨hi0.fr.size,fun t hany=>?_⟩,hi0.ds⟩ ZuC
 ·rw [Nat.zero_add,← htot];unfold leftOf;rw [Array.toList_filter];congr 1;exact List.filter_eq_self.2 fun x _=>by simp
 change XR ((YU (ZH T s.fr) c (cv 0)).at t)=false at hany
 show VR ρ ((YU (ZH T s.fr) c (cv 0)).at t) _;rw [Zx3] at hany ⊢;by_cases hct:c=some t
 ·rw [if_pos hct];rw [hct] at hc0;have h1:=hi0.fr.val t (by rw [show s.fr.at t=_ from hc0];exact(VR.Zz (ρ:=ρ) (hcv _)).Zlg);rw [show s.fr.at t=_ from hc0] at h1;exact h1
 ·rw [if_neg hct] at hany ⊢;by_cases ht:t ∈ T
  ·rw [if_pos ht] at hany;cases hany
  ·rw [if_neg ht] at hany ⊢;exact hi0.fr.val t hany
structure Zcd (T:List Nat) (fr:Fr) (ds:List Deferred) (c:Option Nat) (kd:IntKind) (up:Int ->Int) (a:Int) (r:Nat) (v:Value) (p:Option Bool) (e:XX) (s:Fs):Prop where
 ds:s.ds=ds
 fr:MFr T fr s.fr
 e:e= .normal∧p=some false∧CAt c s.fr (.int kd a)∨e= .normal∧p=some true∧CAt c s.fr (.int kd (up a))∨e= .ret∧p=none∧s.fr.at r=v
theorem Zcd.Yt {T:List Nat} {fr f:Fr} {ds:List Deferred} {c:Option Nat} {kd:IntKind} {up:Int ->Int} {a:Int} {r:Nat} {v:Value} {h:H} (k:MFr T fr f) (hc:CAt c f (.int kd a)):Zcd T fr ds c kd up a r v (some false) .normal ⟨f,ds,h,none⟩:= ⟨rfl,k,.inl ⟨rfl,rfl,hc⟩⟩
theorem Zcd.cnt {T:List Nat} {fr f:Fr} {ds:List Deferred} {c:Option Nat} {kd:IntKind} {up:Int ->Int} {a:Int} {r:Nat} {v:Value} {h:H} (k:MFr T fr f) (hc:CAt c f (.int kd (up a))):Zcd T fr ds c kd up a r v (some true) .normal ⟨f,ds,h,none⟩:= ⟨rfl,k,.inr (.inl ⟨rfl,rfl,hc⟩)⟩
theorem Zcd.ret {T:List Nat} {fr f:Fr} {ds:List Deferred} {c:Option Nat} {kd:IntKind} {up:Int ->Int} {a:Int} {r:Nat} {v:Value} {h:H} (k:MFr T fr f) (hr:f.at r=v):Zcd T fr ds c kd up a r v none .ret ⟨f,ds,h,none⟩:= ⟨rfl,k,.inr (.inr ⟨rfl,rfl,hr⟩)⟩
section
variable {wm:Nat} {G Gr:List (Ast wm)} {h h0:H} {T0:Nat ->Prop} {fr:Fr} {ds:List Deferred} {κ ν:Type} {kv:κ ->Value} {vv:ν ->Value} {ll:List (κ×ν)} {d:Nat}
theorem Zij {P:κ×ν ->Bool} {ct:Nat ->Bool}:∀ {ll:List (κ×ν)} {bs:List Nat},bs.length=ll.length ->(∀ (j:Nat) (y:κ×ν) (b:Nat),ll[j]? =some y ->bs[j]? =some b ->ct b=P y) ->(Yh kv vv ll bs).countP (fun x=>ct x.born)=ll.countP P
 | [],_,_,_=>by unfold Yh;simp
 | x::ll,[],h,_=>by simp at h
 | x::ll,b::bs,h,k=>by
   have ih:=Zij (ll:=ll) (bs:=bs) (by simpa using h) fun j y b' h1 h2=>k (j + 1) y b' (by simpa using h1) (by simpa using h2)
   have h0:=k 0 x b rfl rfl;unfold Yh at ih ⊢;rw [List.zipWith_cons_cons,List.countP_cons,List.countP_cons,ih];dsimp only;rw [h0]
structure RK (it:Nat) (h h2:H):Prop where
 it_:∃ a b c d,h.at it= .iter a b c d
 at_:∀ i,i ≠ it ->h2.at i=h.at i
theorem Ud.rk {κ ν:Type} {kv:κ ->Value} {vv:ν ->Value} {it:Nat} {h h2:H} {m:Nat} {l:List (κ×ν)} (s:Ud kv vv h.size h (some m) l) (k:RK it h h2):Ud kv vv h.size h2 (some m) l:=
 ⟨s.at_.keep fun i e=>(by
   cases e;refine k.at_ m fun z=>?_
   obtain⟨a,b,c,d,e1⟩:=k.it_;rcases s.at_.mem with⟨q,_⟩ | ⟨j,bs,YH,q,h1,_⟩
   ·cases q
   ·cases q;rw [z,e1] at h1;cases h1),s.low⟩
theorem Zrh {α β:Type} {k:α} {s:Option β} {f:α ->Option β} {r:β} (h:Option.elim (some k) s f=some r):f k=some r:=h
theorem Zri {α β:Type} {s:Option β} {f:α ->Option β} {r:β} (h:Option.elim none s f=some r):s=some r:=h
theorem CAt.sm {c:Nat} {fr:Fr} {v:Value} (h:CAt (some c) fr v):fr.at c=v:=h
theorem WL.ZEE {Q:XX ->Fs ->Prop} {id:Nat} {o:Oper} {t it m YH:Nat} {bs:List Nat} {b:κ ->ν ->Option (Option Bool)} {q:Option Nat} (T:List Nat) (c:Option Nat) (kd:IntKind) (up:Int ->Int) (a0:Int) (r:Nat) (v:Value) (hq:ZfM b ll=some q) (hS:Sp wm T0 h0 G h) (pi:Pk G (ob wm it (.iter m YH YH none)) Gr) (hat:fr.at t= .pointer (some ⟨it,0,none⟩)) (hc:CAt c fr (.int kd a0)) (hm:h.at m= .map (Yh kv vv ll bs) YH) (hb:bs.length=ll.length∧bs.Nodup∧∀ x ∈ bs,x < YH)
 (hops:ops.toList=o::l) (hop:o.op= .next (.tmp t) false) (hgu:o.guard=none) (hd:o.dst=some d) (hdn:Nat.blt d n=true) (hT:T.contains t=false) (hdT:T.contains d=true) (hcT:CIn T c=true) (hrT:T.contains r=true) (hv:plain v=true)
 (body:∀ (x:κ×ν) (p:Option Bool),b x.1 x.2=some p ->∀ a h2 fr',Agr T fr fr' ->CAt c fr' (.int kd a) ->RK it h h2 ->Sp h.size (XM ([]:List (Ast h.size))) h2 [] h2 ->Zqm kv vv h2 it x ->WO X n h.size rd ops l ⟨Tr.set fr' d (.tuple #[.bool true,kv x.1,vv x.2]),ds,h2,none⟩ (Qy X n h.size rd rest (Zcd T fr' ds c kd up a r v p)))
 (over:∀ k,q=some k ->∀ h' fr',Agr T fr fr' ->CAt c fr' (.int kd (Zca up k a0)) ->Sp wm T0 h0 Gr h' ->WO X n wm rd ops l ⟨Tr.set fr' d (.tuple #[.bool false]),ds,h',none⟩ (Qy X n wm rd rest (Zqh Q)))
 (stop:q=none ->∀ h' fr',Agr T fr fr' ->fr'.at r=v ->Sp wm T0 h0 Gr h' ->Q .ret ⟨fr',ds,h',none⟩):WL X n wm rd (.seq (.region id ops false) rest) ⟨fr,ds,h,none⟩ Q:=by
 obtain⟨hb1,hb2,hb3⟩:=hb;obtain⟨o1,o2,o3⟩:=hS.get pi;obtain⟨m1,m2,m3⟩:=Zkr hq;have ZqO:∀ t',T.contains t'=false ->t' ∉ T:=fun t' ht' z=>by rw [← List.contains_iff_mem] at z;rw [z] at ht';cases ht'
 have ZBK:∀ c0,c=some c0 ->c0 ∈ T:=fun c0 z=>by subst z;exact List.contains_iff_mem.1 hcT
 obtain⟨cv,hcv⟩:∃ cv:Nat ->Value,cv=fun k=>.int kd (Zca up k a0):= ⟨_,rfl⟩
 have Zse:∀ k,Agr T fr (YU (ZH T fr) c (cv k)):=fun k t' v' ht' hv'=>by
  rw [J5,if_neg (fun z=>ZqO t' ht' (ZBK t' z)),YI,if_neg (ZqO t' ht'),hv']
 have ZJN:∀ k,CAt c (YU (ZH T fr) c (cv k)) (cv k):=fun k=>by
  cases c with
  | none=>trivial
  | some c0=>show(YU _ _ _).at c0=_;rw [J5,if_pos rfl]
 have ZAc:∀ k,CAt c (YU (ZH T fr) c (cv k)) (.int kd (Zca up k a0)):=fun k=>by
  rw [show Value.int kd (Zca up k a0)=cv k by rw [hcv]];exact ZJN k
 have htT:t ∉ T:=ZqO t hT;have ZBI:d ∈ T:=List.contains_iff_mem.1 hdT;have ZBD:m ≠ it:=fun z=>by rw [z,o1] at hm;cases hm
 classical
 let pn:Nat ->Bool:=fun bn=>decide (∃ (j:Nat) (y:κ×ν),ll[j]? =some y∧bs[j]? =some bn∧b y.1 y.2=some none)
 let ct:Nat ->Bool:=fun bn=>decide (∃ (j:Nat) (y:κ×ν),ll[j]? =some y∧bs[j]? =some bn∧b y.1 y.2=some (some true))
 have uniq:∀ (j j':Nat) (bn:Nat),bs[j]? =some bn ->bs[j']? =some bn ->j'=j:=by
  intro j j' bn h2 h2';obtain⟨q1,e1⟩:=Li0 h2';obtain⟨q2,e2⟩:=Li0 h2;exact(List.getElem_inj hb2).1 (e1.trans e2.symm)
 have spec:∀ (z:Option Bool) (j:Nat) (y:κ×ν) (bn:Nat),ll[j]? =some y ->bs[j]? =some bn ->decide (∃ (j:Nat) (y:κ×ν),ll[j]? =some y∧bs[j]? =some bn∧b y.1 y.2=some z)=decide (b y.1 y.2=some z):=by
  intro z j y bn h1 h2;by_cases hp:b y.1 y.2=some z
  ·rw [decide_eq_true hp];exact decide_eq_true ⟨j,y,h1,h2,hp⟩
  ·rw [decide_eq_false hp];refine decide_eq_false ?_;rintro⟨j',y',h1',h2',hp'⟩;have hj:=uniq j j' bn h2 h2';subst hj;rw [h1] at h1';cases h1';exact hp hp'
 have ZbJ:∀ (j:Nat) (y:κ×ν) (bn:Nat),ll[j]? =some y ->bs[j]? =some bn ->pn bn=decide (b y.1 y.2=some none):=spec none;have Zrk:∀ (j:Nat) (y:κ×ν) (bn:Nat),ll[j]? =some y ->bs[j]? =some bn ->ct bn=decide (b y.1 y.2=some (some true)):=spec (some true)
 have Zns:Sp wm T0 h0 Gr (h.put it .dead):=
  Sp.step (Ga:= [ob wm it (.iter m YH YH none)]) (Gb:= []) (hS.perm pi.perm) (Up.put o2 (by rw [o1];rfl)) (fun i e=>⟨_,List.mem_singleton.2 rfl,e⟩) ZQ.nil fun i ⟨A,mm,f⟩=>by simp at mm
 have ZcI:∀ x ∈ Yh kv vv ll bs,∀ k,∃ ex s3,(s3.ds=ds∧(∀ t,t ∉ T ->s3.fr.at t=fr.at t)∧(ex= .normal∧pn x.born=false∧CAt c s3.fr (cv (bif ct x.born then k + 1 else k))∨ex= .ret∧pn x.born=true∧s3.fr.at r=v))∧∀ {ρ:Ren} {F:Fence} {a:Act} {w:World},Inv ρ n {fr:=YU (YU (ZH T fr) c (cv k)) o.dst (.tuple #[.bool true,x.key,x.val]),ds:=ds,h:=h.put it (.iter m YH YH (some x.born)),wr:=none} a w ->h.size <= (h.put it (.iter m YH YH (some x.born))).size ->FR' ρ rd F ->∀ Q':Exit ->Act ->World ->Prop,
  (∀ e' a' w',Y4 h.size n ρ (h.put it (.iter m YH YH (some x.born))) w ex s3 e' a' w' ->Q' e' a' w') ->wpListIn F 0 X.P ops (Exit.then (rest.wpIn F 0 X.P Q') Q') l a w:=by
  intro x hx k;obtain⟨j,y,bn,h1,h2,rfl⟩:=ZeM hx;obtain⟨p,hp⟩:=m1 y (List.mem_iff_getElem?.2 ⟨j,h1⟩);have hpn:=ZbJ j y bn h1 h2;have hct:=Zrk j y bn h1 h2;have hsz:(h.put it (.iter m YH YH (some bn))).size=h.size:=H.size_put _ _ _;have e1:(h.put it (.iter m YH YH (some bn))).at it= .iter m YH YH (some bn):=Z9 (XE o1 rfl) _;have e2:(h.put it (.iter m YH YH (some bn))).at m= .map (Yh kv vv ll bs) YH:=by rw [Xr ZBD,hm]
  have hent:Zqm kv vv (h.put it (.iter m YH YH (some bn))) it y:=by
   unfold Zqm Zc2;simp only [e1,e2,Nat.beq_refl,Cq1,ZfK hb2 h1 h2]
  obtain⟨ex,s3,⟨q1,q2,q3⟩,q4⟩:=WO.body (body y p hp (Zca up k a0) (h.put it (.iter m YH YH (some bn))) (YU (ZH T fr) c (cv k)) (Zse k) (ZAc k) ⟨⟨_,_,_,_,o1⟩,fun i hi=>Xr hi _⟩ (Sp.start (Nat.le_of_eq hsz.symm) ZQ.nil) hent);refine⟨ex,s3,⟨q1,fun t' ht'=>?_,?_⟩,?_⟩
  ·rw [q2 t' ht',J5,if_neg (fun z=>ht' (ZBK t' z)),YI,if_neg ht']
  ·dsimp only;rw [hpn,hct,hp];rcases q3 with⟨z1,z2,z3⟩ | ⟨z1,z2,z3⟩ | ⟨z1,z2,z3⟩
   ·subst z2;exact .inl ⟨z1,rfl,by rw [hcv];exact z3⟩
   ·subst z2;exact .inl ⟨z1,rfl,by rw [hcv];simpa [Zca] using z3⟩
   ·subst z2;exact .inr ⟨z1,rfl,z3⟩
  ·rw [hd];intro ρ F a w i1 i2 i3 Q' i4;exact q4 i1 i2 i3 Q' i4
 have key:=fun(e:XX) (s2:Fs)=>Zxx (X:=X) (n:=n) (wm:=wm) (rd:=rd) (rest:=rest) (id:=id) (s:= ⟨fr,ds,h,none⟩) (e:=e) (s2:=s2) (T:=T) (v:=v) (r:=r) pn ct c cv hops hop hgu hat o1 hm (Nat.le_refl _) (Zee hb2 hb3) o2 htT hd (by rwa [Nat.blt_eq] at hdn) ZBI hv (fun k=>by rw [hcv];rfl) ZBK (by rw [hcv];exact hc) ZcI
 cases q with
 | none=>
   have hst:=stop rfl (h.put it .dead) (YU (ZH T fr) (some r) v) (fun t' v' ht' hv'=>by
    rw [J5,if_neg (fun z=>by have z:=Oi0 z;subst z;rw [hrT] at ht';cases ht'),YI,if_neg (ZqO t' ht'),hv']) (by rw [J5,if_pos rfl]) Zns
   refine⟨.ret,⟨YU (ZH T fr) (some r) v,ds,h.put it .dead,none⟩,hst,key _ _ (fun hall=>?_) fun _=>⟨rfl,rfl⟩⟩;exfalso;obtain⟨y,hy,hyb⟩:=m2.1 rfl;obtain⟨j,hj⟩:=List.mem_iff_getElem?.1 hy;have hjl:= (Li0 hj).1;have h2:bs[j]? =some (bs[j]'(by omega)):=List.getElem?_eq_getElem _;have:=hall _ (ZqC hj h2);rw [ZbJ j y _ hj h2,decide_eq_true hyb] at this;cases this
 | some k=>
   have hk:(Yh kv vv ll bs).countP (fun x=>ct x.born)=k:=by rw [m3 k rfl];exact Zij hb1 Zrk
   obtain⟨e,s2,⟨q1,q2⟩,q3⟩:=WO.body (over k rfl _ _ (Zse k) (ZAc k) Zns);refine⟨e,s2,q2,key e s2 (fun _=>⟨q1,?_⟩) fun⟨x,hx,hp⟩=>?_⟩
   ·dsimp only;rw [hk,hd];rw [hcv] at q3 ⊢;intro ρ F a w i1 i2 i3 Q' i4;exact q3 i1 i2 i3 Q' i4
   ·exfalso;obtain⟨j,y,bn,h1,h2,rfl⟩:=ZeM hx;have hpn:=ZbJ j y bn h1 h2;rw [show pn bn=true from hp] at hpn;have hy:=of_decide_eq_true hpn.symm;exact absurd (m2.2 ⟨y,List.mem_iff_getElem?.2 ⟨j,h1⟩,hy⟩) (by simp)
end
end Go.Yw
end
end
section
noncomputable section
namespace Go.Yw
open Go.Lf
variable {P:Program}
def FCk (P:Program) (e:Bool) (d:Nat) (xs:Array Value):List Field ->Prop
 | []=>True
 | f::fl=>(f.name ≠ "_" ∧∃ v,Zw P (part f.type xs f.offset)=some (.ok v)∧Zw P (Instr.checkKey e d f.type v)=some (.ok ()))∧FCk P e d xs fl
theorem ZyH {e:Bool} {d:Nat} {xs:Array Value}:∀ {fl:List Field},FCk P e d xs fl ->
 Zw P (forIn fl PUnit.unit fun f _=>if f.name ≠ "_" then do
  let a ← part f.type xs f.offset
  Instr.checkKey e d f.type a
  pure (ForInStep.yield PUnit.unit)
  else pure (ForInStep.yield PUnit.unit):Sem PUnit)=some (.ok PUnit.unit):=by
 intro fl
 induction fl with
 | nil=>intro _;rfl
 | cons f fl ih=>
   intro h;obtain⟨⟨h1,v,h2,h3⟩,h5⟩:=h;rw [List.forIn_cons,if_pos h1,Za1,prb h2,prb h3];have:=ih h5;rw [← this];rfl
theorem ZsK {e:Bool} {t:TypeId} {fs:Array Field} {xs:Array Value} {d:Nat} (hu:P.underlying t=some (.struct fs)) (hf:FCk P e d xs fs.toList):
 Zw P (Instr.checkKey e (d + 1) t (.agg xs))=some (.ok ()):=by
 unfold Instr.checkKey;rw [prb (YQ hu)];dsimp only;have:=ZyH hf;rw [← Array.forIn_toList];rw [prb this];rfl
theorem Zaz.struct {kt:TypeId} {fs:Array Field} {κ:Type} [DecidableEq κ] {kv:κ ->Value} {cs:κ ->List Value} {eqf:κ ->κ ->Bool} (hu:P.underlying kt=some (.struct fs)) (hk:∀ x,kv x= .agg (cs x).toArray) (hs:∀ x,(cs x).all scalar=true) (ck:∀ e x,FCk P e 9999 (cs x).toArray fs.toList) (eq:∀ x y,ZwE P kt (cs x) (cs y) (eqf x y)) (hd:∀ x y,eqf x y=decide (x=y)) (sm:∀ x,Instr.sameBits 10000 (kv x) (kv x)=true):Zaz P kt kv:=by
 refine⟨fun x=>by rw [hk];exact hs x,fun e x=>?_,sm,fun x y=>?_,_,hu,.inl fun x y=>by rw [hk,hk];rfl⟩
 ·rw [hk];unfold ZaI;rw [show(10000:Nat)=9999 + 1 from rfl,ZsK hu (ck e x)];rw [show plain (.agg (cs x).toArray)= (cs x).all scalar from rfl,hs];rfl
 ·rw [hk,hk,(eq x y).2,hd]
end Go.Yw
end
end
section
end
section
namespace Go.Proofs.Ytekpjgmhkkjhgaa
structure Zb where
 name:Int
 root:Bool
 from_:Int
 has:Int
 out:Int
 use:Bool
 deriving DecidableEq,Inhabited
structure Zd where
 kind:Int
 Zv:Int
 name:Int
 via:Int
 w:Int
 deriving DecidableEq,Inhabited
structure Za where
 cells:(List (List Zb))
 notes:(List Zd)
 names:Int
 freed:(List Int)
 deriving DecidableEq,Inhabited
structure ZY where
 at_:Int
 name:Int
 out:Int
 held:Int
 deriving DecidableEq,Inhabited
structure Zn where
 Z6:Int
 at_:Int
 name:Int
 Zv:Int
 deriving DecidableEq,Inhabited
structure ZV where
 at_:Int
 name:Int
 deriving DecidableEq,Inhabited
structure Za8 where
 Z6:Int
 at_:Int
 name:Int
 Zv:Int
 deriving DecidableEq,Inhabited
structure Ze where
 e0:Int
 e1:Int
 deriving DecidableEq,Inhabited
structure Store where
 machines:Int
 names:Int
 cells:(List (Ze×Zb))
 notes:(List Zd)
 freed:(List Int)
 deriving DecidableEq,Inhabited
structure Model where
 uses:(List ZV)
 ways:(List ZV)
 deriving DecidableEq,Inhabited
def ZaQ (x y:Zb):Bool:= [x.name==y.name,x.root==y.root,x.from_==y.from_,x.has==y.has,x.out==y.out,x.use==y.use].all id
def Kn (x y:ZV):Bool:= [x.at_==y.at_,x.name==y.name].all id
def ZCW:Option Bool:=some true
def ZvL (x:Int):Option Int:=Go.Lf.Qf x
end Go.Proofs.Ytekpjgmhkkjhgaa
end
section
set_option maxRecDepth 100000
noncomputable section
namespace Go.Proofs.Ytekpjgmhkkjhgaa
open Go.Yw Go.Lf
def ZA:Um Zb where
 sz:=6
 pos:=by decide
 Par:=Unit
 dflt:= ()
 sh:=fun _ x=>[.int .i64 x.name,.bool x.root,.int .i64 x.from_,.int .i64 x.has,.int .i64 x.out,.bool x.use]
 len:=fun _ _=>rfl
 one:=fun _ _=>rfl
 F:=fun _ _ _ _=>True
 mono:=fun _ x=>x
 up:=fun _ x=>x
def Zj:Um Zd where
 sz:=5
 pos:=by decide
 Par:=Unit
 dflt:= ()
 sh:=fun _ x=>[.int .i64 x.kind,.int .i64 x.Zv,.int .i64 x.name,.int .i64 x.via,.int .i64 x.w]
 len:=fun _ _=>rfl
 one:=fun _ _=>rfl
 F:=fun _ _ _ _=>True
 mono:=fun _ x=>x
 up:=fun _ x=>x
def XQ:Um ZY where
 sz:=4
 pos:=by decide
 Par:=Unit
 dflt:= ()
 sh:=fun _ x=>[.int .i64 x.at_,.int .i64 x.name,.int .i64 x.out,.int .i64 x.held]
 len:=fun _ _=>rfl
 one:=fun _ _=>rfl
 F:=fun _ _ _ _=>True
 mono:=fun _ x=>x
 up:=fun _ x=>x
def YK:Um ZV where
 sz:=2
 pos:=by decide
 Par:=Unit
 dflt:= ()
 sh:=fun _ x=>[.int .i64 x.at_,.int .i64 x.name]
 len:=fun _ _=>rfl
 one:=fun _ _=>rfl
 F:=fun _ _ _ _=>True
 mono:=fun _ x=>x
 up:=fun _ x=>x
def ZtU:Um Za8 where
 sz:=4
 pos:=by decide
 Par:=Unit
 dflt:= ()
 sh:=fun _ x=>[.int .u8 x.Z6,.int .u8 x.at_,.int .u8 x.name,.int .u8 x.Zv]
 len:=fun _ _=>rfl
 one:=fun _ _=>rfl
 F:=fun _ _ _ _=>True
 mono:=fun _ x=>x
 up:=fun _ x=>x
def Zh (x:Ze):Value:= .agg [.int .i64 x.e0,.int .i64 x.e1].toArray
def Xa (x:ZV):Value:= .agg [.int .i64 x.at_,.int .i64 x.name].toArray
def Zk (x:Zb):Value:= .agg [.int .i64 x.name,.bool x.root,.int .i64 x.from_,.int .i64 x.has,.int .i64 x.out,.bool x.use].toArray
theorem ZoC:XX.P.underlying 3=some (.int .i64):=Kq0
theorem ZIK:XX.P.underlying 4=some .bool:=Kq0
theorem ZrC:XX.P.underlying 5=some (.int .u8):=Kq0
theorem ZgI:XX.P.underlying 22=some (.slice 59):=Kq0
theorem UE:XX.P.underlying 23=some (.slice 58):=Kq0
theorem Qr:XX.P.underlying 24=some (.slice 3):=Kq0
theorem ZEa:XX.P.underlying 38=some (.slice 29):=Kq0
theorem Zkg:XX.P.underlying 43=some (.slice 91):=Kq0
theorem ZgH:XX.P.underlying 59=some (.slice 61):=Kq0
theorem Ztx:XX.P.underlying 62=some (.slice 80):=Kq0
theorem QL:XX.P.underlying 63=some (.slice 73):=Kq0
theorem ZD9:XX.P.underlying 69=some (.slice 5):=Kq0
theorem KX:XX.P.underlying 88=some (.map 73 3):=Kq0
theorem Zzy:XX.P.underlying 89=some (.map 73 4):=Kq0
theorem Uq:XX.P.underlying 95=some (.map 113 61):=Kq0
theorem Jo:XX.P.underlying 110=some (.map 113 3):=Kq0
theorem ZAY:XX.P.underlying 160=some (.int .u64):=Kq0
theorem Xu:Yp XX.P 3=some false:=Kq0
theorem ZLk:Yp XX.P 4=some false:=Kq0
theorem ZLj:Yp XX.P 5=some false:=Kq0
theorem ZAH:Yp XX.P 22=some false:=Kq0
theorem Zon:Yp XX.P 23=some false:=Kq0
theorem Zwr:Yp XX.P 24=some false:=Kq0
theorem Zbv:Yp XX.P 26=some true:=Kq0
theorem Zwq:Yp XX.P 27=some false:=Kq0
theorem Zjk:Yp XX.P 29=some true:=Kq0
theorem Zwp:Yp XX.P 32=some false:=Kq0
theorem ZHN:Yp XX.P 56=some false:=Kq0
theorem ZdU:Yp XX.P 58=some true:=Kq0
theorem ZkW:Yp XX.P 59=some false:=Kq0
theorem Zhd:Yp XX.P 61=some true:=Kq0
theorem ZHM:Yp XX.P 63=some false:=Kq0
theorem Zbu:Yp XX.P 65=some true:=Kq0
theorem Zfe:Yp XX.P 73=some true:=Kq0
theorem ZAF:Yp XX.P 80=some true:=Kq0
theorem ZAE:Yp XX.P 91=some true:=Kq0
theorem Zwo:Yp XX.P 94=some false:=Kq0
theorem Zhc:Yp XX.P 95=some false:=Kq0
theorem ZmA:Yp XX.P 110=some false:=Kq0
theorem ZDs:Yp XX.P 113=some true:=Kq0
theorem Xl:Z7 XX.P 3=some 1:=Kq0
theorem ZzC:Z7 XX.P 4=some 1:=Kq0
theorem ZEg:Z7 XX.P 5=some 1:=Kq0
theorem ZA4:Z7 XX.P 22=some 1:=Kq0
theorem ZoK:Z7 XX.P 23=some 1:=Kq0
theorem ZA3:Z7 XX.P 24=some 1:=Kq0
theorem Q8:Z7 XX.P 26=some 4:=Kq0
theorem Zd0:Z7 XX.P 29=some 4:=Kq0
theorem ZA2:Z7 XX.P 32=some 1:=Kq0
theorem XA:Z7 XX.P 58=some 5:=Kq0
theorem ZbC:Z7 XX.P 59=some 1:=Kq0
theorem JC:Z7 XX.P 61=some 6:=Kq0
theorem ZtD:Z7 XX.P 63=some 1:=Kq0
theorem Jp:Z7 XX.P 65=some 2:=Kq0
theorem Xe:Z7 XX.P 73=some 2:=Kq0
theorem Zk7:Z7 XX.P 80=some 4:=Kq0
theorem ZdZ:Z7 XX.P 91=some 4:=Kq0
theorem ZA1:Z7 XX.P 94=some 1:=Kq0
theorem Zk8:Z7 XX.P 110=some 1:=Kq0
theorem Zxe:Z7 XX.P 113=some 2:=Kq0
theorem ZyD:Zu XX.P 26 0 0:=Zu.of Kq0
theorem ZyC:Zu XX.P 26 1 1:=Zu.of Kq0
theorem ZyB:Zu XX.P 26 2 2:=Zu.of Kq0
theorem ZyA:Zu XX.P 26 3 3:=Zu.of Kq0
theorem ZlK:Zu XX.P 29 0 0:=Zu.of Kq0
theorem ZbY:Zu XX.P 29 1 1:=Zu.of Kq0
theorem Zdk:Zu XX.P 29 2 2:=Zu.of Kq0
theorem ZbX:Zu XX.P 29 3 3:=Zu.of Kq0
theorem Zyz:Zu XX.P 58 0 0:=Zu.of Kq0
theorem Zyy:Zu XX.P 58 1 1:=Zu.of Kq0
theorem Zyx:Zu XX.P 58 2 2:=Zu.of Kq0
theorem Zyw:Zu XX.P 58 3 3:=Zu.of Kq0
theorem ZqZ:Zu XX.P 58 4 4:=Zu.of Kq0
theorem Zyv:Zu XX.P 61 0 0:=Zu.of Kq0
theorem Zyu:Zu XX.P 61 1 1:=Zu.of Kq0
theorem ZqY:Zu XX.P 61 2 2:=Zu.of Kq0
theorem ZlJ:Zu XX.P 61 3 3:=Zu.of Kq0
theorem Zyt:Zu XX.P 61 4 4:=Zu.of Kq0
theorem Zys:Zu XX.P 61 5 5:=Zu.of Kq0
theorem ZqX:Zu XX.P 65 0 0:=Zu.of Kq0
theorem Zyr:Zu XX.P 65 1 1:=Zu.of Kq0
theorem Zyq:Zu XX.P 73 0 0:=Zu.of Kq0
theorem Zyp:Zu XX.P 73 1 1:=Zu.of Kq0
theorem Zyo:Zu XX.P 80 0 0:=Zu.of Kq0
theorem Zyn:Zu XX.P 80 1 1:=Zu.of Kq0
theorem Zym:Zu XX.P 80 2 2:=Zu.of Kq0
theorem Zyl:Zu XX.P 80 3 3:=Zu.of Kq0
theorem Zyk:Zu XX.P 91 0 0:=Zu.of Kq0
theorem Zyj:Zu XX.P 91 1 1:=Zu.of Kq0
theorem Zyi:Zu XX.P 91 2 2:=Zu.of Kq0
theorem Zyh:Zu XX.P 91 3 3:=Zu.of Kq0
theorem Zyg:Zu XX.P 97 0 0:=Zu.of Kq0
theorem Zyf:Zu XX.P 97 1 1:=Zu.of Kq0
theorem Zye:Zu XX.P 97 2 2:=Zu.of Kq0
theorem ZlI:Zu XX.P 97 3 3:=Zu.of Kq0
theorem Zyd:Zu XX.P 97 4 4:=Zu.of Kq0
theorem XF:YE XX.P 3=some (.int .i64 0):=Kq0
theorem Zzu:YE XX.P 4=some (.bool false):=Kq0
theorem ZAP:YE XX.P 24=some (.slice none 0 0):=Kq0
theorem Zou:YE XX.P 26=some (.agg #[.slice none 0 0,.slice none 0 0,.int .i64 0,.slice none 0 0]):=Kq0
theorem Ztn:YE XX.P 29=some (.agg #[.int .i64 0,.int .i64 0,.int .i64 0,.int .i64 0]):=Kq0
theorem ZAO:YE XX.P 32=some (.int .i64 0):=Kq0
theorem Zfo:YE XX.P 58=some (.agg #[.int .i64 0,.int .i64 0,.int .i64 0,.int .i64 0,.int .i64 0]):=Kq0
theorem Ztm:YE XX.P 59=some (.slice none 0 0):=Kq0
theorem Uy:YE XX.P 61=some (.agg #[.int .i64 0,.bool false,.int .i64 0,.int .i64 0,.int .i64 0,.bool false]):=Kq0
theorem ZAN:YE XX.P 65=some (.agg #[.slice none 0 0,.slice none 0 0]):=Kq0
theorem Zbz:YE XX.P 73=some (.agg #[.int .i64 0,.int .i64 0]):=Kq0
theorem ZAM:YE XX.P 80=some (.agg #[.int .u8 0,.int .u8 0,.int .u8 0,.int .u8 0]):=Kq0
theorem Zot:YE XX.P 91=some (.agg #[.int .i64 0,.int .i64 0,.int .i64 0,.int .i64 0]):=Kq0
theorem ZAL:YE XX.P 94=some (.pointer none):=Kq0
theorem Ztl:YE XX.P 97=some (.agg #[.int .i64 0,.int .i64 0,.map none,.slice none 0 0,.slice none 0 0]):=Kq0
theorem ZwZ:YE XX.P 110=some (.map none):=Kq0
theorem Zqn:YE XX.P 113=some (.agg #[.int .i64 0,.int .i64 0]):=Kq0
theorem Zoc:ZaX XX.P 26 [.slice none 0 0,.slice none 0 0,.int .i64 0,.slice none 0 0] [(0,1),(1,1),(2,1),(3,1)]:= ⟨_,_,Zou,rfl,Try.underlying26,by kernel_rfl⟩
theorem ZkS:ZaX XX.P 29 [.int .i64 0,.int .i64 0,.int .i64 0,.int .i64 0] [(0,1),(1,1),(2,1),(3,1)]:= ⟨_,_,Ztn,rfl,Try.underlying29,by kernel_rfl⟩
theorem Zrl:ZaX XX.P 58 [.int .i64 0,.int .i64 0,.int .i64 0,.int .i64 0,.int .i64 0] [(0,1),(1,1),(2,1),(3,1),(4,1)]:= ⟨_,_,Zfo,rfl,Try.underlying58,by kernel_rfl⟩
theorem ZAC:ZaX XX.P 61 [.int .i64 0,.bool false,.int .i64 0,.int .i64 0,.int .i64 0,.bool false] [(0,1),(1,1),(2,1),(3,1),(4,1),(5,1)]:= ⟨_,_,Uy,rfl,Try.underlying61,by kernel_rfl⟩
theorem ZaS:ZaX XX.P 73 [.int .i64 0,.int .i64 0] [(0,1),(1,1)]:= ⟨_,_,Zbz,rfl,Try.underlying73,by kernel_rfl⟩
theorem ZHy:ZaX XX.P 91 [.int .i64 0,.int .i64 0,.int .i64 0,.int .i64 0] [(0,1),(1,1),(2,1),(3,1)]:= ⟨_,_,Zot,rfl,Try.underlying91,by kernel_rfl⟩
theorem Zv4:ZaX XX.P 97 [.int .i64 0,.int .i64 0,.map none,.slice none 0 0,.slice none 0 0] [(0,1),(1,1),(2,1),(3,1),(4,1)]:= ⟨_,_,Ztl,rfl,Try.underlying97,by kernel_rfl⟩
theorem XY:Zru XX.P 113 [.int .i64 0,.int .i64 0] 1:= ⟨_,_,_,Zqn,rfl,Try.underlying113,by kernel_rfl⟩
theorem Zjj:Zfk XX.P #[23,23] 5 40:= ⟨58,.agg #[.int .i64 0,.int .i64 0,.int .i64 0,.int .i64 0,.int .i64 0],by kernel_rfl⟩
theorem Zfa:Zfk XX.P #[24,24] 1 8:= ⟨3,.int .i64 0,by kernel_rfl⟩
theorem Zwi:Zfk XX.P #[43,43] 4 32:= ⟨91,.agg #[.int .i64 0,.int .i64 0,.int .i64 0,.int .i64 0],by kernel_rfl⟩
theorem Zwh:Zfk XX.P #[59,59] 6 48:= ⟨61,.agg #[.int .i64 0,.bool false,.int .i64 0,.int .i64 0,.int .i64 0,.bool false],by kernel_rfl⟩
theorem Zat:Zfk XX.P #[63,63] 2 16:= ⟨73,.agg #[.int .i64 0,.int .i64 0],by kernel_rfl⟩
theorem ZHi (x y:Zb):ZwE XX.P 61 (ZA.sh () x) (ZA.sh () y) (ZaQ x y):=
 ⟨by kernel_rfl,ZkL (d:=9999) (bs:= [x.name==y.name,x.root==y.root,x.from_==y.from_,x.has==y.has,x.out==y.out,x.use==y.use]) Try.underlying61 Kq0 ⟨⟨by decide,_,_,YC Kq0 rfl,YC Kq0 rfl,eq_int Kq0⟩,⟨by decide,_,_,YC Kq0 rfl,YC Kq0 rfl,Zme Kq0⟩,⟨by decide,_,_,YC Kq0 rfl,YC Kq0 rfl,eq_int Kq0⟩,⟨by decide,_,_,YC Kq0 rfl,YC Kq0 rfl,eq_int Kq0⟩,⟨by decide,_,_,YC Kq0 rfl,YC Kq0 rfl,eq_int Kq0⟩,⟨by decide,_,_,YC Kq0 rfl,YC Kq0 rfl,Zme Kq0⟩,trivial⟩⟩
theorem ZnS (x y:ZV):ZwE XX.P 73 (YK.sh () x) (YK.sh () y) (Kn x y):=
 ⟨by kernel_rfl,ZkL (d:=9999) (bs:= [x.at_==y.at_,x.name==y.name]) Try.underlying73 Kq0 ⟨⟨by decide,_,_,YC Kq0 rfl,YC Kq0 rfl,eq_int Kq0⟩,⟨by decide,_,_,YC Kq0 rfl,YC Kq0 rfl,eq_int Kq0⟩,trivial⟩⟩
theorem Zab:Zaz XX.P 73 Xa:=Zaz.struct (cs:=fun x=>YK.sh () x) (eqf:=Kn) Try.underlying73 (fun _=>rfl) (fun _=>rfl) (fun e x=>⟨⟨by decide,_,YC Kq0 rfl,Zmn (k:= .i64) Kq0⟩,⟨⟨by decide,_,YC Kq0 rfl,Zmn (k:= .i64) Kq0⟩,trivial⟩⟩) ZnS (fun x y=>by rw [Bool.eq_iff_iff];cases x;cases y;simp [Kn]) (fun x=>by simp [Xa,Instr.sameBits])
theorem YF:Zaz XX.P 113 Zh:=Zaz.ZLi (et:=3) Kq0 Kq0 Kq0 (fun x=>x.e0) (fun x=>x.e1) (fun _=>rfl) (fun x y=>by cases x;cases y;simp)
theorem ZDi:Zeo XX.P 59=some 24:=Kq0
theorem ZFX:(XX.fns.get 14).isSome=true:=Kq0
theorem ZFW:(XX.fns.get 15).isSome=true:=Kq0
theorem ZFV:(XX.fns.get 17).isSome=true:=Kq0
theorem ZFU:(XX.fns.get 25).isSome=true:=Kq0
theorem ZFT:(XX.fns.get 38).isSome=true:=Kq0
theorem ZFS:(XX.fns.get 41).isSome=true:=Kq0
theorem ZFR:(XX.fns.get 42).isSome=true:=Kq0
theorem ZuQ:(XX.fns.get 43).isSome=true:=Kq0
theorem ZFQ:(XX.fns.get 44).isSome=true:=Kq0
theorem ZFP:(XX.fns.get 45).isSome=true:=Kq0
theorem ZuP:(XX.fns.get 52).isSome=true:=Kq0
theorem ZAi:(XX.fns.get 54).isSome=true:=Kq0
theorem ZFO:(XX.fns.get 55).isSome=true:=Kq0
theorem ZqN:(XX.fns.get 56).isSome=true:=Kq0
theorem ZAh:(XX.fns.get 57).isSome=true:=Kq0
theorem ZFN:(XX.fns.get 66).isSome=true:=Kq0
theorem ZuO:(XX.fns.get 68).isSome=true:=Kq0
theorem ZuN:(XX.fns.get 71).isSome=true:=Kq0
theorem ZqM:(XX.fns.get 75).isSome=true:=Kq0
theorem ZFM:(XX.fns.get 76).isSome=true:=Kq0
theorem ZAg:(XX.fns.get 77).isSome=true:=Kq0
theorem ZFL:(XX.fns.get 78).isSome=true:=Kq0
theorem ZFK:(XX.fns.get 79).isSome=true:=Kq0
theorem ZFJ:(XX.fns.get 80).isSome=true:=Kq0
theorem ZAf:(XX.fns.get 86).isSome=true:=Kq0
theorem ZAe:(XX.fns.get 87).isSome=true:=Kq0
theorem ZFI:(XX.fns.get 88).isSome=true:=Kq0
theorem ZuM:(XX.fns.get 89).isSome=true:=Kq0
theorem ZFH:(XX.fns.get 90).isSome=true:=Kq0
theorem ZFG:(XX.fns.get 91).isSome=true:=Kq0
theorem ZqL:(XX.fns.get 92).isSome=true:=Kq0
theorem ZFF:(XX.fns.get 94).isSome=true:=Kq0
theorem ZAd:(XX.fns.get 95).isSome=true:=Kq0
theorem ZlB:(XX.fns.get 103).isSome=true:=Kq0
theorem ZiC:(XX.fns.get 104).isSome=true:=Kq0
theorem ZuV:(XX.fns.get 105).isSome=true:=Kq0
theorem Zpo:(XX.fns.get 106).isSome=true:=Kq0
theorem Zpn:(XX.fns.get 110).isSome=true:=Kq0
theorem ZBY:(XX.fns.get 111).isSome=true:=Kq0
theorem ZBX:(XX.fns.get 112).isSome=true:=Kq0
theorem ZBW:(XX.fns.get 113).isSome=true:=Kq0
theorem ZBV:(XX.fns.get 114).isSome=true:=Kq0
theorem ZuU:(XX.fns.get 115).isSome=true:=Kq0
theorem ZBU:(XX.fns.get 116).isSome=true:=Kq0
theorem ZlA:(XX.fns.get 117).isSome=true:=Kq0
theorem ZBT:(XX.fns.get 118).isSome=true:=Kq0
theorem ZuT:(XX.fns.get 119).isSome=true:=Kq0
theorem ZBS:(XX.fns.get 120).isSome=true:=Kq0
theorem Zpm:(XX.fns.get 124).isSome=true:=Kq0
theorem ZBR:(XX.fns.get 125).isSome=true:=Kq0
theorem ZBQ:(XX.fns.get 126).isSome=true:=Kq0
theorem ZBP:(XX.fns.get 127).isSome=true:=Kq0
theorem ZBO:(XX.fns.get 128).isSome=true:=Kq0
theorem Zpl:(XX.fns.get 133).isSome=true:=Kq0
theorem ZuS:(XX.fns.get 138).isSome=true:=Kq0
theorem ZuR:(XX.fns.get 143).isSome=true:=Kq0
end Go.Proofs.Ytekpjgmhkkjhgaa
end
end
section
noncomputable section
namespace Go.Yw
open Go.Lf
class Zey (P:Program) (t:TypeId):Prop where
 out:Yp P t=some false
class Zj9 (P:Program) (t:TypeId):Prop where
 out:Yp P t=some true
class SzF (P:Program) (t:TypeId) (n:outParam Nat):Prop where
 out:Z7 P t=some n
class Js (P:Program) (t:TypeId) (f:Nat) (o:outParam Nat):Prop where
 out:Zu P t f o
class Zj6 (P:Program) (t:TypeId) (e:outParam TypeId):Prop where
 out:P.underlying t=some (.slice e)
class ZDD (P:Program) (t:TypeId):Prop where
 out:P.underlying t=some .bool
class Zce (P:Program) (t:TypeId) (v:outParam Value):Prop where
 out:YE P t=some v
theorem ia {v:Value} (h:XR v=false):XR v=false:=h
theorem Zay {fr:Fr} {t:Nat} {c:Bool} {v:Value} (h:fr.at t=cond c v undef) (ha:XR v=false) (hc:c=true):ZX fr (.tmp t)=some v:=Xi h ha hc
section
variable {X:Ctx} {h:H} {fr:Fr} {ty:TypeId} {p':String} {af:Array Edge} {g:Option (Nat×Bool)} {d:Option Tmp} {wm:Nat} {T:Nat ->Prop} {h0:H} {G Gr:List (Ast wm)}
theorem ZHD {x:Operand} {t:TypeId} {f off b o:Nat} [hf:Js X.P t f off] (hx:ZX fr x=some (.pointer (some ⟨b,o,none⟩))):Xt X h (ZX fr) ⟨d,.fieldAddr t x f,ty,p',af,g⟩=some (.val (.pointer (some ⟨b,o + off,none⟩)),.none):=XB hf.out hx
theorem ZLc {x:Operand} {t:TypeId} {b oo:Nat} {vs:List Value} {v:Value} [ht:Zey X.P t] (hx:ZX fr x=some (.pointer (some ⟨b,oo,none⟩))) (hS:Sp wm T h0 G h) (pp:Pk G (bx wm b vs) Gr) (hv:vs[oo]? =some v):
 Xt X h (ZX fr) ⟨d,.load t x,ty,p',af,g⟩=some (.val v,.none):=ZU ht.out hx (hS.QF pp) (Nat.zero_add _).symm hv
theorem ZHC {x:Operand} {t:TypeId} {b oo sz:Nat} {vs ws:List Value} [ht:Zj9 X.P t] [hs:SzF X.P t sz] (hx:ZX fr x=some (.pointer (some ⟨b,oo,none⟩))) (hS:Sp wm T h0 G h) (pp:Pk G (bx wm b vs) Gr) (hj:Nat.ble (oo + sz) vs.length=true) (hv:(vs.drop oo).take sz=ws):
 Xt X h (ZX fr) ⟨d,.load t x,ty,p',af,g⟩=some (.val (.agg ws.toArray),.none):=Xq ht.out hs.out hx (hS.QF pp) (Nat.zero_add _).symm hj hv
theorem ZHE {dd:Tmp} {x:Operand} {t:TypeId} {v:Value} {vs:List Value} (hx:ZX fr x=some v) (hS:Sp wm T h0 G h) (hv:v.cells.toList=vs):
 HN X wm ⟨some dd,.box t x,ty,p',af,g⟩ fr h (fun v h'=>∃ b,h.size=b∧v= .pointer (some ⟨b,0,none⟩)∧Sp wm T h0 (bx wm b vs::G) h'):=Zqr hS hx hv
theorem ZHF {dd:Tmp} {t:TypeId} {v:Value} {vs:List Value} [hz:Zce X.P t v] (hS:Sp wm T h0 G h) (hv:v.cells.toList=vs):
 HN X wm ⟨some dd,.alloc t,ty,p',af,g⟩ fr h (fun v h'=>∃ b,h.size=b∧v= .pointer (some ⟨b,0,none⟩)∧Sp wm T h0 (bx wm b vs::G) h'):=Zkk hS hz.out hv
theorem ZLb {x y:Operand} {t:TypeId} {b o sz:Nat} {cs cs' vs:List Value} {v:Value} [hs:SzF X.P t sz] (hx:ZX fr x=some (.pointer (some ⟨b,o,none⟩))) (hS:Sp wm T h0 G h) (pk:Pk G (bx wm b cs) Gr) (hy:ZX fr y=some v)
 (hvs:v.cells.toList=vs) (hn:Nat.beq vs.length sz=true) (hl:Nat.ble (o + sz) cs.length=true) (hc:vs.all Value.oneCell'=true) (hv:splice cs o vs=cs'):
 HU X wm ⟨none,.store t x y,ty,p',af,g⟩ fr h (fun i=>i=b) (fun h'=>Sp wm T h0 (bx wm b cs'::Gr) h'):=Wu hS pk hs.out hx hy hvs hn hl hc hv
theorem ZHB {x:Operand} {t e':TypeId} {a:Option Addr} {mm cc dd:Nat} [hu:Zj6 X.P t e'] (hx:ZX fr x=some (.slice a mm cc)):
 Xt X h (ZX fr) ⟨some dd,.call {callee:= .builtin .len,args:=#[x],argTypes:=#[t]},ty,p',af,g⟩=some (.val (.int .i64 (mm:Int)),.none):=ZhM hu.out hx rfl
end
section
variable {X:Ctx} {n wm:Nat} {rd:Option Nat} {ops:Array Oper} {l:List Oper} {fr:Fr} {ds:List Deferred} {h:H} {ty:TypeId} {p:String} {af:Array Edge} {g:Option (Nat×Bool)} {sf:ST} {m:Nat}
theorem WX.w2 {Q:Fr ->H ->Prop} {d:Nat} {op:Op} {v:Value} (hg:ZP ops ⟨some d,op,ty,p,af,g⟩ fr) (hd:Nat.blt d n=true) (hM:okM ops sf m ⟨some d,op,ty,p,af,g⟩=true) (ha:Xt X h (ZX fr) ⟨some d,op,ty,p,af,g⟩=some (.val v,.none)) (k:WX X n wm rd ops sf (m + 1) h l (Tr.set fr d v) Q):
 WX X n wm rd ops sf m h (⟨some d,op,ty,p,af,g⟩::l) fr Q:=WX.w hg hd ha k hM
theorem WX.gv2 {Q:Fr ->H ->Prop} {d:Nat} {op:Op} {c:Bool} {v:Value} (hg:Zi ops ⟨some d,op,ty,p,af,g⟩ fr c) (hd:Nat.blt d n=true) (hM:okM ops sf m ⟨some d,op,ty,p,af,g⟩=true) (ha:c=true ->Xt X h (ZX fr) ⟨some d,op,ty,p,af,g⟩=some (.val v,.none)) (k:WX X n wm rd ops sf (m + 1) h l (Tr.set fr d (cond c v undef)) Q):
 WX X n wm rd ops sf m h (⟨some d,op,ty,p,af,g⟩::l) fr Q:=WX.gv hg hd ha k hM
end
structure Kp (q:Prop):Prop where
 out:q
section
variable {X:Ctx} {n wm:Nat} {rd:Option Nat} {Q:XX ->Fs ->Prop}
theorem E0 {p:Prop}(h:p:=by(focus (repeat (first | with_reducible exact fh | ((with_reducible apply ZM);exact rfl) | ((with_reducible apply ZO);exact rfl) | ((with_reducible apply ZL);exact rfl) | ((with_reducible apply Zf);exact rfl) | with_reducible assumption));first|done|fail)):p:=h
theorem cn {c:Operand} {a b:Code} {t:Bool} {fr:Fr} {ds:List Deferred} {h:H} {α:Type} {x y r:α} (hL:(bif t then x else y)=r) (h1:t=true ->x=r ->WC X n wm rd a ⟨fr,ds,h,none⟩ Q) (h2:t=false ->y=r ->WC X n wm rd b ⟨fr,ds,h,none⟩ Q) (hc:ZX fr c=some (.bool t):=by(first | exact Jy rfl | (apply Zq;exact E0;(first | exact ia rfl | assumption)) | (apply Zay;exact E0;(first | exact ia rfl | assumption);assumption) | fail)):WC X n wm rd (.cond c a b) ⟨fr,ds,h,none⟩ Q:=
 WC.Zn4 hc (fun e=>h1 e (WZ e hL)) (fun e=>h2 e (W9 e hL))
theorem rt {fn:Func} {fr:Fr} {h h0:H} {T:Nat ->Prop} {G G':List (Ast wm)} {wr:Option Nat} {t:Tmp} {β:Type} {x r:β} {g:β ->Value} (hL:some x=some r) (hT:T=XM G) (hS:Sp wm T h0 G' h) (hr:fn.results.toList= [.tmp t]:=by exact rfl) (hv:ZX fr (.tmp t)=some (g x):=by(first | exact Jy rfl | (apply Zq;exact E0;(first | exact ia rfl | assumption)) | (apply Zay;exact E0;(first | exact ia rfl | assumption);assumption) | fail)):
 ZR X fn (fun e h'=>∃ v,e= .ret v∧CP (fun v Gb=>v=g r∧Gb= []) G h0 v h') .ret ⟨fr,[],h,wr⟩:=by
 cases hL;exact ZR.Jh hr (ZB hv Zm) ⟨_,⟨rfl,rfl⟩,hT ▸ hS.only .n⟩
theorem bg {f:FuncId} {fn:Func} {c:Code} {args:List Value} {n:Nat} {K:Value ->List (Ast wm) ->Prop} {G:List (Ast wm)} {h:H} {fr:Fr} (hnt:fn.ntmps=n) (ZG:wm <=h.size) (hO:ZQ G h)
 (k:∀ T,T=XM (wm:=wm) G ->Sp wm T h G h ->WC X n wm none c ⟨fr,[],h,none⟩ (ZR X fn (fun e h'=>∃ v,e= .ret v∧CP K G h v h'))) (hf:X.fns.get f=some fn:=by kernel_rfl) (hb:fn.body=some c:=by exact rfl) (hn:args.length <=n:=by simp)
 (hfr:XT args 0 .nil=fr:=by(simp only [ZI,ZN,Nat.reduceAdd];exact rfl)):WR X f args.toArray wm h (CP K G h):=by
 subst hfr;exact WF.begin hf hb hnt hn (k _ rfl (Sp.start ZG hO))
end
theorem lk {p:Prop} (h:p:=by(first | exact Jy rfl | (apply Zq;exact E0;(first | exact ia rfl | assumption)) | (apply Zay;exact E0;(first | exact ia rfl | assumption);assumption) | fail)):p:=h
theorem lks {p:Prop} (h:p:=by
 repeat (first | exact Zl | (apply Zc;(focus (first | exact Jy rfl | (apply Zq;exact E0;(first | exact ia rfl | assumption)) | (apply Zay;exact E0;(first | exact ia rfl | assumption);assumption) | fail);done)))
 done):p:=h
theorem YR {p:Prop} (h:p:=by
 repeat (first | with_reducible exact fh | ((with_reducible apply ZM);exact rfl) | ((with_reducible apply ZO);exact rfl) | ((with_reducible apply ZL);exact rfl) | ((with_reducible apply Zf);exact rfl) | with_reducible assumption | refine⟨?_,?_⟩)
 done):p:=h
theorem r1 {p q:Prop} (k:q) (h:Kp q ->p:=by
 intro k
 first
 | refine WO.nil ?_
 | refine Qy.Yt ?_
 | refine WC.seq ?_
 | refine WC.region ?_
 | ((first | apply WO.w gN rfl | (apply WO.gv;(focus (first | (apply Zi.yes rfl rfl rfl;exact E0) | (apply Zi.no rfl rfl rfl;exact E0) | (apply Zi.ZhS rfl rfl rfl;exact E0) | (apply Zi.no2 rfl rfl rfl;exact E0) | fail);done);rfl;intro hg) | (apply WX.w2 gN;rfl;rfl) | (apply WX.gv2;(focus (first | (apply Zi.yes rfl rfl rfl;exact E0) | (apply Zi.no rfl rfl rfl;exact E0) | (apply Zi.ZhS rfl rfl rfl;exact E0) | (apply Zi.no2 rfl rfl rfl;exact E0) | fail);done);rfl;rfl;intro hg));(focus (first
   | ((with_reducible apply YG);(first | exact Jy rfl | (apply Zq;exact E0;(first | exact ia rfl | assumption)) | (apply Zay;exact E0;(first | exact ia rfl | assumption);assumption) | fail))
   | ((with_reducible apply ZLc);(focus (first | exact Jy rfl | (apply Zq;exact E0;(first | exact ia rfl | assumption)) | (apply Zay;exact E0;(first | exact ia rfl | assumption);assumption) | fail);done);assumption;(focus (first | exact k0 | exact k1 | exact k2 | exact k3 | exact k4 | exact k5 | exact k6 | exact k7 | (repeat (first | exact k7 | apply Pk.s)));done);rfl)
   | ((with_reducible apply ZHD);(first | exact Jy rfl | (apply Zq;exact E0;(first | exact ia rfl | assumption)) | (apply Zay;exact E0;(first | exact ia rfl | assumption);assumption) | fail))
   | ((with_reducible apply Yb);(first | exact Jy rfl | (apply Zq;exact E0;(first | exact ia rfl | assumption)) | (apply Zay;exact E0;(first | exact ia rfl | assumption);assumption) | fail))
   | ((with_reducible apply Yi);(focus (first | exact Jy rfl | (apply Zq;exact E0;(first | exact ia rfl | assumption)) | (apply Zay;exact E0;(first | exact ia rfl | assumption);assumption) | fail);done);(focus (first | exact Jy rfl | (apply Zq;exact E0;(first | exact ia rfl | assumption)) | (apply Zay;exact E0;(first | exact ia rfl | assumption);assumption) | fail);done);(first | with_reducible exact Zs7 | with_reducible exact J3 | with_reducible exact Zc4 | with_reducible exact Zjm | with_reducible exact Zs3 | with_reducible exact Zwx | with_reducible exact Ws | with_reducible exact Zww | with_reducible exact Zs5 | with_reducible exact Zs6 ZDD.out | with_reducible exact Zs4 ZDD.out))
   | ((with_reducible apply ZHC);(focus (first | exact Jy rfl | (apply Zq;exact E0;(first | exact ia rfl | assumption)) | (apply Zay;exact E0;(first | exact ia rfl | assumption);assumption) | fail);done);assumption;(focus (first | exact k0 | exact k1 | exact k2 | exact k3 | exact k4 | exact k5 | exact k6 | exact k7 | (repeat (first | exact k7 | apply Pk.s)));done);rfl;(focus simp only [Nat.zero_add,Nat.reduceAdd,List.drop_succ_cons,List.drop_zero,List.take_succ_cons,List.take_zero,List.take_nil];rfl))
   | ((with_reducible apply ZHB);(first | exact Jy rfl | (apply Zq;exact E0;(first | exact ia rfl | assumption)) | (apply Zay;exact E0;(first | exact ia rfl | assumption);assumption) | fail))
   | ((with_reducible apply Qh);(focus (first | exact Jy rfl | (apply Zq;exact E0;(first | exact ia rfl | assumption)) | (apply Zay;exact E0;(first | exact ia rfl | assumption);assumption) | fail);done);rfl)
   | ((with_reducible apply Zmu);(first | exact Jy rfl | (apply Zq;exact E0;(first | exact ia rfl | assumption)) | (apply Zay;exact E0;(first | exact ia rfl | assumption);assumption) | fail))
   | ((with_reducible apply Zp1);(first | exact Jy rfl | (apply Zq;exact E0;(first | exact ia rfl | assumption)) | (apply Zay;exact E0;(first | exact ia rfl | assumption);assumption) | fail))
   | ((with_reducible apply Qi);(focus (first | exact Jy rfl | (apply Zq;exact E0;(first | exact ia rfl | assumption)) | (apply Zay;exact E0;(first | exact ia rfl | assumption);assumption) | fail);done);(focus (apply ZcQ;exact E0);done);(first | exact Jy rfl | (apply Zq;exact E0;(first | exact ia rfl | assumption)) | (apply Zay;exact E0;(first | exact ia rfl | assumption);assumption) | fail))
   | ((with_reducible apply Zwa);(focus (first | exact Jy rfl | (apply Zq;exact E0;(first | exact ia rfl | assumption)) | (apply Zay;exact E0;(first | exact ia rfl | assumption);assumption) | fail);done);(focus (first | exact Jy rfl | (apply Zq;exact E0;(first | exact ia rfl | assumption)) | (apply Zay;exact E0;(first | exact ia rfl | assumption);assumption) | fail);done);(apply ZcQ;exact E0))
   | fail)))
 | (apply WO.hu gN;(focus (first | (((with_reducible apply ZLb));(focus (first | exact Jy rfl | (apply Zq;exact E0;(first | exact ia rfl | assumption)) | (apply Zay;exact E0;(first | exact ia rfl | assumption);assumption) | fail);done);assumption;(focus (first | exact k0 | exact k1 | exact k2 | exact k3 | exact k4 | exact k5 | exact k6 | exact k7 | (repeat (first | exact k7 | apply Pk.s)));done);(focus (first | exact Jy rfl | (apply Zq;exact E0;(first | exact ia rfl | assumption)) | (apply Zay;exact E0;(first | exact ia rfl | assumption);assumption) | fail);done);(focus (first | (simp only [Zgv,Zen,ZcU,Zgt,Zgu,Zgx,Zb4,cells_func,Za6,Zap,ZcV];exact rfl) | exact rfl));exact rfl;exact rfl;exact rfl;(focus simp only [splice,List.take_succ_cons,List.take_zero,List.drop_succ_cons,List.drop_zero,List.cons_append,List.nil_append,List.append_nil,List.length_cons,List.length_nil,Nat.reduceAdd,Nat.zero_add,List.take_nil,List.drop_nil];exact rfl)) | fail)))
 | (apply WO.hn gN rfl;(focus (first | (((with_reducible apply ZHE));(focus (first | exact Jy rfl | (apply Zq;exact E0;(first | exact ia rfl | assumption)) | (apply Zay;exact E0;(first | exact ia rfl | assumption);assumption) | fail);done);assumption;(focus (first | (simp only [Zgv,Zen,ZcU,Zgt,Zgu,Zgx,Zb4,cells_func,Za6,Zap,ZcV];exact rfl) | exact rfl))) | (((with_reducible apply ZHF));assumption;(focus (first | (simp only [Zgv,Zen,ZcU,Zgt,Zgu,Zgx,Zb4,cells_func,Za6,Zap,ZcV];exact rfl) | exact rfl))) | fail)))
 | refine WC.skip ?_
 | refine WC.ret ?_
 | refine WC.block ?_
 | refine WC.exit ?_
 | refine Qy.ret ?_
 | refine Qy.exit ?_
 | refine Wv.ret ?_
 | refine Wv.Yt ?_
 | refine Wv.here ?_
 | refine Yy.exit ?_
 | refine Yy.ret ?_
 | refine WX.nil ?_
 | fail
 exact k.out):p:=h ⟨k⟩
theorem r2 {p q:Prop} (k:q) (h:Kp q ->p:=by
 intro k
 iterate 2 (refine r1 ?_)
 exact k.out):p:=h ⟨k⟩
theorem r3 {p q:Prop} (k:q) (h:Kp q ->p:=by
 intro k
 iterate 3 (refine r1 ?_)
 exact k.out):p:=h ⟨k⟩
theorem r4 {p q:Prop} (k:q) (h:Kp q ->p:=by
 intro k
 iterate 4 (refine r1 ?_)
 exact k.out):p:=h ⟨k⟩
theorem r6 {p q:Prop} (k:q) (h:Kp q ->p:=by
 intro k
 iterate 6 (refine r1 ?_)
 exact k.out):p:=h ⟨k⟩
theorem r8 {p q:Prop} (k:q) (h:Kp q ->p:=by
 intro k
 iterate 8 (refine r1 ?_)
 exact k.out):p:=h ⟨k⟩
theorem JP {p q:Prop} (k:q) (h:Kp q ->p:=by
 intro k
 iterate 12 (refine r1 ?_)
 exact k.out):p:=h ⟨k⟩
theorem r16 {p q:Prop} (k:q) (h:Kp q ->p:=by
 intro k
 iterate 16 (refine r1 ?_)
 exact k.out):p:=h ⟨k⟩
end Go.Yw
end
end
section
noncomputable section
namespace Go.Proofs.Ytekpjgmhkkjhgaa
open Go.Yw Go.Lf
instance:Zey XX.P 3:= ⟨Xu⟩
instance:Zey XX.P 4:= ⟨ZLk⟩
instance:Zey XX.P 5:= ⟨ZLj⟩
instance:Zey XX.P 22:= ⟨ZAH⟩
instance:Zey XX.P 23:= ⟨Zon⟩
instance:Zey XX.P 24:= ⟨Zwr⟩
instance:Zj9 XX.P 26:= ⟨Zbv⟩
instance:Zey XX.P 27:= ⟨Zwq⟩
instance:Zj9 XX.P 29:= ⟨Zjk⟩
instance:Zey XX.P 32:= ⟨Zwp⟩
instance:Zey XX.P 56:= ⟨ZHN⟩
instance:Zj9 XX.P 58:= ⟨ZdU⟩
instance:Zey XX.P 59:= ⟨ZkW⟩
instance:Zj9 XX.P 61:= ⟨Zhd⟩
instance:Zey XX.P 63:= ⟨ZHM⟩
instance:Zj9 XX.P 65:= ⟨Zbu⟩
instance:Zj9 XX.P 73:= ⟨Zfe⟩
instance:Zj9 XX.P 80:= ⟨ZAF⟩
instance:Zj9 XX.P 91:= ⟨ZAE⟩
instance:Zey XX.P 94:= ⟨Zwo⟩
instance:Zey XX.P 95:= ⟨Zhc⟩
instance:Zey XX.P 110:= ⟨ZmA⟩
instance:Zj9 XX.P 113:= ⟨ZDs⟩
instance:SzF XX.P 3 1:= ⟨Xl⟩
instance:SzF XX.P 4 1:= ⟨ZzC⟩
instance:SzF XX.P 5 1:= ⟨ZEg⟩
instance:SzF XX.P 22 1:= ⟨ZA4⟩
instance:SzF XX.P 23 1:= ⟨ZoK⟩
instance:SzF XX.P 24 1:= ⟨ZA3⟩
instance:SzF XX.P 26 4:= ⟨Q8⟩
instance:SzF XX.P 29 4:= ⟨Zd0⟩
instance:SzF XX.P 32 1:= ⟨ZA2⟩
instance:SzF XX.P 58 5:= ⟨XA⟩
instance:SzF XX.P 59 1:= ⟨ZbC⟩
instance:SzF XX.P 61 6:= ⟨JC⟩
instance:SzF XX.P 63 1:= ⟨ZtD⟩
instance:SzF XX.P 65 2:= ⟨Jp⟩
instance:SzF XX.P 73 2:= ⟨Xe⟩
instance:SzF XX.P 80 4:= ⟨Zk7⟩
instance:SzF XX.P 91 4:= ⟨ZdZ⟩
instance:SzF XX.P 94 1:= ⟨ZA1⟩
instance:SzF XX.P 110 1:= ⟨Zk8⟩
instance:SzF XX.P 113 2:= ⟨Zxe⟩
instance:Js XX.P 26 0 0:= ⟨ZyD⟩
instance:Js XX.P 26 1 1:= ⟨ZyC⟩
instance:Js XX.P 26 2 2:= ⟨ZyB⟩
instance:Js XX.P 26 3 3:= ⟨ZyA⟩
instance:Js XX.P 29 0 0:= ⟨ZlK⟩
instance:Js XX.P 29 1 1:= ⟨ZbY⟩
instance:Js XX.P 29 2 2:= ⟨Zdk⟩
instance:Js XX.P 29 3 3:= ⟨ZbX⟩
instance:Js XX.P 58 0 0:= ⟨Zyz⟩
instance:Js XX.P 58 1 1:= ⟨Zyy⟩
instance:Js XX.P 58 2 2:= ⟨Zyx⟩
instance:Js XX.P 58 3 3:= ⟨Zyw⟩
instance:Js XX.P 58 4 4:= ⟨ZqZ⟩
instance:Js XX.P 61 0 0:= ⟨Zyv⟩
instance:Js XX.P 61 1 1:= ⟨Zyu⟩
instance:Js XX.P 61 2 2:= ⟨ZqY⟩
instance:Js XX.P 61 3 3:= ⟨ZlJ⟩
instance:Js XX.P 61 4 4:= ⟨Zyt⟩
instance:Js XX.P 61 5 5:= ⟨Zys⟩
instance:Js XX.P 65 0 0:= ⟨ZqX⟩
instance:Js XX.P 65 1 1:= ⟨Zyr⟩
instance:Js XX.P 73 0 0:= ⟨Zyq⟩
instance:Js XX.P 73 1 1:= ⟨Zyp⟩
instance:Js XX.P 80 0 0:= ⟨Zyo⟩
instance:Js XX.P 80 1 1:= ⟨Zyn⟩
instance:Js XX.P 80 2 2:= ⟨Zym⟩
instance:Js XX.P 80 3 3:= ⟨Zyl⟩
instance:Js XX.P 91 0 0:= ⟨Zyk⟩
instance:Js XX.P 91 1 1:= ⟨Zyj⟩
instance:Js XX.P 91 2 2:= ⟨Zyi⟩
instance:Js XX.P 91 3 3:= ⟨Zyh⟩
instance:Js XX.P 97 0 0:= ⟨Zyg⟩
instance:Js XX.P 97 1 1:= ⟨Zyf⟩
instance:Js XX.P 97 2 2:= ⟨Zye⟩
instance:Js XX.P 97 3 3:= ⟨ZlI⟩
instance:Js XX.P 97 4 4:= ⟨Zyd⟩
instance:Zj6 XX.P 22 59:= ⟨ZgI⟩
instance:Zj6 XX.P 23 58:= ⟨UE⟩
instance:Zj6 XX.P 24 3:= ⟨Qr⟩
instance:Zj6 XX.P 38 29:= ⟨ZEa⟩
instance:Zj6 XX.P 43 91:= ⟨Zkg⟩
instance:Zj6 XX.P 59 61:= ⟨ZgH⟩
instance:Zj6 XX.P 62 80:= ⟨Ztx⟩
instance:Zj6 XX.P 63 73:= ⟨QL⟩
instance:Zj6 XX.P 69 5:= ⟨ZD9⟩
instance:ZDD XX.P 4:= ⟨ZIK⟩
instance:Zce XX.P 3 (.int .i64 0):= ⟨XF⟩
instance:Zce XX.P 4 (.bool false):= ⟨Zzu⟩
instance:Zce XX.P 24 (.slice none 0 0):= ⟨ZAP⟩
instance:Zce XX.P 26 (.agg #[.slice none 0 0,.slice none 0 0,.int .i64 0,.slice none 0 0]):= ⟨Zou⟩
instance:Zce XX.P 29 (.agg #[.int .i64 0,.int .i64 0,.int .i64 0,.int .i64 0]):= ⟨Ztn⟩
instance:Zce XX.P 32 (.int .i64 0):= ⟨ZAO⟩
instance:Zce XX.P 58 (.agg #[.int .i64 0,.int .i64 0,.int .i64 0,.int .i64 0,.int .i64 0]):= ⟨Zfo⟩
instance:Zce XX.P 59 (.slice none 0 0):= ⟨Ztm⟩
instance:Zce XX.P 61 (.agg #[.int .i64 0,.bool false,.int .i64 0,.int .i64 0,.int .i64 0,.bool false]):= ⟨Uy⟩
instance:Zce XX.P 65 (.agg #[.slice none 0 0,.slice none 0 0]):= ⟨ZAN⟩
instance:Zce XX.P 73 (.agg #[.int .i64 0,.int .i64 0]):= ⟨Zbz⟩
instance:Zce XX.P 80 (.agg #[.int .u8 0,.int .u8 0,.int .u8 0,.int .u8 0]):= ⟨ZAM⟩
instance:Zce XX.P 91 (.agg #[.int .i64 0,.int .i64 0,.int .i64 0,.int .i64 0]):= ⟨Zot⟩
instance:Zce XX.P 94 (.pointer none):= ⟨ZAL⟩
instance:Zce XX.P 97 (.agg #[.int .i64 0,.int .i64 0,.map none,.slice none 0 0,.slice none 0 0]):= ⟨Ztl⟩
instance:Zce XX.P 110 (.map none):= ⟨ZwZ⟩
instance:Zce XX.P 113 (.agg #[.int .i64 0,.int .i64 0]):= ⟨Zqn⟩
end Go.Proofs.Ytekpjgmhkkjhgaa
end
end
section
namespace Go.Proofs.Ytekpjgmhkkjhgaa
open Go.Lf
end Go.Proofs.Ytekpjgmhkkjhgaa
end
section
set_option maxRecDepth 20000
noncomputable section
namespace Go.Proofs.Ytekpjgmhkkjhgaa
open Go.Yw Go.Lf
end Go.Proofs.Ytekpjgmhkkjhgaa
end
end
section
namespace Go.Proofs.Ytekpjgmhkkjhgaa
open Go.Lf
def ZyJ (p0:(List ZV)):Option (List ZV):=
 (app 16 ([]:List ZV) p0).bind fun z3=>some z3
def Zf7 (p0:Za8) (p1:Int) (p2:Int) (p3:Int) (x5:Int) (v14:Int) (v26:Int) (x28:Int):Bool ->Option (Zn×Bool):=fun v41=>
 (bif v41 then some ((Zn.mk 2 x5 v14 v26),((decide (p2 > 0)) && (decide (p1 > 1)))) else(bif(x28==3) then some ((Zn.mk 3 x5 v14 0),decide (p2 > 0)) else(bif(x28==4) then some ((Zn.mk 4 x5 v14 v26),((decide (p2 > 0)) && (decide (p1 > 1)))) else(bif(p3==0) then some ((Zn.mk 0 0 0 0),false) else(ZfA (ZF p0.at_) p3).bind fun x47=>some ((Zn.mk 5 x47 0 0),true)))))
def Zf8 (p0:Za8) (p1:Int) (p2:Int) (p3:Int) (x5:Int) (v14:Int):Int ->Option (Zn×Bool):=fun v26=>
 (ZfA p0.Z6 9).bind fun x28=>(bif(x28==0) then some ((Zn.mk 1 x5 0 0),decide (p2 < 12)) else(bif(x28==1) then(Zf7 p0 p1 p2 p3 x5 v14 v26 x28) (x28==1) else(Zf7 p0 p1 p2 p3 x5 v14 v26 x28) (x28==2)))
def Zf9 (p0:Za8) (p1:Int) (p2:Int) (p3:Int) (x5:Int):Int ->Option (Zn×Bool):=fun v14=>
 (bif decide (p1 > 1) then(ZfA (ZF p0.Zv) (ZF (p1 - 1))).bind fun x49=>(ZfA (ZF ((ZF (x5 + 1)) + x49)) p1).bind fun x50=>(Zf8 p0 p1 p2 p3 x5 v14) x50 else(Zf8 p0 p1 p2 p3 x5 v14) 0)
def ZvF (p0:Za8) (p1:Int) (p2:Int) (p3:Int):Option (Zn×Bool):=
 (ZfA (ZF p0.at_) p1).bind fun x5=>(bif decide (p2 > 0) then(ZfA (ZF p0.name) p2).bind fun x51=>(Zf9 p0 p1 p2 p3 x5) x51 else(Zf9 p0 p1 p2 p3 x5) 0)
def ZiQ (p0:Zn) (p1:Int):Bool ->Option Bool:=fun v10=>
 (bif v10 then(bif((decide (p0.at_ >=0)) && (decide (p0.at_ < p1))) then some ((((decide (p0.Zv >=0)) && (decide (p0.Zv < p1))) && (p0.at_ !=p0.Zv)) && (decide (p0.name >=0))) else some ((false && (p0.at_ !=p0.Zv)) && (decide (p0.name >=0)))) else(bif(p0.Z6==3) then some ((((decide (p0.at_ >=0)) && (decide (p0.at_ < p1))) && (decide (p0.name >=0))) && (p0.Zv==0)) else some ((((p0.Z6==5) && (decide (p0.at_ >=0))) && (p0.name==0)) && (p0.Zv==0))))
def Zsw (p0:Zn) (p1:Int):Option Bool:=
 (bif(p0.Z6==1) then some ((((decide (p0.at_ >=0)) && (decide (p0.at_ < p1))) && (p0.name==0)) && (p0.Zv==0)) else(bif(p0.Z6==2) then(ZiQ p0 p1) (p0.Z6==2) else(ZiQ p0 p1) (p0.Z6==4)))
end Go.Proofs.Ytekpjgmhkkjhgaa
end
section
set_option maxRecDepth 20000
noncomputable section
namespace Go.Proofs.Ytekpjgmhkkjhgaa
open Go.Yw Go.Lf
theorem ZCP {wm:Nat} {h:H} {p0:(List ZV)} {Zt:Option Addr} {Zr:Nat} {r:(List ZV)} (ZG:wm <=h.size) (ZK:Sl YK wm h Zt Zr p0) (hL:ZyJ p0=some r):
 WR XX 42 #[.slice Zt p0.length Zr] wm h (CP (fun(v:Value) (Gb:List (Ast wm))=>∃ (XI:Option Addr) (XG:Nat) (XH:Nat),v= .slice XI XG XH∧Gb= [ow wm YK XI XG XH r]) [] h):=by
 refine bg Try.ntmps42 ZG ZQ.nil ?_;intro T hT hS;unfold ZyJ at hL;refine r8 ?_;rcases Sl.cases ZK with⟨rfl,rfl,rfl⟩ | ⟨qa,rfl⟩
 ·
  refine r1 ?_;refine WO.w gN rfl (Yi (Zq fh rfl) (Jy rfl) (ZgF QL)) ?_;refine r2 ?_;refine WC.Zgq lk rfl ?_;rw [Zp4 _ (by decide)] at hL;replace hL:some []=some r:=hL;refine r6 ?_;refine r1 ?_;have hS:=hS.nil (e:=YK);have hr:=Oi0 hL;subst hr;exact ZR.Jh rfl (ZB lk Zm) ⟨_,⟨none,0,0,rfl,rfl⟩,hT ▸ hS.only (.c k0 .n)⟩
 ·
  refine r1 ?_;refine WO.w gN rfl (Yi (Zq fh rfl) (Jy rfl) (ZgG QL)) ?_;refine r2 ?_;refine WC.Zb3 lk rfl ?_;refine r4 ?_;refine WO.hn gN rfl (Zfu (e:=YK) hS QL Xe Zbz rfl rfl rfl Zx rfl [] rfl (xs:= ([]:List ZV)) rfl (by intro q hq;cases hq) rfl) ?_;rintro _ h2 ⟨b1,eb1,rfl,hS⟩;refine r1 ?_;obtain⟨z3,hz3,hL⟩:=bind_some hL;refine WO.hv gN rfl (Zd3 (e:=YK) hS k0 Zat lk lk (Sl.src (hS.sl ZK)) rfl hz3) ?_;rintro _ h6 ⟨a4,c5,rfl,hS⟩;refine r4 ?_;have hr:=Oi0 hL;subst hr;exact ZR.Jh rfl (ZB lk Zm) ⟨_,⟨a4,z3.length,c5,rfl,rfl⟩,hT ▸ hS.only (.c k0 .n)⟩
theorem ZCM {wm:Nat} {h:H} {p0:Za8} {p1 p2 p3:Int} {r:(Zn×Bool)} (ZG:wm <=h.size) (hL:ZvF p0 p1 p2 p3=some r):
 WR XX 45 #[.agg [.int .u8 p0.Z6,.int .u8 p0.at_,.int .u8 p0.name,.int .u8 p0.Zv].toArray,.int .i64 p1,.int .i64 p2,.int .i64 p3] wm h (CP (fun(v:Value) (Gb:List (Ast wm))=>v= .tuple [.agg [.int .i64 r.1.Z6,.int .i64 r.1.at_,.int .i64 r.1.name,.int .i64 r.1.Zv].toArray,.bool r.2].toArray∧Gb= []) [] h):=by
 refine bg Try.ntmps45 ZG ZQ.nil ?_;intro T hT hS;unfold ZvF at hL;refine r3 ?_;rintro _ h2 ⟨b1,eb1,rfl,hS⟩;refine r1 ?_;rintro _ h4 ⟨b3,eb3,rfl,hS⟩;refine r6 ?_;refine r1 ?_;refine WO.w gN rfl (Zer ZrC ZoC lk) ?_;refine r1 ?_;obtain⟨x5,hx5,hL⟩:=bind_some hL;refine WO.w gN rfl (Yi (Zq (Zf rfl fh) rfl) (Zq fh rfl) (U0 hx5)) ?_;refine r4 ?_;refine r1 ?_;refine WC.Zav (r:=r) (fun(v14:Int) (s:Fs)=>∃ (fr7:Fr) (h6:H),s= ⟨fr7,[],h6,none⟩∧Sp wm T h [bx wm b1 [.int .u8 p0.Z6,.int .u8 p0.at_,.int .u8 p0.name,.int .u8 p0.Zv],bx wm b3 [.int .i64 0,.int .i64 0,.int .i64 0,.int .i64 0]] h6∧fr7.at 1= .int .i64 p1∧fr7.at 2= .int .i64 p2∧fr7.at 3= .int .i64 p3∧fr7.at 4= .pointer (some ⟨b1,0,none⟩)∧fr7.at 8= .pointer (some ⟨b3,0,none⟩)∧fr7.at 10= .int .i64 x5∧fr7.at 11= .int .i64 v14∧fr7.at 12= .int .i64 0) (Zf9 p0 p1 p2 p3 x5) ?_ ?_
 ·clear hL hS;rintro v14 s hL ⟨fr7,h6,rfl,hS,e8,e9,e10,e11,e12,e13,e15,e16⟩;dsimp only [Zf9] at hL;refine WC.Zav (r:=r) (fun(v26:Int) (s:Fs)=>∃ (Zam:Fr) (h17:H),s= ⟨Zam,[],h17,none⟩∧Sp wm T h [bx wm b1 [.int .u8 p0.Z6,.int .u8 p0.at_,.int .u8 p0.name,.int .u8 p0.Zv],bx wm b3 [.int .i64 0,.int .i64 0,.int .i64 0,.int .i64 0]] h17∧Zam.at 1= .int .i64 p1∧Zam.at 2= .int .i64 p2∧Zam.at 3= .int .i64 p3∧Zam.at 4= .pointer (some ⟨b1,0,none⟩)∧Zam.at 8= .pointer (some ⟨b3,0,none⟩)∧Zam.at 10= .int .i64 x5∧Zam.at 11= .int .i64 v14∧Zam.at 12= .int .i64 v26) (Zf8 p0 p1 p2 p3 x5 v14) ?_ ?_
  ·clear hL hS;rintro v26 s hL ⟨Zam,h17,rfl,hS,e19,e20,e21,e22,e23,e24,e25,e27⟩;dsimp only [Zf8] at hL;refine r4 ?_;refine r1 ?_;obtain⟨x28,hx28,hL⟩:=bind_some hL;refine WO.w gN rfl (Yi (Zq fh rfl) (Jy rfl) (U0 hx28)) ?_;refine r8 ?_;refine r1 ?_;refine cn hL ?_ ?_
   ·intro hc hL;refine r3 ?_;refine WO.w gN rfl (YP ZkS (Zg lk (Zg lk Zx)) rfl (cs':= [.int .i64 1,.int .i64 x5,.int .i64 0,.int .i64 0]) rfl) ?_;refine r3 ?_;rintro h29 hS;refine r6 ?_;have hr:=Oi0 hL;subst hr;exact ZR.gen (vs:= [.agg [.int .i64 1,.int .i64 x5,.int .i64 0,.int .i64 0].toArray,.bool (decide (p2 < 12))]) rfl (ZT (ZM rfl (ZL rfl e23)) (Yd Zjk Zd0 (hS.QF k0) (j:=0) rfl rfl (ws:= [.int .i64 1,.int .i64 x5,.int .i64 0,.int .i64 0]) rfl) (ZB lk Zm)) rfl ⟨_,⟨rfl,rfl⟩,hT ▸ hS.only .n⟩
   ·intro hc hL;refine WC.Zav (r:=r) (fun(v41:Bool) (s:Fs)=>∃ (Zhl:Fr) (h30:H),s= ⟨Zhl,[],h30,none⟩∧Sp wm T h [bx wm b1 [.int .u8 p0.Z6,.int .u8 p0.at_,.int .u8 p0.name,.int .u8 p0.Zv],bx wm b3 [.int .i64 0,.int .i64 0,.int .i64 0,.int .i64 0]] h30∧Zhl.at 1= .int .i64 p1∧Zhl.at 2= .int .i64 p2∧Zhl.at 3= .int .i64 p3∧Zhl.at 4= .pointer (some ⟨b1,0,none⟩)∧Zhl.at 8= .pointer (some ⟨b3,0,none⟩)∧Zhl.at 10= .int .i64 x5∧Zhl.at 11= .int .i64 v14∧Zhl.at 12= .int .i64 v26∧Zhl.at 40= .int .u8 x28∧Zhl.at 47= .bool v41) (Zf7 p0 p1 p2 p3 x5 v14 v26 x28) ?_ ?_
    ·clear hL hS;rintro v41 s hL ⟨Zhl,h30,rfl,hS,e32,e33,e34,e35,e36,e37,e38,e39,e40,e42⟩;dsimp only [Zf7] at hL;refine cn hL ?_ ?_
     ·intro hc hL;refine r4 ?_;refine r1 ?_;refine WO.w gN rfl (YP ZkS (Zg lk (Zg lk (Zg lk (Zg lk Zx)))) rfl (cs':= [.int .i64 2,.int .i64 x5,.int .i64 v14,.int .i64 v26]) rfl) ?_;refine r6 ?_;refine r1 ?_;rintro h43 hS;refine r6 ?_;have hr:=Oi0 hL;subst hr;exact ZR.gen (vs:= [.agg [.int .i64 2,.int .i64 x5,.int .i64 v14,.int .i64 v26].toArray,.bool ((decide (p2 > 0)) && (decide (p1 > 1)))]) rfl (ZT (ZM rfl (ZL rfl (Zf rfl e36))) (Yd Zjk Zd0 (hS.QF k0) (j:=0) rfl rfl (ws:= [.int .i64 2,.int .i64 x5,.int .i64 v14,.int .i64 v26]) rfl) (ZB lk Zm)) rfl ⟨_,⟨rfl,rfl⟩,hT ▸ hS.only .n⟩
     ·intro hc hL;refine r6 ?_;refine cn hL ?_ ?_
      ·intro hc hL;refine r4 ?_;refine WO.w gN rfl (YP ZkS (Zg lk (Zg lk (Zg lk Zx))) rfl (cs':= [.int .i64 3,.int .i64 x5,.int .i64 v14,.int .i64 0]) rfl) ?_;refine r3 ?_;rintro h44 hS;refine r6 ?_;have hr:=Oi0 hL;subst hr;exact ZR.gen (vs:= [.agg [.int .i64 3,.int .i64 x5,.int .i64 v14,.int .i64 0].toArray,.bool (decide (p2 > 0))]) rfl (ZT (ZM rfl e36) (Yd Zjk Zd0 (hS.QF k0) (j:=0) rfl rfl (ws:= [.int .i64 3,.int .i64 x5,.int .i64 v14,.int .i64 0]) rfl) (ZB lk Zm)) rfl ⟨_,⟨rfl,rfl⟩,hT ▸ hS.only .n⟩
      ·intro hc hL;refine r6 ?_;refine cn hL ?_ ?_
       ·intro hc hL;refine r4 ?_;refine r1 ?_;refine WO.w gN rfl (YP ZkS (Zg lk (Zg lk (Zg lk (Zg lk Zx)))) rfl (cs':= [.int .i64 4,.int .i64 x5,.int .i64 v14,.int .i64 v26]) rfl) ?_;refine r6 ?_;refine r1 ?_;rintro h45 hS;refine r6 ?_;have hr:=Oi0 hL;subst hr;exact ZR.gen (vs:= [.agg [.int .i64 4,.int .i64 x5,.int .i64 v14,.int .i64 v26].toArray,.bool ((decide (p2 > 0)) && (decide (p1 > 1)))]) rfl (ZT (ZM rfl (ZO rfl (ZL rfl (Zf rfl e36)))) (Yd Zjk Zd0 (hS.QF k0) (j:=0) rfl rfl (ws:= [.int .i64 4,.int .i64 x5,.int .i64 v14,.int .i64 v26]) rfl) (ZB lk Zm)) rfl ⟨_,⟨rfl,rfl⟩,hT ▸ hS.only .n⟩
       ·intro hc hL;refine r8 ?_;refine r2 ?_;refine cn hL ?_ ?_
        ·intro hc hL;refine r2 ?_;refine WO.w gN rfl (YP ZkS Zx rfl (cs':= [.int .i64 0,.int .i64 0,.int .i64 0,.int .i64 0]) rfl) ?_;refine r1 ?_;rintro h46 hS;refine r4 ?_;refine r1 ?_;have hr:=Oi0 hL;subst hr;exact ZR.gen (vs:= [.agg [.int .i64 0,.int .i64 0,.int .i64 0,.int .i64 0].toArray,.bool false]) rfl (ZT (ZM rfl e36) (Yd Zjk Zd0 (hS.QF k0) (j:=0) rfl rfl (ws:= [.int .i64 0,.int .i64 0,.int .i64 0,.int .i64 0]) rfl) (ZB lk Zm)) rfl ⟨_,⟨rfl,rfl⟩,hT ▸ hS.only .n⟩
        ·intro hc hL;refine r6 ?_;refine WO.w gN rfl (Zer ZrC ZoC lk) ?_;refine r1 ?_;obtain⟨x47,ZBq,hL⟩:=bind_some hL;refine WO.w gN rfl (Yi (Zq (Zf rfl fh) rfl) (Zq fh rfl) (U0 ZBq)) ?_;refine WO.w gN rfl (YP ZkS (Zg lk (Zg lk Zx)) rfl (cs':= [.int .i64 5,.int .i64 x47,.int .i64 0,.int .i64 0]) rfl) ?_;refine r1 ?_;rintro h48 hS;refine r4 ?_;have hr:=Oi0 hL;subst hr;exact ZR.gen (vs:= [.agg [.int .i64 5,.int .i64 x47,.int .i64 0,.int .i64 0].toArray,.bool true]) rfl (ZT (ZM rfl (ZO rfl (Zf rfl e36))) (Yd Zjk Zd0 (hS.QF k0) (j:=0) rfl rfl (ws:= [.int .i64 5,.int .i64 x47,.int .i64 0,.int .i64 0]) rfl) (ZB lk Zm)) rfl ⟨_,⟨rfl,rfl⟩,hT ▸ hS.only .n⟩
    ·skip;refine r6 ?_;refine cn hL ?_ ?_
     ·intro hc hL;refine r1 ?_;exact YO.Yt _ hL ⟨_,_,rfl,hS.only (.c k0 (.c k0 .n)),YR⟩
     ·intro hc hL;refine r4 ?_;exact YO.Yt _ hL ⟨_,_,rfl,hS.only (.c k0 (.c k0 .n)),YR⟩
  ·skip;refine r6 ?_;refine cn hL ?_ ?_
   ·intro hc hL;refine r4 ?_;refine r1 ?_;refine WO.w gN rfl (Zer ZrC ZoC lk) ?_;refine r2 ?_;obtain⟨x49,Zr8,hL⟩:=bind_some hL;refine WO.w gN rfl (Yi (Zq (ZL rfl fh) rfl) (Zq fh rfl) (U0 Zr8)) ?_;refine r2 ?_;obtain⟨x50,ZJo,hL⟩:=bind_some hL;refine WO.w gN rfl (Yi (Zq (Zf rfl fh) rfl) (Zq fh rfl) (U0 ZJo)) ?_;refine r2 ?_;exact YO.Yt _ hL ⟨_,_,rfl,hS.only (.c k0 (.c k0 .n)),YR⟩
   ·intro hc hL;refine r1 ?_;exact YO.Yt _ hL ⟨_,_,rfl,hS.only (.c k0 (.c k0 .n)),YR⟩
 ·skip;refine r6 ?_;refine cn hL ?_ ?_
  ·intro hc hL;refine r3 ?_;refine WO.w gN rfl (Zer ZrC ZoC lk) ?_;refine r1 ?_;obtain⟨x51,ZJn,hL⟩:=bind_some hL;refine WO.w gN rfl (Yi (Zq (Zf rfl fh) rfl) (Zq fh rfl) (U0 ZJn)) ?_;refine r2 ?_;exact YO.Yt _ hL ⟨_,_,rfl,hS.only (.c k1 (.c k0 .n)),YR⟩
  ·intro hc hL;refine r1 ?_;exact YO.Yt _ hL ⟨_,_,rfl,hS.only (.c k1 (.c k0 .n)),YR⟩
theorem ZCK {wm:Nat} {h:H} {p0:Zn} {p1:Int} {r:Bool} (ZG:wm <=h.size) (hL:Zsw p0 p1=some r):
 WR XX 55 #[.agg [.int .i64 p0.Z6,.int .i64 p0.at_,.int .i64 p0.name,.int .i64 p0.Zv].toArray,.int .i64 p1] wm h (CP (fun(v:Value) (Gb:List (Ast wm))=>v= .bool r∧Gb= []) [] h):=by
 refine WF.begin (args:= [_,_]) (fn:=Try.f55) Kq0 (by exact rfl) Try.ntmps55 (by simp) ?_;simp only [ZI,ZN,Nat.reduceAdd];obtain⟨T,hT,hS⟩:∃ T,T=XM (wm:=wm) []∧Sp wm T h [] h:= ⟨_,rfl,Sp.start ZG ZQ.nil⟩
 unfold Zsw at hL;refine WC.seq ?_;refine WC.region ?_;refine WO.hn gN rfl (Zqr hS (Zq (Zf rfl fh) rfl) (vs:= [.int .i64 p0.Z6,.int .i64 p0.at_,.int .i64 p0.name,.int .i64 p0.Zv]) rfl) ?_;rintro _ h2 ⟨b1,eb1,rfl,hS⟩;refine WO.hn gN rfl (Zqr hS (Zq (Zf rfl fh) rfl) (vs:= [.int .i64 p1]) rfl) ?_;rintro _ h4 ⟨b3,eb3,rfl,hS⟩;refine WO.w gN rfl (Yb (Jy rfl)) ?_;refine WO.nil ?_;refine Qy.Yt ?_;refine WC.seq ?_;refine WC.region ?_;refine WO.w gN rfl (Zeq (Zc (Zq (Zf rfl fh) rfl) Zl)) ?_;refine WO.w gN rfl (Yb (Zq fh rfl)) ?_;refine WO.nil ?_;refine Qy.Yt ?_;refine WC.seq ?_;refine WC.seq ?_;refine WC.region ?_;refine WO.w gN rfl (XB ZlK (Zq (ZO rfl fh) rfl)) ?_;refine WO.w gN rfl (ZU Zwq (Zq fh rfl) (hS.QF k1) (j:=0) rfl (v:= .int .i64 p0.Z6) rfl) ?_;refine WO.nil ?_;refine Qy.Yt ?_;refine WC.block ?_;refine WC.seq ?_;refine WC.region ?_;refine WO.w gN rfl (Yi (Zq fh rfl) (Jy rfl) J3) ?_;refine WO.w gN rfl (Yb (Zq fh rfl)) ?_;refine WO.nil ?_;refine Qy.Yt ?_;refine WC.Zn4 (Zq fh rfl) (fun hc=>?_) (fun hc=>?_)
 ·replace hL:=WZ hc hL;refine WC.seq ?_;refine WC.region ?_;refine WO.w gN rfl (YG (Zq (ZO rfl fh) rfl)) ?_;refine WO.w gN rfl (XB ZbY (Zq (ZM rfl (Zf rfl fh)) rfl)) ?_;refine WO.w gN rfl (ZU Xu (Zq fh rfl) (hS.QF k1) (j:=1) rfl (v:= .int .i64 p0.at_) rfl) ?_;refine WO.inl gN rfl (Xj.clo (first:= []) (cap:= [.pointer (some ⟨b3,0,none⟩)]) (Zq (ZL rfl fh) rfl) ZqL (Zc (Zq fh rfl) Zl) rfl) (WF.begin (args:= [_,_]) (fn:=Try.f92) Kq0 (by exact rfl) Try.ntmps92 (by simp) ?_);simp only [ZI,ZN,Nat.reduceAdd];refine WC.seq ?_;refine WC.region ?_;refine WO.w gN rfl (Yb (Jy rfl)) ?_;refine WO.nil ?_;refine Qy.Yt ?_;refine WC.seq ?_;refine WC.region ?_;refine WO.w gN rfl (YG (Zq (ZL rfl fh) rfl)) ?_;refine WO.w gN rfl (Yi (Zq fh rfl) (Jy rfl) Ws) ?_;refine WO.w gN rfl (YG (Zq fh rfl)) ?_;refine WO.gv (Zi.yes rfl rfl rfl fh) rfl (fun hg=>(YG (Zq (ZO rfl (Zf rfl fh)) rfl))) ?_;refine WO.gv (Zi.yes rfl rfl rfl (Zf rfl fh)) rfl (fun hg=>(ZU Xu (Zq (ZO rfl (Zf rfl fh)) rfl) (hS.QF k0) (j:=0) rfl (v:= .int .i64 p1) rfl)) ?_;refine WO.gv (Zi.yes rfl rfl rfl (ZL rfl fh)) rfl (fun hg=>(Yi (Xi (Zf rfl fh) rfl hg) (Xi fh rfl hg) Zc4)) ?_;refine WO.w gN rfl (Qi (Zq (ZL rfl (Zf rfl fh)) rfl) (ZcQ fh) (Jy rfl)) ?_;refine WO.w gN rfl (Yb (Zq fh rfl)) ?_;refine WO.nil ?_;refine Qy.Yt ?_;refine WC.ret ?_;refine ZR.Jh rfl (ZB (Zq fh rfl) Zm) ?_;refine WO.w gN rfl (YG (Zq fh rfl)) ?_;refine WO.gv (Zi.yes rfl rfl rfl fh) rfl (fun hg=>(XB Zdk (Zq (ZM rfl (ZO rfl (Zf rfl fh))) rfl))) ?_;refine WO.gv (Zi.yes rfl rfl rfl (Zf rfl fh)) rfl (fun hg=>(ZU Xu (Xi fh rfl hg) (hS.QF k1) (j:=2) rfl (v:= .int .i64 p0.name) rfl)) ?_;refine WO.gv (Zi.yes rfl rfl rfl (ZL rfl fh)) rfl (fun hg=>(Yi (Xi fh rfl hg) (Jy rfl) J3)) ?_;refine WO.w gN rfl (Qi (Zq (ZL rfl (Zf rfl fh)) rfl) (ZcQ fh) (Jy rfl)) ?_;refine WO.w gN rfl (YG (Zq fh rfl)) ?_;refine WO.gv (Zi.yes rfl rfl rfl fh) rfl (fun hg=>(XB ZbX (Zq (ZM rfl (ZM rfl (ZL rfl fh))) rfl))) ?_;refine WO.gv (Zi.yes rfl rfl rfl (Zf rfl fh)) rfl (fun hg=>(ZU Xu (Xi fh rfl hg) (hS.QF k1) (j:=3) rfl (v:= .int .i64 p0.Zv) rfl)) ?_;refine WO.gv (Zi.yes rfl rfl rfl (ZL rfl fh)) rfl (fun hg=>(Yi (Xi fh rfl hg) (Jy rfl) J3)) ?_;refine WO.w gN rfl (Qi (Zq (ZL rfl (Zf rfl fh)) rfl) (ZcQ fh) (Jy rfl)) ?_;refine WO.w gN rfl (Yb (Zq fh rfl)) ?_;refine WO.nil ?_;refine Qy.Yt ?_;refine WC.ret ?_;refine Wv.ret ?_;refine Qy.ret ?_;have hr:=Oi0 hL;subst hr;exact ZR.Jh rfl (ZB (Zq fh rfl) Zm) ⟨_,⟨rfl,rfl⟩,hT ▸ hS.only .n⟩
 ·replace hL:=W9 hc hL;refine WC.Zav (r:=r) (fun(v10:Bool) (s:Fs)=>∃ (fr6:Fr) (h5:H),s= ⟨fr6,[],h5,none⟩∧Sp wm T h [bx wm b1 [.int .i64 p0.Z6,.int .i64 p0.at_,.int .i64 p0.name,.int .i64 p0.Zv],bx wm b3 [.int .i64 p1]] h5∧fr6.at 2= .pointer (some ⟨b1,0,none⟩)∧fr6.at 5= .func (.func 92) #[] [.pointer (some ⟨b3,0,none⟩)].toArray∧fr6.at 8= .int .i64 p0.Z6∧fr6.at 25= .bool v10) (ZiQ p0 p1) ?_ ?_
  ·clear hL hS;rintro v10 s hL ⟨fr6,h5,rfl,hS,e7,e8,e9,e11⟩;dsimp only [ZiQ] at hL;refine WC.Zn4 (Zq e11 rfl) (fun hc=>?_) (fun hc=>?_)
   ·replace hL:=WZ hc hL;refine WC.seq ?_;refine WC.region ?_;refine WO.w gN rfl (YG (Zq e8 rfl)) ?_;refine WO.w gN rfl (XB ZbY (Zq (Zf rfl e7) rfl)) ?_;refine WO.w gN rfl (ZU Xu (Zq fh rfl) (hS.QF k0) (j:=1) rfl (v:= .int .i64 p0.at_) rfl) ?_;refine WO.inl gN rfl (Xj.clo (first:= []) (cap:= [.pointer (some ⟨b3,0,none⟩)]) (Zq (ZL rfl fh) rfl) ZqL (Zc (Zq fh rfl) Zl) rfl) (WF.begin (args:= [_,_]) (fn:=Try.f92) Kq0 (by exact rfl) Try.ntmps92 (by simp) ?_);simp only [ZI,ZN,Nat.reduceAdd];refine WC.seq ?_;refine WC.region ?_;refine WO.w gN rfl (Yb (Jy rfl)) ?_;refine WO.nil ?_;refine Qy.Yt ?_;refine WC.seq ?_;refine WC.region ?_;refine WO.w gN rfl (YG (Zq (ZL rfl fh) rfl)) ?_;refine WO.w gN rfl (Yi (Zq fh rfl) (Jy rfl) Ws) ?_;refine WO.w gN rfl (YG (Zq fh rfl)) ?_;refine WO.gv (Zi.yes rfl rfl rfl fh) rfl (fun hg=>(YG (Zq (ZO rfl (Zf rfl fh)) rfl))) ?_;refine WO.gv (Zi.yes rfl rfl rfl (Zf rfl fh)) rfl (fun hg=>(ZU Xu (Zq (ZO rfl (Zf rfl fh)) rfl) (hS.QF k1) (j:=0) rfl (v:= .int .i64 p1) rfl)) ?_;refine WO.gv (Zi.yes rfl rfl rfl (ZL rfl fh)) rfl (fun hg=>(Yi (Xi (Zf rfl fh) rfl hg) (Xi fh rfl hg) Zc4)) ?_;refine WO.w gN rfl (Qi (Zq (ZL rfl (Zf rfl fh)) rfl) (ZcQ fh) (Jy rfl)) ?_;refine WO.w gN rfl (Yb (Zq fh rfl)) ?_;refine WO.nil ?_;refine Qy.Yt ?_;refine WC.ret ?_;refine ZR.Jh rfl (ZB (Zq fh rfl) Zm) ?_;refine WO.w gN rfl (YG (Zq fh rfl)) ?_;refine WO.gv (Zi.yes rfl rfl rfl fh) rfl (fun hg=>(YG (Zq (ZO rfl (Zf rfl e8)) rfl))) ?_;refine WO.gv (Zi.yes rfl rfl rfl (Zf rfl fh)) rfl (fun hg=>(XB ZbX (Zq (ZO rfl (ZL rfl e7)) rfl))) ?_;refine WO.gv (Zi.yes rfl rfl rfl (ZL rfl fh)) rfl (fun hg=>(ZU Xu (Xi fh rfl hg) (hS.QF k0) (j:=3) rfl (v:= .int .i64 p0.Zv) rfl)) ?_;refine WO.ZlC (Zi.yes rfl rfl rfl (ZL rfl (Zf rfl fh))) (fun Zlz=>?_) (fun Zlz=>?_)
    ·replace hL:=WZ Zlz hL;refine WO.inl (Zi.on (Zi.yes rfl rfl rfl (ZL rfl (Zf rfl fh))) Zlz) rfl (Xj.clo (first:= []) (cap:= [.pointer (some ⟨b3,0,none⟩)]) (Xi (ZL rfl fh) rfl Zlz) ZqL (Zc (Xi fh rfl Zlz) Zl) rfl) (WF.begin (args:= [_,_]) (fn:=Try.f92) Kq0 (by exact rfl) Try.ntmps92 (by simp) ?_);simp only [ZI,ZN,Nat.reduceAdd];refine WC.seq ?_;refine WC.region ?_;refine WO.w gN rfl (Yb (Jy rfl)) ?_;refine WO.nil ?_;refine Qy.Yt ?_;refine WC.seq ?_;refine WC.region ?_;refine WO.w gN rfl (YG (Zq (ZL rfl fh) rfl)) ?_;refine WO.w gN rfl (Yi (Zq fh rfl) (Jy rfl) Ws) ?_;refine WO.w gN rfl (YG (Zq fh rfl)) ?_;refine WO.gv (Zi.yes rfl rfl rfl fh) rfl (fun hg=>(YG (Zq (ZO rfl (Zf rfl fh)) rfl))) ?_;refine WO.gv (Zi.yes rfl rfl rfl (Zf rfl fh)) rfl (fun hg=>(ZU Xu (Zq (ZO rfl (Zf rfl fh)) rfl) (hS.QF k1) (j:=0) rfl (v:= .int .i64 p1) rfl)) ?_;refine WO.gv (Zi.yes rfl rfl rfl (ZL rfl fh)) rfl (fun hg=>(Yi (Xi (Zf rfl fh) rfl hg) (Xi fh rfl hg) Zc4)) ?_;refine WO.w gN rfl (Qi (Zq (ZL rfl (Zf rfl fh)) rfl) (ZcQ fh) (Jy rfl)) ?_;refine WO.w gN rfl (Yb (Zq fh rfl)) ?_;refine WO.nil ?_;refine Qy.Yt ?_;refine WC.ret ?_;refine ZR.Jh rfl (ZB (Zq fh rfl) Zm) ?_;refine WO.w gN rfl (Zms (Zq (ZO rfl fh) rfl) Zlz (Zq fh rfl)) ?_;refine WO.w gN rfl (YG (Zq fh rfl)) ?_;refine WO.gv (Zi.yes rfl rfl rfl fh) rfl (fun hg=>(XB ZbY (Zq (ZM rfl (ZL rfl (Zf rfl e7))) rfl))) ?_;refine WO.gv (Zi.yes rfl rfl rfl (Zf rfl fh)) rfl (fun hg=>(ZU Xu (Xi fh rfl hg) (hS.QF k0) (j:=1) rfl (v:= .int .i64 p0.at_) rfl)) ?_;refine WO.gv (Zi.yes rfl rfl rfl (ZL rfl fh)) rfl (fun hg=>(XB ZbX (Zq (ZM rfl (ZO rfl (Zf rfl e7))) rfl))) ?_;refine WO.gv (Zi.yes rfl rfl rfl (ZL rfl (Zf rfl fh))) rfl (fun hg=>(ZU Xu (Xi fh rfl hg) (hS.QF k0) (j:=3) rfl (v:= .int .i64 p0.Zv) rfl)) ?_;refine WO.gv (Zi.yes rfl rfl rfl (ZO rfl fh)) rfl (fun hg=>(Yi (Xi (ZL rfl fh) rfl hg) (Xi fh rfl hg) Zjm)) ?_;refine WO.w gN rfl (Qi (Zq (ZO rfl (Zf rfl fh)) rfl) (ZcQ fh) (Jy rfl)) ?_;refine WO.w gN rfl (YG (Zq fh rfl)) ?_;refine WO.gv (Zi.yes rfl rfl rfl fh) rfl (fun hg=>(XB Zdk (Zq (ZM rfl (ZM rfl (ZL rfl e7))) rfl))) ?_;refine WO.gv (Zi.yes rfl rfl rfl (Zf rfl fh)) rfl (fun hg=>(ZU Xu (Xi fh rfl hg) (hS.QF k0) (j:=2) rfl (v:= .int .i64 p0.name) rfl)) ?_;refine WO.gv (Zi.yes rfl rfl rfl (ZL rfl fh)) rfl (fun hg=>(Yi (Xi fh rfl hg) (Jy rfl) Ws)) ?_;refine WO.w gN rfl (Qi (Zq (ZL rfl (Zf rfl fh)) rfl) (ZcQ fh) (Jy rfl)) ?_;refine WO.w gN rfl (Yb (Zq fh rfl)) ?_;refine WO.nil ?_;refine Qy.Yt ?_;refine WC.ret ?_;refine Wv.ret ?_;refine Qy.ret ?_;have hr:=Oi0 hL;subst hr;exact ZR.Jh rfl (ZB (Zq fh rfl) Zm) ⟨_,⟨rfl,rfl⟩,hT ▸ hS.only .n⟩
    ·replace hL:=W9 Zlz hL;refine WO.Zna (Zi.yes rfl rfl rfl (ZL rfl (Zf rfl fh))) Zlz rfl ?_;refine WO.w gN rfl (Zmt (Zq (ZO rfl fh) rfl) Zlz (Jy rfl)) ?_;refine WO.w gN rfl (YG (Zq fh rfl)) ?_;refine WO.gv (Zi.yes rfl rfl rfl fh) rfl (fun hg=>(XB ZbY (Zq (ZM rfl (ZL rfl (Zf rfl e7))) rfl))) ?_;refine WO.gv (Zi.yes rfl rfl rfl (Zf rfl fh)) rfl (fun hg=>(ZU Xu (Xi fh rfl hg) (hS.QF k0) (j:=1) rfl (v:= .int .i64 p0.at_) rfl)) ?_;refine WO.gv (Zi.yes rfl rfl rfl (ZL rfl fh)) rfl (fun hg=>(XB ZbX (Zq (ZM rfl (ZO rfl (Zf rfl e7))) rfl))) ?_;refine WO.gv (Zi.yes rfl rfl rfl (ZL rfl (Zf rfl fh))) rfl (fun hg=>(ZU Xu (Xi fh rfl hg) (hS.QF k0) (j:=3) rfl (v:= .int .i64 p0.Zv) rfl)) ?_;refine WO.gv (Zi.yes rfl rfl rfl (ZO rfl fh)) rfl (fun hg=>(Yi (Xi (ZL rfl fh) rfl hg) (Xi fh rfl hg) Zjm)) ?_;refine WO.w gN rfl (Qi (Zq (ZO rfl (Zf rfl fh)) rfl) (ZcQ fh) (Jy rfl)) ?_;refine WO.w gN rfl (YG (Zq fh rfl)) ?_;refine WO.gv (Zi.yes rfl rfl rfl fh) rfl (fun hg=>(XB Zdk (Zq (ZM rfl (ZM rfl (ZL rfl e7))) rfl))) ?_;refine WO.gv (Zi.yes rfl rfl rfl (Zf rfl fh)) rfl (fun hg=>(ZU Xu (Xi fh rfl hg) (hS.QF k0) (j:=2) rfl (v:= .int .i64 p0.name) rfl)) ?_;refine WO.gv (Zi.yes rfl rfl rfl (ZL rfl fh)) rfl (fun hg=>(Yi (Xi fh rfl hg) (Jy rfl) Ws)) ?_;refine WO.w gN rfl (Qi (Zq (ZL rfl (Zf rfl fh)) rfl) (ZcQ fh) (Jy rfl)) ?_;refine WO.w gN rfl (Yb (Zq fh rfl)) ?_;refine WO.nil ?_;refine Qy.Yt ?_;refine WC.ret ?_;refine Wv.ret ?_;refine Qy.ret ?_;have hr:=Oi0 hL;subst hr;exact ZR.Jh rfl (ZB (Zq fh rfl) Zm) ⟨_,⟨rfl,rfl⟩,hT ▸ hS.only .n⟩
   ·replace hL:=W9 hc hL;refine WC.seq ?_;refine WC.region ?_;refine WO.w gN rfl (Yi (Zq e9 rfl) (Jy rfl) J3) ?_;refine WO.w gN rfl (Yb (Zq fh rfl)) ?_;refine WO.nil ?_;refine Qy.Yt ?_;refine WC.Zn4 (Zq fh rfl) (fun hc=>?_) (fun hc=>?_)
    ·replace hL:=WZ hc hL;refine WC.seq ?_;refine WC.region ?_;refine WO.w gN rfl (YG (Zq (ZL rfl e8) rfl)) ?_;refine WO.w gN rfl (XB ZbY (Zq (ZL rfl (Zf rfl e7)) rfl)) ?_;refine WO.w gN rfl (ZU Xu (Zq fh rfl) (hS.QF k0) (j:=1) rfl (v:= .int .i64 p0.at_) rfl) ?_;refine WO.inl gN rfl (Xj.clo (first:= []) (cap:= [.pointer (some ⟨b3,0,none⟩)]) (Zq (ZL rfl fh) rfl) ZqL (Zc (Zq fh rfl) Zl) rfl) (WF.begin (args:= [_,_]) (fn:=Try.f92) Kq0 (by exact rfl) Try.ntmps92 (by simp) ?_);simp only [ZI,ZN,Nat.reduceAdd];refine WC.seq ?_;refine WC.region ?_;refine WO.w gN rfl (Yb (Jy rfl)) ?_;refine WO.nil ?_;refine Qy.Yt ?_;refine WC.seq ?_;refine WC.region ?_;refine WO.w gN rfl (YG (Zq (ZL rfl fh) rfl)) ?_;refine WO.w gN rfl (Yi (Zq fh rfl) (Jy rfl) Ws) ?_;refine WO.w gN rfl (YG (Zq fh rfl)) ?_;refine WO.gv (Zi.yes rfl rfl rfl fh) rfl (fun hg=>(YG (Zq (ZO rfl (Zf rfl fh)) rfl))) ?_;refine WO.gv (Zi.yes rfl rfl rfl (Zf rfl fh)) rfl (fun hg=>(ZU Xu (Zq (ZO rfl (Zf rfl fh)) rfl) (hS.QF k1) (j:=0) rfl (v:= .int .i64 p1) rfl)) ?_;refine WO.gv (Zi.yes rfl rfl rfl (ZL rfl fh)) rfl (fun hg=>(Yi (Xi (Zf rfl fh) rfl hg) (Xi fh rfl hg) Zc4)) ?_;refine WO.w gN rfl (Qi (Zq (ZL rfl (Zf rfl fh)) rfl) (ZcQ fh) (Jy rfl)) ?_;refine WO.w gN rfl (Yb (Zq fh rfl)) ?_;refine WO.nil ?_;refine Qy.Yt ?_;refine WC.ret ?_;refine ZR.Jh rfl (ZB (Zq fh rfl) Zm) ?_;refine WO.w gN rfl (YG (Zq fh rfl)) ?_;refine WO.gv (Zi.yes rfl rfl rfl fh) rfl (fun hg=>(XB Zdk (Zq (ZO rfl (ZL rfl (Zf rfl e7))) rfl))) ?_;refine WO.gv (Zi.yes rfl rfl rfl (Zf rfl fh)) rfl (fun hg=>(ZU Xu (Xi fh rfl hg) (hS.QF k0) (j:=2) rfl (v:= .int .i64 p0.name) rfl)) ?_;refine WO.gv (Zi.yes rfl rfl rfl (ZL rfl fh)) rfl (fun hg=>(Yi (Xi fh rfl hg) (Jy rfl) Ws)) ?_;refine WO.w gN rfl (Qi (Zq (ZL rfl (Zf rfl fh)) rfl) (ZcQ fh) (Jy rfl)) ?_;refine WO.w gN rfl (YG (Zq fh rfl)) ?_;refine WO.gv (Zi.yes rfl rfl rfl fh) rfl (fun hg=>(XB ZbX (Zq (ZM rfl (ZO rfl e7)) rfl))) ?_;refine WO.gv (Zi.yes rfl rfl rfl (Zf rfl fh)) rfl (fun hg=>(ZU Xu (Xi fh rfl hg) (hS.QF k0) (j:=3) rfl (v:= .int .i64 p0.Zv) rfl)) ?_;refine WO.gv (Zi.yes rfl rfl rfl (ZL rfl fh)) rfl (fun hg=>(Yi (Xi fh rfl hg) (Jy rfl) J3)) ?_;refine WO.w gN rfl (Qi (Zq (ZL rfl (Zf rfl fh)) rfl) (ZcQ fh) (Jy rfl)) ?_;refine WO.w gN rfl (Yb (Zq fh rfl)) ?_;refine WO.nil ?_;refine Qy.Yt ?_;refine WC.ret ?_;refine Wv.ret ?_;refine Qy.ret ?_;have hr:=Oi0 hL;subst hr;exact ZR.Jh rfl (ZB (Zq fh rfl) Zm) ⟨_,⟨rfl,rfl⟩,hT ▸ hS.only .n⟩
    ·replace hL:=W9 hc hL;refine WC.skip ?_;refine Wv.Yt ?_;refine Qy.Yt ?_;refine WC.seq ?_;refine WC.region ?_;refine WO.w gN rfl (XB ZlK (Zq (ZL rfl e7) rfl)) ?_;refine WO.w gN rfl (ZU Zwq (Zq fh rfl) (hS.QF k0) (j:=0) rfl (v:= .int .i64 p0.Z6) rfl) ?_;refine WO.w gN rfl (Yi (Zq fh rfl) (Jy rfl) J3) ?_;refine WO.w gN rfl (YG (Zq fh rfl)) ?_;refine WO.gv (Zi.yes rfl rfl rfl fh) rfl (fun hg=>(XB ZbY (Zq (ZO rfl (ZL rfl e7)) rfl))) ?_;refine WO.gv (Zi.yes rfl rfl rfl (Zf rfl fh)) rfl (fun hg=>(ZU Xu (Xi fh rfl hg) (hS.QF k0) (j:=1) rfl (v:= .int .i64 p0.at_) rfl)) ?_;refine WO.gv (Zi.yes rfl rfl rfl (ZL rfl fh)) rfl (fun hg=>(Yi (Xi fh rfl hg) (Jy rfl) Ws)) ?_;refine WO.w gN rfl (Qi (Zq (ZL rfl (Zf rfl fh)) rfl) (ZcQ fh) (Jy rfl)) ?_;refine WO.w gN rfl (YG (Zq fh rfl)) ?_;refine WO.gv (Zi.yes rfl rfl rfl fh) rfl (fun hg=>(XB Zdk (Zq (ZM rfl (ZL rfl (Zf rfl e7))) rfl))) ?_;refine WO.gv (Zi.yes rfl rfl rfl (Zf rfl fh)) rfl (fun hg=>(ZU Xu (Xi fh rfl hg) (hS.QF k0) (j:=2) rfl (v:= .int .i64 p0.name) rfl)) ?_;refine WO.gv (Zi.yes rfl rfl rfl (ZL rfl fh)) rfl (fun hg=>(Yi (Xi fh rfl hg) (Jy rfl) J3)) ?_;refine WO.w gN rfl (Qi (Zq (ZL rfl (Zf rfl fh)) rfl) (ZcQ fh) (Jy rfl)) ?_;refine WO.w gN rfl (YG (Zq fh rfl)) ?_;refine WO.gv (Zi.yes rfl rfl rfl fh) rfl (fun hg=>(XB ZbX (Zq (ZM rfl (ZM rfl e7)) rfl))) ?_;refine WO.gv (Zi.yes rfl rfl rfl (Zf rfl fh)) rfl (fun hg=>(ZU Xu (Xi fh rfl hg) (hS.QF k0) (j:=3) rfl (v:= .int .i64 p0.Zv) rfl)) ?_;refine WO.gv (Zi.yes rfl rfl rfl (ZL rfl fh)) rfl (fun hg=>(Yi (Xi fh rfl hg) (Jy rfl) J3)) ?_;refine WO.w gN rfl (Qi (Zq (ZL rfl (Zf rfl fh)) rfl) (ZcQ fh) (Jy rfl)) ?_;refine WO.w gN rfl (Yb (Zq fh rfl)) ?_;refine WO.nil ?_;refine Qy.Yt ?_;refine WC.ret ?_;have hr:=Oi0 hL;subst hr;exact ZR.Jh rfl (ZB (Zq fh rfl) Zm) ⟨_,⟨rfl,rfl⟩,hT ▸ hS.only .n⟩
  ·skip;refine WC.seq ?_;refine WC.region ?_;refine WO.w gN rfl (Yi (Zq (ZL rfl fh) rfl) (Jy rfl) J3) ?_;refine WO.w gN rfl (Yb (Zq fh rfl)) ?_;refine WO.nil ?_;refine Qy.Yt ?_;refine WC.Zn4 (Zq fh rfl) (fun hc=>?_) (fun hc=>?_)
   ·replace hL:=WZ hc hL;refine WC.skip ?_;exact YO.Yt _ hL ⟨_,_,rfl,hS.only (.c k1 (.c k0 .n)),(ZM rfl (ZL rfl fh)),(ZO rfl (ZL rfl fh)),(ZO rfl fh),fh⟩
   ·replace hL:=W9 hc hL;refine WC.region ?_;refine WO.w gN rfl (Yi (Zq (ZO rfl fh) rfl) (Jy rfl) J3) ?_;refine WO.w gN rfl (Yb (Zq fh rfl)) ?_;refine WO.nil ?_;exact YO.Yt _ hL ⟨_,_,rfl,hS.only (.c k1 (.c k0 .n)),(ZM rfl (ZO rfl fh)),(ZM rfl fh),(ZO rfl (ZL rfl fh)),fh⟩
theorem ZCL {h:H} {p0:Zn} {p1:Int} {r:Bool} (hL:Zsw p0 p1=some r):Pure XX 55 #[.agg [.int .i64 p0.Z6,.int .i64 p0.at_,.int .i64 p0.name,.int .i64 p0.Zv].toArray,.int .i64 p1] h (.bool r):=
 WR.QV rfl (ZCK (Nat.le_refl _) hL)
end Go.Proofs.Ytekpjgmhkkjhgaa
end
end
section
namespace Go.Proofs.Ytekpjgmhkkjhgaa
open Go.Lf
def Zf3 (v29:Int) (Ku:(Int×(List (Ze×Int))×(List (Ze×Int)) ->Option ((List (Ze×Int))×(List (Ze×Int))))):(List (Ze×Int))×(List (Ze×Int)) ->Option ((List (Ze×Int))×(List (Ze×Int))):=fun(v41,v42)=>
 Ku (ZF (v29 + 1),v41,v42)
def ZiO (p0:Store):Int×(List (Ze×Int))×(List (Ze×Int)) ->(Int×(List (Ze×Int))×(List (Ze×Int)) ->Option ((List (Ze×Int))×(List (Ze×Int)))) ->Option ((List (Ze×Int))×(List (Ze×Int))):=fun(v29,v31,v32) Ku=>
 (bif decide (v29 < (p0.notes.length:Int)) then(Ye p0.notes v29).bind fun x43=>(bif(x43.kind==1) then(QG v32 (Ze.mk x43.via x43.name) 0).bind fun x49=>(Zf3 v29 Ku) (v31,YL (JS v32 (Ze.mk x43.via x43.name) 0) (Ze.mk x43.via x43.name) (ZF (x49 + x43.w))) else(bif(x43.kind==2) then(QG v32 (Ze.mk x43.Zv x43.name) 0).bind fun x53=>(Zf3 v29 Ku) (v31,YL (JS v32 (Ze.mk x43.Zv x43.name) 0) (Ze.mk x43.Zv x43.name) (ZF (x53 + x43.w))) else(QG v31 (Ze.mk x43.Zv x43.name) 0).bind fun x57=>(Zf3 v29 Ku) (YL (JS v31 (Ze.mk x43.Zv x43.name) 0) (Ze.mk x43.Zv x43.name) (ZF (x57 + 16)),v32))) else some (v31,v32))
def Zf4 (F:Nat) (p0:Store):(List (Ze×Int))×(List (Ze×Int)) ->Option ((List (Ze×Int))×(List (Ze×Int))):=fun(v20,v21)=>
 loop F (ZiO p0) (0,v20,v21)
def ZlT (F:Nat) (p0:Store) (v80:Int) (Zd9:(Int×(List (Ze×Int))×(List (Ze×Int)) ->Option ((List (Ze×Int))×(List (Ze×Int))))):(List (Ze×Int))×(List (Ze×Int)) ->Option ((List (Ze×Int))×(List (Ze×Int))):=fun(v96,v97)=>
 (bif(!true) then(Zf4 F p0) (v96,v97) else Zd9 (ZF (v80 + 1),v96,v97))
def ZpD (F:Nat) (p0:Store) (v70:Int) (Zeb:(Int×(List (Ze×Int))×(List (Ze×Int)) ->Option ((List (Ze×Int))×(List (Ze×Int))))):Int×(List (Ze×Int))×(List (Ze×Int)) ->(Int×(List (Ze×Int))×(List (Ze×Int)) ->Option ((List (Ze×Int))×(List (Ze×Int)))) ->Option ((List (Ze×Int))×(List (Ze×Int))):=fun(v80,v82,v83) Zd9=>
 (bif decide (v80 < p0.names) then(ZaH p0.cells (Ze.mk v70 v80) (Zb.mk 0 false 0 0 0 false)).bind fun x85=>(bif x85.2 then(QG v82 (Ze.mk v70 x85.1.name) 0).bind fun x99=>(bif decide (x85.1.from_ >=0) then(QG v83 (Ze.mk x85.1.from_ x85.1.name) 0).bind fun x103=>(ZlT F p0 v80 Zd9) (YL (JS v82 (Ze.mk v70 x85.1.name) 0) (Ze.mk v70 x85.1.name) (ZF (x99 + x85.1.out)),YL (JS v83 (Ze.mk x85.1.from_ x85.1.name) 0) (Ze.mk x85.1.from_ x85.1.name) (ZF (x103 + x85.1.has))) else(ZlT F p0 v80 Zd9) (YL (JS v82 (Ze.mk v70 x85.1.name) 0) (Ze.mk v70 x85.1.name) (ZF (x99 + x85.1.out)),v83)) else Zd9 (ZF (v80 + 1),v82,v83)) else Zeb (ZF (v70 + 1),v82,v83))
def ZpE (F:Nat) (p0:Store):Int×(List (Ze×Int))×(List (Ze×Int)) ->(Int×(List (Ze×Int))×(List (Ze×Int)) ->Option ((List (Ze×Int))×(List (Ze×Int)))) ->Option ((List (Ze×Int))×(List (Ze×Int))):=fun(v70,v72,v73) Zeb=>
 (bif decide (v70 < p0.machines) then loop F (ZpD F p0 v70 Zeb) (0,v72,v73) else(Zf4 F p0) (v72,v73))
def ZpF (F:Nat) (p0:Store):Option ((List (Ze×Int))×(List (Ze×Int))):=
 loop F (ZpE F p0) (0,[],[])
def ZvB (p0:(List ZV)) (p1:Int) (p2:Int):Option (List ZV):=
 (slL p0 p1 p2).bind fun z1=>(bif(p1==p2) then some p0 else(slL p0 0 p1).bind fun z4=>(slL p0 p2 (p0.length:Int)).bind fun z13=>(app 16 z4 z13).bind fun z17=>some z17)
def Zf2 (p0:(List ZV)) (p1:ZV):Int ->(Int ->Option Int) ->Option Int:=fun v8 Zig=>
 (bif decide (v8 < (p0.length:Int)) then(Ye p0 v8).bind fun x11=>(bif Kn p1 x11 then some v8 else Zig (ZF (v8 + 1))) else some (-1))
def ZyI (F:Nat) (p0:(List ZV)) (p1:ZV):Option Int:=
 loop F (Zf2 p0 p1) 0
end Go.Proofs.Ytekpjgmhkkjhgaa
end
section
set_option maxRecDepth 20000
noncomputable section
namespace Go.Proofs.Ytekpjgmhkkjhgaa
open Go.Yw Go.Lf
theorem ZpC {F wm:Nat} {h:H} {p0:Store} {ZJ:Option Nat} {Zp:Option Addr} {Zo:Nat} {ZE:Option Addr} {ZC Xx U4:Nat} {r:((List (Ze×Int))×(List (Ze×Int)))} (ZG:wm <=h.size) (Y6:At h Xx U4 [.int .i64 p0.machines,.int .i64 p0.names,.map ZJ,.slice Zp p0.notes.length Zo,.slice ZE p0.freed.length ZC]) (Y5:Stb wm h Xx) (ZK:Ud Zh Zk wm h ZJ p0.cells) (Yr:Sl Zj wm h Zp Zo p0.notes) (Yv:Sl (ZW .i64) wm h ZE ZC p0.freed) (hL:ZpF F p0=some r):
 WR XX 68 #[.pointer (some ⟨Xx,U4,none⟩)] wm h (CP (fun(v:Value) (Gb:List (Ast wm))=>∃ (Zco:Nat) (ZzI:Nat),v= .tuple [.map (some Zco),.map (some ZzI)].toArray∧Gb= [mp wm Zh (Value.int .i64) (some Zco) r.1,mp wm Zh (Value.int .i64) (some ZzI) r.2]) [] h):=by
 refine WF.Zgy (args:= [_]) (fn:=Try.f68) Kq0 (by exact rfl) Try.ntmps68 (by simp) ?_;simp only [ZI,ZN,Nat.reduceAdd];obtain⟨T,hT,hS⟩:∃ T,T=XM (wm:=wm) []∧Sp wm T h [] h:= ⟨_,rfl,Sp.start ZG ZQ.nil⟩
 unfold ZpF at hL;refine r3 ?_;rintro _ h2 ⟨b1,eb1,rfl,hS⟩;refine r1 ?_;rintro _ h4 ⟨b3,eb3,rfl,hS⟩;refine r4 ?_;refine WO.hn gN rfl (Zkj Zh (Value.int .i64) hS) ?_;rintro _ h5 ⟨b6,eb6,rfl,hS⟩;refine WO.hn gN rfl (Zkj Zh (Value.int .i64) hS) ?_;rintro _ h7 ⟨b8,eb8,rfl,hS⟩;refine r1 ?_;rintro h9 hS;refine r1 ?_;rintro h10 hS;refine r6 ?_;refine WO.inl gN rfl (Xj.fn ZuN (Zc lk Zl)) (WF.begin (args:= [_]) (fn:=Try.f71) Kq0 (by exact rfl) Try.ntmps71 (by simp) ?_);simp only [ZI,ZN,Nat.reduceAdd];refine r3 ?_;rintro _ h12 ⟨b11,ZPA,rfl,hS⟩;refine r4 ?_;refine r1 ?_;refine WO.w gN rfl (Zeq (Zc lk Zl)) ?_;refine r4 ?_;refine ZR.Jh rfl (ZB lk Zm) ?_;refine r3 ?_;refine WC.ZoN (first:= []) (cap:= [.pointer (some ⟨b11,0,none⟩)]) hS lk Zpn ?_;intro h13 l14 Zn1 Zzr ZqS hS;refine WR.Zr6 (r:=r) (fun(p:(List (Ze×Int))×(List (Ze×Int))) (v:Value) (h18:H)=>match p with | (v20,v21)=>v= .tuple [].toArray∧Sp wm T h [bx wm b1 [.map (some b6)],bx wm b3 [.map (some b8)],bx wm b11 [.pointer (some ⟨Xx,U4,none⟩)],mp wm Zh (Value.int .i64) (some b6) v20,mp wm Zh (Value.int .i64) (some b8) v21,ob wm l14 Zzr,ob wm Zn1 .deferred] h18) (Zf4 F p0) ?_ (WF.begin (args:= [_,_]) (fn:=Try.f110) Kq0 (by exact rfl) Try.ntmps110 (by simp) ?_)
 ·clear hL hS;rintro⟨v20,v21⟩ v h18 hL ⟨rfl,hS⟩;dsimp only [Zf4] at hL;refine RgE.sp ZqS hS k5 ?_;rintro h22 hS;refine r8 ?_;refine WO.w gN rfl (ZU Zon (Zq fh rfl) (At.fz hS.fz Y5 Y6) (j:=3) rfl (v:= .slice Zp p0.notes.length Zo) rfl) ?_;refine r4 ?_;refine r1 ?_;refine WC.loop (WL.lift hL (fun(p:Int×(List (Ze×Int))×(List (Ze×Int))) (s:Fs)=>match p with | (v29,v31,v32)=>∃ (Zpt:Fr) (h23:H),s= ⟨Zpt,[⟨.collected Zn1,#[]⟩],h23,none⟩∧Sp wm T h [bx wm b1 [.map (some b6)],bx wm b3 [.map (some b8)],mp wm Zh (Value.int .i64) (some b6) v31,mp wm Zh (Value.int .i64) (some b8) v32,ob wm Zn1 .deferred] h23∧Zpt.at 2= .pointer (some ⟨b1,0,none⟩)∧Zpt.at 3= .pointer (some ⟨b3,0,none⟩)∧Zpt.at 43= .slice Zp p0.notes.length Zo∧Zpt.at 44= .int .i64 (p0.notes.length:Int)∧Zpt.at 45= .int .i64 v29) ⟨_,_,rfl,hS.only (.c k0 (.c k0 (.c k1 (.c k1 (.c k1 .n))))),YR⟩ ?_);clear hL hS;rintro Ku ⟨v29,v31,v32⟩ s Zlw hL ⟨Zpt,h23,rfl,hS,e25,e26,e27,e28,e30⟩;dsimp only [ZiO] at hL;refine r6 ?_;refine cn hL ?_ ?_
  ·intro hc hL;refine r2 ?_;refine WC.Zav (r:=r) (fun(p:(List (Ze×Int))×(List (Ze×Int))) (s:Fs)=>match p with | (v41,v42)=>∃ (ZbV:Fr) (h34:H),s= ⟨ZbV,[⟨.collected Zn1,#[]⟩],h34,none⟩∧Sp wm T h [bx wm b1 [.map (some b6)],bx wm b3 [.map (some b8)],mp wm Zh (Value.int .i64) (some b6) v41,mp wm Zh (Value.int .i64) (some b8) v42,ob wm Zn1 .deferred] h34∧ZbV.at 2= .pointer (some ⟨b1,0,none⟩)∧ZbV.at 3= .pointer (some ⟨b3,0,none⟩)∧ZbV.at 43= .slice Zp p0.notes.length Zo∧ZbV.at 44= .int .i64 (p0.notes.length:Int)∧ZbV.at 45= .int .i64 v29) (Zf3 v29 Ku) ?_ ?_
   ·clear hL hS;rintro⟨v41,v42⟩ s hL ⟨ZbV,h34,rfl,hS,e36,e37,e38,e39,e40⟩;dsimp only [Zf3] at hL;refine r4 ?_;exact Yy.Yt (Zlw _ _ hL ⟨_,_,rfl,hS.only (.c k0 (.c k0 (.c k0 (.c k0 (.c k0 .n))))),YR⟩)
   ·skip;refine r3 ?_;obtain⟨x43,Zo9,hL⟩:=bind_some hL;obtain⟨b44,o45,_,ZuX,Zva,Zu5,ZGn⟩:=Sl.at_ Yr Zo9;refine WO.w gN rfl (Z5 UE XA lk lk rfl ZuX Zo9) ?_;refine WO.w gN rfl (Xq ZdU XA (Zq fh rfl) (At.fz hS.fz Zu5 Zva) (j:=0) rfl rfl (ws:= [.int .i64 x43.kind,.int .i64 x43.Zv,.int .i64 x43.name,.int .i64 x43.via,.int .i64 x43.w]) rfl) ?_;refine r1 ?_;rintro _ h47 ⟨b46,ZKK,rfl,hS⟩;refine r1 ?_;rintro h48 hS;refine JP ?_;refine r3 ?_;refine cn hL ?_ ?_
    ·intro hc hL;refine WC.Yk mixed Kq0 ?_;refine r4 ?_;refine r1 ?_;refine WX.w gN rfl (Y8 XY (Zg lk (Zg lk Zx)) rfl (cs':= [.int .i64 x43.via,.int .i64 x43.name]) rfl) ?_ rfl;obtain⟨x49,Zr8,hL⟩:=bind_some hL;refine WX.ZjC (kv:=Zh) (vv:= (Value.int .i64)) (k:= (Ze.mk x43.via x43.name)) (z:=0) gN rfl YF Jo XF (Zq (ZO rfl (Zf rfl fh)) rfl) (Zq fh rfl) (hS.get k4).at_ Zr8 10 (w:= .int .i64 x49) rfl (fun _=>rfl) ?_ rfl;refine r3 ?_;refine WX.ZjR (kv:=Zh) (vv:= (Value.int .i64)) (k:= (Ze.mk x43.via x43.name)) (z:=0) gN rfl hS k4 YF Jo XF (Zq (ZM rfl (Zf rfl fh)) rfl) (Zq (ZO rfl fh) rfl) ?_ rfl 6 Kq0 Kq0 (by simp);rintro _ h50 ⟨b51,rfl,hS⟩;refine WX.w gN rfl (Qh lk (v:= .int .i64 (b51:Nat)) rfl) ?_ Kq0;refine WX.hu gN (ZdI (kv:=Zh) (vv:= (Value.int .i64)) (v:=ZF (x49 + x43.w)) hS k0 (Zq (ZM rfl (ZL rfl (Zf rfl fh))) rfl) (Zq fh rfl) (Zq (ZL rfl fh) rfl)) ?_ rfl Kq0 [] Kq0 Z8.e;rintro h52 hS;refine r3 ?_;exact YO.Yt _ hL ⟨_,_,rfl,hS.only (.c k2 (.c k2 (.c k2 (.c k0 (.c k1 .n))))),YR⟩
    ·intro hc hL;refine r6 ?_;refine cn hL ?_ ?_
     ·intro hc hL;refine WC.Yk mixed Kq0 ?_;refine r4 ?_;refine r1 ?_;refine WX.w gN rfl (Y8 XY (Zg lk (Zg lk Zx)) rfl (cs':= [.int .i64 x43.Zv,.int .i64 x43.name]) rfl) ?_ rfl;obtain⟨x53,ZBp,hL⟩:=bind_some hL;refine WX.ZjC (kv:=Zh) (vv:= (Value.int .i64)) (k:= (Ze.mk x43.Zv x43.name)) (z:=0) gN rfl YF Jo XF (Zq (ZO rfl (Zf rfl fh)) rfl) (Zq fh rfl) (hS.get k4).at_ ZBp 10 (w:= .int .i64 x53) rfl (fun _=>rfl) ?_ rfl;refine r3 ?_;refine WX.ZjR (kv:=Zh) (vv:= (Value.int .i64)) (k:= (Ze.mk x43.Zv x43.name)) (z:=0) gN rfl hS k4 YF Jo XF (Zq (ZM rfl (Zf rfl fh)) rfl) (Zq (ZO rfl fh) rfl) ?_ rfl 6 Kq0 Kq0 (by simp);rintro _ h54 ⟨b55,rfl,hS⟩;refine WX.w gN rfl (Qh lk (v:= .int .i64 (b55:Nat)) rfl) ?_ Kq0;refine WX.hu gN (ZdI (kv:=Zh) (vv:= (Value.int .i64)) (v:=ZF (x53 + x43.w)) hS k0 (Zq (ZM rfl (ZL rfl (Zf rfl fh))) rfl) (Zq fh rfl) (Zq (ZL rfl fh) rfl)) ?_ rfl Kq0 [] Kq0 Z8.e;rintro h56 hS;refine r3 ?_;exact YO.Yt _ hL ⟨_,_,rfl,hS.only (.c k2 (.c k2 (.c k2 (.c k0 (.c k1 .n))))),YR⟩
     ·intro hc hL;refine WC.Yk mixed Kq0 ?_;refine r4 ?_;refine r1 ?_;refine WX.w gN rfl (Y8 XY (Zg lk (Zg lk Zx)) rfl (cs':= [.int .i64 x43.Zv,.int .i64 x43.name]) rfl) ?_ rfl;obtain⟨x57,ZJl,hL⟩:=bind_some hL;refine WX.ZjC (kv:=Zh) (vv:= (Value.int .i64)) (k:= (Ze.mk x43.Zv x43.name)) (z:=0) gN rfl YF Jo XF (Zq (ZO rfl (Zf rfl fh)) rfl) (Zq fh rfl) (hS.get k3).at_ ZJl 8 (w:= .int .i64 x57) rfl (fun _=>rfl) ?_ rfl;refine r1 ?_;refine WX.ZjR (kv:=Zh) (vv:= (Value.int .i64)) (k:= (Ze.mk x43.Zv x43.name)) (z:=0) gN rfl hS k3 YF Jo XF (Zq (ZO rfl (ZL rfl (Zf rfl fh))) rfl) (Zq (ZL rfl fh) rfl) ?_ rfl 6 Kq0 Kq0 (by simp);rintro _ h58 ⟨b59,rfl,hS⟩;refine WX.w gN rfl (Qh lk (v:= .int .i64 (b59:Nat)) rfl) ?_ Kq0;refine WX.hu gN (ZdI (kv:=Zh) (vv:= (Value.int .i64)) (v:=ZF (x57 + 16)) hS k0 (Zq (ZM rfl (Zf rfl fh)) rfl) (Zq fh rfl) (Zq (ZL rfl fh) rfl)) ?_ rfl Kq0 [] Kq0 Z8.e;rintro h60 hS;refine r3 ?_;exact YO.Yt _ hL ⟨_,_,rfl,hS.only (.c k2 (.c k2 (.c k0 (.c k1 (.c k1 .n))))),YR⟩
  ·intro hc hL;refine r6 ?_;refine WC.Yk mixed Kq0 ?_;refine r1 ?_;refine WX.wr (fun x=>x=b3) hS gN rfl (fun _ _ hR=>ZU ZmA (Zq (ZL rfl e26) rfl) (At.eqv (hR b3 rfl) (hS.QF k1)) (j:=0) rfl (v:= .map (some b8)) rfl) ?_ rfl rfl;rintro h61 e62 hS;refine WX.hu gN (Wu hS k0 Zk8 lk lk (vs:= [.map (some b6)]) rfl rfl rfl rfl (cs':= [.map (some b6)]) rfl) ?_ rfl rfl [1] Kq0 (.c .z (hS.dj (.c k0 (.c k0 .n))) Z8.e);rintro h63 hS;refine WX.hu gN (Wu hS k1 Zk8 lk lk (vs:= [.map (some b8)]) rfl rfl rfl rfl (cs':= [.map (some b8)]) rfl) ?_ rfl Kq0 [] Kq0 Z8.e;rintro h64 hS;refine r3 ?_;refine Qb.ZDa hS k4 ?_;rintro h65 hS;have hr:=Oi0 hL;subst hr;exact Qb.gen rfl (ZT (ZL rfl (Zf rfl e25)) (KS ZmA (hS.QF k1) (j:=0) rfl (v:= .map (some b6)) rfl) (ZT (ZL rfl (Zf rfl e26)) (KS ZmA (hS.QF k0) (j:=0) rfl (v:= .map (some b8)) rfl) Zm)) rfl ⟨_,⟨b6,b8,rfl,rfl⟩,hT ▸ hS.only (.c k2 (.c k2 .n))⟩
 ·skip;simp only [ZI,ZN,Nat.reduceAdd];refine r6 ?_;refine WC.loop (WL.lift hL (fun(p:Int×(List (Ze×Int))×(List (Ze×Int))) (s:Fs)=>match p with | (v70,v72,v73)=>∃ (Zvq:Fr) (h66:H),s= ⟨Zvq,[],h66,none⟩∧Sp wm T h [bx wm b11 [.pointer (some ⟨Xx,U4,none⟩)],bx wm b1 [.map (some b6)],bx wm b3 [.map (some b8)],mp wm Zh (Value.int .i64) (some b6) v72,mp wm Zh (Value.int .i64) (some b8) v73,ob wm l14 Zzr,ob wm Zn1 .deferred] h66∧Zvq.at 0= .func (.yield l14) #[] #[]∧Zvq.at 1= .pointer (some ⟨b11,0,none⟩)∧Zvq.at 3= .int .i64 v70) ⟨_,_,rfl,hS.only (.c k2 (.c k3 (.c k2 (.c k3 (.c k2 (.c k0 (.c k0 .n))))))),YR⟩ ?_);clear hL hS;rintro Zeb ⟨v70,v72,v73⟩ s Zlu hL ⟨Zvq,h66,rfl,hS,e68,e69,e71⟩;dsimp only [ZpE] at hL;refine r6 ?_;refine r1 ?_;refine WO.w gN rfl (ZU Xu (Zq fh rfl) (At.fz hS.fz Y5 Y6) (j:=0) rfl (v:= .int .i64 p0.machines) rfl) ?_;refine r3 ?_;refine cn hL ?_ ?_
  ·intro hc hL;refine r8 ?_;refine r2 ?_;refine WC.loop (WL.lift hL (fun(p:Int×(List (Ze×Int))×(List (Ze×Int))) (s:Fs)=>match p with | (v80,v82,v83)=>∃ (Zsk:Fr) (h75:H),s= ⟨Zsk,[],h75,none⟩∧Sp wm T h [bx wm b11 [.pointer (some ⟨Xx,U4,none⟩)],bx wm b1 [.map (some b6)],bx wm b3 [.map (some b8)],mp wm Zh (Value.int .i64) (some b6) v82,mp wm Zh (Value.int .i64) (some b8) v83,ob wm l14 Zzr,ob wm Zn1 .deferred] h75∧Zsk.at 0= .func (.yield l14) #[] #[]∧Zsk.at 1= .pointer (some ⟨b11,0,none⟩)∧Zsk.at 3= .int .i64 v70∧Zsk.at 4= .int .i64 v80) ⟨_,_,rfl,hS.only (.c k0 (.c k0 (.c k0 (.c k0 (.c k0 (.c k0 (.c k0 .n))))))),YR⟩ ?_);clear hL hS;rintro Zd9 ⟨v80,v82,v83⟩ s ZqJ hL ⟨Zsk,h75,rfl,hS,e77,e78,e79,e81⟩;dsimp only [ZpD] at hL;refine r6 ?_;refine r1 ?_;refine WO.w gN rfl (ZU Xu (Zq fh rfl) (At.fz hS.fz Y5 Y6) (j:=1) rfl (v:= .int .i64 p0.names) rfl) ?_;refine r3 ?_;refine cn hL ?_ ?_
   ·intro hc hL;refine r8 ?_;refine r1 ?_;refine WO.w gN rfl (ZU Zhc (Zq fh rfl) (At.fz hS.fz Y5 Y6) (j:=2) rfl (v:= .map ZJ) rfl) ?_;refine r2 ?_;refine WO.w gN rfl (Y8 XY (Zg lk (Zg lk Zx)) rfl (cs':= [.int .i64 v70,.int .i64 v80]) rfl) ?_;obtain⟨x85,ZJe,hL⟩:=bind_some hL;refine WO.w gN rfl (Zas (kv:=Zh) (vv:=Zk) (k:= (Ze.mk v70 v80)) (z:= (Zb.mk 0 false 0 0 0 false)) YF Uq Uy (Zq (ZL rfl (Zf rfl fh)) rfl) (Zq fh rfl) (hS.ms ZK).at_ ZJe (w:= .agg [.int .i64 x85.1.name,.bool x85.1.root,.int .i64 x85.1.from_,.int .i64 x85.1.has,.int .i64 x85.1.out,.bool x85.1.use].toArray) rfl) ?_;refine r4 ?_;rintro _ h87 ⟨b86,ZPf,rfl,hS⟩;refine r1 ?_;rintro h88 hS;refine r8 ?_;refine r2 ?_;refine WO.ZlC (Zi.yes rfl rfl rfl (ZL rfl (Zf rfl fh))) (fun Zhh=>?_) (fun Zhh=>?_)
    ·replace hL:=WZ Zhh hL;refine WO.ZAQ (Zi.on (Zi.yes rfl rfl rfl (ZL rfl (Zf rfl fh))) Zhh) rfl (Xi (ZL rfl fh) rfl Zhh) (Zc (Xi (Zf rfl fh) rfl Zhh) (Zc (Xi fh rfl Zhh) Zl)) hS k6 ZqS rfl rfl ?_;refine r6 ?_;refine r1 ?_;rintro _ h91 ⟨b90,ZPe,rfl,hS⟩;refine r1 ?_;rintro h92 hS;refine r1 ?_;refine AsK.sp ZqS hS k7 ?_;rintro h93 hS;refine WC.jn (r:=r) (fun(p:(List (Ze×Int))×(List (Ze×Int))) (s:Fs)=>match p with | (v96,v97)=>∃ (ZHb:Fr) (h94:H),s= ⟨ZHb,[],h94,none⟩∧Sp wm T h [bx wm b1 [.map (some b6)],bx wm b3 [.map (some b8)],bx wm b11 [.pointer (some ⟨Xx,U4,none⟩)],bx wm b86 [.int .i64 x85.1.name,.bool x85.1.root,.int .i64 x85.1.from_,.int .i64 x85.1.has,.int .i64 x85.1.out,.bool x85.1.use],mp wm Zh (Value.int .i64) (some b6) v96,mp wm Zh (Value.int .i64) (some b8) v97,ob wm l14 (bsy Zzr),ob wm Zn1 .deferred] h94) (ZlT F p0 v80 Zd9) ?_ ?_
     ·clear hL hS;rintro⟨v96,v97⟩ s hL ⟨ZHb,h94,rfl,hS⟩;dsimp only [ZlT] at hL;refine BdK.sp ZqS hS k6 ?_;rintro h98 hS;refine WO.w (Zi.on (Zi.yes rfl rfl rfl (ZO rfl fh)) Zhh) rfl (Zmu lk) ?_;refine WO.w gN rfl (Zms lk Zhh lk) ?_;refine r2 ?_;refine cn hL ?_ ?_
      ·intro hc hL;refine r8 ?_;refine r1 ?_;exact ZR.gen (vs:= []) rfl Zm rfl ⟨_,hL,⟨rfl,hS.only (.c k1 (.c k1 (.c k1 (.c k2 (.c k2 (.c k0 (.c k1 .n)))))))⟩⟩
      ·intro hc hL;refine r8 ?_;exact Yy.Yt (ZqJ _ _ hL ⟨_,_,rfl,hS.only (.c k3 (.c k1 (.c k1 (.c k2 (.c k2 (.c k0 (.c k1 .n))))))),YR⟩)
     ·skip;refine r2 ?_;refine WC.Yk mixed Kq0 ?_;refine r4 ?_;refine WX.w gN rfl (Y8 XY (Zg lk (Zg lk Zx)) rfl (cs':= [.int .i64 v70,.int .i64 x85.1.name]) rfl) ?_ rfl;obtain⟨x99,hx99,hL⟩:=bind_some hL;refine WX.ZjC (kv:=Zh) (vv:= (Value.int .i64)) (k:= (Ze.mk v70 x85.1.name)) (z:=0) gN rfl YF Jo XF (Zq (ZO rfl fh) rfl) (Zq fh rfl) (hS.get k6).at_ hx99 9 (w:= .int .i64 x99) rfl (fun _=>rfl) ?_ rfl;refine r3 ?_;refine WX.ZjR (kv:=Zh) (vv:= (Value.int .i64)) (k:= (Ze.mk v70 x85.1.name)) (z:=0) gN rfl hS k6 YF Jo XF (Zq (ZM rfl fh) rfl) (Zq (ZO rfl fh) rfl) ?_ rfl 5 Kq0 Kq0 (by simp);rintro _ ZKy ⟨ZHI,rfl,hS⟩;refine WX.w gN rfl (Qh lk (v:= .int .i64 (ZHI:Nat)) rfl) ?_ Kq0;refine WX.hu gN (ZdI (kv:=Zh) (vv:= (Value.int .i64)) (v:=ZF (x99 + x85.1.out)) hS k0 (Zq (ZM rfl (ZL rfl fh)) rfl) (Zq fh rfl) (Zq (ZL rfl fh) rfl)) ?_ rfl Kq0 [] Kq0 Z8.e;rintro ZCu hS;refine r8 ?_;refine r1 ?_;refine cn hL ?_ ?_
      ·intro hc hL;refine WC.Yk mixed Kq0 ?_;refine r4 ?_;refine r1 ?_;refine WX.w gN rfl (Y8 XY (Zg lk (Zg lk Zx)) rfl (cs':= [.int .i64 x85.1.from_,.int .i64 x85.1.name]) rfl) ?_ rfl;obtain⟨x103,Zkw,hL⟩:=bind_some hL;refine WX.ZjC (kv:=Zh) (vv:= (Value.int .i64)) (k:= (Ze.mk x85.1.from_ x85.1.name)) (z:=0) gN rfl YF Jo XF (Zq (ZO rfl (Zf rfl fh)) rfl) (Zq fh rfl) (hS.get k7).at_ Zkw 10 (w:= .int .i64 x103) rfl (fun _=>rfl) ?_ rfl;refine r3 ?_;refine WX.ZjR (kv:=Zh) (vv:= (Value.int .i64)) (k:= (Ze.mk x85.1.from_ x85.1.name)) (z:=0) gN rfl hS k7 YF Jo XF (Zq (ZM rfl (Zf rfl fh)) rfl) (Zq (ZO rfl fh) rfl) ?_ rfl 6 Kq0 Kq0 (by simp);rintro _ ZO3 ⟨ZHH,rfl,hS⟩;refine WX.w gN rfl (Qh lk (v:= .int .i64 (ZHH:Nat)) rfl) ?_ Kq0;refine WX.hu gN (ZdI (kv:=Zh) (vv:= (Value.int .i64)) (v:=ZF (x103 + x85.1.has)) hS k0 (Zq (ZM rfl (ZL rfl (Zf rfl fh))) rfl) (Zq fh rfl) (Zq (ZL rfl fh) rfl)) ?_ rfl Kq0 [] Kq0 Z8.e;rintro ZKx hS;refine r2 ?_;exact JnK.Yt _ hL ⟨_,_,rfl,hS.only (.c k6 (.c k6 (.c k5 (.c k4 (.c k1 (.c k0 (.c k0 (.c k1 .n))))))))⟩
      ·intro hc hL;refine r2 ?_;exact JnK.Yt _ hL ⟨_,_,rfl,hS.only (.c k5 (.c k5 (.c k4 (.c k3 (.c k0 (.c k2 (.c k0 (.c k1 .n))))))))⟩
    ·replace hL:=W9 Zhh hL;refine WO.Zna (Zi.yes rfl rfl rfl (ZL rfl (Zf rfl fh))) Zhh rfl ?_;refine WO.Zna (Zi.yes rfl rfl rfl (ZO rfl fh)) Zhh rfl ?_;refine WO.w gN rfl (Zmt lk Zhh lk) ?_;refine r2 ?_;refine WC.Zb3 lk rfl ?_;refine r8 ?_;exact Yy.Yt (ZqJ _ _ hL ⟨_,_,rfl,hS.only (.c k1 (.c k1 (.c k1 (.c k1 (.c k1 (.c k1 (.c k1 .n))))))),YR⟩)
   ·intro hc hL;refine r8 ?_;refine r3 ?_;exact Yy.Yt (Zlu _ _ hL ⟨_,_,rfl,hS.only (.c k0 (.c k0 (.c k0 (.c k0 (.c k0 (.c k0 (.c k0 .n))))))),YR⟩)
  ·intro hc hL;refine r4 ?_;refine ZR.Yt ?_;exact ZR.gen (vs:= []) rfl Zm rfl ⟨_,hL,⟨rfl,hS.only (.c k1 (.c k1 (.c k0 (.c k0 (.c k0 (.c k0 (.c k0 .n)))))))⟩⟩
theorem ZCH {wm:Nat} {h:H} {p0:(List ZV)} {p1 p2:Int} {Zt:Option Addr} {Zr XC:Nat} {r:(List ZV)} (ZG:wm <=h.size) (hO:ZQ (wm:=wm) [ow wm YK Zt XC Zr p0] h) (hL:ZvB p0 p1 p2=some r):
 WR XX 78 #[.slice Zt XC Zr,.int .i64 p1,.int .i64 p2] wm h (CP (fun(v:Value) (Gb:List (Ast wm))=>∃ (XI:Option Addr) (XG:Nat) (XH:Nat),v= .slice XI XG XH∧Gb= [ow wm YK XI XG XH r]) [ow wm YK Zt XC Zr p0] h):=by
 refine bg Try.ntmps78 ZG hO ?_;intro T hT hS;unfold ZvB at hL;obtain rfl:=hS.on k0;refine JP ?_;obtain⟨z1,hz1,hL⟩:=bind_some hL;refine WO.he gN rfl (ZtN (hS.get k0).2 rfl QL Xe (Zq (ZO rfl fh) rfl) (Zq (ZL rfl (Zf rfl fh)) rfl) (Zq (ZL rfl fh) rfl) (Zq fh rfl) hz1) ?_;rintro v2 hv3;refine r8 ?_;refine r2 ?_;refine cn hL ?_ ?_
 ·intro hc hL;refine r8 ?_;have hr:=Oi0 hL;subst hr;exact ZR.Jh rfl (ZB lk Zm) ⟨_,⟨Zt,p0.length,Zr,rfl,rfl⟩,hT ▸ hS.only (.c k0 .n)⟩
 ·intro hc hL;refine r8 ?_;refine r2 ?_;refine WC.Yk mixed Kq0 ?_;refine r2 ?_;obtain⟨z4,hz4,hL⟩:=bind_some hL;have ZiB:= (hS.get k0).2.cap;refine WX.he gN rfl (ZtL (hS.get k0).2 rfl QL Xe (Zq (Zf rfl fh) rfl) (Zq fh rfl) hz4) ?_ rfl;rintro _ ⟨a5,c6,ea7,ec8,rfl,ZBx⟩;have ZvP:=ec8.symm;refine r2 ?_;obtain⟨z13,Zo6,hL⟩:=bind_some hL;refine WX.he gN rfl (ZtO (hS.get k0).2 rfl QL Xe (Zq (Zf rfl fh) rfl) (.inr ⟨_,YM (Zq fh rfl)⟩) (.inl ⟨rfl,rfl⟩) Zo6) ?_ rfl;rintro _ ⟨a14,c15,rfl,ZBw⟩;obtain⟨z17,Zo5,hL⟩:=bind_some hL;have ZBl:= (ZBw.own (hS.get k0).2).src;have hS:=hS.sub k0 ZBx;refine WX.hv gN rfl (ZzF (e:=YK) hS k0 Zat lk lk ZBl rfl Zo5 (ZvP ▸ Nat.le_trans (ZhH hz1 hz4 Zo6 Zo5) ZiB)) ?_ rfl rfl [] Kq0 Z8.e;rintro _ h19 ⟨rfl,hS⟩;refine WX.w gN rfl (Yb lk) ?_ Kq0;refine r8 ?_;refine WO.he gN rfl (ZtK (hS.get k0).2 QL Xe (Zq (ZL rfl (Zf rfl fh)) rfl) (Zq (Zf rfl fh) rfl) (Zq fh rfl) (ZhH hz1 hz4 Zo6 Zo5) (ZvP ▸ ZiB)) ?_;rintro _ ⟨a20,c21,rfl,ZBy⟩;refine WO.hw gN (ZzE hS k0 ZBy rfl QL Zbz rfl (Zq fh rfl)) ?_;rintro h24 hS;refine r8 ?_;refine r1 ?_;have hr:=Oi0 hL;subst hr;exact ZR.Jh rfl (ZB lk Zm) ⟨_,⟨a5,z17.length,c6,rfl,rfl⟩,hT ▸ hS.only (.c k0 .n)⟩
theorem ZCG {F wm:Nat} {h:H} {p0:(List ZV)} {p1:ZV} {Zt:Option Addr} {Zr:Nat} {r:Int} (ZG:wm <=h.size) (ZK:Sl YK wm h Zt Zr p0) (hL:ZyI F p0 p1=some r):
 WR XX 79 #[.slice Zt p0.length Zr,.agg [.int .i64 p1.at_,.int .i64 p1.name].toArray] wm h (CP (fun(v:Value) (Gb:List (Ast wm))=>v= .int .i64 r∧Gb= []) [] h):=by
 refine bg Try.ntmps79 ZG ZQ.nil ?_;intro T hT hS;unfold ZyI at hL;refine r3 ?_;rintro _ h2 ⟨b1,eb1,rfl,hS⟩;refine JP ?_;refine WC.loop (WL.lift hL (fun(v8:Int) (s:Fs)=>∃ (fr4:Fr) (h3:H),s= ⟨fr4,[],h3,none⟩∧Sp wm T h [bx wm b1 [.int .i64 p1.at_,.int .i64 p1.name]] h3∧fr4.at 0= .slice Zt p0.length Zr∧fr4.at 3= .pointer (some ⟨b1,0,none⟩)∧fr4.at 7= .int .i64 (p0.length:Int)∧fr4.at 8= .int .i64 v8) ⟨_,_,rfl,hS.only (.c k0 .n),YR⟩ ?_);clear hL hS;rintro Zig v8 s Zly hL ⟨fr4,h3,rfl,hS,e5,e6,e7,e9⟩;dsimp only [Zf2] at hL;refine r6 ?_;refine cn hL ?_ ?_
 ·intro hc hL;refine r8 ?_;refine r3 ?_;refine WC.Yk mixed Kq0 ?_;refine r3 ?_;obtain⟨x11,Zlt,hL⟩:=bind_some hL;obtain⟨b12,o13,_,Zu1,Zvg,Zu8,ZGr⟩:=Sl.at_ ZK Zlt;refine WX.w gN rfl (Z5 QL Xe lk lk rfl Zu1 Zlt) ?_ rfl;refine WX.w gN rfl (Xq Zfe Xe (Zq fh rfl) (At.fz hS.fz Zu8 Zvg) (j:=0) rfl rfl (ws:= [.int .i64 x11.at_,.int .i64 x11.name]) rfl) ?_ rfl;refine WX.w gN rfl (Yi (Zq (ZO rfl fh) rfl) (Zq fh rfl) (Zjn (xs:= [.int .i64 p1.at_,.int .i64 p1.name]) (ys:= [.int .i64 x11.at_,.int .i64 x11.name]) (ZnS p1 x11) rfl rfl)) ?_ rfl;refine r2 ?_;refine cn hL ?_ ?_
  ·intro hc hL;refine JP ?_;exact rt hL hT hS
  ·intro hc hL;refine r6 ?_;refine r1 ?_;exact Yy.Yt (Zly _ _ hL ⟨_,_,rfl,hS.only (.c k0 .n),YR⟩)
 ·intro hc hL;refine r8 ?_;refine r3 ?_;exact rt hL hT hS
end Go.Proofs.Ytekpjgmhkkjhgaa
end
end
section
namespace Go.Proofs.Ytekpjgmhkkjhgaa
open Go.Lf
def ZlQ (p0:(List ZV)) (p1:(List ZV)):Int ->(Int ->Option Bool) ->Option Bool:=fun v6 Znb=>
 (bif decide (v6 < (p0.length:Int)) then(Ye p0 v6).bind fun x9=>(Ye p1 v6).bind fun x12=>(bif(!(Kn x9 x12)) then some false else Znb (ZF (v6 + 1))) else some true)
def Zsu (F:Nat) (p0:(List ZV)) (p1:(List ZV)):Option Bool:=
 (bif((p0.length:Int) != (p1.length:Int)) then some false else loop F (ZlQ p0 p1) 0)
def ZpB (p0:(List Zd)):Option (List Zd):=
 (app 40 ([]:List Zd) p0).bind fun z3=>some z3
def ZpA (p0:(List Int)):Option (List Int):=
 (app 8 ([]:List Int) p0).bind fun z3=>some z3
def ZiL (v25:Int) (ZfG:(Int×(List Int) ->Option (List Int))):(List Int) ->Option (List Int):=fun v39=>
 ZfG (ZF (v25 + 1),v39)
def ZiM (p0:Store) (p1:Int):Int×(List Int) ->(Int×(List Int) ->Option (List Int)) ->Option (List Int):=fun(v25,v27) ZfG=>
 (bif decide (v25 < (p0.notes.length:Int)) then(Ye p0.notes v25).bind fun x43=>(bif((x43.kind==3) && (x43.name==p1)) then(app 8 v27 [x43.Zv]).bind fun z51=>(ZiL v25 ZfG) z51 else(ZiL v25 ZfG) v27) else some v27)
def ZfZ (F:Nat) (p0:Store) (p1:Int):(List Int) ->Option (List Int):=fun v14=>
 loop F (ZiM p0 p1) (0,v14)
def ZlP (F:Nat) (p0:Store) (p1:Int) (v73:Int) (Zea:(Int×(List Int) ->Option (List Int))):(List Int) ->Option (List Int):=fun v91=>
 (bif(!true) then(ZfZ F p0 p1) v91 else Zea (ZF (v73 + 1),v91))
def Zpx (F:Nat) (p0:Store) (p1:Int) (v61:Int) (Zlj:(Int×(List Int) ->Option (List Int))):Int×(List Int) ->(Int×(List Int) ->Option (List Int)) ->Option (List Int):=fun(v73,v75) Zea=>
 (bif decide (v73 < p0.names) then(ZaH p0.cells (Ze.mk v61 v73) (Zb.mk 0 false 0 0 0 false)).bind fun x80=>(bif x80.2 then(bif((x80.1.name==p1) && x80.1.root) then(app 8 v75 [v61]).bind fun z98=>(ZlP F p0 p1 v73 Zea) z98 else(ZlP F p0 p1 v73 Zea) v75) else Zea (ZF (v73 + 1),v75)) else Zlj (ZF (v61 + 1),v75))
def Zpy (F:Nat) (p0:Store) (p1:Int):Int×(List Int) ->(Int×(List Int) ->Option (List Int)) ->Option (List Int):=fun(v61,v63) Zlj=>
 (bif decide (v61 < p0.machines) then loop F (Zpx F p0 p1 v61 Zlj) (0,v63) else(ZfZ F p0 p1) v63)
def Zvx (F:Nat) (p0:Store) (p1:Int):Option (List Int):=
 loop F (Zpy F p0 p1) (0,[])
def ZiI (v7:Int) (Us:(Int ->Option Bool)):Unit ->Option Bool:=fun _=>
 Us (ZF (v7 + 1))
def ZiJ (p0:Store) (p1:Int) (p2:Int) (v7:Int) (Us:(Int ->Option Bool)):Int×Bool×Int×Int×Bool×Int×Int×Int×Bool ->(Int×Bool×Int×Int×Bool×Int×Int×Int×Bool ->Option Bool) ->Option Bool:=fun(v26,v29,v34,v36,v37,v38,v39,v40,v41) Zue=>
 (bif decide (v34 < p0.machines) then(bif(v26==p2) then(ZiI v7 Us) () else(bif((!v29) || (decide (v38 < 0))) then some false else(ZaH p0.cells (Ze.mk v38 p1) (Zb.mk 0 false 0 0 0 false)).bind fun x43=>Zue (v38,x43.2,ZF (v34 + 1),x43.1.name,x43.1.root,x43.1.from_,x43.1.has,x43.1.out,x43.1.use))) else(bif(v26 !=p2) then some false else(ZiI v7 Us) ()))
def ZiK (F:Nat) (p0:Store) (p1:Int) (p2:Int):Int ->(Int ->Option Bool) ->Option Bool:=fun v7 Us=>
 (bif decide (v7 < p0.machines) then(ZaH p0.cells (Ze.mk v7 p1) (Zb.mk 0 false 0 0 0 false)).bind fun x17=>(bif(!x17.2) then(ZiI v7 Us) () else loop F (ZiJ p0 p1 p2 v7 Us) (v7,x17.2,0,x17.1.name,x17.1.root,x17.1.from_,x17.1.has,x17.1.out,x17.1.use)) else some true)
def Zst (F:Nat) (p0:Store) (p1:Int) (p2:Int):Option Bool:=
 loop F (ZiK F p0 p1 p2) 0
end Go.Proofs.Ytekpjgmhkkjhgaa
end
section
set_option maxRecDepth 20000
noncomputable section
namespace Go.Proofs.Ytekpjgmhkkjhgaa
open Go.Yw Go.Lf
theorem ZCE {F wm:Nat} {h:H} {p0 p1:(List ZV)} {Zt:Option Addr} {Zr:Nat} {Y3:Option Addr} {Y2:Nat} {r:Bool} (ZG:wm <=h.size) (ZK:Sl YK wm h Zt Zr p0) (UB:Sl YK wm h Y3 Y2 p1) (hL:Zsu F p0 p1=some r):
 WR XX 80 #[.slice Zt p0.length Zr,.slice Y3 p1.length Y2] wm h (CP (fun(v:Value) (Gb:List (Ast wm))=>v= .bool r∧Gb= []) [] h):=by
 refine bg Try.ntmps80 ZG ZQ.nil ?_;intro T hT hS;unfold Zsu at hL;refine JP ?_;refine r3 ?_;refine cn hL ?_ ?_
 ·intro hc hL;refine r6 ?_;refine r1 ?_;exact rt hL hT hS
 ·intro hc hL;refine r8 ?_;refine r3 ?_;refine WC.loop (WL.lift hL (fun(v6:Int) (s:Fs)=>∃ (Ul:Fr) (h1:H),s= ⟨Ul,[],h1,none⟩∧Sp wm T h [] h1∧Ul.at 0= .slice Zt p0.length Zr∧Ul.at 1= .slice Y3 p1.length Y2∧Ul.at 12= .int .i64 (p0.length:Int)∧Ul.at 13= .int .i64 v6) ⟨_,_,rfl,hS.only .n,YR⟩ ?_);clear hL hS;rintro Znb v6 s Zph hL ⟨Ul,h1,rfl,hS,e3,e4,e5,e7⟩;dsimp only [ZlQ] at hL;refine r6 ?_;refine cn hL ?_ ?_
  ·intro hc hL;refine r8 ?_;refine r3 ?_;refine WC.Yk mixed Kq0 ?_;refine r2 ?_;obtain⟨x9,hx9,hL⟩:=bind_some hL;obtain⟨b10,o11,_,Zu2,Zvh,Zu9,ZGs⟩:=Sl.at_ ZK hx9;refine WX.w gN rfl (Z5 QL Xe lk lk rfl Zu2 hx9) ?_ rfl;refine WX.w gN rfl (Xq Zfe Xe (Zq fh rfl) (At.fz hS.fz Zu9 Zvh) (j:=0) rfl rfl (ws:= [.int .i64 x9.at_,.int .i64 x9.name]) rfl) ?_ rfl;refine r2 ?_;obtain⟨x12,Zpb,hL⟩:=bind_some hL;obtain⟨b13,o14,_,Zu0,Zvf,Zu7,ZAq⟩:=Sl.at_ UB Zpb;refine WX.w gN rfl (Z5 QL Xe lk lk rfl Zu0 Zpb) ?_ rfl;refine WX.w gN rfl (Xq Zfe Xe (Zq fh rfl) (At.fz hS.fz Zu7 Zvf) (j:=0) rfl rfl (ws:= [.int .i64 x12.at_,.int .i64 x12.name]) rfl) ?_ rfl;refine WX.w gN rfl (Yi (Zq (ZO rfl fh) rfl) (Zq fh rfl) (Zoq (xs:= [.int .i64 x9.at_,.int .i64 x9.name]) (ys:= [.int .i64 x12.at_,.int .i64 x12.name]) (ZnS x9 x12) rfl rfl)) ?_ rfl;refine r2 ?_;refine cn hL ?_ ?_
   ·intro hc hL;refine r8 ?_;refine r3 ?_;exact rt hL hT hS
   ·intro hc hL;refine r6 ?_;refine r1 ?_;exact Yy.Yt (Zph _ _ hL ⟨_,_,rfl,hS.only .n,YR⟩)
  ·intro hc hL;refine r8 ?_;refine r3 ?_;exact rt hL hT hS
theorem ZCF {F:Nat} {h:H} {p0 p1:(List ZV)} {Zt:Option Addr} {Zr:Nat} {Y3:Option Addr} {Y2:Nat} {r:Bool} (ZK:Sl YK h.size h Zt Zr p0) (UB:Sl YK h.size h Y3 Y2 p1) (hL:Zsu F p0 p1=some r):Pure XX 80 #[.slice Zt p0.length Zr,.slice Y3 p1.length Y2] h (.bool r):=
 WR.QV rfl (ZCE (Nat.le_refl _) ZK UB hL)
theorem ZvA {wm:Nat} {h:H} {p0:(List Zd)} {Zt:Option Addr} {Zr:Nat} {r:(List Zd)} (ZG:wm <=h.size) (ZK:Sl Zj wm h Zt Zr p0) (hL:ZpB p0=some r):
 WR XX 86 #[.slice Zt p0.length Zr] wm h (CP (fun(v:Value) (Gb:List (Ast wm))=>∃ (XI:Option Addr) (XG:Nat) (XH:Nat),v= .slice XI XG XH∧Gb= [ow wm Zj XI XG XH r]) [] h):=by
 refine bg Try.ntmps86 ZG ZQ.nil ?_;intro T hT hS;unfold ZpB at hL;refine r8 ?_;rcases Sl.cases ZK with⟨rfl,rfl,rfl⟩ | ⟨qa,rfl⟩
 ·
  refine r1 ?_;refine WO.w gN rfl (Yi (Zq fh rfl) (Jy rfl) (ZgF UE)) ?_;refine r2 ?_;refine WC.Zgq lk rfl ?_;rw [Zp4 _ (by decide)] at hL;replace hL:some []=some r:=hL;refine r6 ?_;refine r1 ?_;have hS:=hS.nil (e:=Zj);have hr:=Oi0 hL;subst hr;exact ZR.Jh rfl (ZB lk Zm) ⟨_,⟨none,0,0,rfl,rfl⟩,hT ▸ hS.only (.c k0 .n)⟩
 ·
  refine r1 ?_;refine WO.w gN rfl (Yi (Zq fh rfl) (Jy rfl) (ZgG UE)) ?_;refine r2 ?_;refine WC.Zb3 lk rfl ?_;refine r4 ?_;refine WO.hn gN rfl (Zfu (e:=Zj) hS UE XA Zfo rfl rfl rfl Zx rfl [] rfl (xs:= ([]:List Zd)) rfl (by intro q hq;cases hq) rfl) ?_;rintro _ h2 ⟨b1,eb1,rfl,hS⟩;refine r1 ?_;obtain⟨z3,hz3,hL⟩:=bind_some hL;refine WO.hv gN rfl (Zd3 (e:=Zj) hS k0 Zjj lk lk (Sl.src (hS.sl ZK)) rfl hz3) ?_;rintro _ h6 ⟨a4,c5,rfl,hS⟩;refine r4 ?_;have hr:=Oi0 hL;subst hr;exact ZR.Jh rfl (ZB lk Zm) ⟨_,⟨a4,z3.length,c5,rfl,rfl⟩,hT ▸ hS.only (.c k0 .n)⟩
theorem Zvz {wm:Nat} {h:H} {p0:(List Int)} {Zt:Option Addr} {Zr:Nat} {r:(List Int)} (ZG:wm <=h.size) (ZK:Sl (ZW .i64) wm h Zt Zr p0) (hL:ZpA p0=some r):
 WR XX 87 #[.slice Zt p0.length Zr] wm h (CP (fun(v:Value) (Gb:List (Ast wm))=>∃ (XI:Option Addr) (XG:Nat) (XH:Nat),v= .slice XI XG XH∧Gb= [ow wm (ZW .i64) XI XG XH r]) [] h):=by
 refine bg Try.ntmps87 ZG ZQ.nil ?_;intro T hT hS;unfold ZpA at hL;refine r8 ?_;rcases Sl.cases ZK with⟨rfl,rfl,rfl⟩ | ⟨qa,rfl⟩
 ·
  refine r1 ?_;refine WO.w gN rfl (Yi (Zq fh rfl) (Jy rfl) (ZgF Qr)) ?_;refine r2 ?_;refine WC.Zgq lk rfl ?_;rw [Zp4 _ (by decide)] at hL;replace hL:some []=some r:=hL;refine r6 ?_;refine r1 ?_;have hS:=hS.nil (e:= (ZW .i64));have hr:=Oi0 hL;subst hr;exact ZR.Jh rfl (ZB lk Zm) ⟨_,⟨none,0,0,rfl,rfl⟩,hT ▸ hS.only (.c k0 .n)⟩
 ·
  refine r1 ?_;refine WO.w gN rfl (Yi (Zq fh rfl) (Jy rfl) (ZgG Qr)) ?_;refine r2 ?_;refine WC.Zb3 lk rfl ?_;refine r4 ?_;refine WO.hn gN rfl (Zfu (e:= (ZW .i64)) hS Qr Xl XF rfl rfl rfl Zx rfl [] rfl (xs:= ([]:List Int)) rfl (by intro q hq;cases hq) rfl) ?_;rintro _ h2 ⟨b1,eb1,rfl,hS⟩;refine r1 ?_;obtain⟨z3,hz3,hL⟩:=bind_some hL;refine WO.hv gN rfl (Zd3 (e:= (ZW .i64)) hS k0 Zfa lk lk (Sl.src (hS.sl ZK)) rfl hz3) ?_;rintro _ h6 ⟨a4,c5,rfl,hS⟩;refine r4 ?_;have hr:=Oi0 hL;subst hr;exact ZR.Jh rfl (ZB lk Zm) ⟨_,⟨a4,z3.length,c5,rfl,rfl⟩,hT ▸ hS.only (.c k0 .n)⟩
theorem ZCB {F wm:Nat} {h:H} {p0:Store} {p1:Int} {ZJ:Option Nat} {Zp:Option Addr} {Zo:Nat} {ZE:Option Addr} {ZC Xx U4:Nat} {r:(List Int)} (ZG:wm <=h.size) (Y6:At h Xx U4 [.int .i64 p0.machines,.int .i64 p0.names,.map ZJ,.slice Zp p0.notes.length Zo,.slice ZE p0.freed.length ZC]) (Y5:Stb wm h Xx) (ZK:Ud Zh Zk wm h ZJ p0.cells) (Yr:Sl Zj wm h Zp Zo p0.notes) (Yv:Sl (ZW .i64) wm h ZE ZC p0.freed) (hL:Zvx F p0 p1=some r):
 WR XX 90 #[.pointer (some ⟨Xx,U4,none⟩),.int .i64 p1] wm h (CP (fun(v:Value) (Gb:List (Ast wm))=>∃ (XI:Option Addr) (XG:Nat) (XH:Nat),v= .slice XI XG XH∧Gb= [ow wm (ZW .i64) XI XG XH r]) [] h):=by
 refine WF.Zgy (args:= [_,_]) (fn:=Try.f90) Kq0 (by exact rfl) Try.ntmps90 (by simp) ?_;simp only [ZI,ZN,Nat.reduceAdd];obtain⟨T,hT,hS⟩:∃ T,T=XM (wm:=wm) []∧Sp wm T h [] h:= ⟨_,rfl,Sp.start ZG ZQ.nil⟩
 unfold Zvx at hL;refine r3 ?_;rintro _ h2 ⟨b1,eb1,rfl,hS⟩;refine r6 ?_;rintro _ h4 ⟨b3,eb3,rfl,hS⟩;refine r6 ?_;refine WO.inl gN rfl (Xj.fn ZuN (Zc lk Zl)) (WF.begin (args:= [_]) (fn:=Try.f71) Kq0 (by exact rfl) Try.ntmps71 (by simp) ?_);simp only [ZI,ZN,Nat.reduceAdd];refine r3 ?_;rintro _ h6 ⟨b5,eb5,rfl,hS⟩;refine r4 ?_;refine r1 ?_;refine WO.w gN rfl (Zeq (Zc lk Zl)) ?_;refine r4 ?_;refine ZR.Jh rfl (ZB lk Zm) ?_;refine r3 ?_;refine WC.ZoN (first:= []) (cap:= [.pointer (some ⟨b5,0,none⟩)]) hS lk Zpn ?_;intro h7 l8 df9 Zzs ZqT hS;refine WR.Zr6 (r:=r) (fun(v14:(List Int)) (v:Value) (h12:H)=>∃ (a15:Option Addr) (c16:Nat) (n17:Nat),v= .tuple [].toArray∧Sp wm T h [bx wm b1 [.int .i64 p1],ow wm (ZW .i64) a15 n17 c16 v14,bx wm b3 [.slice a15 n17 c16],bx wm b5 [.pointer (some ⟨Xx,U4,none⟩)],ob wm l8 Zzs,ob wm df9 .deferred] h12) (ZfZ F p0 p1) ?_ (WF.begin (args:= [_,_]) (fn:=Try.f110) Kq0 (by exact rfl) Try.ntmps110 (by simp) ?_)
 ·clear hL hS;rintro v14 v h12 hL ⟨a15,c16,n17,rfl,hS⟩;obtain rfl:=hS.on k1;dsimp only [ZfZ] at hL;refine RgE.sp ZqT hS k4 ?_;rintro h18 hS;refine r8 ?_;refine WO.w gN rfl (ZU Zon (Zq fh rfl) (At.fz hS.fz Y5 Y6) (j:=3) rfl (v:= .slice Zp p0.notes.length Zo) rfl) ?_;refine r4 ?_;refine r1 ?_;refine WC.loop (WL.lift hL (fun(p:Int×(List Int)) (s:Fs)=>match p with | (v25,v27)=>∃ (Zal:Fr) (h19:H) (a28:Option Addr) (c29:Nat) (n30:Nat),s= ⟨Zal,[⟨.collected df9,#[]⟩],h19,none⟩∧Sp wm T h [bx wm b1 [.int .i64 p1],ow wm (ZW .i64) a28 n30 c29 v27,bx wm b3 [.slice a28 n30 c29],ob wm df9 .deferred] h19∧Zal.at 3= .pointer (some ⟨b1,0,none⟩)∧Zal.at 5= .pointer (some ⟨b3,0,none⟩)∧Zal.at 29= .slice Zp p0.notes.length Zo∧Zal.at 30= .int .i64 (p0.notes.length:Int)∧Zal.at 31= .int .i64 v25) ⟨_,_,a15,c16,v14.length,rfl,hS.only (.c k0 (.c k0 (.c k0 (.c k1 .n)))),YR⟩ ?_);clear hL hS;rintro ZfG ⟨v25,v27⟩ s ZxW hL ⟨Zal,h19,a28,c29,n30,rfl,hS,e21,e22,e23,e24,e26⟩;obtain rfl:=hS.on k1;dsimp only [ZiM] at hL;refine r6 ?_;refine cn hL ?_ ?_
  ·intro hc hL;refine r2 ?_;refine WC.Zav (r:=r) (fun(v39:(List Int)) (s:Fs)=>∃ (ZcK:Fr) (h32:H) (a40:Option Addr) (c41:Nat) (n42:Nat),s= ⟨ZcK,[⟨.collected df9,#[]⟩],h32,none⟩∧Sp wm T h [bx wm b1 [.int .i64 p1],ow wm (ZW .i64) a40 n42 c41 v39,bx wm b3 [.slice a40 n42 c41],ob wm df9 .deferred] h32∧ZcK.at 3= .pointer (some ⟨b1,0,none⟩)∧ZcK.at 5= .pointer (some ⟨b3,0,none⟩)∧ZcK.at 29= .slice Zp p0.notes.length Zo∧ZcK.at 30= .int .i64 (p0.notes.length:Int)∧ZcK.at 31= .int .i64 v25) (ZiL v25 ZfG) ?_ ?_
   ·clear hL hS;rintro v39 s hL ⟨ZcK,h32,a40,c41,n42,rfl,hS,e34,e35,e36,e37,e38⟩;obtain rfl:=hS.on k1;dsimp only [ZiL] at hL;refine r4 ?_;exact Yy.Yt (ZxW _ _ hL ⟨_,_,a40,c41,v39.length,rfl,hS.only (.c k0 (.c k0 (.c k0 (.c k0 .n)))),YR⟩)
   ·skip;refine r3 ?_;obtain⟨x43,Zo9,hL⟩:=bind_some hL;obtain⟨b44,o45,_,ZuX,Zva,Zu5,ZGn⟩:=Sl.at_ Yr Zo9;refine WO.w gN rfl (Z5 UE XA lk lk rfl ZuX Zo9) ?_;refine WO.w gN rfl (Xq ZdU XA (Zq fh rfl) (At.fz hS.fz Zu5 Zva) (j:=0) rfl rfl (ws:= [.int .i64 x43.kind,.int .i64 x43.Zv,.int .i64 x43.name,.int .i64 x43.via,.int .i64 x43.w]) rfl) ?_;refine r1 ?_;rintro _ h47 ⟨b46,ZKK,rfl,hS⟩;refine r1 ?_;rintro h48 hS;refine JP ?_;refine r3 ?_;refine cn hL ?_ ?_
    ·intro hc hL;refine r4 ?_;refine WO.hn gN rfl (Zfu (e:= (ZW .i64)) hS Qr Xl XF rfl rfl rfl (Zg lk Zx) rfl [((),x43.Zv)] rfl (xs:= [x43.Zv]) rfl (by intro q hq;simp only [List.mem_cons,List.not_mem_nil,or_false] at hq;subst hq;exact trivial) rfl) ?_;rintro _ h50 ⟨b49,ZKJ,rfl,hS⟩;obtain⟨z51,ZI8,hL⟩:=bind_some hL;refine WO.hv gN rfl (Zd3 (e:= (ZW .i64)) hS k3 Zfa lk lk (hS.QH k0) (hS.on k0) ZI8) ?_;rintro _ h54 ⟨a52,c53,rfl,hS⟩;refine r1 ?_;rintro h55 hS;refine r2 ?_;exact YO.Yt _ hL ⟨_,_,a52,c53,z51.length,rfl,hS.only (.c k4 (.c k1 (.c k0 (.c k2 .n)))),YR⟩
    ·intro hc hL;refine r2 ?_;exact YO.Yt _ hL ⟨_,_,a28,c29,v27.length,rfl,hS.only (.c k1 (.c k1 (.c k1 (.c k1 .n)))),YR⟩
  ·intro hc hL;refine JP ?_;refine Qb.ZDa hS k3 ?_;rintro h56 hS;have hr:=Oi0 hL;subst hr;exact Qb.gen rfl (ZB lk Zm) rfl ⟨_,⟨a28,v27.length,c29,rfl,rfl⟩,hT ▸ hS.only (.c k1 .n)⟩
 ·skip;simp only [ZI,ZN,Nat.reduceAdd];refine r6 ?_;have hS:=hS.nil (e:= (ZW .i64));refine WC.loop (WL.lift hL (fun(p:Int×(List Int)) (s:Fs)=>match p with | (v61,v63)=>∃ (Zvr:Fr) (h57:H) (a64:Option Addr) (c65:Nat) (n66:Nat),s= ⟨Zvr,[],h57,none⟩∧Sp wm T h [bx wm b5 [.pointer (some ⟨Xx,U4,none⟩)],bx wm b1 [.int .i64 p1],ow wm (ZW .i64) a64 n66 c65 v63,bx wm b3 [.slice a64 n66 c65],ob wm l8 Zzs,ob wm df9 .deferred] h57∧Zvr.at 0= .func (.yield l8) #[] #[]∧Zvr.at 1= .pointer (some ⟨b5,0,none⟩)∧Zvr.at 3= .int .i64 v61) ⟨_,_,none,0,0,rfl,hS.only (.c k3 (.c k4 (.c k0 (.c k2 (.c k0 (.c k0 .n)))))),YR⟩ ?_);clear hL hS;rintro Zlj ⟨v61,v63⟩ s ZxO hL ⟨Zvr,h57,a64,c65,n66,rfl,hS,e59,e60,e62⟩;obtain rfl:=hS.on k2;dsimp only [Zpy] at hL;refine r6 ?_;refine r1 ?_;refine WO.w gN rfl (ZU Xu (Zq fh rfl) (At.fz hS.fz Y5 Y6) (j:=0) rfl (v:= .int .i64 p0.machines) rfl) ?_;refine r3 ?_;refine cn hL ?_ ?_
  ·intro hc hL;refine r8 ?_;refine r2 ?_;refine WC.loop (WL.lift hL (fun(p:Int×(List Int)) (s:Fs)=>match p with | (v73,v75)=>∃ (Zsl:Fr) (h68:H) (a76:Option Addr) (c77:Nat) (n78:Nat),s= ⟨Zsl,[],h68,none⟩∧Sp wm T h [bx wm b5 [.pointer (some ⟨Xx,U4,none⟩)],bx wm b1 [.int .i64 p1],ow wm (ZW .i64) a76 n78 c77 v75,bx wm b3 [.slice a76 n78 c77],ob wm l8 Zzs,ob wm df9 .deferred] h68∧Zsl.at 0= .func (.yield l8) #[] #[]∧Zsl.at 1= .pointer (some ⟨b5,0,none⟩)∧Zsl.at 3= .int .i64 v61∧Zsl.at 4= .int .i64 v73) ⟨_,_,a64,c65,v63.length,rfl,hS.only (.c k0 (.c k0 (.c k0 (.c k0 (.c k0 (.c k0 .n)))))),YR⟩ ?_);clear hL hS;rintro Zea ⟨v73,v75⟩ s ZqK hL ⟨Zsl,h68,a76,c77,n78,rfl,hS,e70,e71,e72,e74⟩;obtain rfl:=hS.on k2;dsimp only [Zpx] at hL;refine r6 ?_;refine r1 ?_;refine WO.w gN rfl (ZU Xu (Zq fh rfl) (At.fz hS.fz Y5 Y6) (j:=1) rfl (v:= .int .i64 p0.names) rfl) ?_;refine r3 ?_;refine cn hL ?_ ?_
   ·intro hc hL;refine r8 ?_;refine r1 ?_;refine WO.w gN rfl (ZU Zhc (Zq fh rfl) (At.fz hS.fz Y5 Y6) (j:=2) rfl (v:= .map ZJ) rfl) ?_;refine r2 ?_;refine WO.w gN rfl (Y8 XY (Zg lk (Zg lk Zx)) rfl (cs':= [.int .i64 v61,.int .i64 v73]) rfl) ?_;obtain⟨x80,ZBm,hL⟩:=bind_some hL;refine WO.w gN rfl (Zas (kv:=Zh) (vv:=Zk) (k:= (Ze.mk v61 v73)) (z:= (Zb.mk 0 false 0 0 0 false)) YF Uq Uy (Zq (ZL rfl (Zf rfl fh)) rfl) (Zq fh rfl) (hS.ms ZK).at_ ZBm (w:= .agg [.int .i64 x80.1.name,.bool x80.1.root,.int .i64 x80.1.from_,.int .i64 x80.1.has,.int .i64 x80.1.out,.bool x80.1.use].toArray) rfl) ?_;refine r4 ?_;rintro _ h82 ⟨b81,ZPh,rfl,hS⟩;refine r1 ?_;rintro h83 hS;refine r8 ?_;refine r2 ?_;refine WO.ZlC (Zi.yes rfl rfl rfl (ZL rfl (Zf rfl fh))) (fun Zhi=>?_) (fun Zhi=>?_)
    ·replace hL:=WZ Zhi hL;refine WO.ZAQ (Zi.on (Zi.yes rfl rfl rfl (ZL rfl (Zf rfl fh))) Zhi) rfl (Xi (ZL rfl fh) rfl Zhi) (Zc (Xi (Zf rfl fh) rfl Zhi) (Zc (Xi fh rfl Zhi) Zl)) hS k5 ZqT rfl rfl ?_;refine r6 ?_;refine r1 ?_;rintro _ h86 ⟨b85,ZPg,rfl,hS⟩;refine r1 ?_;rintro h87 hS;refine r1 ?_;refine AsK.sp ZqT hS k6 ?_;rintro h88 hS;refine WC.jn (r:=r) (fun(v91:(List Int)) (s:Fs)=>∃ (ZHc:Fr) (h89:H) (a92:Option Addr) (c93:Nat) (n94:Nat),s= ⟨ZHc,[],h89,none⟩∧Sp wm T h [bx wm b1 [.int .i64 p1],ow wm (ZW .i64) a92 n94 c93 v91,bx wm b3 [.slice a92 n94 c93],bx wm b5 [.pointer (some ⟨Xx,U4,none⟩)],bx wm b81 [.int .i64 x80.1.name,.bool x80.1.root,.int .i64 x80.1.from_,.int .i64 x80.1.has,.int .i64 x80.1.out,.bool x80.1.use],ob wm l8 (bsy Zzs),ob wm df9 .deferred] h89) (ZlP F p0 p1 v73 Zea) ?_ ?_
     ·clear hL hS;rintro v91 s hL ⟨ZHc,h89,a92,c93,n94,rfl,hS⟩;obtain rfl:=hS.on k1;dsimp only [ZlP] at hL;refine BdK.sp ZqT hS k5 ?_;rintro h95 hS;refine WO.w (Zi.on (Zi.yes rfl rfl rfl (ZO rfl fh)) Zhi) rfl (Zmu lk) ?_;refine WO.w gN rfl (Zms lk Zhi lk) ?_;refine r2 ?_;refine cn hL ?_ ?_
      ·intro hc hL;refine r8 ?_;refine r1 ?_;exact ZR.gen (vs:= []) rfl Zm rfl ⟨_,hL,⟨a92,c93,v91.length,rfl,hS.only (.c k1 (.c k1 (.c k1 (.c k1 (.c k0 (.c k1 .n))))))⟩⟩
      ·intro hc hL;refine r8 ?_;exact Yy.Yt (ZqK _ _ hL ⟨_,_,a92,c93,v91.length,rfl,hS.only (.c k4 (.c k1 (.c k1 (.c k1 (.c k0 (.c k1 .n)))))),YR⟩)
     ·skip;refine JP ?_;refine r1 ?_;refine cn hL ?_ ?_
      ·intro hc hL;refine r3 ?_;refine WO.hn gN rfl (Zfu (e:= (ZW .i64)) hS Qr Xl XF rfl rfl rfl (Zg lk Zx) rfl [((),v61)] rfl (xs:= [v61]) rfl (by intro q hq;simp only [List.mem_cons,List.not_mem_nil,or_false] at hq;subst hq;exact trivial) rfl) ?_;rintro _ h97 ⟨b96,ZPc,rfl,hS⟩;obtain⟨z98,ZI4,hL⟩:=bind_some hL;refine WO.hv gN rfl (Zd3 (e:= (ZW .i64)) hS k6 Zfa lk lk (hS.QH k0) (hS.on k0) ZI4) ?_;rintro _ ZG8 ⟨a99,ZLa,rfl,hS⟩;refine r1 ?_;rintro ZCu hS;refine r2 ?_;exact JnK.Yt _ hL ⟨_,_,a99,ZLa,z98.length,rfl,hS.only (.c k7 (.c k1 (.c k0 (.c k4 (.c k3 (.c k1 (.c k2 .n)))))))⟩
      ·intro hc hL;refine r2 ?_;exact JnK.Yt _ hL ⟨_,_,a76,c77,v75.length,rfl,hS.only (.c k4 (.c k4 (.c k4 (.c k3 (.c k2 (.c k0 (.c k1 .n)))))))⟩
    ·replace hL:=W9 Zhi hL;refine WO.Zna (Zi.yes rfl rfl rfl (ZL rfl (Zf rfl fh))) Zhi rfl ?_;refine WO.Zna (Zi.yes rfl rfl rfl (ZO rfl fh)) Zhi rfl ?_;refine WO.w gN rfl (Zmt lk Zhi lk) ?_;refine r2 ?_;refine WC.Zb3 lk rfl ?_;refine r8 ?_;exact Yy.Yt (ZqK _ _ hL ⟨_,_,a76,c77,v75.length,rfl,hS.only (.c k1 (.c k1 (.c k1 (.c k1 (.c k1 (.c k1 .n)))))),YR⟩)
   ·intro hc hL;refine r8 ?_;refine r3 ?_;exact Yy.Yt (ZxO _ _ hL ⟨_,_,a76,c77,v75.length,rfl,hS.only (.c k0 (.c k0 (.c k0 (.c k0 (.c k0 (.c k0 .n)))))),YR⟩)
  ·intro hc hL;refine r4 ?_;refine ZR.Yt ?_;exact ZR.gen (vs:= []) rfl Zm rfl ⟨_,hL,⟨a64,c65,v63.length,rfl,hS.only (.c k1 (.c k1 (.c k1 (.c k0 (.c k0 (.c k0 .n))))))⟩⟩
theorem ZCz {F wm:Nat} {h:H} {p0:Store} {p1 p2:Int} {ZJ:Option Nat} {Zp:Option Addr} {Zo:Nat} {ZE:Option Addr} {ZC Xx U4:Nat} {r:Bool} (ZG:wm <=h.size) (Y6:At h Xx U4 [.int .i64 p0.machines,.int .i64 p0.names,.map ZJ,.slice Zp p0.notes.length Zo,.slice ZE p0.freed.length ZC]) (Y5:Stb wm h Xx) (ZK:Ud Zh Zk wm h ZJ p0.cells) (Yr:Sl Zj wm h Zp Zo p0.notes) (Yv:Sl (ZW .i64) wm h ZE ZC p0.freed) (hL:Zst F p0 p1 p2=some r):
 WR XX 91 #[.pointer (some ⟨Xx,U4,none⟩),.int .i64 p1,.int .i64 p2] wm h (CP (fun(v:Value) (Gb:List (Ast wm))=>v= .bool r∧Gb= []) [] h):=by
 refine bg Try.ntmps91 ZG ZQ.nil ?_;intro T hT hS;unfold Zst at hL;refine r4 ?_;refine r1 ?_;refine WC.scope ?_;refine r1 ?_;refine WC.label ?_;refine r6 ?_;refine r1 ?_;refine WO.w gN rfl (ZU Xu (Zq fh rfl) (At.fz hS.fz Y5 Y6) (j:=0) rfl (v:= .int .i64 p0.machines) rfl) ?_;refine r4 ?_;refine WC.loop (WL.lift hL (fun(v7:Int) (s:Fs)=>∃ (Ul:Fr) (h1:H),s= ⟨Ul,[],h1,none⟩∧Sp wm T h [] h1∧Ul.at 0= .pointer (some ⟨Xx,U4,none⟩)∧Ul.at 1= .int .i64 p1∧Ul.at 2= .int .i64 p2∧Ul.at 13= .int .i64 p0.machines∧Ul.at 14= .int .i64 v7) ⟨_,_,rfl,hS.only .n,YR⟩ ?_);clear hL hS;rintro Us v7 s Zix hL ⟨Ul,h1,rfl,hS,e3,e4,e5,e6,e8⟩;dsimp only [ZiK] at hL;refine r6 ?_;refine cn hL ?_ ?_
 ·intro hc hL;refine r2 ?_;refine WC.Zav (r:=r) (fun(_:Unit) (s:Fs)=>∃ (U6:Fr) (h10:H),s= ⟨U6,[],h10,none⟩∧Sp wm T h [] h10∧U6.at 0= .pointer (some ⟨Xx,U4,none⟩)∧U6.at 1= .int .i64 p1∧U6.at 2= .int .i64 p2∧U6.at 13= .int .i64 p0.machines∧U6.at 14= .int .i64 v7) (ZiI v7 Us) ?_ ?_
  ·clear hL hS;rintro _ s hL ⟨U6,h10,rfl,hS,e12,e13,e14,e15,e16⟩;dsimp only [ZiI] at hL;refine r4 ?_;exact Yy.Yt (Zix _ _ hL ⟨_,_,rfl,hS.only .n,YR⟩)
  ·skip;refine JP ?_;refine WO.w gN rfl (ZU Zhc (Zq fh rfl) (At.fz hS.fz Y5 Y6) (j:=2) rfl (v:= .map ZJ) rfl) ?_;refine r2 ?_;refine WO.w gN rfl (Y8 XY (Zg lk (Zg lk Zx)) rfl (cs':= [.int .i64 v7,.int .i64 p1]) rfl) ?_;obtain⟨x17,ZBu,hL⟩:=bind_some hL;refine WO.w gN rfl (Zas (kv:=Zh) (vv:=Zk) (k:= (Ze.mk v7 p1)) (z:= (Zb.mk 0 false 0 0 0 false)) YF Uq Uy (Zq (ZL rfl (Zf rfl fh)) rfl) (Zq fh rfl) (hS.ms ZK).at_ ZBu (w:= .agg [.int .i64 x17.1.name,.bool x17.1.root,.int .i64 x17.1.from_,.int .i64 x17.1.has,.int .i64 x17.1.out,.bool x17.1.use].toArray) rfl) ?_;refine r4 ?_;rintro _ h19 ⟨b18,ZPy,rfl,hS⟩;refine r1 ?_;rintro h20 hS;refine r8 ?_;refine r2 ?_;refine cn hL ?_ ?_
   ·intro hc hL;refine r3 ?_;exact YO.Yt _ hL ⟨_,_,rfl,hS.only .n,YR⟩
   ·intro hc hL;refine r8 ?_;refine WO.w gN rfl (ZU Xu (Zq fh rfl) (At.fz hS.fz Y5 Y6) (j:=0) rfl (v:= .int .i64 p0.machines) rfl) ?_;refine r4 ?_;refine WC.loop (WL.lift hL (fun(p:Int×Bool×Int×Int×Bool×Int×Int×Int×Bool) (s:Fs)=>match p with | (v26,v29,v34,v36,v37,v38,v39,v40,v41)=>∃ (Zhm:Fr) (h21:H),s= ⟨Zhm,[],h21,none⟩∧Sp wm T h [bx wm b18 [.int .i64 v36,.bool v37,.int .i64 v38,.int .i64 v39,.int .i64 v40,.bool v41]] h21∧Zhm.at 0= .pointer (some ⟨Xx,U4,none⟩)∧Zhm.at 1= .int .i64 p1∧Zhm.at 2= .int .i64 p2∧Zhm.at 7= .int .i64 v26∧Zhm.at 8= .pointer (some ⟨b18,0,none⟩)∧Zhm.at 9= .bool v29∧Zhm.at 13= .int .i64 p0.machines∧Zhm.at 14= .int .i64 v7∧Zhm.at 33= .int .i64 p0.machines∧Zhm.at 34= .int .i64 v34) ⟨_,_,rfl,hS.only (.c k0 .n),YR⟩ ?_);clear hL hS;rintro Zue ⟨v26,v29,v34,v36,v37,v38,v39,v40,v41⟩ s ZxV hL ⟨Zhm,h21,rfl,hS,e23,e24,e25,e27,e28,e30,e31,e32,e33,e35⟩;dsimp only [ZiJ] at hL;refine r6 ?_;refine cn hL ?_ ?_
    ·intro hc hL;refine JP ?_;refine cn hL ?_ ?_
     ·intro hc hL;refine r2 ?_;refine Wv.other rfl ?_;refine r2 ?_;refine Wv.other rfl ?_;refine r2 ?_;exact YO.Yt _ hL ⟨_,_,rfl,hS.only .n,YR⟩
     ·intro hc hL;refine JP ?_;refine r2 ?_;refine cn hL ?_ ?_
      ·intro hc hL;refine JP ?_;refine r1 ?_;refine YO.ret ?_;refine r3 ?_;refine Zta.ret ?_;exact rt hL hT hS
      ·intro hc hL;refine JP ?_;refine r1 ?_;refine WO.w gN rfl (ZU Zhc (Zq fh rfl) (At.fz hS.fz Y5 Y6) (j:=2) rfl (v:= .map ZJ) rfl) ?_;refine r2 ?_;refine WO.w gN rfl (Y8 XY (Zg lk (Zg lk Zx)) rfl (cs':= [.int .i64 v38,.int .i64 p1]) rfl) ?_;obtain⟨x43,Zo9,hL⟩:=bind_some hL;refine WO.w gN rfl (Zas (kv:=Zh) (vv:=Zk) (k:= (Ze.mk v38 p1)) (z:= (Zb.mk 0 false 0 0 0 false)) YF Uq Uy (Zq (ZL rfl (Zf rfl fh)) rfl) (Zq fh rfl) (hS.ms ZK).at_ Zo9 (w:= .agg [.int .i64 x43.1.name,.bool x43.1.root,.int .i64 x43.1.from_,.int .i64 x43.1.has,.int .i64 x43.1.out,.bool x43.1.use].toArray) rfl) ?_;refine r4 ?_;rintro h44 hS;refine r8 ?_;exact Yy.Yt (ZxV _ _ hL ⟨_,_,rfl,hS.only (.c k0 .n),YR⟩)
    ·intro hc hL;refine JP ?_;refine cn hL ?_ ?_
     ·intro hc hL;refine r6 ?_;refine r1 ?_;refine YO.ret ?_;refine r3 ?_;refine Zta.ret ?_;exact rt hL hT hS
     ·intro hc hL;refine r2 ?_;exact YO.Yt _ hL ⟨_,_,rfl,hS.only .n,YR⟩
 ·intro hc hL;refine r8 ?_;refine r3 ?_;refine Zta.ret ?_;exact rt hL hT hS
theorem ZCA {F:Nat} {h:H} {p0:Store} {p1 p2:Int} {ZJ:Option Nat} {Zp:Option Addr} {Zo:Nat} {ZE:Option Addr} {ZC Xx U4:Nat} {r:Bool} (Y6:At h Xx U4 [.int .i64 p0.machines,.int .i64 p0.names,.map ZJ,.slice Zp p0.notes.length Zo,.slice ZE p0.freed.length ZC]) (Y5:Stb h.size h Xx) (ZK:Ud Zh Zk h.size h ZJ p0.cells) (Yr:Sl Zj h.size h Zp Zo p0.notes) (Yv:Sl (ZW .i64) h.size h ZE ZC p0.freed) (hL:Zst F p0 p1 p2=some r):Pure XX 91 #[.pointer (some ⟨Xx,U4,none⟩),.int .i64 p1,.int .i64 p2] h (.bool r):=
 WR.QV rfl (ZCz (Nat.le_refl _) Y6 Y5 ZK Yr Yv hL)
end Go.Proofs.Ytekpjgmhkkjhgaa
end
end
section
namespace Go.Proofs.Ytekpjgmhkkjhgaa
open Go.Lf
def Zdn (p0:(List Int)) (p1:Int):Int ->(Int ->Option Int) ->Option Int:=fun v6 Znb=>
 (bif decide (v6 < (p0.length:Int)) then(Ye p0 v6).bind fun x9=>(bif(p1==x9) then some v6 else Znb (ZF (v6 + 1))) else some (-1))
def Zrb (F:Nat) (p0:(List Int)) (p1:Int):Option Int:=
 loop F (Zdn p0 p1) 0
end Go.Proofs.Ytekpjgmhkkjhgaa
end
section
set_option maxRecDepth 20000
noncomputable section
namespace Go.Proofs.Ytekpjgmhkkjhgaa
open Go.Yw Go.Lf
theorem ZyV {F wm:Nat} {h:H} {p0:(List Int)} {p1:Int} {Zt:Option Addr} {Zr:Nat} {r:Int} (ZG:wm <=h.size) (ZK:Sl (ZW .i64) wm h Zt Zr p0) (hL:Zrb F p0 p1=some r):
 WR XX 112 #[.slice Zt p0.length Zr,.int .i64 p1] wm h (CP (fun(v:Value) (Gb:List (Ast wm))=>v= .int .i64 r∧Gb= []) [] h):=by
 refine bg Try.ntmps112 ZG ZQ.nil ?_;intro T hT hS;unfold Zrb at hL;refine JP ?_;refine r2 ?_;refine WC.loop (WL.lift hL (fun(v6:Int) (s:Fs)=>∃ (Ul:Fr) (h1:H),s= ⟨Ul,[],h1,none⟩∧Sp wm T h [] h1∧Ul.at 0= .slice Zt p0.length Zr∧Ul.at 1= .int .i64 p1∧Ul.at 7= .int .i64 (p0.length:Int)∧Ul.at 8= .int .i64 v6) ⟨_,_,rfl,hS.only .n,YR⟩ ?_);clear hL hS;rintro Znb v6 s Zph hL ⟨Ul,h1,rfl,hS,e3,e4,e5,e7⟩;dsimp only [Zdn] at hL;refine r6 ?_;refine cn hL ?_ ?_
 ·intro hc hL;refine JP ?_;refine r3 ?_;obtain⟨x9,hx9,hL⟩:=bind_some hL;obtain⟨b10,o11,_,Zu2,Zvh,Zu9,ZGs⟩:=Sl.at_ ZK hx9;refine WO.w gN rfl (Z5 Qr Xl lk lk rfl Zu2 hx9) ?_;refine WO.w gN rfl (ZU Xu (Zq fh rfl) (At.fz hS.fz Zu9 Zvh) (j:=0) rfl (v:= .int .i64 x9) rfl) ?_;refine r3 ?_;refine cn hL ?_ ?_
  ·intro hc hL;refine JP ?_;exact rt hL hT hS
  ·intro hc hL;refine r6 ?_;refine r1 ?_;exact Yy.Yt (Zph _ _ hL ⟨_,_,rfl,hS.only .n,YR⟩)
 ·intro hc hL;refine r8 ?_;refine r3 ?_;exact rt hL hT hS
end Go.Proofs.Ytekpjgmhkkjhgaa
end
end
