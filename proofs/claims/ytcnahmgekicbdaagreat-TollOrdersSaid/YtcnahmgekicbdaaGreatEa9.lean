/- Part 9. -/
import Derived.Test.YtcnahmgekicbdaaGreatEa8
set_option linter.all false
set_option maxHeartbeats 2000000
section
noncomputable section
namespace Go.YL
open Go.Lf
section
variable {X:Ctx} {n wm:Nat} {rd:Option Nat} {ops:Array Oper} {l:List Oper} {fr:Fr} {ds:List Deferred} {h h1 h2 h0:H} {ty:TypeId} {p:String} {af:Array Edge} {g:Option (Nat×Bool)} {m:Nat} {T:Nat ->Prop} {G Gr Ga Gb:List (Ast wm)} {d:Nat} {sf:ST}
def HW (X:Ctx) (wm:Nat) (o:Oper) (fr:Fr) (h:H) (K:H ->Prop):Prop:=∃ v E h1,Qc X h (Yu fr) o=some (.val v,E)∧E.apply wm h=some h1∧K h1
theorem WO.hw {Q:XX ->Fs ->Prop} {op:Op} {K:H ->Prop} (hg:Yv ops ⟨none,op,ty,p,af,g⟩ fr) (s:HW X wm ⟨none,op,ty,p,af,g⟩ fr h K) (k:∀ h',K h' ->WO X n wm rd ops l ⟨fr,ds,h',none⟩ Q):
 WO X n wm rd ops (⟨none,op,ty,p,af,g⟩::l) ⟨fr,ds,h,none⟩ Q:=let⟨_,_,h1,ha,hE,hk⟩:=s;WO.val hg rfl ha hE (k h1 hk)
theorem Je {t:TypeId} {x:Operand} {lo hi mx:Option Operand} {a:Option Addr} {nn c:Nat} {vlo vhi vmx:Option Value} {v:Value} (hx:Yu fr x=some (.slice a nn c)) (el1:evo (Yu fr) lo=some vlo) (eh1:evo (Yu fr) hi=some vhi) (em1:evo (Yu fr) mx=some vmx) (hv:aslice X.P h t (.slice a nn c) vlo vhi vmx=some v):
 Qc X h (Yu fr) ⟨some d,.slice t x lo hi mx,ty,p,af,g⟩=some (.val v,.none):=by
 show(match Yu fr x,evo (Yu fr) lo,evo (Yu fr) hi,evo (Yu fr) mx with
  | some x,some lo,some hi,some mx=>bif plain x && not (Zoo x) then(match lo,hi,mx with
     | lo,hi,mx=>bif QG (lo.toList ++ hi.toList ++ mx.toList) then pN (ZaF X.P (Instr.sliceAt t x lo hi mx)) else none)
    else vN (aslice X.P h t x lo hi mx)
  | _,_,_,_=>none)=_
 rw [hx,el1,eh1,em1];show(bif plain (.slice a nn c) && not (Zoo (.slice a nn c)) then _ else vN (aslice X.P h t (.slice a nn c) vlo vhi vmx))=_;have:Zoo (.slice a nn c)=true:=rfl;rw [this,Bool.not_true,Bool.and_false,Cq0,hv];rfl
section
variable {α:Type} {e:J9 α} {t el:TypeId} {x:Operand} {a:Option Addr} {nn c:Nat} {xs zs ws us:List α} {a1 a2 a3:Int}
theorem ZDp {lo hi mx:Operand} (so:Ql e wm wm h a c xs) (hn:nn=xs.length) (hu:X.P.underlying t=some (.slice el)) (hs:Yw X.P el=some e.sz) (hx:Yu fr x=some (.slice a nn c))
 (hlo:Yu fr lo=some (.int .i64 a1)) (hhi:Yu fr hi=some (.int .i64 a2)) (hmx:Yu fr mx=some (.int .i64 (xs.length:Nat))) (hz:slL xs a1 a2=some zs):
 ∃ v,Qc X h (Yu fr) ⟨some d,.slice t x (some lo) (some hi) (some mx),ty,p,af,g⟩=some (.val v,.none):=by
 obtain⟨l,k,rfl,rfl,hlk,hkx,rfl⟩:=KR hz;subst hn;have e1:obN (some (.int .i64 (l:Int))) 0=some l:=rfl;have e2:∀ q,obN (some (.int .i64 (k:Int))) q=some k:=fun q=>rfl
 have e3:Zcy (.int .i64 ((xs.length:Nat):Int))=some xs.length:=rfl;rcases so.mem with⟨rfl,rfl,rfl⟩ | ⟨i,o,cs,rfl,q2,q3,q4,q5,q6⟩
 ·have hk0:k=0:=by simpa using hkx
  have hl0:l=0:=by omega
  subst hk0 hl0;refine⟨.slice none 0 0,Je hx (XL hlo) (XL hhi) (XL hmx) ?_⟩
  have:aslice X.P h t (.slice none 0 0) (some (.int .i64 ((0:Nat):Int))) (some (.int .i64 ((0:Nat):Int))) (some (.int .i64 ((0:Nat):Int)))=some (.slice none 0 0):=by
   unfold aslice;simp only [hu,hs]
   rfl
  exact this
 ·refine⟨.slice (some ⟨i,bif Nat.beq xs.length l then o else o + l * e.sz,none⟩) (k - l) (2 * (xs.length - l)),Je hx (XL hlo) (XL hhi) (XL hmx) ?_⟩;unfold aslice;simp only [hu,hs,e1,e2,e3];rw [Nm0 hlk,Nm0 hkx,Nm0 q4]
  rfl
theorem ZDo {hi:Operand} (so:Ql e wm wm h a c xs) (hn:nn=xs.length) (hu:X.P.underlying t=some (.slice el)) (hs:Yw X.P el=some e.sz) (hx:Yu fr x=some (.slice a nn c))
 (hhi:Yu fr hi=some (.int .i64 a2)) (hz:slL xs 0 a2=some zs):
 ∃ a' c',a'=a∧c'=c∧Qc X h (Yu fr) ⟨some d,.slice t x none (some hi) none,ty,p,af,g⟩=some (.val (.slice a' zs.length c'),.none)∧ZpJ e a c xs a' c' zs:=by
 obtain⟨l,k,hl0,rfl,hlk,hkx,rfl⟩:=KR hz;have hl0:l=0:=by omega
 subst hl0 hn;have hlen:((xs.take k).drop 0).length=k:=by rw [List.drop_zero,List.length_take];omega
 have e2:∀ q,obN (some (.int .i64 (k:Int))) q=some k:=fun q=>rfl
 have e1:obN none 0=some 0:=rfl;refine⟨a,c,rfl,rfl,?_⟩;rcases so.mem with⟨rfl,rfl,rfl⟩ | ⟨i,o,cs,rfl,q2,q3,q4,q5,q6⟩
 ·have hk0:k=0:=by simpa using hkx
  subst hk0;refine⟨Je hx rfl (XL hhi) rfl ?_,Zhm rfl⟩
  have:aslice X.P h t (.slice none 0 0) none (some (.int .i64 ((0:Nat):Int))) none=some (.slice none 0 0):=by
   unfold aslice;simp only [hu,hs]
   rfl
  exact this
 ·refine⟨Je hx rfl (XL hhi) rfl ?_,ZhT hlk hkx (.inl ⟨by omega,by omega⟩)⟩;rw [hlen];unfold aslice;simp only [hu,hs,e1,e2];rw [Nm0 (Nat.zero_le k),Nm0 (Nat.le_trans hkx q4)];simp only [Bool.and_self,Cq1];cases hev:Nat.beq (c % 2) 0 with
  | true=>
    have:=Nb0 hev;have hc:2 * (c / 2 - 0)=c:=by omega
    simp only [Cq1,Nat.zero_mul,Nat.add_zero,Nat.sub_zero];cases Nat.beq (c / 2) 0 <;> simp only [Cq1,Cq0] <;> congr 2 <;> omega
  | false=>
    simp only [Cq0]
    rfl
structure Tl (e:J9 α) (a:Option Addr) (c k n3:Nat) (a3:Option Addr):Prop where
 out:n3=0∨∃ i o,a=some ⟨i,o,none⟩∧a3=some ⟨i,o + k * e.sz,none⟩∧k + n3 <=c / 2
theorem ZDn {lo hi:Operand} {mm:Nat} (so:Ql e wm wm h a c zs) (hu:X.P.underlying t=some (.slice el)) (hs:Yw X.P el=some e.sz) (hx:Yu fr x=some (.slice a zs.length c))
 (hlo:Yu fr lo=some (.int .i64 (zs.length:Nat))) (hhi:Yu fr hi=some (.int .i64 (mm:Nat))) (hm:zs.length <=mm) (hc:mm <=c / 2):
 ∃ a' c',Qc X h (Yu fr) ⟨some d,.slice t x (some lo) (some hi) none,ty,p,af,g⟩=some (.val (.slice a' (mm - zs.length) c'),.none)∧Tl e a c zs.length (mm - zs.length) a':=by
 have e1:obN (some (.int .i64 ((zs.length:Nat):Int))) 0=some zs.length:=rfl;have e2:∀ q,obN (some (.int .i64 (mm:Int))) q=some mm:=fun q=>rfl
 rcases so.mem with⟨rfl,rfl,rfl⟩ | ⟨i,o,cs,rfl,q2,q3,q4,q5,q6⟩
 ·have hk0:mm=0:=by omega
  subst hk0;refine⟨none,0,Je hx (XL hlo) (XL hhi) rfl ?_,⟨.inl rfl⟩⟩
  have:aslice X.P h t (.slice none 0 0) (some (.int .i64 ((0:Nat):Int))) (some (.int .i64 ((0:Nat):Int))) none=some (.slice none 0 0):=by
   unfold aslice;simp only [hu,hs]
   rfl
  exact this
 ·have hmain:∀ v,(bif Nat.beq (c % 2) 0 then some (Value.slice (some ⟨i,bif Nat.beq (c / 2) zs.length then o else o + zs.length * e.sz,none⟩) (mm - zs.length) (2 * (c / 2 - zs.length)))
   else bif Nat.beq zs.length 0 then some (.slice (some ⟨i,o,none⟩) mm c)
   else some (.slice (some ⟨i,o + zs.length * e.sz,none⟩) (mm - zs.length) (2 * (c / 2 - zs.length) + 1)))=some v ->aslice X.P h t (.slice (some ⟨i,o,none⟩) zs.length c) (some (.int .i64 ((zs.length:Nat):Int))) (some (.int .i64 (mm:Int))) none=some v:=fun v hv=>by
   unfold aslice;simp only [hu,hs,e1,e2];rw [Nm0 hm,Nm0 hc,q3];have b2:(Nat.beq e.sz e.sz && Nat.ble 1 e.sz)=true:=by rw [Nat.beq_refl,Nm0 (show 1 <=e.sz from e.pos)];rfl
   simp only [b2,Bool.and_self,Cq1];exact hv
  cases hev:Nat.beq (c % 2) 0 with
  | true=>
    rw [hev] at hmain;refine⟨_,_,Je hx (XL hlo) (XL hhi) rfl (hmain _ rfl),⟨?_⟩⟩;cases hcl:Nat.beq (c / 2) zs.length with
    | true=>have:=Nb0 hcl;left;omega
    | false=>right;exact⟨i,o,rfl,rfl,by omega⟩
  | false=>
    rw [hev] at hmain;cases hl0:Nat.beq zs.length 0 with
    | true=>
      have h00:=Nb0 hl0;rw [hl0] at hmain;refine⟨some ⟨i,o,none⟩,c,Je hx (XL hlo) (XL hhi) rfl (hmain _ ?_),⟨.inr ⟨i,o,rfl,by rw [h00];simp,by omega⟩⟩⟩;rw [h00];rfl
    | false=>
      rw [hl0] at hmain;exact⟨_,_,Je hx (XL hlo) (XL hhi) rfl (hmain _ rfl),⟨.inr ⟨i,o,rfl,rfl,by omega⟩⟩⟩
theorem ZvC (z:List Value) (k:Nat):(Ua z k).length=k * z.length:=by unfold Ua;simp
theorem ZLH {ts:Array TypeId} {rest:List TypeId} {n3 c3:Nat} {z:Value} {a3':Option Addr} (hS:Sp wm T h0 G h) (pk:Pk G (ow wm e a nn c zs) Gr) (tl:Tl e a c zs.length n3 a3') (hts:ts.toList=t::rest) (hu:X.P.underlying t=some (.slice el)) (hz:Y6 X.P el=some z) (hzl:z.cells.toList.length=e.sz) (hx:Yu fr x=some (.slice a3' n3 c3)):
 HW X wm ⟨none,.call {callee:= .builtin .clear,args:=#[x],argTypes:=ts},ty,p,af,g⟩ fr h (fun h'=>Sp wm T h0 (ow wm e a nn c zs::Gr) h'):=by
 have key:∀ E,Zew X.P h t (.slice a3' n3 c3)=some E ->Qc X h (Yu fr) ⟨none,.call {callee:= .builtin .clear,args:=#[x],argTypes:=ts},ty,p,af,g⟩=some (.val (.tuple #[]),E):=fun E hE=>by
  have hev:evs (Yu fr) (#[x]:Array Operand).toList=some [.slice a3' n3 c3]:=Zc hx Zp;rw [JO,hev];show(match ts.toList with | t::_=>(match Zew X.P h t (.slice a3' n3 c3) with | some E=>some (AN.val (.tuple #[]),E) | none=>none) | []=>none)=_;rw [hts];dsimp only;rw [hE]
 obtain⟨h1,so⟩:=hS.get pk;by_cases h0':n3=0
 ·refine⟨_,.none,h,key _ ?_,rfl,hS.perm pk.perm⟩;unfold Zew;simp only [hu,h0',Nat.beq_refl,Cq1]
 ·rcases tl.out with q | ⟨i,o,rfl,rfl,hcap⟩
  ·exact absurd q h0'
  ·rcases so.mem with⟨q,_⟩ | ⟨i',o',cs,q,q2,q3,q4,q5,q6⟩
   ·cases q
   ·cases q;have hb:Nat.beq n3 0=false:=by rw [Bool.eq_false_iff];intro q;exact h0' (Nb0 q)
    have hfit:o + zs.length * e.sz + n3 * e.sz <=cs.length:=by
     have:(zs.length + n3) * e.sz <=c / 2 * e.sz:=Nat.mul_le_mul_right _ hcap;rw [Nat.add_mul] at this;omega
    have hzr:(Ua z.cells.toList n3).length=n3 * e.sz:=by rw [ZvC,hzl]
    have hl2:o + zs.length * e.sz + (Ua z.cells.toList n3).length <=cs.length:=by rw [hzr];exact hfit
    have hu':Up wm (fun j=>j=i) h (h.put i (.row (splice cs (o + zs.length * e.sz) (Ua z.cells.toList n3)) true e.sz)):=Up.put q2 (by rw [q3];rfl);refine⟨_,.upd i (.row (splice cs (o + zs.length * e.sz) (Ua z.cells.toList n3)) true e.sz),_,key _ ?_,?_,hS.one pk hu' (fun j q=>⟨o,by rw [q]⟩) ⟨h1,so.max,.inr ⟨i,o,_,rfl,q2,YC (X9 q3 rfl) _,q4,by rw [Um _ _ _ hl2];exact q5,?_⟩⟩ fun j q=>.inl q⟩
    ·unfold Zew;simp only [hu,hb,Cq0,hz,q3,hzl];rw [Nm0 hfit];rfl
    ·show(bif Nat.ble wm i && (h.at i).own then some (h.put i _) else none)=_;rw [q3,Nm0 q2];rfl
    ·refine⟨by rw [Um _ _ _ hl2];exact q6.len,fun k x hk=>?_⟩;obtain⟨q,g1,g2⟩:=q6.get k x hk;refine⟨q,?_,e.mono (hu'.fz (Nat.le_refl _)) g2⟩;have hkl:= (Li0 hk).1;have:(k + 1) * e.sz <=zs.length * e.sz:=Nat.mul_le_mul_right _ hkl;rw [Nat.succ_mul] at this;rw [ZhU hl2 (.inl (by omega)),g1]
theorem ZDv {ts:Array TypeId} {x y:Operand} {Ji:Nat} {b2:Option Addr} {c2:Nat} {ys:List α} (hi:ZdZ X.P ts e.sz Ji) (hx:Yu fr x=some (.slice a xs.length c)) (hy:Yu fr y=some (.slice b2 ys.length c2)) (so:Ql e wm wm h a c xs) (sr:Src e wm h b2 c2 ys) (hr:xs.length + ys.length <=c / 2):
 ∃ E,Qc X h (Yu fr) ⟨some d,.call {callee:= .builtin .append,args:=#[x,y],argTypes:=ts},ty,p,af,g⟩=some (.val (.slice a (xs ++ ys).length c),E):=by
 obtain⟨el,z,hi⟩:=hi;obtain⟨new,n1,n2,n3⟩:=sr.reads;have n4:=n3.one n2;have hev:evs (Yu fr) (#[x,y]:Array Operand).toList=some [.slice a xs.length c,.slice b2 ys.length c2]:=Zc hx (Zc hy Zp);have hls:Q6 (.slice b2 ys.length c2)=ys.length:=rfl
 have key:∀ (v:Value) (E:Eff),Qy X.P h ts (.slice a xs.length c) (.slice b2 ys.length c2)=some (v,E) ->Qc X h (Yu fr) ⟨some d,.call {callee:= .builtin .append,args:=#[x,y],argTypes:=ts},ty,p,af,g⟩=some (.val v,E):=by
  intro v E hE;rw [JO,hev];show vE (Qy X.P h ts (.slice a xs.length c) (.slice b2 ys.length c2))=_;rw [hE];rfl
 have hle2:(xs ++ ys).length=xs.length + ys.length:=List.length_append;by_cases hy0:ys= []
 ·subst hy0;refine⟨.none,key _ _ ?_⟩;unfold Qy;rw [hi];dsimp only;rw [n1];dsimp only;rw [hls,Nm0 hr,hle2];rfl
 ·have hyl:0 < ys.length:=List.length_pos_iff.2 hy0;rcases so.mem with⟨rfl,rfl,rfl⟩ | ⟨i,o,cs,rfl,hlo2,hrow,hc1,hc2,hel⟩
  ·exfalso;simp at hr;exact hy0 hr
  ·refine⟨.upd i (.row (splice cs (o + xs.length * e.sz) new) true e.sz),key _ _ ?_⟩
   have hfit:o + xs.length * e.sz + new.length <=cs.length:=by
    rw [n2];have:(xs.length + ys.length) * e.sz <=c / 2 * e.sz:=Nat.mul_le_mul_right _ hr;rw [Nat.add_mul] at this;omega
   unfold Qy;rw [hi];dsimp only;rw [n1];dsimp only;rw [hls,Nm0 hr];have b1:Nat.beq ys.length 0=false:=by rw [Bool.eq_false_iff];intro q;have:=Nb0 q;omega
   rw [b1,hrow];simp only [Cq1,Cq0];rw [Nm0 hfit,n4,hle2];rfl
theorem ZLK {ts:Array TypeId} {x y:Operand} {Ji:Nat} {b2:Option Addr} {n2 c2:Nat} {ys:List α} (hS:Sp wm T h0 G h) (pk:Pk G (ow wm e a nn c xs) Gr) (hi:ZdZ X.P ts e.sz Ji) (hx:Yu fr x=some (.slice a nn c)) (hy:Yu fr y=some (.slice b2 n2 c2)) (sr:Src e wm h b2 c2 ys) (hn:n2=ys.length) (ha:app Ji xs ys=some zs) (hr:zs.length <=c / 2):
 HV X wm ⟨some d,.call {callee:= .builtin .append,args:=#[x,y],argTypes:=ts},ty,p,af,g⟩ fr h (Qg a) (fun v h'=>v= .slice a zs.length c∧Sp wm T h0 (ow wm e a zs.length c zs::Gr) h'):=by
 obtain⟨v,E,h1,e1,e2,e3,e4,a',c',rfl,hS'⟩:=ZjU (d:=d) (ty:=ty) (p:=p) (af:=af) (g:=g) hS pk hi hx hy sr hn ha;obtain⟨h1',so⟩:=hS.get pk;obtain⟨rfl,_⟩:=Zfr ha;subst h1' hn;obtain⟨E',e5⟩:=ZDv (d:=d) (ty:=ty) (p:=p) (af:=af) (g:=g) hi hx hy so sr (by rw [List.length_append] at hr;exact hr);rw [e5] at e1;cases e1;exact⟨_,_,h1,e5,e2,e3,e4,rfl,hS'⟩
theorem Ztt {b:Nat} {i j:Int} {u v:List α} (h3:slL xs i j=some ws) (h1:slL xs 0 i=some u) (h2:slL xs j xs.length=some v) (ha:app b u v=some zs):zs.length <=xs.length:=by
 obtain⟨l,k,rfl,rfl,hlk,hkx,rfl⟩:=KR h3;obtain⟨l1,k1,hl1,hk1,_,_,rfl⟩:=KR h1;obtain⟨l2,k2,hl2,hk2,_,_,rfl⟩:=KR h2;obtain⟨rfl,_⟩:=Zfr ha;simp only [List.length_append,List.length_drop,List.length_take];omega
end
section
variable {κ ν:Type} [DecidableEq κ] {kt vt:TypeId} {kv:κ ->Value} {vv:ν ->Value} {i:Nat} {ll:List (κ×ν)}
end
end
section
variable {X:Ctx} {n wm:Nat} {rd:Option Nat} {ops:Array Oper} {l:List Oper} {fr:Fr} {ds:List Deferred} {h h1 h2 h0:H} {ty:TypeId} {p:String} {af:Array Edge} {g:Option (Nat×Bool)} {m:Nat} {T:Nat ->Prop} {G Gr Ga Gb:List (Ast wm)} {d:Nat} {sf:ST}
def HE (X:Ctx) (o:Oper) (fr:Fr) (h:H) (K:Value ->Prop):Prop:=∃ v,Qc X h (Yu fr) o=some (.val v,.none)∧K v
theorem WO.he {Q:XX ->Fs ->Prop} {op:Op} {K:Value ->Prop} (hg:Yv ops ⟨some d,op,ty,p,af,g⟩ fr) (hd:Nat.blt d n=true) (s:HE X ⟨some d,op,ty,p,af,g⟩ fr h K) (k:∀ v,K v ->WO X n wm rd ops l ⟨Tr.set fr d v,ds,h,none⟩ Q):
 WO X n wm rd ops (⟨some d,op,ty,p,af,g⟩::l) ⟨fr,ds,h,none⟩ Q:=let⟨v,ha,hk⟩:=s;WO.w hg hd ha (k v hk)
theorem WX.he {Q:Fr ->H ->Prop} {op:Op} {K:Value ->Prop} (hg:Yv ops ⟨some d,op,ty,p,af,g⟩ fr) (hd:Nat.blt d n=true) (s:HE X ⟨some d,op,ty,p,af,g⟩ fr h K) (k:∀ v,K v ->WX X n wm rd ops sf (m + 1) h l (Tr.set fr d v) Q) (hM:okM ops sf m ⟨some d,op,ty,p,af,g⟩=true):
 WX X n wm rd ops sf m h (⟨some d,op,ty,p,af,g⟩::l) fr Q:=let⟨v,ha,hk⟩:=s;WX.w hg hd ha (k v hk) hM
section
variable {α:Type} {e:J9 α} {t el:TypeId} {x:Operand} {a:Option Addr} {nn c:Nat} {xs zs ws us:List α} {a1 a2 a3:Int}
theorem ZDV {lo hi:Option Operand} (so:Ql e wm wm h a c xs) (hn:nn=xs.length) (hu:X.P.underlying t=some (.slice el)) (hs:Yw X.P el=some e.sz) (hx:Yu fr x=some (.slice a nn c))
 (hlo:evo (Yu fr) lo=some none∧a1=0∨∃ k,evo (Yu fr) lo=some (some (.int k a1))) (hhi:evo (Yu fr) hi=some none∧a2=xs.length∨∃ k,evo (Yu fr) hi=some (some (.int k a2))) (hz:slL xs a1 a2=some zs):
 HE X ⟨some d,.slice t x lo hi none,ty,p,af,g⟩ fr h (fun v=>∃ a' c',v= .slice a' zs.length c'∧ZpJ e a c xs a' c' zs):=
 let⟨a',c',h1,h2⟩:=ZJT (d:=d) (ty:=ty) (p:=p) (af:=af) (g:=g) so hn hu hs hx hlo hhi hz;⟨_,h1,a',c',rfl,h2⟩
theorem ZFR {lo hi mx:Operand} (so:Ql e wm wm h a c xs) (hn:nn=xs.length) (hu:X.P.underlying t=some (.slice el)) (hs:Yw X.P el=some e.sz) (hx:Yu fr x=some (.slice a nn c))
 (hlo:Yu fr lo=some (.int .i64 a1)) (hhi:Yu fr hi=some (.int .i64 a2)) (hmx:Yu fr mx=some (.int .i64 (xs.length:Nat))) (hz:slL xs a1 a2=some zs):
 HE X ⟨some d,.slice t x (some lo) (some hi) (some mx),ty,p,af,g⟩ fr h (fun _=>True):=let⟨v,hv⟩:=ZDp (d:=d) (ty:=ty) (p:=p) (af:=af) (g:=g) so hn hu hs hx hlo hhi hmx hz;⟨v,hv,trivial⟩
theorem ZFP {hi:Operand} (so:Ql e wm wm h a c xs) (hn:nn=xs.length) (hu:X.P.underlying t=some (.slice el)) (hs:Yw X.P el=some e.sz) (hx:Yu fr x=some (.slice a nn c))
 (hhi:Yu fr hi=some (.int .i64 a2)) (hz:slL xs 0 a2=some zs):
 HE X ⟨some d,.slice t x none (some hi) none,ty,p,af,g⟩ fr h (fun v=>∃ a' c',a'=a∧c'=c∧v= .slice a' zs.length c'∧ZpJ e a c xs a' c' zs):=
 let⟨a',c',h1,h2,h3,h4⟩:=ZDo (d:=d) (ty:=ty) (p:=p) (af:=af) (g:=g) so hn hu hs hx hhi hz;⟨_,h3,a',c',h1,h2,rfl,h4⟩
theorem ZFO {lo hi:Operand} {mm:Nat} (so:Ql e wm wm h a c zs) (hu:X.P.underlying t=some (.slice el)) (hs:Yw X.P el=some e.sz) (hx:Yu fr x=some (.slice a zs.length c))
 (hlo:Yu fr lo=some (.int .i64 (zs.length:Nat))) (hhi:Yu fr hi=some (.int .i64 (mm:Nat))) (hm:zs.length <=mm) (hc:mm <=c / 2):
 HE X ⟨some d,.slice t x (some lo) (some hi) none,ty,p,af,g⟩ fr h (fun v=>∃ a' c',v= .slice a' (mm - zs.length) c'∧Tl e a c zs.length (mm - zs.length) a'):=
 let⟨a',c',h1,h2⟩:=ZDn (d:=d) (ty:=ty) (p:=p) (af:=af) (g:=g) so hu hs hx hlo hhi hm hc;⟨_,h1,a',c',rfl,h2⟩
end
end
section
variable {X:Ctx} {n wm wm':Nat} {fr:Fr} {h:H} {ty:TypeId} {p:String} {af:Array Edge} {g:Option (Nat×Bool)} {d:Nat}
section
variable {α:Type} {e:J9 α} {t el:TypeId} {x:Operand} {a:Option Addr} {nn c:Nat} {xs zs:List α} {a2:Int}
end
end
section
variable {X:Ctx} {n wm:Nat} {rd:Option Nat} {ops:Array Oper} {l:List Oper} {fr:Fr} {ds:List Deferred} {h h1 h2 h0:H} {ty:TypeId} {p:String} {af:Array Edge} {g:Option (Nat×Bool)} {T:Nat ->Prop} {G Gr Ga Gb:List (Ast wm)} {d:Nat}
def pv (t:TypeId) (k:Int):Value:= .iface t (.int .i64 k)
section
variable {β:Type} {t:TypeId} {K:β ->Value ->List (Ast wm) ->Prop} {f:FuncId} {args:Array Value}
end
section
variable {fn:Func} {R:Kw ->H ->Prop} {s:Fs} {v:Value} {pm:PM}
end
end
section
variable {X:Ctx} {n wm:Nat} {rd:Option Nat} {ops:Array Oper} {l:List Oper} {rest:Code}
theorem WO.body {s:Fs} {Q:XX ->Fs ->Prop} (k:WO X n wm rd ops l s (Zey X n wm rd rest Q)):∃ e s',Q e s'∧∀ {ρ:Ren} {F:Fence} {a:Act} {w:World},Inv ρ n s a w ->wm <=s.h.size ->FR' ρ rd F ->∀ Q':Exit ->Act ->World ->Prop,(∀ e' a' w',Qf wm n ρ s.h w e s' e' a' w' ->Q' e' a' w') ->
 wpListIn F 0 X.P ops (Exit.then (rest.wpIn F 0 X.P Q') Q') l a w:=by
 obtain⟨e1,s1,hk,ho⟩:=k.out;have hk:=hk.out;cases e1 with
 | normal=>
   obtain⟨e,s',hq,hj⟩:=hk;obtain⟨_,_,q0,kb⟩:=X7.1 hj;cases q0;refine⟨e,s',hq,fun{ρ F a w} hi hw hF Q' hQ=>ho _ hi hw hF fun e' a' w' hp=>?_⟩;obtain⟨ρ',he,hi',hst⟩:=hp;cases he;exact wpIn_mono (kb ρ' a' w' F (Nat.le_trans hw hst.size) hi' (hF.mono hst.ext)) fun e2 a2 w2 hp2=>hQ _ _ _ (Qf.trans hi.rel.lt hst hp2)
 | exit id=>
   refine⟨_,s1,hk,fun{ρ F a w} hi hw hF Q' hQ=>ho _ hi hw hF fun e' a' w' hp=>?_⟩;obtain⟨ρ',he,hi',hst⟩:=hp;cases he;exact hQ _ _ _ ⟨ρ',.exit id,hi',hst⟩
 | goto id=>
   refine⟨_,s1,hk,fun{ρ F a w} hi hw hF Q' hQ=>ho _ hi hw hF fun e' a' w' hp=>?_⟩;obtain⟨ρ',he,hi',hst⟩:=hp;cases he;exact hQ _ _ _ ⟨ρ',.goto id,hi',hst⟩
 | ret=>
   refine⟨_,s1,hk,fun{ρ F a w} hi hw hF Q' hQ=>ho _ hi hw hF fun e' a' w' hp=>?_⟩;obtain⟨ρ',he,hi',hst⟩:=hp;cases he;exact hQ _ _ _ ⟨ρ',.ret,hi',hst⟩
 | panic v=>
   refine⟨_,s1,hk,fun{ρ F a w} hi hw hF Q' hQ=>ho _ hi hw hF fun e' a' w' hp=>?_⟩;obtain⟨ρ',he,hi',hst⟩:=hp;cases he with
   | panic hv=>exact hQ _ _ _ ⟨ρ',.panic hv,hi',hst⟩
theorem EL.mem' {ρ:Ren} {es es':List MapEntry} (e:EL ρ es es') {x:MapEntry} (hx:x ∈ es):∃ x' ∈ es',x'.born=x.born:=by
 induction e with
 | nil=>cases hx
 | cons hk hp hb hv _ ih=>
   rcases List.mem_cons.1 hx with rfl | h
   ·exact⟨_,by simp,hb⟩
   ·obtain⟨x',h1,h2⟩:=ih h;exact⟨x',List.mem_cons_of_mem _ h1,h2⟩
def Agr (T:List Nat) (fr fr':Fr):Prop:=∀ t v,T.contains t=false ->fr.at t=v ->fr'.at t=v
theorem Agr.at {T:List Nat} {fr fr':Fr} (a:Agr T fr fr') {t:Nat} {v:Value} (ht:T.contains t=false) (h:fr.at t=v):fr'.at t=v:=a t v ht h
def MFr (T:List Nat) (fr f:Fr):Prop:=∀ t,t ∉ T ->f.at t=fr.at t
theorem MFr.z {T:List Nat} {fr:Fr}:MFr T fr fr:=fun _ _=>rfl
theorem MFr.s {T:List Nat} {fr f:Fr} {i:Nat} {v:Value} (hi:T.contains i=true) (h:MFr T fr f):MFr T fr (Tr.set f i v):=fun t ht=>by
 have hne:t ≠ i:=fun z=>ht (by subst z;rwa [List.contains_iff_mem] at hi)
 have:=JP (fr:=f) (d:=some i) (v:=v) (t:=t);rw [show XR f (some i) v=Tr.set f i v from rfl] at this;rw [this,if_neg (fun z=>hne (Oi0 z).symm)];exact h t ht
structure ZDN (Q:XX ->Fs ->Prop) (e:XX) (s:Fs):Prop where
 nn:e ≠ .normal
 k:Q e s
theorem ZDN.exit {Q:XX ->Fs ->Prop} {s:Fs} {id:Nat} (k:Q (.exit id) s):ZDN Q (.exit id) s:= ⟨(fun z=>by cases z),k⟩
def ZDP {κ ν:Type} (kv:κ ->Value) (vv:ν ->Value) (h:H) (it:Nat) (x:κ×ν):Prop:=Zeu h (.pointer (some ⟨it,0,none⟩))=some (.tuple #[kv x.1,vv x.2])
section
variable {κ ν:Type} {kv:κ ->Value} {vv:ν ->Value} {ll:List (κ×ν)} {bs:List Nat}
theorem Zoj:∀ {ll:List (κ×ν)} {bs:List Nat} {x:MapEntry},x ∈ YV kv vv ll bs ->∃ (j:Nat) (y:κ×ν) (b:Nat),ll[j]? =some y∧bs[j]? =some b∧x= ⟨kv y.1,vv y.2,b⟩:=by
 intro ll bs x hx;obtain⟨j,hj⟩:=List.mem_iff_getElem?.1 hx;unfold YV at hj;rw [List.getElem?_zipWith] at hj;cases h1:ll[j]? with
 | none=>rw [h1] at hj;simp at hj
 | some y=>
   cases h2:bs[j]? with
   | none=>rw [h1,h2] at hj;simp at hj
   | some b=>rw [h1,h2] at hj;simp at hj;exact⟨j,y,b,h1,h2,hj.symm⟩
theorem ZBu {j:Nat} {y:κ×ν} {b:Nat} (h1:ll[j]? =some y) (h2:bs[j]? =some b):(⟨kv y.1,vv y.2,b⟩:MapEntry) ∈ YV kv vv ll bs:=by
 refine List.mem_iff_getElem?.2 ⟨j,?_⟩;unfold YV;rw [List.getElem?_zipWith,h1,h2]
theorem ZgY {b:Nat}:∀ {ll:List (κ×ν)} {bs:List Nat},b ∉ bs ->Zbo b (YV kv vv ll bs)=true
 | [],_,_=>by unfold YV;simp [Zbo]
 | _::_,[],_=>by unfold YV;simp [Zbo]
 | x::ll,b'::bs,h=>by
   have ih:=ZgY (ll:=ll) (bs:=bs) (b:=b) (fun z=>h (by simp [z]));unfold YV at ih ⊢;rw [List.zipWith_cons_cons];unfold Zbo;have:Nat.beq b' b=false:=by rw [Bool.eq_false_iff];intro q;exact h (by simp [Nb0 q])
   dsimp only;rw [this];exact ih
theorem ZiE {X8:Nat}:∀ {ll:List (κ×ν)} {bs:List Nat},bs.Nodup ->(∀ b ∈ bs,b < X8) ->Uk X8 (YV kv vv ll bs)=true
 | [],_,_,_=>by unfold YV;simp [Uk]
 | _::_,[],_,_=>by unfold YV;simp [Uk]
 | x::ll,b::bs,hn,hl=>by
   rw [List.nodup_cons] at hn;have ih:=ZiE (ll:=ll) (bs:=bs) hn.2 (fun b hb=>hl b (by simp [hb]));have hno:Zbo b (YV kv vv ll bs)=true:=ZgY (ll:=ll) hn.1;unfold YV at ih hno ⊢;rw [List.zipWith_cons_cons];unfold Uk;dsimp only;rw [hno,ih];have:Nat.blt b X8=true:=by rw [Nat.blt_eq];exact hl b (by simp)
   rw [this];rfl
theorem ZkO:∀ {ll:List (κ×ν)} {bs:List Nat} {j:Nat} {y:κ×ν} {b:Nat},bs.Nodup ->ll[j]? =some y ->bs[j]? =some b ->Zlb b (YV kv vv ll bs)=some ⟨kv y.1,vv y.2,b⟩
 | [],_,_,_,_,_,h,_=>by simp at h
 | _::_,[],_,_,_,_,_,h=>by simp at h
 | x::ll,b'::bs,j,y,b,hn,h1,h2=>by
   rw [List.nodup_cons] at hn;unfold YV;rw [List.zipWith_cons_cons];unfold Zlb;dsimp only;cases j with
   | zero=>
     simp at h1 h2;subst h1 h2;rw [Nat.beq_refl];rfl
   | succ j=>
     simp at h1 h2
     have:Nat.beq b' b=false:=by
      rw [Bool.eq_false_iff];intro q;have:=Nb0 q;subst this;exact hn.1 (List.mem_iff_getElem?.2 ⟨j,h2⟩)
     rw [this];exact ZkO hn.2 h1 h2
end
section
variable {wm:Nat} {G Gr:List (Ast wm)} {h h0:H} {T0:Nat ->Prop} {fr:Fr} {ds:List Deferred} {ty:TypeId} {p:String} {af:Array Edge} {g:Option (Nat×Bool)} {κ ν:Type} {kv:κ ->Value} {vv:ν ->Value} {ll:List (κ×ν)} {d:Nat}
theorem WO.rng {Q:XX ->Fs ->Prop} {t kt vt:TypeId} {x:Operand} {i:Nat} (hg:Yv ops ⟨some d,.range t x,ty,p,af,g⟩ fr) (hd:Nat.blt d n=true) (hS:Sp wm T0 h0 G h) (hu:X.P.underlying t=some (.map kt vt)) (hx:Yu fr x=some (.map (some i))) (s:MapAt kv vv h (some i) ll)
 (k:∀ h' b bs X8,Sp wm T0 h0 (ob wm b (.iter i X8 X8 none)::G) h' ->h'.at i= .map (YV kv vv ll bs) X8 ->bs.length=ll.length∧bs.Nodup∧(∀ x ∈ bs,x < X8) ->WO X n wm rd ops l ⟨Tr.set fr d (.pointer (some ⟨b,0,none⟩)),ds,h',none⟩ Q):
 WO X n wm rd ops (⟨some d,.range t x,ty,p,af,g⟩::l) ⟨fr,ds,h,none⟩ Q:=by
 rcases s.mem with⟨q,_⟩ | ⟨i',bs,X8,q,h1,h2,h3,h4⟩
 ·cases q
 ·cases q;refine WO.v (v:=Ju h) (E:= .new (.iter i X8 X8 none)) (h1:=h.push (.iter i X8 X8 none)) hg hd ?_ (Zm1 h rfl) (k (h.push (.iter i X8 X8 none)) h.size bs X8 (Ziy rfl hS) ?_ ⟨h2,h3,h4⟩)
  ·show(match Yu fr x with
    | some x=>vE (ZjB X.P h t x)
    | none=>none)=_
   rw [hx];dsimp only;unfold ZjB;simp only [hu,h1]
   rfl
  ·rw [WK (X9 h1 rfl),h1]
theorem ZzW {x:Operand} {it:Nat} {y:κ×ν} (hx:Yu fr x=some (.pointer (some ⟨it,0,none⟩))) (he:ZDP kv vv h it y):Qc X h (Yu fr) ⟨some d,.entry x,ty,p,af,g⟩=some (.val (.tuple #[kv y.1,vv y.2]),.none):=by
 show(match Yu fr x with
  | some it=>vN (Zeu h it)
  | none=>none)=_
 rw [hx];dsimp only;rw [show Zeu h (.pointer (some ⟨it,0,none⟩))=_ from he];rfl
end
end
section
variable {X:Ctx} {n wm:Nat} {rd:Option Nat} {ops:Array Oper} {l:List Oper} {fr:Fr} {ds:List Deferred} {h h1 h2 h0:H} {T:Nat ->Prop} {G Gr Ga Gb:List (Ast wm)}
end
end Go.YL
end
end
section
namespace Go.Lf
def Zxw {κ ν:Type} (b:κ ->ν ->Option (Option Bool)):List (κ×ν) ->Option (Option Nat)
 | []=>some (some 0)
 | x::r=>(b x.1 x.2).bind fun p=>(Zxw b r).bind fun q=>some (p.bind fun c=>q.bind fun k=>some (bif c then k + 1 else k))
def ZiN (up:Int ->Int):Nat ->Int ->Int
 | 0,a=>a
 | n + 1,a=>up (ZiN up n a)
theorem ZkS {κ ν:Type} {b:κ ->ν ->Option (Option Bool)}:∀ {l:List (κ×ν)} {q:Option Nat},Zxw b l=some q ->(∀ x ∈ l,∃ p,b x.1 x.2=some p)∧(q=none↔∃ x ∈ l,b x.1 x.2=some none)∧∀ k,q=some k ->k=l.countP fun x=>decide (b x.1 x.2=some (some true))
 | [],q,h=>by cases h;simp
 | x::r,q,h=>by
   obtain⟨p,h1,h⟩:=bS h;obtain⟨q',h2,h⟩:=bS h;obtain⟨i1,i2,i3⟩:=ZkS h2;have h:=Oi0 h;refine⟨fun y hy=>?_,?_,fun k hk=>?_⟩
   ·rcases List.mem_cons.1 hy with z | z
    ·subst z;exact⟨p,h1⟩
    ·exact i1 y z
   ·constructor
    ·intro z;rw [z] at h;cases p with
     | none=>exact⟨x,by simp,h1⟩
     | some c=>
       cases q' with
       | none=>obtain⟨y,hy,hz⟩:=i2.1 rfl;exact⟨y,by simp [hy],hz⟩
       | some k=>cases h
    ·rintro⟨y,hy,hz⟩;rw [← h];rcases List.mem_cons.1 hy with z | z
     ·subst z;rw [h1] at hz;cases hz;rfl
     ·rw [i2.2 ⟨y,z,hz⟩];cases p <;> rfl
   ·rw [hk] at h;cases p with
    | none=>cases h
    | some c=>
      cases q' with
      | none=>cases h
      | some k'=>
        have:=i3 k' rfl;have h:=Oi0 h;rw [List.countP_cons,← this,← h,h1];cases c <;> simp
end Go.Lf
end
section
noncomputable section
namespace Go.YL
open Go.Lf
section
theorem EL.ZE6 {ρ:Ren} {es es':List MapEntry} (e:EL ρ es es'):es'.map (·.born)=es.map (·.born):=by
 induction e with
 | nil=>rfl
 | cons hk hp hb hv _ ih=>rw [List.map_cons,List.map_cons,ih,hb]
theorem Zqp {b:Nat}:∀ {es:List MapEntry},Zbo b es=true ->b ∉ es.map (·.born):=by
 intro es
 induction es with
 | nil=>intro _;simp
 | cons x es ih=>
   intro h;unfold Zbo at h;cases hb:Nat.beq x.born b with
   | true=>rw [hb] at h;cases h
   | false=>
     rw [hb,Cq0] at h;rw [List.map_cons,List.mem_cons];rintro(z | z)
     ·rw [z,Nat.beq_refl] at hb;cases hb
     ·exact ih h z
theorem Zkk {clock:Nat}:∀ {es:List MapEntry},Uk clock es=true ->(es.map (·.born)).Nodup:=by
 intro es
 induction es with
 | nil=>intro _;simp
 | cons x es ih=>
   intro h;unfold Uk at h;simp only [Ba0] at h;rw [List.map_cons,List.nodup_cons];exact⟨Zqp h.1.2,ih h.2⟩
theorem Zrr {b:Nat} {p f g:Nat ->Bool} (hb:f b=true) (hg:∀ x,g x= (f x && !(x==b))):∀ {l:List MapEntry},(l.map (·.born)).Nodup ->b ∈ l.map (·.born) ->
 (l.filter fun x=>f x.born).countP (fun x=>p x.born)= (l.filter fun x=>g x.born).countP (fun x=>p x.born) + (bif p b then 1 else 0):=by
 intro l
 have none:∀ {l:List MapEntry},b ∉ l.map (·.born) ->(l.filter fun x=>g x.born)=l.filter fun x=>f x.born:=by
  intro l hl;refine List.filter_congr fun x hx=>?_
  have:x.born ≠ b:=fun z=>hl (List.mem_map.2 ⟨x,hx,z⟩)
  rw [hg];simp [this]
 induction l with
 | nil=>intro _ h;simp at h
 | cons x l ih=>
   intro hn hm;rw [List.map_cons,List.nodup_cons] at hn;rw [List.map_cons,List.mem_cons] at hm;by_cases hx:x.born=b
   ·have h1:b ∉ l.map (·.born):=by rw [← hx];exact hn.1
    have hgx:g x.born=false:=by rw [hg,hx];simp
    have hfx:f x.born=true:=by rw [hx];exact hb
    rw [List.filter_cons,if_pos hfx,List.filter_cons,if_neg (by rw [hgx];simp),none h1,List.countP_cons,hx];cases p b <;> rfl
   ·have h1:b ∈ l.map (·.born):=hm.resolve_left (fun z=>hx z.symm);have ih:=ih hn.2 h1;have hgx:g x.born=f x.born:=by rw [hg];simp [hx]
    rw [List.filter_cons,List.filter_cons,hgx];cases hf:f x.born with
    | true=>rw [if_pos rfl,if_pos rfl,List.countP_cons,List.countP_cons,ih];omega
    | false=>rw [if_neg (by simp),if_neg (by simp),ih]
theorem ZqC (es':Array MapEntry) (seen:Array Nat) (p:Nat ->Bool) (hn:(es'.toList.map (·.born)).Nodup) {e':MapEntry} (he:e' ∈ (leftOf es' seen).toList):
 (leftOf es' seen).toList.countP (fun x=>p x.born)= (leftOf es' (seen.push e'.born)).toList.countP (fun x=>p x.born) + (bif p e'.born then 1 else 0):=by
 unfold leftOf at he ⊢;rw [Array.toList_filter,Array.toList_filter];rw [Array.toList_filter] at he;obtain⟨h1,h2⟩:=List.mem_filter.1 he
 exact Zrr (b:=e'.born) (f:=fun z=>!seen.contains z) (g:=fun z=>!(seen.push e'.born).contains z) h2 (fun x=>by
  rw [contains_push];cases seen.contains x <;> simp
  ) hn (List.mem_map.2 ⟨e',h1,rfl⟩)
variable {X:Ctx} {n wm:Nat} {rd:Option Nat} {ops:Array Oper} {l:List Oper} {rest:Code}
def CAt:Option Nat ->Fr ->Value ->Prop
 | none,_,_=>True
 | some c,fr,v=>fr.at c=v
def CIn (T:List Nat):Option Nat ->Bool
 | none=>true
 | some c=>T.contains c
theorem ZBw {s:Fs} {id:Nat} {o:Oper} {t it m X8 clock d r:Nat} {es:List MapEntry} {T:List Nat} {v:Value} {e:XX} {s2:Fs} (stp cnt:Nat ->Bool) (c:Option Nat) (cv:Nat ->Value)
 (hops:ops.toList=o::l) (hop:o.op= .next (.tmp t) false) (hgu:o.guard=none) (hfr:s.fr.at t= .pointer (some ⟨it,0,none⟩)) (hit:s.h.at it= .iter m clock X8 none) (hm:s.h.at m= .map es clock) (hck:clock <=X8) (hborn:Uk clock es=true) (ZqK:wm <=it) (htT:t ∉ T) (hd:o.dst=some d) (hdn:d < n) (hdT:d ∈ T) (hv:plain v=true)
 (hcv:∀ k,plain (cv k)=true) (hcT:∀ c0,c=some c0 ->c0 ∈ T) (hc0:CAt c s.fr (cv 0))
 (ZiX:∀ x ∈ es,∀ k,∃ ex s3,(s3.ds=s.ds∧(∀ t,t ∉ T ->s3.fr.at t=s.fr.at t)∧(ex= .normal∧stp x.born=false∧CAt c s3.fr (cv (bif cnt x.born then k + 1 else k))∨ex= .ret∧stp x.born=true∧s3.fr.at r=v))∧∀ {ρ:Ren} {F:Fence} {a:Act} {w:World},Inv ρ n {fr:=XR (XR (Yz T s.fr) c (cv k)) o.dst (.tuple #[.bool true,x.key,x.val]),ds:=s.ds,h:=s.h.put it (.iter m clock clock (some x.born)),wr:=s.wr} a w ->s.h.size <= (s.h.put it (.iter m clock clock (some x.born))).size ->FR' ρ rd F ->∀ Q':Exit ->Act ->World ->Prop,
   (∀ e' a' w',Qf s.h.size n ρ (s.h.put it (.iter m clock clock (some x.born))) w ex s3 e' a' w' ->Q' e' a' w') ->wpListIn F 0 X.P ops (Exit.then (rest.wpIn F 0 X.P Q') Q') l a w)
 (hover:(∀ x ∈ es,stp x.born=false) ->e ≠ .normal∧∀ {ρ:Ren} {F:Fence} {a:Act} {w:World},Inv ρ n {s with fr:=XR (XR (Yz T s.fr) c (cv (es.countP fun x=>cnt x.born))) o.dst U7,h:=s.h.put it .dead} a w ->wm <= (s.h.put it .dead).size ->FR' ρ rd F ->∀ Q':Exit ->Act ->World ->Prop,
   (∀ e' a' w',Qf wm n ρ (s.h.put it .dead) w e s2 e' a' w' ->Q' e' a' w') ->wpListIn F 0 X.P ops (Exit.then (rest.wpIn F 0 X.P Q') Q') l a w)
 (hstop:(∃ x ∈ es,stp x.born=true) ->e= .ret∧s2= {s with fr:=XR (Yz T s.fr) (some r) v,h:=s.h.put it .dead}):YW X (.loop (.seq (.region id ops false) rest) n wm rd s) (.code e s2):=by
 refine ZcA.2 ⟨e,s2,rfl,fun ρ a0 w0 F ZT hi0 hF=>?_⟩;obtain⟨dd,hdr⟩:∃ d,d=it:= ⟨_,rfl⟩
 have ZqM:=hi0.fr.val t (by rw [hfr];rfl);rw [hfr] at ZqM;generalize hpx:a0.tmps.getD t undef=px at ZqM;cases ZqM with
 | @ptr _ bi di _ Zea=>
 have hoi:=hi0.rel.obj _ _ _ Zea;rw [hit] at hoi;obtain⟨rfl,bm,ZLC,ZiP,Zyt,_,Zec⟩:=hoi;have Zec:=Zec rfl;subst Zec;have hom:=hi0.rel.obj _ _ _ ZiP;rw [hm] at hom;obtain⟨_,es',Zyq,hes⟩:=hom;have hilt:=hi0.rel.dom _ _ _ Zea;have ZSr:=hi0.rel.dom _ _ _ ZiP;have ZqU:m ≠ it:=fun z=>by rw [z,hit] at hm;cases hm
 have hold:∀ x ∈ es'.toList,x.born < clock:=by
  intro x hx;obtain⟨y,hy,_,_,hyb,_⟩:=hes.mem hx;rw [hyb];exact Zjv hborn y hy
 have hnd:(es'.toList.map (·.born)).Nodup:=by rw [hes.ZE6];exact Zkk hborn
 have htot:es'.toList.countP (fun x=>cnt x.born)=es.countP (fun x=>cnt x.born):=by
  have h1:∀ l:List MapEntry,l.countP (fun x=>cnt x.born)= (l.map (·.born)).countP cnt:=fun l=>by rw [List.countP_map];rfl
  rw [h1,h1,hes.ZE6]
 have Zow:∀ j b d,ρ j=some (b,d) ->b=bi ->j ≠ it ->((s.h.at j).live=true ->False):=by
  intro j b d hj hbb hne' hl;subst hbb;exact hne' (hi0.rel.inj it j b 0 d Zea hj (by rw [hit];rfl) hl).symm
 have hbne:bm ≠ bi:=fun z=>Zow m bm 0 ZiP z ZqU (by rw [hm];rfl)
 have ZNR:s.h.size= (s.h.put it .dead).size:=rfl
 have ZiU:∀ {a:Act} {w:World} {K:Act ->World ->Prop} {Q:Exit ->Act ->World ->Prop} {v:Value} {w1:World},a.tmps.getD t undef= .pointer (some ⟨bi,0,none⟩) ->(Instr.next (.pointer (some ⟨bi,0,none⟩)) false o.type).run X.P w= .ok v w1 ->
  K (a.put o.dst v) w1 ->(if Region.wanted o (yielded ops a.tmps) then o.wpIn F 0 X.P a w K Q else(∀ f,o.about X.P w a.eval=some f ->F.fn f)∧K (a.put o.dst undef) w):=by
  intro a w K Q v w1 ht hrun hK;have hw:Region.wanted o (yielded ops a.tmps)=true:=by unfold Region.wanted;rw [hgu]
  rw [if_pos hw];refine⟨fun f _=>WI hF f,?_⟩;have Zl3:o.semAt F.round a.eval=execOp a.eval o:=Oper.semAt_eq _ _ _ fun c hc=>by rw [hop] at hc;cases hc
  have he:a.eval (.tmp t)= .pointer (some ⟨bi,0,none⟩):=ht
  have hx:(execOp a.eval o).run X.P w= .ok (.value v) w1:=by
   unfold execOp;rw [hop];simp [he,hrun]
  rw [Zl3,hx];exact hK
 have ZB4:∀ (k t:Nat),(XR (Yz T s.fr) c (cv k)).at t=if c=some t then cv k else if t ∈ T then ZJY else s.fr.at t:=by
  intro k t;rw [JP,QA]
 have hcn:∀ t,t ∉ T ->c ≠ some t:=fun t ht z=>ht (hcT t z)
 have Zot:∀ (k:Nat) (a:Act) (w:World),Inv ρ n {s with fr:=XR (Yz T s.fr) c (cv k),h:=s.h.put it .dead} a w ->a.tmps.getD t undef= .pointer (some ⟨bi,0,none⟩):=by
  intro k a w hi;have hat:(XR (Yz T s.fr) c (cv k)).at t= .pointer (some ⟨it,0,none⟩):=by rw [ZB4,if_neg (hcn t htT),if_neg htT,hfr]
  have h0:VR ρ ((XR (Yz T s.fr) c (cv k)).at t) (a.tmps.getD t undef):=hi.fr.val t (by show QL ((XR (Yz T s.fr) c (cv k)).at t)=false;rw [hat];rfl);rw [hat] at h0;generalize a.tmps.getD t undef=y at h0;cases h0 with
  | ptr _ h1=>rw [Zea] at h1;cases h1;rfl
 have Zyf:(∀ x ∈ es,stp x.born=false) ->∀ (k:Nat) (a:Act) (w:World),k=es.countP (fun x=>cnt x.born) ->Inv ρ n {s with fr:=XR (Yz T s.fr) c (cv k),h:=s.h.put it .dead} a w ->Stp wm ρ s.h w0 ρ (s.h.put it .dead) w ->a.tmps.getD t undef= .pointer (some ⟨bi,0,none⟩) ->
  (Instr.next (.pointer (some ⟨bi,0,none⟩)) false o.type).run X.P w= .ok U7 w ->LoopIn F 0 X.P (.seq (.region id ops false) rest) (Qf wm n ρ s.h w0 e s2) a w:=by
  intro hall k a w hk hi hst ht hrun;obtain⟨hne,hover⟩:=hover hall;rw [← hk] at hover;refine Qn (wpIn_seq (wpIn_region_list ?_));rw [hops];refine ZiU ht hrun ?_
  have hio:Inv ρ n {s with fr:=XR (XR (Yz T s.fr) c (cv k)) o.dst U7,h:=s.h.put it .dead} (a.put o.dst U7) w:=by
   refine⟨hi.rel,?_,?_⟩
   ·rw [hd];exact hi.fr.set hdn (VR.ZQ rfl)
   ·rw [hd];exact hi.ds
  refine hover hio ZT hF _ fun e3 a3 w3 hp=>?_
  have hp2:=Qf.trans hi0.rel.lt hst hp;obtain⟨ρ3,hx3,hi3,Wm⟩:=hp2;cases hx3 with
  | normal=>exact(hne rfl).elim
  | exit id=>exact⟨ρ3,.exit id,hi3,Wm⟩
  | goto id=>exact⟨ρ3,.goto id,hi3,Wm⟩
  | ret=>exact⟨ρ3,.ret,hi3,Wm⟩
  | panic hv=>exact⟨ρ3,.panic hv,hi3,Wm⟩
 have ZEF:∀ seen:Array Nat,(∀ b,seen.contains b=true ->stp b=false) ->(leftOf es' seen).size=0 ->∀ x ∈ es,stp x.born=false:=by
  intro seen ZkW h00 x hx;obtain⟨y,hy,hyb⟩:=hes.mem' hx;refine ZkW _ ?_;cases hc:seen.contains x.born with
  | true=>rfl
  | false=>
    exfalso;have:y ∈ leftOf es' seen:=Array.mem_filter.2 ⟨Array.mem_toList_iff.1 hy,by rw [hyb,hc];rfl⟩;rw [Array.eq_empty_of_size_eq_zero h00] at this;simp at this
 have head:∀ (k:Nat) (seen:Array Nat) (last j:Nat) (a:Act) (w:World),(∀ b,seen.contains b=true ->stp b=false) ->j + (leftOf es' seen).toList.countP (fun x=>cnt x.born)=es.countP (fun x=>cnt x.born) ->(leftOf es' seen).size <=k ->clock <=last ->w.heap[bi]? =some (.mapIter (some bm) clock seen last) ->w.heap[bm]? =some (.map es' clock) ->
  Inv ρ n {s with fr:=XR (Yz T s.fr) c (cv j),h:=s.h.put it .dead} a w ->
  Stp wm ρ s.h w0 ρ (s.h.put it .dead) w ->LoopIn F 0 X.P (.seq (.region id ops false) rest) (Qf wm n ρ s.h w0 e s2) a w:=by
  intro k
  induction k with
  | zero=>
    intro seen last j a w ZkW hj hk hlast hblk Ze0 hi hst;have ht:=Zot j a w hi;rcases Zho (P:=X.P) o.type hblk Ze0 hold (hlast) with⟨h00,hrun⟩ | ⟨e',he',_⟩
    ·refine Zyf (ZEF seen ZkW h00) j a w ?_ hi hst ht hrun;rw [Array.eq_empty_of_size_eq_zero h00] at hj
     simpa using hj
    ·have:=Array.length_toList ▸ List.length_pos_of_mem he';omega
  | succ k ihk=>
    intro seen last j a w ZkW hj hk hlast hblk Ze0 hi hst;have ht:=Zot j a w hi;rcases Zho (P:=X.P) o.type hblk Ze0 hold (hlast) with⟨h00,hrun⟩ | ⟨e',he',w1,hw1,hsame,hrun⟩
    ·refine Zyf (ZEF seen ZkW h00) j a w ?_ hi hst ht hrun;rw [Array.eq_empty_of_size_eq_zero h00] at hj
     simpa using hj
    ·have hmem:= (mem_left he').1;obtain⟨x,hx,hkey,hkp,hbn,hval⟩:=hes.mem hmem;obtain⟨ex,s3,⟨ZH7,hwr,hpn⟩,hbody⟩:=ZiX x hx j;have Zyr:bi < w.heap.size:= (hi.rel.dom _ _ _ Zea).2;have ZNP:bm < w.heap.size:= (hi.rel.dom _ _ _ ZiP).2;obtain⟨w2,hw2⟩:∃ w2,w2=w1.putObj bi (.mapIter (some bm) clock (seen.push e'.born) clock):= ⟨_,rfl⟩
     rw [← hw2] at hrun;have hsz2:w2.heap.size=w.heap.size:=by rw [hw2,World.putObj_size,hw1]
     have hother:∀ k,k ≠ bi ->w2.heap[k]? =w.heap[k]?:=fun k hk=>by rw [hw2,World.putObj_heap_other hk,hw1]
     have Zyu:w2.heap[bi]? =some (.mapIter (some bm) clock (seen.push e'.born) clock):=by rw [hw2];exact World.putObj_heap_same (by rw [hw1];exact Zyr)
     have Zed:Same w w2:=by rw [hw2];exact⟨hsame.os,hsame.tape,hsame.output⟩
     have hrel:Rel ρ (s.h.put it (.iter m clock clock (some x.born))) w2:=by
      refine Zh9 hi.rel Zea Zow hother hsz2 ⟨rfl,bm,seen.push e'.born,ZiP,Zyu,fun z hz=>?_,fun z=>by cases z⟩;cases hz;rw [← hbn];simp
     have hie:Inv ρ n {fr:=XR (XR (Yz T s.fr) c (cv j)) o.dst (.tuple #[.bool true,x.key,x.val]),ds:=s.ds,h:=s.h.put it (.iter m clock clock (some x.born)),wr:=s.wr} (a.put o.dst (.tuple #[.bool true,e'.key,e'.val])) w2:=by
      refine⟨hrel,?_,?_⟩
      ·rw [hd];refine hi.fr.set hdn (.tuple _ _ rfl fun j y y' p q=>?_)
       match j,p,q with
       | 0,p,q=>simp at p q;subst p q;exact .bool true
       | 1,p,q=>simp at p q;subst p q;rw [hkey];exact VR.ZQ hkp
       | 2,p,q=>simp at p q;subst p q;exact hval
       | j + 3,p,q=>simp at p
      ·rw [hd];exact hi.ds
     refine Qn (wpIn_seq (wpIn_region_list ?_));rw [hops];refine ZiU ht hrun ?_;refine hbody hie (Nat.le_refl _) hF _ fun e3 a3 w3 hp=>?_
     obtain⟨ρ3,hx3,hi3,Wm⟩:=hp;obtain⟨q1,q2⟩:=ZaW hrel Wm;have ZqV:∀ b,b < w2.heap.size ->w3.heap[b]? =w2.heap[b]?:=fun b hb=>Wm.frame b hb fun i d hi' e _=>by have:=hrel.lt i _ e;simp at this hi';omega
     have ZEh:Rel ρ (s.h.put it .dead) w3:=by
      refine(Zcn (i:=it) q1).congr rfl fun i=>?_
      rw [H.Qe,H.Qe];by_cases hii:i=it∧i < s.h.size
      ·rw [if_pos hii,if_pos (by simpa using hii)]
      ·rw [if_neg hii,if_neg (by simpa using hii),H.Qe,if_neg hii]
     have hds:DsR ρ s.ds a3.defers:=by
      have h0:DsR ρ s.ds a.defers:=hi.ds;have h1:=hi3.ds;rw [ZH7] at h1;exact DsR.back Wm.ext h0 h1
     have ZEo:∀ t,t ∉ T ->QL (s.fr.at t)=false ->VR ρ (s.fr.at t) (a3.tmps.getD t undef):=by
      intro t KU hany;have e0:(XR (Yz T s.fr) c (cv j)).at t=s.fr.at t:=by rw [ZB4,if_neg (hcn t KU),if_neg KU]
      have h0:VR ρ ((XR (Yz T s.fr) c (cv j)).at t) _:=hi.fr.val t (by show QL ((XR (Yz T s.fr) c (cv j)).at t)=false;rw [e0];exact hany);rw [e0] at h0;have h1:=hi3.fr.val t (by rw [hwr t KU];exact hany);rw [hwr t KU] at h1;exact VR.back Wm.ext h0 h1
     have hstp:Stp wm ρ s.h w0 ρ (s.h.put it .dead) w3:=by
      refine⟨Ren.le_refl _,hst.size,hst.keep,hst.own,hst.live,Wm.os.trans (Zed.os.trans hst.os),Wm.tape.trans (Zed.tape.trans hst.tape),Wm.output.trans (Zed.output.trans hst.output),
       Nat.le_trans hst.XP (by rw [← hsz2];exact Wm.XP),fun b hb hno=>?_,fun i b d p q=>by rw [p] at q;cases q⟩
      have hbb:b ≠ bi:=fun z=>by subst z;exact hno it 0 ZqK Zea (by rw [hit];rfl)
      have:=hst.XP;rw [ZqV b (by omega),hother b hbb,hst.frame b hb hno]
     rcases hpn with⟨rfl,hpf,hcc⟩ | ⟨rfl,hpt,hrr⟩
     ·cases hx3;show LoopIn F 0 X.P _ _ a3 w3
      have hinv:Inv ρ n {s with fr:=XR (Yz T s.fr) c (cv (bif cnt x.born then j + 1 else j)),h:=s.h.put it .dead} a3 w3:=by
       refine⟨ZEh,⟨hi3.fr.size,fun t hany=>?_⟩,hds⟩
       change QL ((XR (Yz T s.fr) c _).at t)=false at hany
       show VR ρ ((XR (Yz T s.fr) c _).at t) _;rw [ZB4] at hany ⊢;by_cases hct:c=some t
       ·rw [if_pos hct];rw [hct] at hcc;have h1:=hi3.fr.val t (by rw [show s3.fr.at t=_ from hcc];exact(VR.ZQ (ρ:=ρ) (hcv _)).ZlP);rw [show s3.fr.at t=_ from hcc] at h1;have:=VR.Y8 (hcv _) h1;rw [this];exact VR.ZQ (hcv _)
       ·rw [if_neg hct] at hany ⊢;by_cases KU:t ∈ T
        ·rw [if_pos KU] at hany;cases hany
        ·rw [if_neg KU] at hany ⊢;exact ZEo t KU hany
      refine ihk (seen.push e'.born) clock _ a3 w3 (fun b hb=>by
       rw [contains_push] at hb;rcases Bool.or_eq_true_iff.1 hb with z | z
       ·exact ZkW b z
       ·have:b=e'.born:=by simpa using z
        rw [this,hbn];exact hpf) ?_ (by have:=left_shrinks es' seen e' he';omega) (Nat.le_refl _) (by rw [ZqV bi (by omega)];exact Zyu) (by rw [ZqV bm (by omega),hother bm hbne];exact Ze0) hinv hstp
      have:=ZqC es' seen cnt hnd he';rw [hbn] at this ⊢;cases hcx:cnt x.born <;> rw [hcx] at this <;> simp only [Cq1,Cq0] at this ⊢ <;> omega
     ·obtain⟨he,ZSn⟩:=hstop ⟨x,hx,hpt⟩;cases hx3 with
      | ret=>
        show Qf wm n ρ s.h w0 e s2 _ a3 w3;rw [he,ZSn];refine⟨ρ,.ret,⟨ZEh,⟨hi3.fr.size,fun t hany=>?_⟩,hds⟩,hstp⟩
        change QL ((XR (Yz T s.fr) (some r) v).at t)=false at hany
        show VR ρ ((XR (Yz T s.fr) (some r) v).at t) _;rw [JP] at hany ⊢;by_cases hrt:some r=some t
        ·rw [if_pos hrt] at hany ⊢;have hrt:=Oi0 hrt;subst hrt;have h1:=hi3.fr.val r (by rw [hrr];exact(VR.ZQ (ρ:=ρ) hv).ZlP);rw [hrr] at h1;have:=VR.Y8 hv h1;rw [this];exact VR.ZQ hv
        ·rw [if_neg hrt] at hany ⊢;rw [QA] at hany ⊢;by_cases KU:t ∈ T
         ·rw [if_pos KU] at hany;cases hany
         ·rw [if_neg KU] at hany ⊢;exact ZEo t KU hany
 have ZHS:Stp wm ρ s.h w0 ρ (s.h.put it .dead) w0:=by
  have kk:=Ug (h:=s.h) (A:= .dead) ZqK (by rw [hit];rfl);exact⟨Ren.le_refl _,Nat.le_refl _,kk.keep,kk.own,kk.live,rfl,rfl,rfl,Nat.le_refl _,fun _ _ _=>rfl,fun i b d e e'=>by rw [e] at e';cases e'⟩
 refine head _ #[] X8 0 a0 w0 (fun b hb=>by simp at hb) ?_ (Nat.le_refl _) hck Zyt Zyq ⟨Zcn hi0.rel,⟨hi0.fr.size,fun t hany=>?_⟩,hi0.ds⟩ ZHS
 ·rw [Nat.zero_add,← htot];unfold leftOf;rw [Array.toList_filter];congr 1;exact List.filter_eq_self.2 fun x _=>by simp
 change QL ((XR (Yz T s.fr) c (cv 0)).at t)=false at hany
 show VR ρ ((XR (Yz T s.fr) c (cv 0)).at t) _;rw [ZB4] at hany ⊢;by_cases hct:c=some t
 ·rw [if_pos hct];rw [hct] at hc0;have h1:=hi0.fr.val t (by rw [show s.fr.at t=_ from hc0];exact(VR.ZQ (ρ:=ρ) (hcv _)).ZlP);rw [show s.fr.at t=_ from hc0] at h1;exact h1
 ·rw [if_neg hct] at hany ⊢;by_cases ht:t ∈ T
  ·rw [if_pos ht] at hany;cases hany
  ·rw [if_neg ht] at hany ⊢;exact hi0.fr.val t hany
structure ZjI (T:List Nat) (fr:Fr) (ds:List Deferred) (c:Option Nat) (kd:IntKind) (up:Int ->Int) (a:Int) (r:Nat) (v:Value) (p:Option Bool) (e:XX) (s:Fs):Prop where
 ds:s.ds=ds
 fr:MFr T fr s.fr
 e:e= .normal∧p=some false∧CAt c s.fr (.int kd a)∨e= .normal∧p=some true∧CAt c s.fr (.int kd (up a))∨e= .ret∧p=none∧s.fr.at r=v
theorem ZjI.XY {T:List Nat} {fr f:Fr} {ds:List Deferred} {c:Option Nat} {kd:IntKind} {up:Int ->Int} {a:Int} {r:Nat} {v:Value} {h:H} (k:MFr T fr f) (hc:CAt c f (.int kd a)):ZjI T fr ds c kd up a r v (some false) .normal ⟨f,ds,h,none⟩:= ⟨rfl,k,.inl ⟨rfl,rfl,hc⟩⟩
theorem ZjI.ret {T:List Nat} {fr f:Fr} {ds:List Deferred} {c:Option Nat} {kd:IntKind} {up:Int ->Int} {a:Int} {r:Nat} {v:Value} {h:H} (k:MFr T fr f) (hr:f.at r=v):ZjI T fr ds c kd up a r v none .ret ⟨f,ds,h,none⟩:= ⟨rfl,k,.inr (.inr ⟨rfl,rfl,hr⟩)⟩
section
variable {wm:Nat} {G Gr:List (Ast wm)} {h h0:H} {T0:Nat ->Prop} {fr:Fr} {ds:List Deferred} {κ ν:Type} {kv:κ ->Value} {vv:ν ->Value} {ll:List (κ×ν)} {d:Nat}
theorem ZiD {P:κ×ν ->Bool} {ct:Nat ->Bool}:∀ {ll:List (κ×ν)} {bs:List Nat},bs.length=ll.length ->(∀ (j:Nat) (y:κ×ν) (b:Nat),ll[j]? =some y ->bs[j]? =some b ->ct b=P y) ->(YV kv vv ll bs).countP (fun x=>ct x.born)=ll.countP P
 | [],_,_,_=>by unfold YV;simp
 | x::ll,[],h,_=>by simp at h
 | x::ll,b::bs,h,k=>by
   have ih:=ZiD (ll:=ll) (bs:=bs) (by simpa using h) fun j y b' h1 h2=>k (j + 1) y b' (by simpa using h1) (by simpa using h2)
   have h0:=k 0 x b rfl rfl;unfold YV at ih ⊢;rw [List.zipWith_cons_cons,List.countP_cons,List.countP_cons,ih];dsimp only;rw [h0]
structure RK (it:Nat) (h h2:H):Prop where
 it_:∃ a b c d,h.at it= .iter a b c d
 at_:∀ i,i ≠ it ->h2.at i=h.at i
theorem ZAn.rk {κ ν:Type} {kv:κ ->Value} {vv:ν ->Value} {it:Nat} {h h2:H} {m:Nat} {l:List (κ×ν)} (s:ZAn kv vv h.size h (some m) l) (k:RK it h h2):ZAn kv vv h.size h2 (some m) l:=
 ⟨s.at_.keep fun i e=>(by
   cases e;refine k.at_ m fun z=>?_
   obtain⟨a,b,c,d,e1⟩:=k.it_;rcases s.at_.mem with⟨q,_⟩ | ⟨j,bs,X8,q,h1,_⟩
   ·cases q
   ·cases q;rw [z,e1] at h1;cases h1),s.low⟩
theorem ZCU {α β:Type} {k:α} {s:Option β} {f:α ->Option β} {r:β} (h:Option.elim (some k) s f=some r):f k=some r:=h
theorem ZCV {α β:Type} {s:Option β} {f:α ->Option β} {r:β} (h:Option.elim none s f=some r):s=some r:=h
theorem WL.ZRE {Q:XX ->Fs ->Prop} {id:Nat} {o:Oper} {t it m X8:Nat} {bs:List Nat} {b:κ ->ν ->Option (Option Bool)} {q:Option Nat} (T:List Nat) (c:Option Nat) (kd:IntKind) (up:Int ->Int) (a0:Int) (r:Nat) (v:Value) (hq:Zxw b ll=some q) (hS:Sp wm T0 h0 G h) (pi:Pk G (ob wm it (.iter m X8 X8 none)) Gr) (hat:fr.at t= .pointer (some ⟨it,0,none⟩)) (hc:CAt c fr (.int kd a0)) (hm:h.at m= .map (YV kv vv ll bs) X8) (hb:bs.length=ll.length∧bs.Nodup∧∀ x ∈ bs,x < X8)
 (hops:ops.toList=o::l) (hop:o.op= .next (.tmp t) false) (hgu:o.guard=none) (hd:o.dst=some d) (hdn:Nat.blt d n=true) (hT:T.contains t=false) (hdT:T.contains d=true) (hcT:CIn T c=true) (hrT:T.contains r=true) (hv:plain v=true)
 (body:∀ (x:κ×ν) (p:Option Bool),b x.1 x.2=some p ->∀ a h2 fr',Agr T fr fr' ->CAt c fr' (.int kd a) ->RK it h h2 ->Sp h.size (Qw ([]:List (Ast h.size))) h2 [] h2 ->ZDP kv vv h2 it x ->WO X n h.size rd ops l ⟨Tr.set fr' d (.tuple #[.bool true,kv x.1,vv x.2]),ds,h2,none⟩ (Zey X n h.size rd rest (ZjI T fr' ds c kd up a r v p)))
 (over:∀ k,q=some k ->∀ h' fr',Agr T fr fr' ->CAt c fr' (.int kd (ZiN up k a0)) ->Sp wm T0 h0 Gr h' ->WO X n wm rd ops l ⟨Tr.set fr' d (.tuple #[.bool false]),ds,h',none⟩ (Zey X n wm rd rest (ZDN Q)))
 (stop:q=none ->∀ h' fr',Agr T fr fr' ->fr'.at r=v ->Sp wm T0 h0 Gr h' ->Q .ret ⟨fr',ds,h',none⟩):WL X n wm rd (.seq (.region id ops false) rest) ⟨fr,ds,h,none⟩ Q:=by
 obtain⟨hb1,hb2,hb3⟩:=hb;obtain⟨o1,o2,o3⟩:=hS.get pi;obtain⟨m1,m2,m3⟩:=ZkS hq;have Zs3:∀ t',T.contains t'=false ->t' ∉ T:=fun t' ht' z=>by rw [← List.contains_iff_mem] at z;rw [z] at ht';cases ht'
 have ZIa:∀ c0,c=some c0 ->c0 ∈ T:=fun c0 z=>by subst z;exact List.contains_iff_mem.1 hcT
 obtain⟨cv,hcv⟩:∃ cv:Nat ->Value,cv=fun k=>.int kd (ZiN up k a0):= ⟨_,rfl⟩
 have ZOc:∀ k,Agr T fr (XR (Yz T fr) c (cv k)):=fun k t' v' ht' hv'=>by
  rw [JP,if_neg (fun z=>Zs3 t' ht' (ZIa t' z)),QA,if_neg (Zs3 t' ht'),hv']
 have ZSE:∀ k,CAt c (XR (Yz T fr) c (cv k)) (cv k):=fun k=>by
  cases c with
  | none=>trivial
  | some c0=>show(XR _ _ _).at c0=_;rw [JP,if_pos rfl]
 have ZEs:∀ k,CAt c (XR (Yz T fr) c (cv k)) (.int kd (ZiN up k a0)):=fun k=>by
  rw [show Value.int kd (ZiN up k a0)=cv k by rw [hcv]];exact ZSE k
 have htT:t ∉ T:=Zs3 t hT;have ZSC:d ∈ T:=List.contains_iff_mem.1 hdT;have ZSq:m ≠ it:=fun z=>by rw [z,o1] at hm;cases hm
 classical
 let pn:Nat ->Bool:=fun bn=>decide (∃ (j:Nat) (y:κ×ν),ll[j]? =some y∧bs[j]? =some bn∧b y.1 y.2=some none)
 let ct:Nat ->Bool:=fun bn=>decide (∃ (j:Nat) (y:κ×ν),ll[j]? =some y∧bs[j]? =some bn∧b y.1 y.2=some (some true))
 have uniq:∀ (j j':Nat) (bn:Nat),bs[j]? =some bn ->bs[j']? =some bn ->j'=j:=by
  intro j j' bn h2 h2';obtain⟨q1,e1⟩:=Li0 h2';obtain⟨q2,e2⟩:=Li0 h2;exact(List.getElem_inj hb2).1 (e1.trans e2.symm)
 have spec:∀ (z:Option Bool) (j:Nat) (y:κ×ν) (bn:Nat),ll[j]? =some y ->bs[j]? =some bn ->decide (∃ (j:Nat) (y:κ×ν),ll[j]? =some y∧bs[j]? =some bn∧b y.1 y.2=some z)=decide (b y.1 y.2=some z):=by
  intro z j y bn h1 h2;by_cases hp:b y.1 y.2=some z
  ·rw [decide_eq_true hp];exact decide_eq_true ⟨j,y,h1,h2,hp⟩
  ·rw [decide_eq_false hp];refine decide_eq_false ?_;rintro⟨j',y',h1',h2',hp'⟩;have hj:=uniq j j' bn h2 h2';subst hj;rw [h1] at h1';cases h1';exact hp hp'
 have ZlJ:∀ (j:Nat) (y:κ×ν) (bn:Nat),ll[j]? =some y ->bs[j]? =some bn ->pn bn=decide (b y.1 y.2=some none):=spec none;have Ztu:∀ (j:Nat) (y:κ×ν) (bn:Nat),ll[j]? =some y ->bs[j]? =some bn ->ct bn=decide (b y.1 y.2=some (some true)):=spec (some true)
 have ZEr:Sp wm T0 h0 Gr (h.put it .dead):=
  Sp.step (Ga:= [ob wm it (.iter m X8 X8 none)]) (Gb:= []) (hS.perm pi.perm) (Up.put o2 (by rw [o1];rfl)) (fun i e=>⟨_,List.mem_singleton.2 rfl,e⟩) Yd.nil fun i ⟨A,mm,f⟩=>by simp at mm
 have ZiX:∀ x ∈ YV kv vv ll bs,∀ k,∃ ex s3,(s3.ds=ds∧(∀ t,t ∉ T ->s3.fr.at t=fr.at t)∧(ex= .normal∧pn x.born=false∧CAt c s3.fr (cv (bif ct x.born then k + 1 else k))∨ex= .ret∧pn x.born=true∧s3.fr.at r=v))∧∀ {ρ:Ren} {F:Fence} {a:Act} {w:World},Inv ρ n {fr:=XR (XR (Yz T fr) c (cv k)) o.dst (.tuple #[.bool true,x.key,x.val]),ds:=ds,h:=h.put it (.iter m X8 X8 (some x.born)),wr:=none} a w ->h.size <= (h.put it (.iter m X8 X8 (some x.born))).size ->FR' ρ rd F ->∀ Q':Exit ->Act ->World ->Prop,
  (∀ e' a' w',Qf h.size n ρ (h.put it (.iter m X8 X8 (some x.born))) w ex s3 e' a' w' ->Q' e' a' w') ->wpListIn F 0 X.P ops (Exit.then (rest.wpIn F 0 X.P Q') Q') l a w:=by
  intro x hx k;obtain⟨j,y,bn,h1,h2,rfl⟩:=Zoj hx;obtain⟨p,hp⟩:=m1 y (List.mem_iff_getElem?.2 ⟨j,h1⟩);have hpn:=ZlJ j y bn h1 h2;have hct:=Ztu j y bn h1 h2;have hsz:(h.put it (.iter m X8 X8 (some bn))).size=h.size:=H.size_put _ _ _;have e1:(h.put it (.iter m X8 X8 (some bn))).at it= .iter m X8 X8 (some bn):=YC (X9 o1 rfl) _;have e2:(h.put it (.iter m X8 X8 (some bn))).at m= .map (YV kv vv ll bs) X8:=by rw [Qk ZSq,hm]
  have hent:ZDP kv vv (h.put it (.iter m X8 X8 (some bn))) it y:=by
   unfold ZDP Zeu;simp only [e1,e2,Nat.beq_refl,Cq1,ZkO hb2 h1 h2]
  obtain⟨ex,s3,⟨q1,q2,q3⟩,q4⟩:=WO.body (body y p hp (ZiN up k a0) (h.put it (.iter m X8 X8 (some bn))) (XR (Yz T fr) c (cv k)) (ZOc k) (ZEs k) ⟨⟨_,_,_,_,o1⟩,fun i hi=>Qk hi _⟩ (Sp.start (Nat.le_of_eq hsz.symm) Yd.nil) hent);refine⟨ex,s3,⟨q1,fun t' ht'=>?_,?_⟩,?_⟩
  ·rw [q2 t' ht',JP,if_neg (fun z=>ht' (ZIa t' z)),QA,if_neg ht']
  ·dsimp only;rw [hpn,hct,hp];rcases q3 with⟨z1,z2,z3⟩ | ⟨z1,z2,z3⟩ | ⟨z1,z2,z3⟩
   ·subst z2;exact .inl ⟨z1,rfl,by rw [hcv];exact z3⟩
   ·subst z2;exact .inl ⟨z1,rfl,by rw [hcv];simpa [ZiN] using z3⟩
   ·subst z2;exact .inr ⟨z1,rfl,z3⟩
  ·rw [hd];intro ρ F a w i1 i2 i3 Q' i4;exact q4 i1 i2 i3 Q' i4
 have key:=fun(e:XX) (s2:Fs)=>ZBw (X:=X) (n:=n) (wm:=wm) (rd:=rd) (rest:=rest) (id:=id) (s:= ⟨fr,ds,h,none⟩) (e:=e) (s2:=s2) (T:=T) (v:=v) (r:=r) pn ct c cv hops hop hgu hat o1 hm (Nat.le_refl _) (ZiE hb2 hb3) o2 htT hd (by rwa [Nat.blt_eq] at hdn) ZSC hv (fun k=>by rw [hcv];rfl) ZIa (by rw [hcv];exact hc) ZiX
 cases q with
 | none=>
   have hst:=stop rfl (h.put it .dead) (XR (Yz T fr) (some r) v) (fun t' v' ht' hv'=>by
    rw [JP,if_neg (fun z=>by have z:=Oi0 z;subst z;rw [hrT] at ht';cases ht'),QA,if_neg (Zs3 t' ht'),hv']) (by rw [JP,if_pos rfl]) ZEr
   refine⟨.ret,⟨XR (Yz T fr) (some r) v,ds,h.put it .dead,none⟩,hst,key _ _ (fun hall=>?_) fun _=>⟨rfl,rfl⟩⟩;exfalso;obtain⟨y,hy,hyb⟩:=m2.1 rfl;obtain⟨j,hj⟩:=List.mem_iff_getElem?.1 hy;have hjl:= (Li0 hj).1;have h2:bs[j]? =some (bs[j]'(by omega)):=List.getElem?_eq_getElem _;have:=hall _ (ZBu hj h2);rw [ZlJ j y _ hj h2,decide_eq_true hyb] at this;cases this
 | some k=>
   have hk:(YV kv vv ll bs).countP (fun x=>ct x.born)=k:=by rw [m3 k rfl];exact ZiD hb1 Ztu
   obtain⟨e,s2,⟨q1,q2⟩,q3⟩:=WO.body (over k rfl _ _ (ZOc k) (ZEs k) ZEr);refine⟨e,s2,q2,key e s2 (fun _=>⟨q1,?_⟩) fun⟨x,hx,hp⟩=>?_⟩
   ·dsimp only;rw [hk,hd];rw [hcv] at q3 ⊢;intro ρ F a w i1 i2 i3 Q' i4;exact q3 i1 i2 i3 Q' i4
   ·exfalso;obtain⟨j,y,bn,h1,h2,rfl⟩:=Zoj hx;have hpn:=ZlJ j y bn h1 h2;rw [show pn bn=true from hp] at hpn;have hy:=of_decide_eq_true hpn.symm;exact absurd (m2.2 ⟨y,List.mem_iff_getElem?.2 ⟨j,h1⟩,hy⟩) (by simp)
end
end
section
variable {P:Program}
end
section
variable {X:Ctx} {n wm:Nat} {rd:Option Nat} {ops:Array Oper} {ol:List Oper} {fr:Fr} {ds:List Deferred} {h h0:H} {ty:TypeId} {p:String} {af:Array Edge} {g:Option (Nat×Bool)} {T:Nat ->Prop} {G Gr:List (Ast wm)} {d l df:Nat} {LO:XU} {ps:Array Tmp} {YF bd:Code}
theorem Zn2 {α β:Type} {body:α ->(α ->Option β) ->Option β} (C:α ->β ->Prop) (hb:∀ next:α ->Option β,(∀ x r,next x=some r ->C x r) ->∀ x r,body x next=some r ->C x r):∀ F x r,loop F body x=some r ->C x r:=by
 intro F
 induction F with
 | zero=>intro x r h;cases h
 | succ F ih=>intro x r h;exact hb _ ih x r h
def dne (c:Code):XU ->XU
 | .loop _ _ fr n ps YF bd df=>.loop .done (some c) fr n ps YF bd df
 | A=>A
def lst (b:Bool) (c:Code) (A:XU):XU:=bif b then dne c A else A
inductive ZtI:XX ->Code ->Prop
 | ret:ZtI .ret .ret
 | exit (id:Nat):ZtI (.exit id) (.exit id)
structure BdS (n lo l:Nat) (fr:Fr) (ps:Array Tmp) (YF bd:Code) (df:Nat) (R:Bool ->H ->Prop) (e:XX) (s:Fs):Prop where
 out:s.h.at l= .loop .busy none fr n ps YF bd df∧
  ((e= .normal∧∀ h',(lo <=l ->Up lo (fun i=>i=l) s.h h') ->h'.at l= .loop .ready none fr n ps YF bd df ->R true h')∨
   (∃ c,ZtI e c∧∀ h',(lo <=l ->Up lo (fun i=>i=l) s.h h') ->h'.at l= .loop .done (some c) fr n ps YF bd df ->R false h'))
structure AsS (X:Ctx) (n wm lo l:Nat) (fr:Fr) (ps:Array Tmp) (YF bd:Code) (df:Nat) (R:Bool ->H ->Prop) (e:XX) (s:Fs):Prop where
 out:e= .normal∧s.h.at l= .loop .ready none fr n ps YF bd df∧∀ h1,(lo <=l ->Up lo (fun i=>i=l) s.h h1) ->h1.at l= .loop .busy none fr n ps YF bd df ->WC X n wm (some l) bd ⟨s.fr,s.ds,h1,s.wr⟩ (BdS n lo l fr ps YF bd df R)
theorem ZrZ.mkS {l:Nat} {args:List Value} {fr fr1:Fr} {ps:Array Tmp} {YF bd:Code} {df:Nat} {R:Bool ->H ->Prop} (lo:Nat) (hat:h.at l= .loop .ready none fr n ps YF bd df) (hw:wm <=l) (hl:Nat.beq args.length ps.toList.length=true) (hs:QO (ps.toList.zip args) n fr=some fr1)
 (k:WC X n wm (some l) YF ⟨fr1,[],h,none⟩ (AsS X n wm lo l fr ps YF bd df R)):ZrZ X l args.toArray wm h R:=by
 obtain⟨e1,s1,⟨rfl,h1,k1⟩,j1⟩:=k;have o1:(s1.h.at l).own=true:=by rw [h1];rfl
 have s1l:=X9 h1 rfl;obtain⟨e2,s2,⟨h2,k2⟩,j2⟩:=k1 (s1.h.put l (.loop .busy none fr n ps YF bd df)) (fun hl=>Up.put hl o1) (YC s1l _);have o2:(s2.h.at l).own=true:=by rw [h2];rfl
 have s2l:=X9 h2 rfl
 have key:∃ b A,R b (s2.h.put l A)∧WJ l e2 s2=some (.fin (.ret (.bool b)) (s2.h.put l A)):=by
  rcases k2 with⟨rfl,k2⟩ | ⟨c,hx,k2⟩
  ·refine⟨true,_,k2 _ (fun hl=>Up.put hl o2) (YC s2l _),?_⟩;unfold WJ;rw [h2]
  ·refine⟨false,_,k2 _ (fun hl=>Up.put hl o2) (YC s2l _),?_⟩;unfold WJ;rw [h2];cases hx <;> rfl
 obtain⟨b,A,hR,hev⟩:=key;refine⟨b,s2.h.put l A,hR,?_⟩
 classical
 let ih:Jr ->Option Xa:=fun j=>if j= .code YF n wm (some l) ⟨fr1,[],h,none⟩ then some (.code .normal s1) else Zat (.code bd n wm (some l) {s1 with h:=s1.h.put l (.loop .busy none fr n ps YF bd df)}) (.code e2 s2) j
 have HI:∀ j r,ih j=some r ->YW X j r:=by
  intro j r e;dsimp only [ih] at e;split at e
  ·rename_i hj;cases e;rw [hj];exact j1
  ·exact Uz (X:=X) j2 j r e
 refine Zax (C:=cfg X fun _=>false) (ih:=ih) HI ?_;unfold Zdq;rw [hat];have hl':Nat.beq args.toArray.toList.length ps.toList.length=true:=hl;dsimp only;rw [Nm0 hw,hl'];simp only [Bool.and_self,Cq1];have hs':QO (ps.toList.zip args.toArray.toList) n fr=some fr1:=hs;rw [hs'];dsimp only;have i1:ih (.code YF n wm (some l) {fr:=fr1,ds:= [],h:=h})=some (.code .normal s1):=by dsimp only [ih];rw [if_pos rfl]
 rw [i1];show KY ih l bd n wm .normal s1=_;unfold KY;dsimp only;rw [h1];dsimp only
 have i2:ih (.code bd n wm (some l) {s1 with h:=s1.h.put l (.loop .busy none fr n ps YF bd df)})=some (.code e2 s2):=by
  dsimp only [ih];split
  ·rename_i hj;exfalso;injection hj with _ _ _ _ hs
   have:({s1 with h:=s1.h.put l (.loop .busy none fr n ps YF bd df)}:Fs).h.at l=h.at l:=by rw [hs]
   dsimp only at this;rw [YC s1l,hat] at this;cases this
  ·exact UA _ _
 rw [i2];exact hev
theorem WO.ZKR {Q:XX ->Fs ->Prop} {fo:Operand} {xs:Array Operand} {ts:Array TypeId} {vs:List Value} {n2:Nat} {JH fr1:Fr} {as2 bd2:Code} (hg:Yv ops ⟨some d,.call {callee:= .value fo,args:=xs,argTypes:=ts},ty,p,af,g⟩ fr) (hd:Nat.blt d n=true) (hf:Yu fr fo=some (.func (.yield l) #[] #[])) (hx:evs (Yu fr) xs.toList=some vs)
 (hS:Sp wm T h0 G h) (pk:Pk G (ob wm l LO) Gr) (hLO:LO= .loop .ready none JH n2 ps as2 bd2 df) (hl:Nat.beq vs.length ps.toList.length=true) (hs:QO (ps.toList.zip vs) n2 JH=some fr1)
 (k:WC X n2 wm (some l) as2 ⟨fr1,[],h,none⟩ (AsS X n2 wm wm l JH ps as2 bd2 df (fun b h'=>WO X n wm rd ops ol ⟨Tr.set fr d (.bool b),ds,h',none⟩ Q))):
 WO X n wm rd ops (⟨some d,.call {callee:= .value fo,args:=xs,argTypes:=ts},ty,p,af,g⟩::ol) ⟨fr,ds,h,none⟩ Q:=by
 obtain⟨h1,h2,h3⟩:=hS.get pk;have hat:=h1.trans hLO;exact WO.yld hg hd hf hx hat (Nb0 hl) (ZrZ.mkS (lo:=wm) hat h2 hl hs k) fun b h' hk=>hk
theorem AsS.sp {JH:Fr} {R:Bool ->H ->Prop} (hLO:LO= .loop .ready none fr n ps YF bd df) (hS:Sp wm T h0 G h) (pk:Pk G (ob wm l LO) Gr) (k:∀ h1,Sp wm T h0 (ob wm l (bsy LO)::Gr) h1 ->WC X n wm (some l) bd ⟨JH,ds,h1,none⟩ (BdS n wm l fr ps YF bd df R)):AsS X n wm wm l fr ps YF bd df R .normal ⟨JH,ds,h,none⟩:=by
 obtain⟨h1,h2,h3⟩:=hS.get pk;refine⟨⟨rfl,h1.trans hLO,fun h' u e=>k h' ?_⟩⟩;exact hS.one pk (u h2) (fun _ q=>q) ⟨by rw [e,hLO];rfl,h2,by rw [hLO];rfl⟩ fun _ q=>.inl q
theorem BdS.sp {JH:Fr} {R:Bool ->H ->Prop} (hLO:LO= .loop .ready none fr n ps YF bd df) (hS:Sp wm T h0 G h) (pk:Pk G (ob wm l (bsy LO)) Gr) (k:∀ h1,Sp wm T h0 (ob wm l LO::Gr) h1 ->R true h1):BdS n wm l fr ps YF bd df R .normal ⟨JH,ds,h,none⟩:=by
 obtain⟨h1,h2,h3⟩:=hS.get pk;refine⟨⟨h1.trans (by rw [hLO];rfl),.inl ⟨rfl,fun h' u e=>k h' ?_⟩⟩⟩;exact hS.one pk (u h2) (fun _ q=>q) ⟨by rw [e,hLO],h2,by rw [hLO];rfl⟩ fun _ q=>.inl q
theorem BdS.stop {JH:Fr} {R:Bool ->H ->Prop} {e:XX} {c:Code} (hx:ZtI e c) (hLO:LO= .loop .ready none fr n ps YF bd df) (hS:Sp wm T h0 G h) (pk:Pk G (ob wm l (bsy LO)) Gr) (k:∀ h1,Sp wm T h0 (ob wm l (lst true c LO)::Gr) h1 ->R false h1):BdS n wm l fr ps YF bd df R e ⟨JH,ds,h,none⟩:=by
 obtain⟨h1,h2,h3⟩:=hS.get pk;refine⟨⟨h1.trans (by rw [hLO];rfl),.inr ⟨c,hx,fun h' u e=>k h' ?_⟩⟩⟩;exact hS.one pk (u h2) (fun _ q=>q) ⟨by rw [e,hLO];rfl,h2,by rw [hLO];rfl⟩ fun _ q=>.inl q
structure RgS (X:Ctx) (wm l:Nat) (fr:Fr) (n:Nat) (ps:Array Tmp) (YF bd:Code) (df:Nat) (ds:List Deferred) (Q:XX ->Fs ->Prop) (h:H):Prop where
 low:wm <=l
 k:(h.at l= .loop .ready none fr n ps YF bd df∧∀ h',Up wm (fun i=>i=l) h h' ->Q .normal ⟨fr,⟨.collected df,#[]⟩::ds,h',none⟩)∨
  (∃ c,h.at l= .loop .done (some c) fr n ps YF bd df∧∀ h',Up wm (fun i=>i=l) h h' ->WC X n wm none c ⟨fr,⟨.collected df,#[]⟩::ds,h',none⟩ Q)
theorem RgS.sp {Q:XX ->Fs ->Prop} (hLO:LO= .loop .ready none fr n ps YF bd df) (hS:Sp wm T h0 G h) (pk:Pk G (ob wm l LO) Gr) (k:∀ h',Sp wm T h0 Gr h' ->Q .normal ⟨fr,⟨.collected df,#[]⟩::ds,h',none⟩):RgS X wm l fr n ps YF bd df ds Q h:=by
 obtain⟨h1,h2,h3⟩:=hS.get pk;refine⟨h2,.inl ⟨h1.trans hLO,fun h' u=>k h' ?_⟩⟩;exact Sp.step (Ga:= [ob wm l LO]) (Gb:= []) (hS.perm pk.perm) u (fun i e=>⟨_,List.mem_singleton.2 rfl,e⟩) Yd.nil fun i ⟨A,m,f⟩=>by simp at m
theorem RgS.stop {Q:XX ->Fs ->Prop} {c:Code} (hLO:LO= .loop .ready none fr n ps YF bd df) (hS:Sp wm T h0 G h) (pk:Pk G (ob wm l (lst true c LO)) Gr) (k:∀ h',Sp wm T h0 Gr h' ->WC X n wm none c ⟨fr,⟨.collected df,#[]⟩::ds,h',none⟩ Q):RgS X wm l fr n ps YF bd df ds Q h:=by
 obtain⟨h1,h2,h3⟩:=hS.get pk;refine⟨h2,.inr ⟨c,h1.trans (by rw [hLO];rfl),fun h' u=>k h' ?_⟩⟩;exact Sp.step (Ga:= [ob wm l (lst true c LO)]) (Gb:= []) (hS.perm pk.perm) u (fun i e=>⟨_,List.mem_singleton.2 rfl,e⟩) Yd.nil fun i ⟨A,m,f⟩=>by simp at m
theorem WC.ZwE {Q:XX ->Fs ->Prop} {gg:Operand} {f:FuncId} {first cap:List Value} (hS:Sp wm T h0 G h) (hg:Yu fr gg=some (.func (.func f) first.toArray cap.toArray)) (hf:(X.fns.get f).isSome=true)
 (k:∀ h' l df LO,LO=XU.loop .ready none fr n ps YF bd df ->Sp wm T h0 (ob wm l LO::ob wm df .deferred::G) h' ->WR X f (first ++ ([Value.func (.yield l) #[] #[]] ++ cap)).toArray wm h' (fun _ h2=>RgS X wm l fr n ps YF bd df ds Q h2)):
 WC X n wm none (.rangeFunc gg ps YF bd) ⟨fr,ds,h,none⟩ Q:=by
 have s1:Sp wm T h0 (ob wm h.size .deferred::G) (h.push .deferred):=Ziy rfl hS
 have s2:Sp wm T h0 (ob wm (h.size + 1) (.loop .ready none fr n ps YF bd h.size)::ob wm h.size .deferred::G) ((h.push .deferred).push (.loop .ready none fr n ps YF bd h.size)):=by
  have:=Ziy (A:= .loop .ready none fr n ps YF bd h.size) rfl s1
  rwa [H.size_push] at this
 obtain⟨fn,hf⟩:=Option.isSome_iff_exists.1 hf;obtain⟨e,h3,⟨v,rfl,hr⟩,hj⟩:=k _ _ _ _ rfl s2
 have hac:Kb (cfg X fun _=>false).X ((h.push .deferred).push (.loop .ready none fr n ps YF bd h.size)) (.func (.func f) first.toArray cap.toArray) [Value.func (.yield (h.size + 1)) #[] #[]]=some (.enter f (first ++ ([Value.func (.yield (h.size + 1)) #[] #[]] ++ cap)).toArray,.none):=by
  unfold Kb;have:(cfg X fun _=>false).X.fns.get f=some fn:=hf;dsimp only;rw [this];simp only [List.append_assoc]
 rcases hr.k with⟨hat,hk⟩ | ⟨c,hat,hk⟩
 ·refine⟨.normal,_,hk (h3.put (h.size + 1) (.loop .exhausted none fr n ps YF bd h.size)) (Up.put hr.low (by rw [hat];rfl)),?_⟩;refine X7.2 (Wu (C:=cfg X fun _=>false) (ih:=Zat (.call f _ wm _) (.fin (.ret v) h3)) (Uz hj) ?_);show QX (cfg X fun _=>false) _ gg n wm none (h.size + 1) ⟨fr,⟨.collected h.size,#[]⟩::ds,(h.push .deferred).push (.loop .ready none fr n ps YF bd h.size),none⟩=_;unfold QX;dsimp only;rw [hg];dsimp only;rw [hac];dsimp only;unfold UY;rw [UA];dsimp only;rw [hat]
  rfl
 ·obtain⟨e2,s2,hq,hj2⟩:=hk (h3.put (h.size + 1) (.loop .exhausted (some c) fr n ps YF bd h.size)) (Up.put hr.low (by rw [hat];rfl));refine⟨e2,s2,hq,?_⟩
  classical
  let ih:Jr ->Option Xa:=fun j=>if j= .code c n wm none ⟨fr,⟨.collected h.size,#[]⟩::ds,h3.put (h.size + 1) (.loop .exhausted (some c) fr n ps YF bd h.size),none⟩ then some (.code e2 s2) else Zat (.call f (first ++ ([Value.func (.yield (h.size + 1)) #[] #[]] ++ cap)).toArray wm ((h.push .deferred).push (.loop .ready none fr n ps YF bd h.size))) (.fin (.ret v) h3) j
  have HI:∀ j r,ih j=some r ->YW X j r:=by
   intro j r e;dsimp only [ih] at e;split at e
   ·rename_i hj';cases e;rw [hj'];exact hj2
   ·exact Uz (X:=X) hj j r e
  refine X7.2 (Wu (C:=cfg X fun _=>false) (ih:=ih) HI ?_);show QX (cfg X fun _=>false) _ gg n wm none (h.size + 1) ⟨fr,⟨.collected h.size,#[]⟩::ds,(h.push .deferred).push (.loop .ready none fr n ps YF bd h.size),none⟩=_;unfold QX;dsimp only;rw [hg];dsimp only;rw [hac];dsimp only;unfold UY
  have i1:ih (.call f (first ++ ([Value.func (.yield (h.size + 1)) #[] #[]] ++ cap)).toArray wm ((h.push .deferred).push (.loop .ready none fr n ps YF bd h.size)))=some (.fin (.ret v) h3):=by
   dsimp only [ih];split
   ·rename_i hj';cases hj'
   ·exact UA _ _
  rw [i1];dsimp only;rw [hat];show ih (.code c n wm none _)=_;dsimp only [ih];rw [if_pos rfl]
theorem ZnT {κ ν:Type} [DecidableEq κ] {kv:κ ->Value} {vv:ν ->Value} {kt vt:TypeId} {i:Nat} {ll:List (κ×ν)} {t:TypeId} {x y z:Operand} {k:κ} {v:ν} (hS:Sp wm T h0 G h) (pk:Pk G (mp wm kv vv (some i) ll) Gr) (K:ZbI X.P kt kv) (hu:X.P.underlying t=some (.map kt vt)) (hx:Yu fr x=some (.map (some i))) (hy:Yu fr y=some (kv k)) (hz:Yu fr z=some (vv v)):
 HU X wm ⟨none,.insert t x y z,ty,p,af,g⟩ fr h (fun j=>j=i) (fun h'=>Sp wm T h0 (mp wm kv vv (some i) (Kk ll k v)::Gr) h'):=
 ZLF (ty:=ty) (p:=p) (af:=af) (g:=g) hS pk K hu hx hy hz
section
variable {sf:ST} {m:Nat}
theorem WX.Zef {Q:Fr ->H ->Prop} {o:Oper} {c:Bool} (_:Zj ops o fr c) (h1:c=true ->WX X n wm rd ops sf m h (o::ol) fr Q) (h2:c=false ->WX X n wm rd ops sf m h (o::ol) fr Q):WX X n wm rd ops sf m h (o::ol) fr Q:=by
 cases c
 ·exact h2 rfl
 ·exact h1 rfl
theorem Sp.djs {T0:Nat ->Prop} {G Ga Gr:List (Ast wm)} {B:Ast wm} (s:Sp wm T0 h0 G h) (p:Sel G (B::Ga) Gr):∀ x,Qw Ga x ->¬ B.fp x:=fun x ⟨A,hA,fa⟩ fb=>
 (List.pairwise_cons.1 (s.Zhu p).dis).1 A hA x fb fa
theorem WX.JQ {Q:Fr ->H ->Prop} {op:Op} {c:Bool} (hg:Zj ops ⟨some d,op,ty,p,af,g⟩ fr c) (hc:c=false) (hd:Nat.blt d n=true) (k:WX X n wm rd ops sf (m + 1) h ol (Tr.set fr d undef) Q) (hM:okM ops sf m ⟨some d,op,ty,p,af,g⟩=true):WX X n wm rd ops sf m h (⟨some d,op,ty,p,af,g⟩::ol) fr Q:=WX.off (hg.off hc) hd k hM
end
theorem Ztv {β:Type} {b:Bool} {x:Option β} {r:β} (h:(bif b then none else x)=some r):b=false∧x=some r:=by
 cases b
 ·exact⟨rfl,h⟩
 ·cases h
theorem Uu (b:Bool):b=true∨b=false:=by cases b <;> simp
end
section
def ZPD (L:List Nat):List Deferred:=L.map fun r=>⟨.collected r,#[]⟩
def cds (wm:Nat) (L:List Nat):Ast wm where
 P:=fun h=>(∀ r ∈ L,h.at r= .deferred∧wm <=r)∧L.Nodup
 fp:=fun i=>i ∈ L
 loc:=fun _ k ⟨h1,h2⟩=>⟨fun r hr=>⟨by rw [k r hr];exact(h1 r hr).1,(h1 r hr).2⟩,h2⟩
 own:=fun⟨h1,_⟩ e=>⟨(h1 _ e).2,by rw [(h1 _ e).1];rfl⟩
section
variable {X:Ctx} {n wm:Nat} {G G1 G2 Gr:List (Ast wm)} {h h0:H} {T:Nat ->Prop} {df:Nat} {L:List Nat} {fr:Fr} {ds:List Deferred}
theorem Sp.ZVi (s:Sp wm T h0 G h):Sp wm T h0 (cds wm []::G) h:=s.add ⟨fun r hr=>(by cases hr),List.nodup_nil⟩ (fun i hi=>(by cases hi))
theorem Sp.ZVh (s:Sp wm T h0 G h) (p:Pk G (ob wm df .deferred) G1) (q:Pk G1 (cds wm L) G2):Sp wm T h0 (cds wm (df::L)::G2) h:=by
 have s:=s.perm (p.perm.trans (List.Perm.cons _ q.perm));have h1:=s.hold.all (ob wm df .deferred) (by simp);have h2:=s.hold.all (cds wm L) (by simp);have d:=s.hold.dis;rw [List.pairwise_cons,List.pairwise_cons] at d;obtain⟨d1,d2,d3⟩:=d;refine⟨s.wl,s.fz,s.keep,⟨fun A m=>?_,List.pairwise_cons.2 ⟨fun B m i f f'=>?_,d3⟩⟩,fun i f=>?_⟩
 ·rcases List.mem_cons.1 m with m | m
  ·rw [m];refine⟨fun r hr=>?_,List.nodup_cons.2 ⟨fun z=>d1 (cds wm L) (by simp) df rfl z,h2.2⟩⟩;rcases List.mem_cons.1 hr with e | e
   ·rw [e];exact⟨h1.1,h1.2.1⟩
   ·exact h2.1 r e
  ·exact s.hold.all A (by simp [m])
 ·rcases List.mem_cons.1 f with e | e
  ·exact d1 B (by simp [m]) i e f'
  ·exact d2 B m i e f'
 ·obtain⟨A,m,f⟩:=f;rcases List.mem_cons.1 m with m | m
  ·rw [m] at f;rcases List.mem_cons.1 f with e | e
   ·exact s.inn i ⟨ob wm df .deferred,by simp,e⟩
   ·exact s.inn i ⟨cds wm L,by simp,e⟩
  ·exact s.inn i ⟨A,by simp [m],f⟩
theorem Q7.ZzF {fn:Func} {R:Kw ->H ->Prop}:∀ {L:List Nat} {G:List (Ast wm)} {h:H} (_:Sp wm T h0 G h) (_:Pk G (cds wm L) Gr) (_:∀ h',Sp wm T h0 Gr h' ->Q7 X fn wm R .ret ⟨fr,ds,h',none⟩),Q7 X fn wm R .ret ⟨fr,ZPD L ++ ds,h,none⟩
 | [],_,h,hS,pk,k=>k h (hS.drop pk)
 | r::L,G,h,hS,pk,k=>by
   obtain⟨h1,h2⟩:=hS.get pk;have hr:=h1 r (by simp);have hn:=List.nodup_cons.1 h2;refine Q7.col wm hr.2 hr.1 hr.2 fun h' u=>?_
   have s:Sp wm T h0 (cds wm L::Gr) h':=Sp.step (Ga:= [cds wm (r::L)]) (Gb:= [cds wm L]) (hS.perm pk.perm) u (fun i e=>⟨_,List.mem_singleton.2 rfl,by rw [e];exact List.mem_cons_self⟩)
    (Yd.one ⟨fun x hx=>⟨by rw [u.keep x (X9 (h1 x (by simp [hx])).1 rfl) (fun e=>hn.1 (e ▸ hx))];exact(h1 x (by simp [hx])).1,(h1 x (by simp [hx])).2⟩,hn.2⟩)
    fun i ⟨A,m,f⟩=>.inl ⟨_,List.mem_singleton.2 rfl,by rw [List.mem_singleton.1 m] at f;exact List.mem_cons_of_mem _ f⟩
   exact Q7.ZzF s .z k
end
end
section
variable {X:Ctx} {n wm wm':Nat} {rd:Option Nat} {ops:Array Oper} {ol:List Oper} {m:Nat} {sf:ST} {fr:Fr} {h h0:H} {ty:TypeId} {p:String} {af:Array Edge} {g:Option (Nat×Bool)} {T:Nat ->Prop} {G Gr:List (Ast wm)} {d:Nat}
theorem ZWr {a b:Bool} (ha:a=true) (h:(a && b)=false):b=false:=by cases a <;> simp_all
section
variable {α:Type} {e:J9 α} {a a1 a2:Option Addr} {nn c n1 c1 n2 c2:Nat} {ps:Nat ->Option Addr×Nat×Nat} {xs:List (List α)}
theorem Sp.ZLM {x1 x2:List α} (s:Sp wm T h0 G h) (pk:Pk G (ow wm (ZlG 1 Nat.one_pos) a nn c [⟨[.slice a1 n1 c1],rfl,rfl⟩,⟨[.slice a2 n2 c2],rfl,rfl⟩]) Gr) (k1:n1=x1.length) (s1:Sl e h.size h a1 c1 x1) (k2:n2=x2.length) (s2:Sl e h.size h a2 c2 x2):Sl (X0 e) h.size h a c [x1,x2]:=by
 obtain⟨h1,so⟩:=s.get pk;have hm:=so.max;have hc:=so.cap;refine⟨hm,hc,so.nl,.inr ?_⟩;rcases so.mem with⟨_,_,q⟩ | ⟨i,o,cs,q1,q2,q3,q4,q5,q6⟩
 ·cases q
 ·refine⟨i,o,cs,true,_,q1,q3,.inl (X9 q3 rfl),⟨q6.len,fun k x hk=>?_⟩⟩
  match k with
  | 0=>
    obtain⟨_,g1,_⟩:=q6.get 0 _ rfl;simp at hk;subst hk;exact⟨(a1,c1),by rw [k1] at g1;exact g1,s1⟩
  | 1=>
    obtain⟨_,g1,_⟩:=q6.get 1 _ rfl;simp at hk;subst hk;exact⟨(a2,c2),by rw [k2] at g1;exact g1,s2⟩
  | k + 2=>simp at hk
end
section
variable {α:Type} {e:J9 α} {t el:TypeId} {x:Operand} {a:Option Addr} {nn c:Nat} {xs zs:List α} {a1:Int}
theorem Ql.cases {α:Type} {e:J9 α} {a:Option Addr} {c:Nat} {xs:List α} (s:Ql e wm wm' h a c xs):(a=none∧c=0∧xs= [])∨∃ q,a=some q:=by
 rcases s.mem with⟨h1,h2,h3⟩ | ⟨i,o,cs,h1,_⟩
 ·exact .inl ⟨h1,h2,h3⟩
 ·exact .inr ⟨_,h1⟩
theorem Zu9 {P:Program} {t:TypeId} {x y:Operand} {k k':IntKind} {a b c:Int} (hb:0 <=b) (hc:c=a.fdiv (2 ^ (min b.toNat k.bits))):JF P .shr t x y (.int k a) (.int k' b)=some (.val (.int k c),.none):=by
 have hp:(plain (.int k a) && plain (.int k' b))=true:=rfl;unfold JF;rw [hp,Cq1]
 have e1:binOp .shr t (.int k a) (.int k' b)=pure (.int k c):=by
  show Op.shift .shr k a k' b=_;unfold Op.shift;rw [if_neg (by omega),hc]
 have hg:(do eqGuard .shr t x y (.int k a) (.int k' b);binOp .shr t (.int k a) (.int k' b):Sem Value)=pure (.int k c):=by
  rw [e1];rfl
 rw [hg];rfl
theorem Zva {P:Program} {t:TypeId} {x y:Operand} {a:Int}:JF P .shr t x y (.int .u64 a) (.int .u64 1)=some (.val (.int .u64 (a / 2)),.none):=
 Zu9 (by decide) (by
  show a / 2=a.fdiv 2;rw [Int.fdiv_eq_ediv_of_nonneg a (by decide)])
theorem ZFQ {lo:Operand} {kk:IntKind} (so:Sl e wm' h a c xs) (hev:c % 2=0) (hn:nn=xs.length) (hu:X.P.underlying t=some (.slice el)) (hs:Yw X.P el=some e.sz) (hx:Yu fr x=some (.slice a nn c))
 (hlo:Yu fr lo=some (.int kk a1)) (hz:slL xs a1 xs.length=some zs):
 HE X ⟨some d,.slice t x (some lo) none none,ty,p,af,g⟩ fr h (fun v=>∃ a' c',v= .slice a' zs.length c'∧ZpJ e a c xs a' c' zs):=by
 obtain⟨l,k,rfl,hk,hlk,hkx,rfl⟩:=KR hz;have hk:k=xs.length:=by omega
 subst hk hn;have hlen:((xs.take xs.length).drop l).length=xs.length - l:=by rw [List.length_drop,List.length_take];omega
 have e1:∀ q,obN (some (.int kk (l:Int))) q=some l:=fun q=>rfl
 have e2:obN none xs.length=some xs.length:=rfl;have hcap:=so.cap;rcases so.nl with⟨rfl,rfl⟩ | ⟨rfl,rfl⟩ | ⟨i,o,rfl⟩
 ·have hx0:xs= []:=List.length_eq_zero_iff.1 (by omega);subst hx0;have hl0:l=0:=by simpa using hlk
  subst hl0;refine⟨.slice none 0 0,Je hx (XL hlo) rfl rfl ?_,none,0,rfl,Zhm rfl⟩
  have:aslice X.P h t (.slice none 0 0) (some (.int kk ((0:Nat):Int))) none none=some (.slice none 0 0):=by
   unfold aslice;simp only [hu,hs]
   rfl
  exact this
 ·have hx0:xs= []:=List.length_eq_zero_iff.1 (by omega);subst hx0;have hl0:l=0:=by simpa using hlk
  subst hl0;refine⟨.slice (some ⟨0,0,some 0⟩) 0 0,Je hx (XL hlo) rfl rfl ?_,_,0,rfl,Zhm rfl⟩
  have:aslice X.P h t (.slice (some ⟨0,0,some 0⟩) 0 0) (some (.int kk ((0:Nat):Int))) none none=some (.slice (some ⟨0,0,some 0⟩) 0 0):=by
   unfold aslice;simp only [hu,hs]
   rfl
  exact this
 ·have hb:Nat.beq (c % 2) 0=true:=by rw [hev];rfl
  have hd:(Nat.ble l xs.length && Nat.ble xs.length (c / 2))=true:=by rw [Nm0 hlk,Nm0 hcap];rfl
  refine⟨.slice (some ⟨i,bif Nat.beq (c / 2) l then o else o + l * e.sz,none⟩) (xs.length - l) (2 * (c / 2 - l)),Je hx (XL hlo) rfl rfl ?_,_,_,by rw [hlen],ZhT hlk (Nat.le_refl _) ?_⟩
  ·unfold aslice;simp only [hu,hs,e1,e2,hd,hb,Cq1]
  ·cases hcl:Nat.beq (c / 2) l with
   | true=>right;have:=Nb0 hcl;exact⟨rfl,this,by omega⟩
   | false=>left;exact⟨rfl,by omega⟩
end
end
end Go.YL
end
end
section
set_option maxRecDepth 100000
noncomputable section
namespace Go.Proofs.YtcnahmgekicbdaaGreat
section
structure ZP where
 at_:Int
 U2:Int
 deriving DecidableEq,Inhabited
structure Zb where
 qG:Int
 Zf:(List ZP)
 deriving DecidableEq,Inhabited
structure Zg where
 kZ:Int
 kV:Int
 kX:Int
 n:Int
 deriving DecidableEq,Inhabited
structure Zd where
 kW:Int
 kV:Int
 kX:Int
 n:Int
 qX:(List Int)
 deriving DecidableEq,Inhabited
structure Zn where
 ZU:Int
 kG:(List Zd)
 deriving DecidableEq,Inhabited
structure Zh where
 qV:(List Int)
 qX:(List (List Int))
 qZ:(List (List Int))
 Zl:(List (List Int))
 Zr:(List (List Zd))
 kQ:(List Zn)
 kK:Int
 deriving DecidableEq,Inhabited
structure ZC where
 Za:Zh
 qK:Zb
 kU:(List Zg)
 deriving DecidableEq,Inhabited
structure ZE where
 act:Int
 a:Int
 b:Int
 deriving DecidableEq,Inhabited
structure YS where
 e0:Int
 e1:Int
 deriving DecidableEq,Inhabited
def ZJb:Option Bool:=some true
def ZoQ (p0:List Int) (k:Int) (p2:List Int):Option (List Int):=bif Nat.ble p0.length 1000000 && (Nat.beq p2.length 1 && (decide (0 <=k) && decide (k <= (p0.length:Int)))) then some (p0.take k.toNat ++ p2 ++ p0.drop k.toNat) else none
end
section
open Go.YL Go.Lf
def Zi:J9 ZP where
 sz:=2
 pos:=by decide
 K7:=Unit
 dflt:= ()
 sh:=fun _ x=>[.int .i64 x.at_,.int .i64 x.U2]
 len:=fun _ _=>rfl
 one:=fun _ _=>rfl
 F:=fun _ _ _ _=>True
 mono:=fun _ x=>x
 up:=fun _ x=>x
def Zqd:J9 Zb where
 sz:=2
 pos:=by decide
 K7:= (Option Addr×Nat)
 dflt:= (none,0)
 sh:=fun p x=>[.int .i64 x.qG,.slice p.1 x.Zf.length p.2]
 len:=fun _ _=>rfl
 one:=fun _ _=>rfl
 F:=fun wm h p x=>Sl Zi wm h p.1 p.2 x.Zf
 mono:=fun f x=>x.mono f
 up:=fun f x=>x.up f
def Zv:J9 Zg where
 sz:=4
 pos:=by decide
 K7:=Unit
 dflt:= ()
 sh:=fun _ x=>[.int .i64 x.kZ,.int .i64 x.kV,.int .i64 x.kX,.int .i64 x.n]
 len:=fun _ _=>rfl
 one:=fun _ _=>rfl
 F:=fun _ _ _ _=>True
 mono:=fun _ x=>x
 up:=fun _ x=>x
def Zk:J9 Zd where
 sz:=5
 pos:=by decide
 K7:= (Option Addr×Nat)
 dflt:= (none,0)
 sh:=fun p x=>[.int .i64 x.kW,.int .i64 x.kV,.int .i64 x.kX,.int .i64 x.n,.slice p.1 x.qX.length p.2]
 len:=fun _ _=>rfl
 one:=fun _ _=>rfl
 F:=fun wm h p x=>Sl (Zm .i64) wm h p.1 p.2 x.qX
 mono:=fun f x=>x.mono f
 up:=fun f x=>x.up f
def KC:J9 Zn where
 sz:=2
 pos:=by decide
 K7:= (Option Addr×Nat)
 dflt:= (none,0)
 sh:=fun p x=>[.int .i64 x.ZU,.slice p.1 x.kG.length p.2]
 len:=fun _ _=>rfl
 one:=fun _ _=>rfl
 F:=fun wm h p x=>Sl Zk wm h p.1 p.2 x.kG
 mono:=fun f x=>x.mono f
 up:=fun f x=>x.up f
def Uy:J9 ZE where
 sz:=3
 pos:=by decide
 K7:=Unit
 dflt:= ()
 sh:=fun _ x=>[.int .i64 x.act,.int .i64 x.a,.int .i64 x.b]
 len:=fun _ _=>rfl
 one:=fun _ _=>rfl
 F:=fun _ _ _ _=>True
 mono:=fun _ x=>x
 up:=fun _ x=>x
def QN (x:YS):Value:= .agg [.int .i64 x.e0,.int .i64 x.e1].toArray
def Zw:Ne Zn where
 sz:=2
 pos:=by decide
 K7:=Option Addr×Nat×Nat
 dflt:= (none,0,0)
 sh:=fun p x=>[.int .i64 x.ZU,.slice p.1 p.2.1 p.2.2]
 len:=fun _ _=>rfl
 one:=fun _ _=>rfl
 «YF»:=fun wm p x=>[ow wm Zk p.1 p.2.1 p.2.2 x.kG]
theorem ZeS {wm:Nat}:(∀ h:H,Yd (Zw.YF wm (none,0,0) (default:Zn)) h)∧∀ i,¬ Qw (Zw.YF wm (none,0,0) (default:Zn)) i:=Zqv (e:=Zk)
theorem _root_.Go.YL.Sp.Zbb {wm:Nat} {h h0:H} {T:Nat ->Prop} {G Gr:List (Ast wm)} {a a1:Option Addr} {nn c n1 c1:Nat} {ps:Nat ->Option Addr×Nat×Nat} {xs:List Zn} {k:Int} {x:Zn} (s:Sp wm T h0 G h) (pk:Pk G (Z7 wm Zw a nn c ps xs) Gr) (hk:ZR xs k=some x) (hp:ps k.toNat= (a1,n1,c1)):Sp wm T h0 (nsh wm Zw a nn c ps xs k.toNat [.int .i64 x.ZU,.slice a1 n1 c1]::ow wm Zk a1 n1 c1 x.kG::Gr) h:=by
 have:=s.take pk hk;rw [hp] at this;exact this
theorem _root_.Go.YL.Sp.Zbw {wm:Nat} {h h0:H} {T:Nat ->Prop} {G Gr:List (Ast wm)} {a a1:Option Addr} {nn c n1 c1:Nat} {ps:Nat ->Option Addr×Nat×Nat} {xs:List Zn} {k:Int} {x0:Zn} {v0:Int} {y:List Zd} (s:Sp wm T h0 G h) (sel:Sel G [nsh wm Zw a nn c ps xs k.toNat [.int .i64 v0,.slice a1 n1 c1],ow wm Zk a1 n1 c1 y] Gr) (hk:ZR xs k=some x0):∃ ps':Nat ->Option Addr×Nat×Nat,ps' k.toNat= (a1,n1,c1)∧Sp wm T h0 (Z7 wm Zw a nn c ps' (Y5 xs k ⟨v0,y⟩)::Gr) h:=
 ⟨_,upd_same ps k.toNat (a1,n1,c1),Sp.fill (e:=Zw) (a1,n1,c1) ⟨v0,y⟩ s hk sel rfl⟩
theorem _root_.Go.YL.Sp.Zbv {wm:Nat} {h h0:H} {T:Nat ->Prop} {G Gr:List (Ast wm)} {a a1:Option Addr} {nn c n1 c1:Nat} {ps:Nat ->Option Addr×Nat×Nat} {xs:List Zn} {k:Int} {x:Zn} (s:Sp wm T h0 G h) (pk:Pk G (Z7 wm Zw a nn c ps xs) Gr) (hk:ZR xs k=some x) (hp:ps k.toNat= (a1,n1,c1)):n1=x.kG.length∧Src Zk wm h a1 c1 x.kG∧Sl Zk h.size h a1 c1 x.kG:=by
 have:= (s.inN pk hk hp).get (A:=ow wm Zk a1 n1 c1 x.kG) .z;exact⟨this.1,this.2.src,this.2.src.sl s.hw⟩
theorem _root_.Go.YL.Sp.ZbF {wm:Nat} {h h0:H} {T:Nat ->Prop} {G Gr:List (Ast wm)} {a:Option Addr} {nn c:Nat} {ps:Nat ->Option Addr×Nat×Nat} {xs:List Zn} {k:Int} {x:Zn} (s:Sp wm T h0 G h) (pk:Pk G (Z7 wm Zw a nn c ps xs) Gr) (hk:ZR xs k=some x):∃ b o a1 n1 c1,ps k.toNat= (a1,n1,c1)∧a=some ⟨b,o,none⟩∧At h b (o + k.toNat * 2) [.int .i64 x.ZU,.slice a1 n1 c1]:=by
 obtain⟨b,o,⟨a1,n1,c1⟩,h1,h2,h3⟩:=s.atN pk hk;exact⟨b,o,a1,n1,c1,h1,h2,h3⟩
theorem Ya:NeR Zw KC:= ⟨rfl,fun{wm h p x} hw hh=>by
 obtain⟨h1,h2⟩:=hh.get (A:=ow wm Zk p.1 p.2.1 p.2.2 x.kG) .z;exact⟨(p.1,p.2.2),by show([.int .i64 x.ZU,.slice p.1 p.2.1 p.2.2]:List Value)= [.int .i64 x.ZU,.slice p.1 x.kG.length p.2.2];rw [h1],h2.src.sl hw⟩⟩
theorem ZLs:XX.P.underlying 3=some (.int .i64):=Kq0
theorem ZQ9:XX.P.underlying 4=some .bool:=Kq0
theorem ZLu:XX.P.underlying 22=some (.slice 66):=Kq0
theorem ZLt:XX.P.underlying 25=some (.slice 74):=Kq0
theorem ZnG:XX.P.underlying 28=some (.slice 71):=Kq0
theorem Zab:XX.P.underlying 29=some (.slice 35):=Kq0
theorem Zr9:XX.P.underlying 30=some (.slice 69):=Kq0
theorem Zwa:XX.P.underlying 31=some (.slice 99):=Kq0
theorem Zr8:XX.P.underlying 34=some (.slice 64):=Kq0
theorem UN:XX.P.underlying 35=some (.slice 3):=Kq0
theorem ZLr:XX.P.underlying 60=some (.slice 4):=Kq0
theorem UM:XX.P.underlying 69=some (.slice 121):=Kq0
theorem ZnF:XX.P.underlying 77=some (.map 67 3):=Kq0
theorem Zwb:XX.P.underlying 132=some (.int .u64):=Kq0
theorem Zaq:XX.P.underlying 138=some (.map 119 124):=Kq0
theorem Zfw:YO XX.P 3=some false:=Kq0
theorem ZJZ:YO XX.P 4=some false:=Kq0
theorem ZFj:YO XX.P 22=some false:=Kq0
theorem ZtG:YO XX.P 24=some true:=Kq0
theorem ZFi:YO XX.P 28=some false:=Kq0
theorem ZpB:YO XX.P 29=some false:=Kq0
theorem ZAa:YO XX.P 30=some false:=Kq0
theorem ZFh:YO XX.P 31=some false:=Kq0
theorem ZjE:YO XX.P 33=some true:=Kq0
theorem ZFg:YO XX.P 34=some false:=Kq0
theorem ZtF:YO XX.P 35=some false:=Kq0
theorem ZpA:YO XX.P 36=some false:=Kq0
theorem ZP6:YO XX.P 62=some false:=Kq0
theorem Zpz:YO XX.P 64=some true:=Kq0
theorem Zpy:YO XX.P 66=some true:=Kq0
theorem Zz9:YO XX.P 69=some false:=Kq0
theorem ZtE:YO XX.P 71=some false:=Kq0
theorem ZP5:YO XX.P 72=some false:=Kq0
theorem ZFf:YO XX.P 74=some true:=Kq0
theorem ZFe:YO XX.P 87=some false:=Kq0
theorem ZFd:YO XX.P 99=some true:=Kq0
theorem ZJ2:YO XX.P 106=some true:=Kq0
theorem ZJ1:YO XX.P 112=some false:=Kq0
theorem ZJ0:YO XX.P 119=some false:=Kq0
theorem Znn:YO XX.P 121=some true:=Kq0
theorem UR:Yw XX.P 3=some 1:=Kq0
theorem ZLB:Yw XX.P 4=some 1:=Kq0
theorem ZlA:Yw XX.P 24=some 2:=Kq0
theorem ZFN:Yw XX.P 28=some 1:=Kq0
theorem Zwn:Yw XX.P 29=some 1:=Kq0
theorem ZFM:Yw XX.P 30=some 1:=Kq0
theorem ZFL:Yw XX.P 31=some 1:=Kq0
theorem Zcj:Yw XX.P 33=some 7:=Kq0
theorem ZFK:Yw XX.P 34=some 1:=Kq0
theorem Ja:Yw XX.P 35=some 1:=Kq0
theorem ZFJ:Yw XX.P 36=some 1:=Kq0
theorem ZFI:Yw XX.P 62=some 1:=Kq0
theorem Zci:Yw XX.P 64=some 4:=Kq0
theorem ZhV:Yw XX.P 66=some 2:=Kq0
theorem Zch:Yw XX.P 69=some 1:=Kq0
theorem Zd1:Yw XX.P 71=some 1:=Kq0
theorem Zwm:Yw XX.P 74=some 3:=Kq0
theorem Zlz:Yw XX.P 99=some 2:=Kq0
theorem ZBf:Yw XX.P 106=some 3:=Kq0
theorem ZBe:Yw XX.P 112=some 1:=Kq0
theorem Q8:Yw XX.P 121=some 5:=Kq0
theorem Zmm:ZH XX.P 24 0 0:=ZH.of Kq0
theorem ZCz:ZH XX.P 24 1 1:=ZH.of Kq0
theorem ZCy:ZH XX.P 33 0 0:=ZH.of Kq0
theorem Zs8:ZH XX.P 33 1 1:=ZH.of Kq0
theorem ZCx:ZH XX.P 33 2 2:=ZH.of Kq0
theorem ZCw:ZH XX.P 33 3 3:=ZH.of Kq0
theorem ZCv:ZH XX.P 33 4 4:=ZH.of Kq0
theorem Zs7:ZH XX.P 33 5 5:=ZH.of Kq0
theorem ZCu:ZH XX.P 33 6 6:=ZH.of Kq0
theorem ZCt:ZH XX.P 64 0 0:=ZH.of Kq0
theorem ZCs:ZH XX.P 64 1 1:=ZH.of Kq0
theorem ZCr:ZH XX.P 64 2 2:=ZH.of Kq0
theorem ZCq:ZH XX.P 64 3 3:=ZH.of Kq0
theorem ZCp:ZH XX.P 66 0 0:=ZH.of Kq0
theorem ZCo:ZH XX.P 66 1 1:=ZH.of Kq0
theorem ZCn:ZH XX.P 74 0 0:=ZH.of Kq0
theorem ZCm:ZH XX.P 74 1 1:=ZH.of Kq0
theorem ZCl:ZH XX.P 74 2 2:=ZH.of Kq0
theorem Zml:ZH XX.P 91 0 0:=ZH.of Kq0
theorem Zmk:ZH XX.P 91 1 7:=ZH.of Kq0
theorem ZCk:ZH XX.P 91 2 9:=ZH.of Kq0
theorem ZCj:ZH XX.P 96 0 0:=ZH.of Kq0
theorem ZCi:ZH XX.P 96 1 2:=ZH.of Kq0
theorem ZCh:ZH XX.P 96 2 9:=ZH.of Kq0
theorem Zs6:ZH XX.P 99 0 0:=ZH.of Kq0
theorem Zmj:ZH XX.P 99 1 1:=ZH.of Kq0
theorem Zy2:ZH XX.P 106 0 0:=ZH.of Kq0
theorem Zy1:ZH XX.P 106 1 2:=ZH.of Kq0
theorem Zy0:ZH XX.P 121 0 0:=ZH.of Kq0
theorem ZyZ:ZH XX.P 121 1 1:=ZH.of Kq0
theorem ZyY:ZH XX.P 121 2 2:=ZH.of Kq0
theorem ZyX:ZH XX.P 121 3 3:=ZH.of Kq0
theorem ZoI:ZH XX.P 121 4 4:=ZH.of Kq0
theorem ZbK:Y6 XX.P 3=some (.int .i64 0):=Kq0
theorem ZKQ:Y6 XX.P 4=some (.bool false):=Kq0
theorem ZvJ:Y6 XX.P 33=some (.agg #[.slice none 0 0,.slice none 0 0,.slice none 0 0,.slice none 0 0,.slice none 0 0,.slice none 0 0,.int .i64 0]):=Kq0
theorem Zd0:Y6 XX.P 35=some (.slice none 0 0):=Kq0
theorem ZFv:Y6 XX.P 36=some (.int .i64 0):=Kq0
theorem ZpQ:Y6 XX.P 64=some (.agg #[.int .i64 0,.int .i64 0,.int .i64 0,.int .i64 0]):=Kq0
theorem ZFu:Y6 XX.P 66=some (.agg #[.int .i64 0,.int .i64 0]):=Kq0
theorem ZvI:Y6 XX.P 67=some (.agg #[.int .i64 0,.int .i64 0]):=Kq0
theorem ZvH:Y6 XX.P 69=some (.slice none 0 0):=Kq0
theorem ZvG:Y6 XX.P 71=some (.int .i64 0):=Kq0
theorem ZvF:Y6 XX.P 74=some (.agg #[.int .i64 0,.int .i64 0,.int .i64 0]):=Kq0
theorem ZvE:Y6 XX.P 91=some (.agg #[.slice none 0 0,.slice none 0 0,.slice none 0 0,.slice none 0 0,.slice none 0 0,.slice none 0 0,.int .i64 0,.int .i64 0,.slice none 0 0,.slice none 0 0]):=Kq0
theorem ZFt:Y6 XX.P 96=some (.agg #[.int .i64 0,.slice none 0 0,.slice none 0 0,.slice none 0 0,.slice none 0 0,.slice none 0 0,.slice none 0 0,.slice none 0 0,.int .i64 0,.slice none 0 0]):=Kq0
theorem ZvD:Y6 XX.P 99=some (.agg #[.int .i64 0,.slice none 0 0]):=Kq0
theorem ZAJ:Y6 XX.P 106=some (.agg #[.int .i64 0,.slice none 0 0,.slice none 0 0]):=Kq0
theorem ZAI:Y6 XX.P 112=some (.nilFunc):=Kq0
theorem Za6:Y6 XX.P 121=some (.agg #[.int .i64 0,.int .i64 0,.int .i64 0,.int .i64 0,.slice none 0 0]):=Kq0
theorem Zc3:Y6 XX.P 124=some (.nilFunc):=Kq0
theorem ZE8:ZdD XX.P 33 [.slice none 0 0,.slice none 0 0,.slice none 0 0,.slice none 0 0,.slice none 0 0,.slice none 0 0,.int .i64 0] [(0,1),(1,1),(2,1),(3,1),(4,1),(5,1),(6,1)]:= ⟨_,_,ZvJ,rfl,Tryz.underlying33,by kernel_rfl⟩
theorem ZPQ:ZdD XX.P 64 [.int .i64 0,.int .i64 0,.int .i64 0,.int .i64 0] [(0,1),(1,1),(2,1),(3,1)]:= ⟨_,_,ZpQ,rfl,Tryz.underlying64,by kernel_rfl⟩
theorem ZE7:ZtK XX.P 67 [.int .i64 0,.int .i64 0] 1:= ⟨_,_,_,ZvI,rfl,Tryz.underlying67,by kernel_rfl⟩
theorem ZPP:ZdD XX.P 74 [.int .i64 0,.int .i64 0,.int .i64 0] [(0,1),(1,1),(2,1)]:= ⟨_,_,ZvF,rfl,Tryz.underlying74,by kernel_rfl⟩
theorem ZPO:ZdD XX.P 91 [.slice none 0 0,.slice none 0 0,.slice none 0 0,.slice none 0 0,.slice none 0 0,.slice none 0 0,.int .i64 0,.int .i64 0,.slice none 0 0,.slice none 0 0] [(0,7),(7,2),(9,1)]:= ⟨_,_,ZvE,rfl,Tryz.underlying91,by kernel_rfl⟩
theorem Zjw:ZdD XX.P 121 [.int .i64 0,.int .i64 0,.int .i64 0,.int .i64 0,.slice none 0 0] [(0,1),(1,1),(2,1),(3,1),(4,1)]:= ⟨_,_,Za6,rfl,Tryz.underlying121,by kernel_rfl⟩
theorem Zz2:ZdZ XX.P #[28,28] 1 8:= ⟨71,.int .i64 0,by kernel_rfl⟩
theorem ZjC:ZdZ XX.P #[29,29] 1 24:= ⟨35,.slice none 0 0,by kernel_rfl⟩
theorem Zz1:ZdZ XX.P #[34,34] 4 32:= ⟨64,.agg #[.int .i64 0,.int .i64 0,.int .i64 0,.int .i64 0],by kernel_rfl⟩
theorem Zft:ZdZ XX.P #[35,35] 1 8:= ⟨3,.int .i64 0,by kernel_rfl⟩
theorem Zfs:ZdZ XX.P #[69,69] 5 56:= ⟨121,.agg #[.int .i64 0,.int .i64 0,.int .i64 0,.int .i64 0,.slice none 0 0],by kernel_rfl⟩
theorem ZsO:ZbI XX.P 67 QN:=ZbI.ZWp (et:=3) Kq0 Kq0 Kq0 (fun x=>x.e0) (fun x=>x.e1) (fun _=>rfl) (fun x y=>by cases x;cases y;simp)
theorem Zav:ZbI XX.P 119 (Value.int .i64):=ZbI.int Kq0
theorem ZPN:Zaz XX.P 3=some 8:=Kq0
theorem ZJP:Zaz XX.P 69=some 24:=Kq0
theorem ZJO:Zaz XX.P 99=some 32:=Kq0
theorem ZOa:(XX.fns.get 14).isSome=true:=Kq0
theorem ZEE:(XX.fns.get 15).isSome=true:=Kq0
theorem ZN9:(XX.fns.get 17).isSome=true:=Kq0
theorem ZN8:(XX.fns.get 23).isSome=true:=Kq0
theorem ZN7:(XX.fns.get 24).isSome=true:=Kq0
theorem ZN6:(XX.fns.get 29).isSome=true:=Kq0
theorem ZED:(XX.fns.get 30).isSome=true:=Kq0
theorem ZEC:(XX.fns.get 32).isSome=true:=Kq0
theorem ZEB:(XX.fns.get 33).isSome=true:=Kq0
theorem ZN5:(XX.fns.get 34).isSome=true:=Kq0
theorem ZN4:(XX.fns.get 41).isSome=true:=Kq0
theorem ZN3:(XX.fns.get 42).isSome=true:=Kq0
theorem ZN2:(XX.fns.get 46).isSome=true:=Kq0
theorem ZN1:(XX.fns.get 47).isSome=true:=Kq0
theorem ZEA:(XX.fns.get 48).isSome=true:=Kq0
theorem Zyy:(XX.fns.get 54).isSome=true:=Kq0
theorem Zs2:(XX.fns.get 55).isSome=true:=Kq0
theorem ZEz:(XX.fns.get 57).isSome=true:=Kq0
theorem ZN0:(XX.fns.get 60).isSome=true:=Kq0
theorem ZNZ:(XX.fns.get 68).isSome=true:=Kq0
theorem ZkX:(XX.fns.get 69).isSome=true:=Kq0
theorem ZEy:(XX.fns.get 70).isSome=true:=Kq0
theorem ZEx:(XX.fns.get 71).isSome=true:=Kq0
theorem ZEw:(XX.fns.get 72).isSome=true:=Kq0
theorem Zyx:(XX.fns.get 73).isSome=true:=Kq0
theorem ZNY:(XX.fns.get 74).isSome=true:=Kq0
theorem ZNX:(XX.fns.get 75).isSome=true:=Kq0
theorem Zs1:(XX.fns.get 84).isSome=true:=Kq0
theorem ZEv:(XX.fns.get 85).isSome=true:=Kq0
theorem ZoA:(XX.fns.get 89).isSome=true:=Kq0
theorem Uh:(XX.fns.get 94).isSome=true:=Kq0
theorem Zoz:(XX.fns.get 95).isSome=true:=Kq0
theorem ZEu:(XX.fns.get 96).isSome=true:=Kq0
theorem ZEt:(XX.fns.get 97).isSome=true:=Kq0
theorem Zyw:(XX.fns.get 98).isSome=true:=Kq0
theorem Zyv:(XX.fns.get 99).isSome=true:=Kq0
theorem ZIn:(XX.fns.get 100).isSome=true:=Kq0
theorem ZIm:(XX.fns.get 101).isSome=true:=Kq0
theorem ZIl:(XX.fns.get 102).isSome=true:=Kq0
theorem ZIk:(XX.fns.get 103).isSome=true:=Kq0
theorem ZqY:(XX.fns.get 104).isSome=true:=Kq0
theorem ZIj:(XX.fns.get 105).isSome=true:=Kq0
theorem ZIi:(XX.fns.get 106).isSome=true:=Kq0
theorem ZIh:(XX.fns.get 107).isSome=true:=Kq0
theorem ZIg:(XX.fns.get 108).isSome=true:=Kq0
theorem ZIf:(XX.fns.get 119).isSome=true:=Kq0
theorem ZqX:(XX.fns.get 125).isSome=true:=Kq0
theorem ZyF:(XX.fns.get 126).isSome=true:=Kq0
theorem ZIe:(XX.fns.get 127).isSome=true:=Kq0
theorem ZyE:(XX.fns.get 128).isSome=true:=Kq0
theorem ZyD:(XX.fns.get 136).isSome=true:=Kq0
theorem ZyC:(XX.fns.get 137).isSome=true:=Kq0
theorem ZyB:(XX.fns.get 138).isSome=true:=Kq0
theorem ZyA:(XX.fns.get 139).isSome=true:=Kq0
theorem Zyz:(XX.fns.get 142).isSome=true:=Kq0
end
end Go.Proofs.YtcnahmgekicbdaaGreat
end
end
section
noncomputable section
namespace Go.YL
open Go.Lf
class ZbJ (P:Program) (t:TypeId):Prop where
 out:YO P t=some false
class Znu (P:Program) (t:TypeId):Prop where
 out:YO P t=some true
class SzF (P:Program) (t:TypeId) (n:outParam Nat):Prop where
 out:Yw P t=some n
class JX (P:Program) (t:TypeId) (f:Nat) (o:outParam Nat):Prop where
 out:ZH P t f o
class Zhk (P:Program) (t:TypeId) (e:outParam TypeId):Prop where
 out:P.underlying t=some (.slice e)
class ZKs (P:Program) (t:TypeId):Prop where
 out:P.underlying t=some .bool
class ZbH (P:Program) (t:TypeId) (v:outParam Value):Prop where
 out:Y6 P t=some v
theorem ia {v:Value} (h:QL v=false):QL v=false:=h
theorem WU {fr:Fr} {t:Nat} {c:Bool} {v:Value} (h:fr.at t=cond c v undef) (ha:QL v=false) (hc:c=true):Yu fr (.tmp t)=some v:=Ko h ha hc
section
variable {X:Ctx} {h:H} {fr:Fr} {ty:TypeId} {p':String} {af:Array Edge} {g:Option (Nat×Bool)} {d:Option Tmp} {wm:Nat} {T:Nat ->Prop} {h0:H} {G Gr:List (Ast wm)}
theorem ZPX {x:Operand} {t:TypeId} {f off b o:Nat} [hf:JX X.P t f off] (hx:Yu fr x=some (.pointer (some ⟨b,o,none⟩))):Qc X h (Yu fr) ⟨d,.fieldAddr t x f,ty,p',af,g⟩=some (.val (.pointer (some ⟨b,o + off,none⟩)),.none):=Wo hf.out hx
theorem ZWg {x:Operand} {t:TypeId} {b oo:Nat} {vs:List Value} {v:Value} [ht:ZbJ X.P t] (hx:Yu fr x=some (.pointer (some ⟨b,oo,none⟩))) (hS:Sp wm T h0 G h) (pp:Pk G (bx wm b vs) Gr) (hv:vs[oo]? =some v):
 Qc X h (Yu fr) ⟨d,.load t x,ty,p',af,g⟩=some (.val v,.none):=Qt ht.out hx (hS.W9 pp) (Nat.zero_add _).symm hv
theorem ZPV {x:Operand} {t:TypeId} {b oo sz:Nat} {vs ws:List Value} [ht:Znu X.P t] [hs:SzF X.P t sz] (hx:Yu fr x=some (.pointer (some ⟨b,oo,none⟩))) (hS:Sp wm T h0 G h) (pp:Pk G (bx wm b vs) Gr) (hj:Nat.ble (oo + sz) vs.length=true) (hv:(vs.drop oo).take sz=ws):
 Qc X h (Yu fr) ⟨d,.load t x,ty,p',af,g⟩=some (.val (.agg ws.toArray),.none):=JN ht.out hs.out hx (hS.W9 pp) (Nat.zero_add _).symm hj hv
theorem ZPY {dd:Tmp} {x:Operand} {t:TypeId} {v:Value} {vs:List Value} (hx:Yu fr x=some v) (hS:Sp wm T h0 G h) (hv:v.cells.toList=vs):
 HN X wm ⟨some dd,.box t x,ty,p',af,g⟩ fr h (fun v h'=>∃ b,h.size=b∧v= .pointer (some ⟨b,0,none⟩)∧Sp wm T h0 (bx wm b vs::G) h'):=ZLJ hS hx hv
theorem ZPZ {dd:Tmp} {t:TypeId} {v:Value} {vs:List Value} [hz:ZbH X.P t v] (hS:Sp wm T h0 G h) (hv:v.cells.toList=vs):
 HN X wm ⟨some dd,.alloc t,ty,p',af,g⟩ fr h (fun v h'=>∃ b,h.size=b∧v= .pointer (some ⟨b,0,none⟩)∧Sp wm T h0 (bx wm b vs::G) h'):=ZDZ hS hz.out hv
theorem ZWf {x y:Operand} {t:TypeId} {b o sz:Nat} {cs cs' vs:List Value} {v:Value} [hs:SzF X.P t sz] (hx:Yu fr x=some (.pointer (some ⟨b,o,none⟩))) (hS:Sp wm T h0 G h) (pk:Pk G (bx wm b cs) Gr) (hy:Yu fr y=some v)
 (hvs:v.cells.toList=vs) (hn:Nat.beq vs.length sz=true) (hl:Nat.ble (o + sz) cs.length=true) (hc:vs.all Value.oneCell'=true) (hv:splice cs o vs=cs'):
 HU X wm ⟨none,.store t x y,ty,p',af,g⟩ fr h (fun i=>i=b) (fun h'=>Sp wm T h0 (bx wm b cs'::Gr) h'):=ZBg hS pk hs.out hx hy hvs hn hl hc hv
theorem ZPW {α:Type} {xs:List α} {v:α} {x y:Operand} {t e:TypeId} {sz b o nn c dd:Nat} {a:Option Addr} {k:Int} [hu:Zhk X.P t e] [hs:SzF X.P e sz] (hx:Yu fr x=some (.slice a nn c)) (hy:Yu fr y=some (.int .i64 k)) (hn:nn=xs.length) (ha:a=some ⟨b,o,none⟩) (hk:ZR xs k=some v):
 Qc X h (Yu fr) ⟨some dd,.indexAddr t x y,ty,p',af,g⟩=some (.val (.pointer (some ⟨b,o + k.toNat * sz,none⟩)),.none):=Qo hu.out hs.out hx hy hn ha hk
theorem ZPU {x:Operand} {t:TypeId} {b o oo j:Nat} {vs:List Value} {v:Value} [ht:ZbJ X.P t] (hx:Yu fr x=some (.pointer (some ⟨b,oo,none⟩))) (ha:At h b o vs) (ho:oo=o + j) (hv:vs[j]? =some v):
 Qc X h (Yu fr) ⟨d,.load t x,ty,p',af,g⟩=some (.val v,.none):=Qt ht.out hx ha ho hv
theorem ZPT {x:Operand} {t e':TypeId} {a:Option Addr} {mm cc dd:Nat} [hu:Zhk X.P t e'] (hx:Yu fr x=some (.slice a mm cc)):
 Qc X h (Yu fr) ⟨some dd,.call {callee:= .builtin .len,args:=#[x],argTypes:=#[t]},ty,p',af,g⟩=some (.val (.int .i64 (mm:Int)),.none):=Zdy hu.out hx rfl
end
section
variable {X:Ctx} {n wm:Nat} {rd:Option Nat} {ops:Array Oper} {l:List Oper} {fr:Fr} {ds:List Deferred} {h:H} {ty:TypeId} {p:String} {af:Array Edge} {g:Option (Nat×Bool)} {sf:ST} {m:Nat}
theorem WX.w2 {Q:Fr ->H ->Prop} {d:Nat} {op:Op} {v:Value} (hg:Yv ops ⟨some d,op,ty,p,af,g⟩ fr) (hd:Nat.blt d n=true) (hM:okM ops sf m ⟨some d,op,ty,p,af,g⟩=true) (ha:Qc X h (Yu fr) ⟨some d,op,ty,p,af,g⟩=some (.val v,.none)) (k:WX X n wm rd ops sf (m + 1) h l (Tr.set fr d v) Q):
 WX X n wm rd ops sf m h (⟨some d,op,ty,p,af,g⟩::l) fr Q:=WX.w hg hd ha k hM
theorem WX.gv2 {Q:Fr ->H ->Prop} {d:Nat} {op:Op} {c:Bool} {v:Value} (hg:Zj ops ⟨some d,op,ty,p,af,g⟩ fr c) (hd:Nat.blt d n=true) (hM:okM ops sf m ⟨some d,op,ty,p,af,g⟩=true) (ha:c=true ->Qc X h (Yu fr) ⟨some d,op,ty,p,af,g⟩=some (.val v,.none)) (k:WX X n wm rd ops sf (m + 1) h l (Tr.set fr d (cond c v undef)) Q):
 WX X n wm rd ops sf m h (⟨some d,op,ty,p,af,g⟩::l) fr Q:=WX.gv hg hd ha k hM
end
structure Kp (q:Prop):Prop where
 out:q
section
variable {X:Ctx} {n wm:Nat} {rd:Option Nat} {Q:XX ->Fs ->Prop}
theorem E0 {p:Prop}(h:p:=by(focus (repeat (first | with_reducible exact fh | ((with_reducible apply ZA);exact rfl) | ((with_reducible apply Ye);exact rfl) | ((with_reducible apply ZG);exact rfl) | ((with_reducible apply Ze);exact rfl) | with_reducible assumption));first|done|fail)):p:=h
theorem cn {c:Operand} {a b:Code} {t:Bool} {fr:Fr} {ds:List Deferred} {h:H} {α:Type} {x y r:α} (hL:(bif t then x else y)=r) (h1:t=true ->x=r ->WC X n wm rd a ⟨fr,ds,h,none⟩ Q) (h2:t=false ->y=r ->WC X n wm rd b ⟨fr,ds,h,none⟩ Q) (hc:Yu fr c=some (.bool t):=by(first | exact KZ rfl | (apply ZN;exact E0;(first | exact ia rfl | assumption)) | (apply WU;exact E0;(first | exact ia rfl | assumption);assumption) | fail)):WC X n wm rd (.cond c a b) ⟨fr,ds,h,none⟩ Q:=
 WC.ZPB hc (fun e=>h1 e (Jz e hL)) (fun e=>h2 e (JA e hL))
theorem rt {fn:Func} {fr:Fr} {h h0:H} {T:Nat ->Prop} {G G':List (Ast wm)} {wr:Option Nat} {t:Tmp} {β:Type} {x r:β} {g:β ->Value} (hL:some x=some r) (hT:T=Qw G) (hS:Sp wm T h0 G' h) (hr:fn.results.toList= [.tmp t]:=by exact rfl) (hv:Yu fr (.tmp t)=some (g x):=by(first | exact KZ rfl | (apply ZN;exact E0;(first | exact ia rfl | assumption)) | (apply WU;exact E0;(first | exact ia rfl | assumption);assumption) | fail)):
 Yg X fn (fun e h'=>∃ v,e= .ret v∧CP (fun v Gb=>v=g r∧Gb= []) G h0 v h') .ret ⟨fr,[],h,wr⟩:=by
 cases hL;exact Yg.WH hr (Z5 hv Zx) ⟨_,⟨rfl,rfl⟩,hT ▸ hS.only .n⟩
theorem bg {f:FuncId} {fn:Func} {c:Code} {args:List Value} {n:Nat} {K:Value ->List (Ast wm) ->Prop} {G:List (Ast wm)} {h:H} {fr:Fr} (hnt:fn.ntmps=n) (ZT:wm <=h.size) (hO:Yd G h)
 (k:∀ T,T=Qw (wm:=wm) G ->Sp wm T h G h ->WC X n wm none c ⟨fr,[],h,none⟩ (Yg X fn (fun e h'=>∃ v,e= .ret v∧CP K G h v h'))) (hf:X.fns.get f=some fn:=by kernel_rfl) (hb:fn.body=some c:=by exact rfl) (hn:args.length <=n:=by simp)
 (hfr:QH args 0 .nil=fr:=by(simp only [ZO,Z6,Nat.reduceAdd];exact rfl)):WR X f args.toArray wm h (CP K G h):=by
 subst hfr;exact WF.begin hf hb hnt hn (k _ rfl (Sp.start ZT hO))
end
theorem lk {p:Prop} (h:p:=by(first | exact KZ rfl | (apply ZN;exact E0;(first | exact ia rfl | assumption)) | (apply WU;exact E0;(first | exact ia rfl | assumption);assumption) | fail)):p:=h
theorem lks {p:Prop} (h:p:=by
 repeat (first | exact Zp | (apply Zc;(focus (first | exact KZ rfl | (apply ZN;exact E0;(first | exact ia rfl | assumption)) | (apply WU;exact E0;(first | exact ia rfl | assumption);assumption) | fail);done)))
 done):p:=h
theorem Uj {p:Prop} (h:p:=by
 repeat (first | with_reducible exact fh | ((with_reducible apply ZA);exact rfl) | ((with_reducible apply Ye);exact rfl) | ((with_reducible apply ZG);exact rfl) | ((with_reducible apply Ze);exact rfl) | with_reducible assumption | refine⟨?_,?_⟩)
 done):p:=h
theorem r1 {p q:Prop} (k:q) (h:Kp q ->p:=by
 intro k
 first
 | refine WO.nil ?_
 | refine Zey.XY ?_
 | refine WC.seq ?_
 | refine WC.region ?_
 | ((first | apply WO.w gN rfl | (apply WO.gv;(focus (first | (apply Zj.yes rfl rfl rfl;exact E0) | (apply Zj.no rfl rfl rfl;exact E0) | (apply Zj.ZAL rfl rfl rfl;exact E0) | (apply Zj.no2 rfl rfl rfl;exact E0) | fail);done);rfl;intro hg) | (apply WX.w2 gN;rfl;rfl) | (apply WX.gv2;(focus (first | (apply Zj.yes rfl rfl rfl;exact E0) | (apply Zj.no rfl rfl rfl;exact E0) | (apply Zj.ZAL rfl rfl rfl;exact E0) | (apply Zj.no2 rfl rfl rfl;exact E0) | fail);done);rfl;rfl;intro hg));(focus (first
   | ((with_reducible apply Kq);(first | exact KZ rfl | (apply ZN;exact E0;(first | exact ia rfl | assumption)) | (apply WU;exact E0;(first | exact ia rfl | assumption);assumption) | fail))
   | ((with_reducible apply ZWg);(focus (first | exact KZ rfl | (apply ZN;exact E0;(first | exact ia rfl | assumption)) | (apply WU;exact E0;(first | exact ia rfl | assumption);assumption) | fail);done);assumption;(focus (first | exact k0 | exact k1 | exact k2 | exact k3 | exact k4 | exact k5 | exact k6 | exact k7 | (repeat (first | exact k7 | apply Pk.s)));done);rfl)
   | ((with_reducible apply ZPX);(first | exact KZ rfl | (apply ZN;exact E0;(first | exact ia rfl | assumption)) | (apply WU;exact E0;(first | exact ia rfl | assumption);assumption) | fail))
   | ((with_reducible apply UF);(first | exact KZ rfl | (apply ZN;exact E0;(first | exact ia rfl | assumption)) | (apply WU;exact E0;(first | exact ia rfl | assumption);assumption) | fail))
   | ((with_reducible apply J7);(focus (first | exact KZ rfl | (apply ZN;exact E0;(first | exact ia rfl | assumption)) | (apply WU;exact E0;(first | exact ia rfl | assumption);assumption) | fail);done);(focus (first | exact KZ rfl | (apply ZN;exact E0;(first | exact ia rfl | assumption)) | (apply WU;exact E0;(first | exact ia rfl | assumption);assumption) | fail);done);(first | with_reducible exact ZgM | with_reducible exact ZAg | with_reducible exact ZpE | with_reducible exact ZAd | with_reducible exact Zu8 | with_reducible exact ZjF | with_reducible exact ZAf | with_reducible exact ZAe | with_reducible exact ZgL | with_reducible exact Zvd ZKs.out | with_reducible exact Zvc ZKs.out))
   | ((with_reducible apply ZPV);(focus (first | exact KZ rfl | (apply ZN;exact E0;(first | exact ia rfl | assumption)) | (apply WU;exact E0;(first | exact ia rfl | assumption);assumption) | fail);done);assumption;(focus (first | exact k0 | exact k1 | exact k2 | exact k3 | exact k4 | exact k5 | exact k6 | exact k7 | (repeat (first | exact k7 | apply Pk.s)));done);rfl;(focus simp only [Nat.zero_add,Nat.reduceAdd,List.drop_succ_cons,List.drop_zero,List.take_succ_cons,List.take_zero,List.take_nil];rfl))
   | ((with_reducible apply ZPT);(first | exact KZ rfl | (apply ZN;exact E0;(first | exact ia rfl | assumption)) | (apply WU;exact E0;(first | exact ia rfl | assumption);assumption) | fail))
   | ((with_reducible apply ZPW);(focus (first | exact KZ rfl | (apply ZN;exact E0;(first | exact ia rfl | assumption)) | (apply WU;exact E0;(first | exact ia rfl | assumption);assumption) | fail);done);(focus (first | exact KZ rfl | (apply ZN;exact E0;(first | exact ia rfl | assumption)) | (apply WU;exact E0;(first | exact ia rfl | assumption);assumption) | fail);done);(focus (exact rfl));assumption;assumption)
   | ((with_reducible apply ZPU);(focus (first | exact KZ rfl | (apply ZN;exact E0;(first | exact ia rfl | assumption)) | (apply WU;exact E0;(first | exact ia rfl | assumption);assumption) | fail);done);(focus (first | assumption | (apply At.fz;(focus (apply Sp.fz;assumption));assumption;assumption));done);(focus (first | exact(Nat.add_zero _).symm | exact rfl);done);rfl)
   | ((with_reducible apply Zep);(focus (first | exact KZ rfl | (apply ZN;exact E0;(first | exact ia rfl | assumption)) | (apply WU;exact E0;(first | exact ia rfl | assumption);assumption) | fail);done);rfl)
   | ((with_reducible apply Znh);(first | exact KZ rfl | (apply ZN;exact E0;(first | exact ia rfl | assumption)) | (apply WU;exact E0;(first | exact ia rfl | assumption);assumption) | fail))
   | ((with_reducible apply ZcU);(first | exact KZ rfl | (apply ZN;exact E0;(first | exact ia rfl | assumption)) | (apply WU;exact E0;(first | exact ia rfl | assumption);assumption) | fail))
   | ((with_reducible apply ZrE);(focus (first | exact KZ rfl | (apply ZN;exact E0;(first | exact ia rfl | assumption)) | (apply WU;exact E0;(first | exact ia rfl | assumption);assumption) | fail);done);(focus (apply ZPg;exact E0);done);(first | exact KZ rfl | (apply ZN;exact E0;(first | exact ia rfl | assumption)) | (apply WU;exact E0;(first | exact ia rfl | assumption);assumption) | fail))
   | ((with_reducible apply ZFb);(focus (first | exact KZ rfl | (apply ZN;exact E0;(first | exact ia rfl | assumption)) | (apply WU;exact E0;(first | exact ia rfl | assumption);assumption) | fail);done);(focus (first | exact KZ rfl | (apply ZN;exact E0;(first | exact ia rfl | assumption)) | (apply WU;exact E0;(first | exact ia rfl | assumption);assumption) | fail);done);(apply ZPg;exact E0))
   | fail)))
 | (apply WO.hu gN;(focus (first | (((with_reducible apply ZWf));(focus (first | exact KZ rfl | (apply ZN;exact E0;(first | exact ia rfl | assumption)) | (apply WU;exact E0;(first | exact ia rfl | assumption);assumption) | fail);done);assumption;(focus (first | exact k0 | exact k1 | exact k2 | exact k3 | exact k4 | exact k5 | exact k6 | exact k7 | (repeat (first | exact k7 | apply Pk.s)));done);(focus (first | exact KZ rfl | (apply ZN;exact E0;(first | exact ia rfl | assumption)) | (apply WU;exact E0;(first | exact ia rfl | assumption);assumption) | fail);done);(focus (first | (simp only [ZgB,Zem,ZcQ,Zgz,ZgA,ZgD,ZbB,cells_func,Zay,K4,ZcR];exact rfl) | exact rfl));exact rfl;exact rfl;exact rfl;(focus simp only [splice,List.take_succ_cons,List.take_zero,List.drop_succ_cons,List.drop_zero,List.cons_append,List.nil_append,List.append_nil,List.length_cons,List.length_nil,Nat.reduceAdd,Nat.zero_add,List.take_nil,List.drop_nil];exact rfl)) | fail)))
 | (apply WO.hn gN rfl;(focus (first | (((with_reducible apply ZPY));(focus (first | exact KZ rfl | (apply ZN;exact E0;(first | exact ia rfl | assumption)) | (apply WU;exact E0;(first | exact ia rfl | assumption);assumption) | fail);done);assumption;(focus (first | (simp only [ZgB,Zem,ZcQ,Zgz,ZgA,ZgD,ZbB,cells_func,Zay,K4,ZcR];exact rfl) | exact rfl))) | (((with_reducible apply ZPZ));assumption;(focus (first | (simp only [ZgB,Zem,ZcQ,Zgz,ZgA,ZgD,ZbB,cells_func,Zay,K4,ZcR];exact rfl) | exact rfl))) | fail)))
 | refine WC.skip ?_
 | refine WC.ret ?_
 | refine WC.block ?_
 | refine WC.exit ?_
 | refine Zey.ret ?_
 | refine Zey.exit ?_
 | refine ZgP.ret ?_
 | refine ZgP.XY ?_
 | refine ZgP.here ?_
 | refine Y9.exit ?_
 | refine Y9.ret ?_
 | refine WX.nil ?_
 | fail
 exact k.out):p:=h ⟨k⟩
theorem sl {p:Prop} (h:p:=by
 repeat (first | exact Sel.n | (apply Sel.c;(focus (first | exact k0 | exact k1 | exact k2 | exact k3 | exact k4 | exact k5 | exact k6 | exact k7 | (repeat (first | exact k7 | apply Pk.s))))))
 done):p:=h
theorem r2 {p q:Prop} (k:q) (h:Kp q ->p:=by
 intro k
 iterate 2 (refine r1 ?_)
 exact k.out):p:=h ⟨k⟩
theorem r3 {p q:Prop} (k:q) (h:Kp q ->p:=by
 intro k
 iterate 3 (refine r1 ?_)
 exact k.out):p:=h ⟨k⟩
theorem r4 {p q:Prop} (k:q) (h:Kp q ->p:=by
 intro k
 iterate 4 (refine r1 ?_)
 exact k.out):p:=h ⟨k⟩
theorem r5 {p q:Prop} (k:q) (h:Kp q ->p:=by
 intro k
 iterate 5 (refine r1 ?_)
 exact k.out):p:=h ⟨k⟩
theorem r6 {p q:Prop} (k:q) (h:Kp q ->p:=by
 intro k
 iterate 6 (refine r1 ?_)
 exact k.out):p:=h ⟨k⟩
theorem r7 {p q:Prop} (k:q) (h:Kp q ->p:=by
 intro k
 iterate 7 (refine r1 ?_)
 exact k.out):p:=h ⟨k⟩
theorem r8 {p q:Prop} (k:q) (h:Kp q ->p:=by
 intro k
 iterate 8 (refine r1 ?_)
 exact k.out):p:=h ⟨k⟩
theorem r9 {p q:Prop} (k:q) (h:Kp q ->p:=by
 intro k
 iterate 9 (refine r1 ?_)
 exact k.out):p:=h ⟨k⟩
theorem r10 {p q:Prop} (k:q) (h:Kp q ->p:=by
 intro k
 iterate 10 (refine r1 ?_)
 exact k.out):p:=h ⟨k⟩
theorem r11 {p q:Prop} (k:q) (h:Kp q ->p:=by
 intro k
 iterate 11 (refine r1 ?_)
 exact k.out):p:=h ⟨k⟩
theorem r12 {p q:Prop} (k:q) (h:Kp q ->p:=by
 intro k
 iterate 12 (refine r1 ?_)
 exact k.out):p:=h ⟨k⟩
theorem r13 {p q:Prop} (k:q) (h:Kp q ->p:=by
 intro k
 iterate 13 (refine r1 ?_)
 exact k.out):p:=h ⟨k⟩
theorem r14 {p q:Prop} (k:q) (h:Kp q ->p:=by
 intro k
 iterate 14 (refine r1 ?_)
 exact k.out):p:=h ⟨k⟩
theorem r15 {p q:Prop} (k:q) (h:Kp q ->p:=by
 intro k
 iterate 15 (refine r1 ?_)
 exact k.out):p:=h ⟨k⟩
theorem r16 {p q:Prop} (k:q) (h:Kp q ->p:=by
 intro k
 iterate 16 (refine r1 ?_)
 exact k.out):p:=h ⟨k⟩
end Go.YL
end
end
section
set_option maxRecDepth 20000
noncomputable section
namespace Go.Proofs.YtcnahmgekicbdaaGreat
open Go.YL Go.Lf
section
abbrev cE (x:Zg):List Value:= [.int .i64 x.kZ,.int .i64 x.kV,.int .i64 x.kX,.int .i64 x.n]
abbrev cS (x:ZE):List Value:= [.int .i64 x.act,.int .i64 x.a,.int .i64 x.b]
abbrev cP (x:ZP):List Value:= [.int .i64 x.at_,.int .i64 x.U2]
abbrev cL (x:Zd) (a:Option Addr) (c:Nat):List Value:= [.int .i64 x.kW,.int .i64 x.kV,.int .i64 x.kX,.int .i64 x.n,.slice a x.qX.length c]
abbrev cW (x:Zh) (a0:Option Addr) (c0:Nat) (a1:Option Addr) (c1:Nat) (a2:Option Addr) (c2:Nat) (a3:Option Addr) (c3:Nat) (a4:Option Addr) (c4:Nat) (a5:Option Addr) (c5:Nat):List Value:= [.slice a0 x.qV.length c0,.slice a1 x.qX.length c1,.slice a2 x.qZ.length c2,.slice a3 x.Zl.length c3,.slice a4 x.Zr.length c4,.slice a5 x.kQ.length c5,.int .i64 x.kK]
abbrev cV (a0:Option Addr) (n0 c0:Nat) (a1:Option Addr) (n1 c1:Nat) (a2:Option Addr) (n2 c2:Nat) (a3:Option Addr) (n3 c3:Nat) (a4:Option Addr) (n4 c4:Nat) (a5:Option Addr) (n5 c5:Nat) (s:Int):List Value:= [.slice a0 n0 c0,.slice a1 n1 c1,.slice a2 n2 c2,.slice a3 n3 c3,.slice a4 n4 c4,.slice a5 n5 c5,.int .i64 s]
abbrev cH (a0:Option Addr) (n0 c0:Nat) (a1:Option Addr) (n1 c1:Nat) (a2:Option Addr) (n2 c2:Nat) (a3:Option Addr) (n3 c3:Nat) (a4:Option Addr) (n4 c4:Nat) (a5:Option Addr) (n5 c5:Nat) (s m:Int) (a6:Option Addr) (n6 c6:Nat) (a7:Option Addr) (n7 c7:Nat):List Value:= [.slice a0 n0 c0,.slice a1 n1 c1,.slice a2 n2 c2,.slice a3 n3 c3,.slice a4 n4 c4,.slice a5 n5 c5,.int .i64 s,.int .i64 m,.slice a6 n6 c6,.slice a7 n7 c7]
abbrev gH (wm b:Nat) (x:ZC) (a0:Option Addr) (n0 c0:Nat) (a1:Option Addr) (n1 c1:Nat) (q1:Nat ->Option Addr×Nat×Nat) (a2:Option Addr) (n2 c2:Nat) (q2:Nat ->Option Addr×Nat×Nat) (a3:Option Addr) (n3 c3:Nat) (q3:Nat ->Option Addr×Nat×Nat) (a4:Option Addr) (n4 c4:Nat) (q4:Nat ->Option Addr×Nat×Nat) (a5:Option Addr) (n5 c5:Nat) (q5:Nat ->Option Addr×Nat×Nat) (a6:Option Addr) (c6:Nat) (a7:Option Addr) (n7 c7:Nat):List (Ast wm):= [bx wm b [.slice a0 n0 c0,.slice a1 n1 c1,.slice a2 n2 c2,.slice a3 n3 c3,.slice a4 n4 c4,.slice a5 n5 c5,.int .i64 x.Za.kK,.int .i64 x.qK.qG,.slice a6 x.qK.Zf.length c6,.slice a7 n7 c7],ow wm (Zm .i64) a0 n0 c0 x.Za.qV,Z7 wm (Zy (Zm .i64)) a1 n1 c1 q1 x.Za.qX,Z7 wm (Zy (Zm .i64)) a2 n2 c2 q2 x.Za.qZ,Z7 wm (Zy (Zm .i64)) a3 n3 c3 q3 x.Za.Zl,Z7 wm (Zy Zk) a4 n4 c4 q4 x.Za.Zr,Z7 wm Zw a5 n5 c5 q5 x.Za.kQ,ow wm Zv a7 n7 c7 x.kU]
abbrev gHz (wm b:Nat) (x:ZC) (a0:Option Addr) (n0 c0:Nat) (a1:Option Addr) (n1 c1:Nat) (q1:Nat ->Option Addr×Nat×Nat) (a2:Option Addr) (n2 c2:Nat) (q2:Nat ->Option Addr×Nat×Nat) (a3:Option Addr) (n3 c3:Nat) (q3:Nat ->Option Addr×Nat×Nat) (a4:Option Addr) (n4 c4:Nat) (q4:Nat ->Option Addr×Nat×Nat) (a5:Option Addr) (n5 c5:Nat) (q5:Nat ->Option Addr×Nat×Nat) (a6:Option Addr) (c6:Nat) (a7:Option Addr) (n7 c7:Nat):List (Ast wm):= [bx wm b [.slice a0 n0 c0,.slice a1 n1 c1,.slice a2 n2 c2,.slice a3 n3 c3,.slice a4 n4 c4,.slice a5 n5 c5,.int .i64 x.Za.kK,.int .i64 x.qK.qG,.slice a6 x.qK.Zf.length c6,.slice a7 n7 c7],ow wm (Zm .i64) a0 n0 c0 x.Za.qV,Z7 wm (Zy (Zm .i64)) a1 n1 c1 q1 x.Za.qX,Z7 wm (Zy (Zm .i64)) a2 n2 c2 q2 x.Za.qZ,Z7 wm (Zy (Zm .i64)) a3 n3 c3 q3 x.Za.Zl,Z7 wm (Zy Zk) a4 n4 c4 q4 x.Za.Zr,Z7 wm Zw a5 n5 c5 q5 x.Za.kQ,QJ wm (X0 Zi) (a6,c6) x.qK.Zf,ow wm Zv a7 n7 c7 x.kU]
instance:ZbJ XX.P 3:= ⟨Zfw⟩
instance:ZbJ XX.P 4:= ⟨ZJZ⟩
instance:ZbJ XX.P 22:= ⟨ZFj⟩
instance:Znu XX.P 24:= ⟨ZtG⟩
instance:ZbJ XX.P 28:= ⟨ZFi⟩
instance:ZbJ XX.P 29:= ⟨ZpB⟩
instance:ZbJ XX.P 30:= ⟨ZAa⟩
instance:ZbJ XX.P 31:= ⟨ZFh⟩
instance:Znu XX.P 33:= ⟨ZjE⟩
instance:ZbJ XX.P 34:= ⟨ZFg⟩
instance:ZbJ XX.P 35:= ⟨ZtF⟩
instance:ZbJ XX.P 36:= ⟨ZpA⟩
instance:ZbJ XX.P 62:= ⟨ZP6⟩
instance:Znu XX.P 64:= ⟨Zpz⟩
instance:Znu XX.P 66:= ⟨Zpy⟩
instance:ZbJ XX.P 69:= ⟨Zz9⟩
instance:ZbJ XX.P 71:= ⟨ZtE⟩
instance:ZbJ XX.P 72:= ⟨ZP5⟩
instance:Znu XX.P 74:= ⟨ZFf⟩
instance:ZbJ XX.P 87:= ⟨ZFe⟩
instance:Znu XX.P 99:= ⟨ZFd⟩
instance:Znu XX.P 106:= ⟨ZJ2⟩
instance:ZbJ XX.P 112:= ⟨ZJ1⟩
instance:ZbJ XX.P 119:= ⟨ZJ0⟩
instance:Znu XX.P 121:= ⟨Znn⟩
instance:SzF XX.P 3 1:= ⟨UR⟩
instance:SzF XX.P 4 1:= ⟨ZLB⟩
instance:SzF XX.P 24 2:= ⟨ZlA⟩
instance:SzF XX.P 28 1:= ⟨ZFN⟩
instance:SzF XX.P 29 1:= ⟨Zwn⟩
instance:SzF XX.P 30 1:= ⟨ZFM⟩
instance:SzF XX.P 31 1:= ⟨ZFL⟩
instance:SzF XX.P 33 7:= ⟨Zcj⟩
instance:SzF XX.P 34 1:= ⟨ZFK⟩
instance:SzF XX.P 35 1:= ⟨Ja⟩
instance:SzF XX.P 36 1:= ⟨ZFJ⟩
instance:SzF XX.P 62 1:= ⟨ZFI⟩
instance:SzF XX.P 64 4:= ⟨Zci⟩
instance:SzF XX.P 66 2:= ⟨ZhV⟩
instance:SzF XX.P 69 1:= ⟨Zch⟩
instance:SzF XX.P 71 1:= ⟨Zd1⟩
instance:SzF XX.P 74 3:= ⟨Zwm⟩
instance:SzF XX.P 99 2:= ⟨Zlz⟩
instance:SzF XX.P 106 3:= ⟨ZBf⟩
instance:SzF XX.P 112 1:= ⟨ZBe⟩
instance:SzF XX.P 121 5:= ⟨Q8⟩
instance:JX XX.P 24 0 0:= ⟨Zmm⟩
instance:JX XX.P 24 1 1:= ⟨ZCz⟩
instance:JX XX.P 33 0 0:= ⟨ZCy⟩
instance:JX XX.P 33 1 1:= ⟨Zs8⟩
instance:JX XX.P 33 2 2:= ⟨ZCx⟩
instance:JX XX.P 33 3 3:= ⟨ZCw⟩
instance:JX XX.P 33 4 4:= ⟨ZCv⟩
instance:JX XX.P 33 5 5:= ⟨Zs7⟩
instance:JX XX.P 33 6 6:= ⟨ZCu⟩
instance:JX XX.P 64 0 0:= ⟨ZCt⟩
instance:JX XX.P 64 1 1:= ⟨ZCs⟩
instance:JX XX.P 64 2 2:= ⟨ZCr⟩
instance:JX XX.P 64 3 3:= ⟨ZCq⟩
instance:JX XX.P 66 0 0:= ⟨ZCp⟩
instance:JX XX.P 66 1 1:= ⟨ZCo⟩
instance:JX XX.P 74 0 0:= ⟨ZCn⟩
instance:JX XX.P 74 1 1:= ⟨ZCm⟩
instance:JX XX.P 74 2 2:= ⟨ZCl⟩
instance:JX XX.P 91 0 0:= ⟨Zml⟩
instance:JX XX.P 91 1 7:= ⟨Zmk⟩
instance:JX XX.P 91 2 9:= ⟨ZCk⟩
instance:JX XX.P 96 0 0:= ⟨ZCj⟩
instance:JX XX.P 96 1 2:= ⟨ZCi⟩
instance:JX XX.P 96 2 9:= ⟨ZCh⟩
instance:JX XX.P 99 0 0:= ⟨Zs6⟩
instance:JX XX.P 99 1 1:= ⟨Zmj⟩
instance:JX XX.P 106 0 0:= ⟨Zy2⟩
instance:JX XX.P 106 1 2:= ⟨Zy1⟩
instance:JX XX.P 121 0 0:= ⟨Zy0⟩
instance:JX XX.P 121 1 1:= ⟨ZyZ⟩
instance:JX XX.P 121 2 2:= ⟨ZyY⟩
instance:JX XX.P 121 3 3:= ⟨ZyX⟩
instance:JX XX.P 121 4 4:= ⟨ZoI⟩
instance:Zhk XX.P 22 66:= ⟨ZLu⟩
instance:Zhk XX.P 25 74:= ⟨ZLt⟩
instance:Zhk XX.P 28 71:= ⟨ZnG⟩
instance:Zhk XX.P 29 35:= ⟨Zab⟩
instance:Zhk XX.P 30 69:= ⟨Zr9⟩
instance:Zhk XX.P 31 99:= ⟨Zwa⟩
instance:Zhk XX.P 34 64:= ⟨Zr8⟩
instance:Zhk XX.P 35 3:= ⟨UN⟩
instance:Zhk XX.P 60 4:= ⟨ZLr⟩
instance:Zhk XX.P 69 121:= ⟨UM⟩
instance:ZKs XX.P 4:= ⟨ZQ9⟩
instance:ZbH XX.P 3 (.int .i64 0):= ⟨ZbK⟩
instance:ZbH XX.P 4 (.bool false):= ⟨ZKQ⟩
instance:ZbH XX.P 33 (.agg #[.slice none 0 0,.slice none 0 0,.slice none 0 0,.slice none 0 0,.slice none 0 0,.slice none 0 0,.int .i64 0]):= ⟨ZvJ⟩
instance:ZbH XX.P 35 (.slice none 0 0):= ⟨Zd0⟩
instance:ZbH XX.P 36 (.int .i64 0):= ⟨ZFv⟩
instance:ZbH XX.P 64 (.agg #[.int .i64 0,.int .i64 0,.int .i64 0,.int .i64 0]):= ⟨ZpQ⟩
instance:ZbH XX.P 66 (.agg #[.int .i64 0,.int .i64 0]):= ⟨ZFu⟩
instance:ZbH XX.P 67 (.agg #[.int .i64 0,.int .i64 0]):= ⟨ZvI⟩
instance:ZbH XX.P 69 (.slice none 0 0):= ⟨ZvH⟩
instance:ZbH XX.P 71 (.int .i64 0):= ⟨ZvG⟩
instance:ZbH XX.P 74 (.agg #[.int .i64 0,.int .i64 0,.int .i64 0]):= ⟨ZvF⟩
instance:ZbH XX.P 91 (.agg #[.slice none 0 0,.slice none 0 0,.slice none 0 0,.slice none 0 0,.slice none 0 0,.slice none 0 0,.int .i64 0,.int .i64 0,.slice none 0 0,.slice none 0 0]):= ⟨ZvE⟩
instance:ZbH XX.P 96 (.agg #[.int .i64 0,.slice none 0 0,.slice none 0 0,.slice none 0 0,.slice none 0 0,.slice none 0 0,.slice none 0 0,.slice none 0 0,.int .i64 0,.slice none 0 0]):= ⟨ZFt⟩
instance:ZbH XX.P 99 (.agg #[.int .i64 0,.slice none 0 0]):= ⟨ZvD⟩
instance:ZbH XX.P 106 (.agg #[.int .i64 0,.slice none 0 0,.slice none 0 0]):= ⟨ZAJ⟩
instance:ZbH XX.P 112 (.nilFunc):= ⟨ZAI⟩
instance:ZbH XX.P 121 (.agg #[.int .i64 0,.int .i64 0,.int .i64 0,.int .i64 0,.slice none 0 0]):= ⟨Za6⟩
instance:ZbH XX.P 124 (.nilFunc):= ⟨Zc3⟩
end
section
def Zzs (p0:Zb):Option Bool:=
 some (decide ((p0.Zf.length:Int) <=30))
def Zji (p0:Zb) (v23:Int) (ZlQ:(Int ->Option Bool)):Int×Int ->(Int×Int ->Option Bool) ->Option Bool:=fun(v34,v36) Zxt=>
 (bif((decide (v36 <= (p0.Zf.length:Int))) && (decide (v34 >=0))) then(bif(v34==v23) then some false else(ZR p0.Zf v34).bind fun x41=>Zxt (x41.U2,YA (v36 + 1))) else ZlQ (YA (v23 + 1)))
def Zgn (F:Nat) (p0:Zb):Int ->(Int ->Option Bool) ->Option Bool:=fun v23 ZlQ=>
 (bif decide (v23 < (p0.Zf.length:Int)) then(ZR p0.Zf v23).bind fun x26=>loop F (Zji p0 v23 ZlQ) (x26.U2,0) else some true)
def Zjj (F:Nat) (p0:Zb):Int ->(Int ->Option Bool) ->Option Bool:=fun v9 Zbp=>
 (bif decide (v9 < (p0.Zf.length:Int)) then(ZR p0.Zf v9).bind fun x12=>(bif((((decide (x12.at_ < 0)) || (decide (x12.at_ >=p0.qG))) || (decide (x12.U2 < (-1)))) || (decide (x12.U2 >= (p0.Zf.length:Int)))) then some false else Zbp (YA (v9 + 1))) else loop F (Zgn F p0) 0)
def Zrd (F:Nat) (p0:Zb):Option Bool:=
 (bif((((decide (p0.qG < 1)) || (decide (p0.qG > 4))) || (decide ((p0.Zf.length:Int) < 1))) || (decide ((p0.Zf.length:Int) > 8))) then some false else loop F (Zjj F p0) 0)
def Zjf (v10:Int) (ZfX:(Int×Int ->Option Int)):Int ->Option Int:=fun v18=>
 ZfX (v18,YA (v10 + 1))
def ZmH (p0:(List Zg)) (p1:Int) (p2:Int) (p3:Int):Int×Int ->(Int×Int ->Option Int) ->Option Int:=fun(v6,v10) ZfX=>
 (bif decide (v10 < (p0.length:Int)) then(ZR p0 v10).bind fun x23=>(bif(((x23.kZ==p1) && (x23.kV==p2)) && (x23.kX==p3)) then(Zjf v10 ZfX) (YA (v6 + 1)) else(Zjf v10 ZfX) v6) else some v6)
def Zrb (F:Nat) (p0:(List Zg)) (p1:Int) (p2:Int) (p3:Int):Option Int:=
 loop F (ZmH p0 p1 p2 p3) (0,0)
def Zra (p0:Zb) (p1:Int):Option Bool:=
 some ((decide (p1 >=0)) && (decide (p1 < (p0.Zf.length:Int))))
end
section
theorem ZJc {wm h} {p0:Zb} {Zu Zt} {r} (ZT:wm <=h.size) (Yc:Sl Zi wm h Zu Zt p0.Zf) (hL:Zzs p0=some r):
 WR XX 14 #[.agg [.int .i64 p0.qG,.slice Zu p0.Zf.length Zt].toArray] wm h (CP (fun(v:Value) (Gb:List (Ast wm))=>v= .bool r∧Gb= []) [] h):=by
 refine bg Tryz.ntmps14 ZT Yd.nil ?_;intro T hT hS;unfold Zzs at hL;refine r3 ?_;rintro _ h2 ⟨b1,eb1,rfl,hS⟩;refine r13 ?_;exact rt hL hT hS
theorem ZI9 {F wm h} {p0:Zb} {Zu Zt} {r} (ZT:wm <=h.size) (Yc:Sl Zi wm h Zu Zt p0.Zf) (hL:Zrd F p0=some r):
 WR XX 17 #[.agg [.int .i64 p0.qG,.slice Zu p0.Zf.length Zt].toArray] wm h (CP (fun(v:Value) (Gb:List (Ast wm))=>v= .bool r∧Gb= []) [] h):=by
 refine bg Tryz.ntmps17 ZT Yd.nil ?_;intro T hT hS;unfold Zrd at hL;refine r3 ?_;rintro _ h2 ⟨b1,eb1,rfl,hS⟩;refine r16 ?_;refine r16 ?_;refine cn hL ?_ ?_
 ·intro hc hL;refine r7 ?_;exact rt hL hT hS
 ·intro hc hL;refine r12 ?_;refine WC.loop (WL.lift hL (fun v9 s=>∃ fr4 h3,s= ⟨fr4,[],h3,none⟩∧Sp wm T h [bx wm b1 [.int .i64 p0.qG,.slice Zu p0.Zf.length Zt]] h3∧fr4.at 1= .pointer (some ⟨b1,0,none⟩)∧fr4.at 3= .int .i64 (p0.Zf.length:Int)∧fr4.at 29= .slice Zu p0.Zf.length Zt∧fr4.at 30= .int .i64 (p0.Zf.length:Int)∧fr4.at 31= .int .i64 v9) ⟨_,_,rfl,hS.only sl,Uj⟩ ?_);clear hL hS;rintro Zbp v9 s Zdn hL ⟨fr4,h3,rfl,hS,e5,e6,e7,e8,e10⟩;dsimp only [Zjj] at hL;refine r6 ?_;refine cn hL ?_ ?_
  ·intro hc hL;refine r6 ?_;obtain⟨x12,ZHQ,hL⟩:=bS hL;obtain⟨b13,o14,_,ZOo,ZEP,ZEO,ZEM⟩:=Sl.at_ Yc ZHQ;refine r1 ?_;refine WO.w gN rfl (JN Zpy ZhV (ZN fh rfl) (At.fz hS.fz ZEO ZEP) (j:=0) rfl rfl (ws:= (cP x12)) rfl) ?_;refine r1 ?_;rintro _ h16 ⟨b15,Z2X,rfl,hS⟩;refine r1 ?_;rintro h17 hS;refine r16 ?_;refine r11 ?_;refine cn hL ?_ ?_
   ·intro hc hL;refine r11 ?_;exact rt hL hT hS
   ·intro hc hL;refine r7 ?_;exact Y9.XY (Zdn _ _ hL ⟨_,_,rfl,hS.only sl,Uj⟩)
  ·intro hc hL;refine r15 ?_;refine WC.loop (WL.lift hL (fun v23 s=>∃ Zuv h18,s= ⟨Zuv,[],h18,none⟩∧Sp wm T h [bx wm b1 [.int .i64 p0.qG,.slice Zu p0.Zf.length Zt]] h18∧Zuv.at 1= .pointer (some ⟨b1,0,none⟩)∧Zuv.at 3= .int .i64 (p0.Zf.length:Int)∧Zuv.at 59= .int .i64 (p0.Zf.length:Int)∧Zuv.at 60= .int .i64 v23) ⟨_,_,rfl,hS.only sl,Uj⟩ ?_);clear hL hS;rintro ZlQ v23 s ZB0 hL ⟨Zuv,h18,rfl,hS,e20,e21,e22,e24⟩;dsimp only [Zgn] at hL;refine r6 ?_;refine cn hL ?_ ?_
   ·intro hc hL;refine r15 ?_;obtain⟨x26,ZSc,hL⟩:=bS hL;obtain⟨b27,o28,_,ZX7,ZYU,ZYD,ZYq⟩:=Sl.at_ Yc ZSc;refine r12 ?_;refine WC.loop (WL.lift hL (fun p s=>match p with | (v34,v36)=>∃ Zmh h29,s= ⟨Zmh,[],h29,none⟩∧Sp wm T h [bx wm b1 [.int .i64 p0.qG,.slice Zu p0.Zf.length Zt]] h29∧Zmh.at 1= .pointer (some ⟨b1,0,none⟩)∧Zmh.at 3= .int .i64 (p0.Zf.length:Int)∧Zmh.at 6= .int .i64 v23∧Zmh.at 7= .int .i64 v34∧Zmh.at 8= .int .i64 v36∧Zmh.at 59= .int .i64 (p0.Zf.length:Int)∧Zmh.at 60= .int .i64 v23) ⟨_,_,rfl,hS.only sl,Uj⟩ ?_);clear hL hS;rintro Zxt ⟨v34,v36⟩ s ZBZ hL ⟨Zmh,h29,rfl,hS,e31,e32,e33,e35,e37,e38,e39⟩;dsimp only [Zji] at hL;refine r12 ?_;refine cn hL ?_ ?_
    ·intro hc hL;refine r12 ?_;refine cn hL ?_ ?_
     ·intro hc hL;refine r16 ?_;exact rt hL hT hS
     ·intro hc hL;refine r6 ?_;obtain⟨x41,ZHO,hL⟩:=bS hL;obtain⟨b42,o43,_,ZX5,ZYQ,ZYC,ZYp⟩:=Sl.at_ Yc ZHO;refine r12 ?_;exact Y9.XY (ZBZ _ _ hL ⟨_,_,rfl,hS.only sl,Uj⟩)
    ·intro hc hL;refine r10 ?_;exact Y9.XY (ZB0 _ _ hL ⟨_,_,rfl,hS.only sl,Uj⟩)
   ·intro hc hL;refine r11 ?_;exact rt hL hT hS
theorem ZJa {F h} {p0:Zb} {Zu Zt} {r} (Yc:Sl Zi h.size h Zu Zt p0.Zf) (hL:Zrd F p0=some r):Pure XX 17 #[.agg [.int .i64 p0.qG,.slice Zu p0.Zf.length Zt].toArray] h (.bool r):=
 WR.XQ rfl (ZI9 (Nat.le_refl _) Yc hL)
theorem ZI4 {F wm h} {p0:(List Zg)} {p1 p2 p3:Int} {Zu Zt} {r} (ZT:wm <=h.size) (Yc:Sl Zv wm h Zu Zt p0) (hL:Zrb F p0 p1 p2 p3=some r):
 WR XX 32 #[.slice Zu p0.length Zt,.int .i64 p1,.int .i64 p2,.int .i64 p3] wm h (CP (fun(v:Value) (Gb:List (Ast wm))=>v= .int .i64 r∧Gb= []) [] h):=by
 refine bg Tryz.ntmps32 ZT Yd.nil ?_;intro T hT hS;unfold Zrb at hL;refine r16 ?_;refine r3 ?_;refine WC.loop (WL.lift hL (fun p s=>match p with | (v6,v10)=>∃ JH h1,s= ⟨JH,[],h1,none⟩∧Sp wm T h [] h1∧JH.at 1= .int .i64 p1∧JH.at 2= .int .i64 p2∧JH.at 3= .int .i64 p3∧JH.at 9= .int .i64 v6∧JH.at 12= .slice Zu p0.length Zt∧JH.at 13= .int .i64 (p0.length:Int)∧JH.at 14= .int .i64 v10) ⟨_,_,rfl,hS.only .n,Uj⟩ ?_);clear hL hS;rintro ZfX ⟨v6,v10⟩ s ZB3 hL ⟨JH,h1,rfl,hS,e3,e4,e5,e7,e8,e9,e11⟩;dsimp only [ZmH] at hL;refine r6 ?_;refine cn hL ?_ ?_
 ·intro hc hL;refine r2 ?_;refine WC.ZfP (r:=r) (fun(v18:Int) s=>∃ Zmi h13,s= ⟨Zmi,[],h13,none⟩∧Sp wm T h [] h13∧Zmi.at 1= .int .i64 p1∧Zmi.at 2= .int .i64 p2∧Zmi.at 3= .int .i64 p3∧Zmi.at 9= .int .i64 v18∧Zmi.at 12= .slice Zu p0.length Zt∧Zmi.at 13= .int .i64 (p0.length:Int)∧Zmi.at 14= .int .i64 v10) (Zjf v10 ZfX) ?_ ?_
  ·clear hL hS;rintro v18 s hL ⟨Zmi,h13,rfl,hS,e15,e16,e17,e19,e20,e21,e22⟩;dsimp only [Zjf] at hL;refine r4 ?_;exact Y9.XY (ZB3 _ _ hL ⟨_,_,rfl,hS.only .n,Uj⟩)
  ·skip;refine r3 ?_;obtain⟨x23,ZSd,hL⟩:=bS hL;obtain⟨b24,o25,_,ZX8,ZOV,ZOI,ZYr⟩:=Sl.at_ Yc ZSd;refine r1 ?_;refine WO.w gN rfl (JN Zpz Zci (ZN fh rfl) (At.fz hS.fz ZOI ZOV) (j:=0) rfl rfl (ws:= (cE x23)) rfl) ?_;refine r1 ?_;rintro _ h27 ⟨b26,Z2V,rfl,hS⟩;refine r1 ?_;rintro h28 hS;refine r16 ?_;refine r6 ?_;refine cn hL ?_ ?_
   ·intro hc hL;refine r6 ?_;exact Jq.XY _ hL ⟨_,_,rfl,hS.only .n,Uj⟩
   ·intro hc hL;refine r2 ?_;exact Jq.XY _ hL ⟨_,_,rfl,hS.only .n,Uj⟩
 ·intro hc hL;refine r12 ?_;exact rt hL hT hS
theorem Zzn {F h} {p0:(List Zg)} {p1 p2 p3:Int} {Zu Zt} {r} (Yc:Sl Zv h.size h Zu Zt p0) (hL:Zrb F p0 p1 p2 p3=some r):Pure XX 32 #[.slice Zu p0.length Zt,.int .i64 p1,.int .i64 p2,.int .i64 p3] h (.int .i64 r):=
 WR.XQ rfl (ZI4 (Nat.le_refl _) Yc hL)
theorem ZI3 {wm h} {p0:Zb} {p1:Int} {Zu Zt} {r} (ZT:wm <=h.size) (Yc:Sl Zi wm h Zu Zt p0.Zf) (hL:Zra p0 p1=some r):
 WR XX 33 #[.agg [.int .i64 p0.qG,.slice Zu p0.Zf.length Zt].toArray,.int .i64 p1] wm h (CP (fun(v:Value) (Gb:List (Ast wm))=>v= .bool r∧Gb= []) [] h):=by
 refine bg Tryz.ntmps33 ZT Yd.nil ?_;intro T hT hS;unfold Zra at hL;refine r3 ?_;rintro _ h2 ⟨b1,eb1,rfl,hS⟩;refine r16 ?_;refine r2 ?_;exact rt hL hT hS
theorem Zzm {h} {p0:Zb} {p1:Int} {Zu Zt} {r} (Yc:Sl Zi h.size h Zu Zt p0.Zf) (hL:Zra p0 p1=some r):Pure XX 33 #[.agg [.int .i64 p0.qG,.slice Zu p0.Zf.length Zt].toArray,.int .i64 p1] h (.bool r):=
 WR.XQ rfl (ZI3 (Nat.le_refl _) Yc hL)
end
section
def ZmB (p0:Zb) (p1:Int):Option Bool:=
 some ((decide (p1 >=0)) && (decide (p1 < (p0.Zf.length:Int))))
end
section
theorem ZIY {wm h} {p0:Zb} {p1:Int} {Zu Zt} {r} (ZT:wm <=h.size) (Yc:Sl Zi wm h Zu Zt p0.Zf) (hL:ZmB p0 p1=some r):
 WR XX 54 #[.agg [.int .i64 p0.qG,.slice Zu p0.Zf.length Zt].toArray,.int .i64 p1] wm h (CP (fun(v:Value) (Gb:List (Ast wm))=>v= .bool r∧Gb= []) [] h):=by
 refine bg Tryz.ntmps54 ZT Yd.nil ?_;intro T hT hS;unfold ZmB at hL;refine r3 ?_;rintro _ h2 ⟨b1,eb1,rfl,hS⟩;refine r16 ?_;refine r2 ?_;exact rt hL hT hS
theorem Zq9 {h} {p0:Zb} {p1:Int} {Zu Zt} {r} (Yc:Sl Zi h.size h Zu Zt p0.Zf) (hL:ZmB p0 p1=some r):Pure XX 54 #[.agg [.int .i64 p0.qG,.slice Zu p0.Zf.length Zt].toArray,.int .i64 p1] h (.bool r):=
 WR.XQ rfl (ZIY (Nat.le_refl _) Yc hL)
end
end Go.Proofs.YtcnahmgekicbdaaGreat
end
end
