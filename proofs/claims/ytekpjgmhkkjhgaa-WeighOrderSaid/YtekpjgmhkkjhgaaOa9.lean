/- Order Part 9 of the proof. -/
import Derived.Test.YtekpjgmhkkjhgaaOa8
set_option linter.all false
set_option maxHeartbeats 2000000
section
noncomputable section
namespace Go.Yw
open Go.Lf
variable {X:Ctx} {n wm:Nat} {rd:Option Nat} {ops:Array Oper} {l:List Oper} {fr:Fr} {ds:List Deferred} {h h1 h2 h0:H} {ty:TypeId} {p:String} {af:Array Edge} {g:Option (Nat×Bool)} {m:Nat} {T:Nat ->Prop} {G Gr Ga Gb:List (Ast wm)} {d:Nat} {sf:ST}
def HW (X:Ctx) (wm:Nat) (o:Oper) (fr:Fr) (h:H) (K:H ->Prop):Prop:=∃ v E h1,Xi X h (ZV fr) o=some (.val v,E)∧E.apply wm h=some h1∧K h1
theorem WO.hw {Q:XX ->Fs ->Prop} {op:Op} {K:H ->Prop} (hg:ZO ops ⟨none,op,ty,p,af,g⟩ fr) (s:HW X wm ⟨none,op,ty,p,af,g⟩ fr h K) (k:∀ h',K h' ->WO X n wm rd ops l ⟨fr,ds,h',none⟩ Q):
 WO X n wm rd ops (⟨none,op,ty,p,af,g⟩::l) ⟨fr,ds,h,none⟩ Q:=let⟨_,_,h1,ha,hE,hk⟩:=s;WO.val hg rfl ha hE (k h1 hk)
theorem Qk {t:TypeId} {x:Operand} {lo hi mx:Option Operand} {a:Option Addr} {nn c:Nat} {vlo vhi vmx:Option Value} {v:Value} (hx:ZV fr x=some (.slice a nn c)) (el1:evo (ZV fr) lo=some vlo) (eh1:evo (ZV fr) hi=some vhi) (em1:evo (ZV fr) mx=some vmx) (hv:aslice X.P h t (.slice a nn c) vlo vhi vmx=some v):
 Xi X h (ZV fr) ⟨some d,.slice t x lo hi mx,ty,p,af,g⟩=some (.val v,.none):=by
 show(match ZV fr x,evo (ZV fr) lo,evo (ZV fr) hi,evo (ZV fr) mx with
  | some x,some lo,some hi,some mx=>bif plain x && not (ZmF x) then(match lo,hi,mx with
     | lo,hi,mx=>bif Qv (lo.toList ++ hi.toList ++ mx.toList) then pN (Zax X.P (Instr.sliceAt t x lo hi mx)) else none)
    else vN (aslice X.P h t x lo hi mx)
  | _,_,_,_=>none)=_
 rw [hx,el1,eh1,em1];show(bif plain (.slice a nn c) && not (ZmF (.slice a nn c)) then _ else vN (aslice X.P h t (.slice a nn c) vlo vhi vmx))=_;have:ZmF (.slice a nn c)=true:=rfl;rw [this,Bool.not_true,Bool.and_false,cond_false,hv];rfl
section
variable {α:Type} {e:J7 α} {t el:TypeId} {x:Operand} {a:Option Addr} {nn c:Nat} {xs zs ws us:List α} {a1 a2 a3:Int}
theorem ZxV {lo hi mx:Operand} (so:XF e wm wm h a c xs) (hn:nn=xs.length) (hu:X.P.underlying t=some (.slice el)) (hs:ZY X.P el=some e.sz) (hx:ZV fr x=some (.slice a nn c))
 (hlo:ZV fr lo=some (.int .i64 a1)) (hhi:ZV fr hi=some (.int .i64 a2)) (hmx:ZV fr mx=some (.int .i64 (xs.length:Nat))) (hz:slL xs a1 a2=some zs):
 ∃ v,Xi X h (ZV fr) ⟨some d,.slice t x (some lo) (some hi) (some mx),ty,p,af,g⟩=some (.val v,.none):=by
 obtain⟨l,k,rfl,rfl,hlk,hkx,rfl⟩:=UO hz;subst hn;have e1:obN (some (.int .i64 (l:Int))) 0=some l:=rfl;have e2:∀ q,obN (some (.int .i64 (k:Int))) q=some k:=fun q=>rfl
 have e3:ZbY (.int .i64 ((xs.length:Nat):Int))=some xs.length:=rfl;rcases so.mem with⟨rfl,rfl,rfl⟩ | ⟨i,o,cs,rfl,q2,q3,q4,q5,q6⟩
 ·have hk0:k=0:=by simpa using hkx
  have hl0:l=0:=by omega
  subst hk0 hl0;refine⟨.slice none 0 0,Qk hx (YB hlo) (YB hhi) (YB hmx) ?_⟩
  have:aslice X.P h t (.slice none 0 0) (some (.int .i64 ((0:Nat):Int))) (some (.int .i64 ((0:Nat):Int))) (some (.int .i64 ((0:Nat):Int)))=some (.slice none 0 0):=by
   unfold aslice;simp only [hu,hs]
   rfl
  exact this
 ·refine⟨.slice (some ⟨i,bif Nat.beq xs.length l then o else o + l * e.sz,none⟩) (k - l) (2 * (xs.length - l)),Qk hx (YB hlo) (YB hhi) (YB hmx) ?_⟩;unfold aslice;simp only [hu,hs,e1,e2,e3];rw [Nat.ble_eq_true_of_le hlk,Nat.ble_eq_true_of_le hkx,Nat.ble_eq_true_of_le q4]
  rfl
theorem ZxU {hi:Operand} (so:XF e wm wm h a c xs) (hn:nn=xs.length) (hu:X.P.underlying t=some (.slice el)) (hs:ZY X.P el=some e.sz) (hx:ZV fr x=some (.slice a nn c))
 (hhi:ZV fr hi=some (.int .i64 a2)) (hz:slL xs 0 a2=some zs):
 ∃ a' c',a'=a∧c'=c∧Xi X h (ZV fr) ⟨some d,.slice t x none (some hi) none,ty,p,af,g⟩=some (.val (.slice a' zs.length c'),.none)∧Zjh e a c xs a' c' zs:=by
 obtain⟨l,k,hl0,rfl,hlk,hkx,rfl⟩:=UO hz;have hl0:l=0:=by omega
 subst hl0 hn;have hlen:((xs.take k).drop 0).length=k:=by rw [List.drop_zero,List.length_take];omega
 have e2:∀ q,obN (some (.int .i64 (k:Int))) q=some k:=fun q=>rfl
 have e1:obN none 0=some 0:=rfl;refine⟨a,c,rfl,rfl,?_⟩;rcases so.mem with⟨rfl,rfl,rfl⟩ | ⟨i,o,cs,rfl,q2,q3,q4,q5,q6⟩
 ·have hk0:k=0:=by simpa using hkx
  subst hk0;refine⟨Qk hx rfl (YB hhi) rfl ?_,ZpG rfl⟩
  have:aslice X.P h t (.slice none 0 0) none (some (.int .i64 ((0:Nat):Int))) none=some (.slice none 0 0):=by
   unfold aslice;simp only [hu,hs]
   rfl
  exact this
 ·refine⟨Qk hx rfl (YB hhi) rfl ?_,Zkf hlk hkx (.inl ⟨by omega,by omega⟩)⟩;rw [hlen];unfold aslice;simp only [hu,hs,e1,e2];rw [Nat.ble_eq_true_of_le (Nat.zero_le k),Nat.ble_eq_true_of_le (Nat.le_trans hkx q4)];simp only [Bool.and_self,cond_true];cases hev:Nat.beq (c % 2) 0 with
  | true=>
    have:=Nat.eq_of_beq_eq_true hev;have hc:2 * (c / 2 - 0)=c:=by omega
    simp only [cond_true,Nat.zero_mul,Nat.add_zero,Nat.sub_zero];cases Nat.beq (c / 2) 0 <;> simp only [cond_true,cond_false] <;> congr 2 <;> omega
  | false=>
    simp only [cond_false]
    rfl
structure Tl (e:J7 α) (a:Option Addr) (c k n3:Nat) (a3:Option Addr):Prop where
 out:n3=0∨∃ i o,a=some ⟨i,o,none⟩∧a3=some ⟨i,o + k * e.sz,none⟩∧k + n3 <=c / 2
theorem ZxT {lo hi:Operand} {mm:Nat} (so:XF e wm wm h a c zs) (hu:X.P.underlying t=some (.slice el)) (hs:ZY X.P el=some e.sz) (hx:ZV fr x=some (.slice a zs.length c))
 (hlo:ZV fr lo=some (.int .i64 (zs.length:Nat))) (hhi:ZV fr hi=some (.int .i64 (mm:Nat))) (hm:zs.length <=mm) (hc:mm <=c / 2):
 ∃ a' c',Xi X h (ZV fr) ⟨some d,.slice t x (some lo) (some hi) none,ty,p,af,g⟩=some (.val (.slice a' (mm - zs.length) c'),.none)∧Tl e a c zs.length (mm - zs.length) a':=by
 have e1:obN (some (.int .i64 ((zs.length:Nat):Int))) 0=some zs.length:=rfl;have e2:∀ q,obN (some (.int .i64 (mm:Int))) q=some mm:=fun q=>rfl
 rcases so.mem with⟨rfl,rfl,rfl⟩ | ⟨i,o,cs,rfl,q2,q3,q4,q5,q6⟩
 ·have hk0:mm=0:=by omega
  subst hk0;refine⟨none,0,Qk hx (YB hlo) (YB hhi) rfl ?_,⟨.inl rfl⟩⟩
  have:aslice X.P h t (.slice none 0 0) (some (.int .i64 ((0:Nat):Int))) (some (.int .i64 ((0:Nat):Int))) none=some (.slice none 0 0):=by
   unfold aslice;simp only [hu,hs]
   rfl
  exact this
 ·have hmain:∀ v,(bif Nat.beq (c % 2) 0 then some (Value.slice (some ⟨i,bif Nat.beq (c / 2) zs.length then o else o + zs.length * e.sz,none⟩) (mm - zs.length) (2 * (c / 2 - zs.length)))
   else bif Nat.beq zs.length 0 then some (.slice (some ⟨i,o,none⟩) mm c)
   else some (.slice (some ⟨i,o + zs.length * e.sz,none⟩) (mm - zs.length) (2 * (c / 2 - zs.length) + 1)))=some v ->aslice X.P h t (.slice (some ⟨i,o,none⟩) zs.length c) (some (.int .i64 ((zs.length:Nat):Int))) (some (.int .i64 (mm:Int))) none=some v:=fun v hv=>by
   unfold aslice;simp only [hu,hs,e1,e2];rw [Nat.ble_eq_true_of_le hm,Nat.ble_eq_true_of_le hc,q3];have b2:(Nat.beq e.sz e.sz && Nat.ble 1 e.sz)=true:=by rw [Nat.beq_refl,Nat.ble_eq_true_of_le (show 1 <=e.sz from e.pos)];rfl
   simp only [b2,Bool.and_self,cond_true];exact hv
  cases hev:Nat.beq (c % 2) 0 with
  | true=>
    rw [hev] at hmain;refine⟨_,_,Qk hx (YB hlo) (YB hhi) rfl (hmain _ rfl),⟨?_⟩⟩;cases hcl:Nat.beq (c / 2) zs.length with
    | true=>have:=Nat.eq_of_beq_eq_true hcl;left;omega
    | false=>right;exact⟨i,o,rfl,rfl,by omega⟩
  | false=>
    rw [hev] at hmain;cases hl0:Nat.beq zs.length 0 with
    | true=>
      have h00:=Nat.eq_of_beq_eq_true hl0;rw [hl0] at hmain;refine⟨some ⟨i,o,none⟩,c,Qk hx (YB hlo) (YB hhi) rfl (hmain _ ?_),⟨.inr ⟨i,o,rfl,by rw [h00];simp,by omega⟩⟩⟩;rw [h00];rfl
    | false=>
      rw [hl0] at hmain;exact⟨_,_,Qk hx (YB hlo) (YB hhi) rfl (hmain _ rfl),⟨.inr ⟨i,o,rfl,rfl,by omega⟩⟩⟩
theorem ZlX (z:List Value) (k:Nat):(J8 z k).length=k * z.length:=by unfold J8;simp
theorem Zyn {ts:Array TypeId} {rest:List TypeId} {n3 c3:Nat} {z:Value} {a3':Option Addr} (hS:Sp wm T h0 G h) (pk:Pk G (ow wm e a nn c zs) Gr) (tl:Tl e a c zs.length n3 a3') (hts:ts.toList=t::rest) (hu:X.P.underlying t=some (.slice el)) (hz:YA X.P el=some z) (hzl:z.cells.toList.length=e.sz) (hx:ZV fr x=some (.slice a3' n3 c3)):
 HW X wm ⟨none,.call {callee:= .builtin .clear,args:=#[x],argTypes:=ts},ty,p,af,g⟩ fr h (fun h'=>Sp wm T h0 (ow wm e a nn c zs::Gr) h'):=by
 have key:∀ E,K7 X.P h t (.slice a3' n3 c3)=some E ->Xi X h (ZV fr) ⟨none,.call {callee:= .builtin .clear,args:=#[x],argTypes:=ts},ty,p,af,g⟩=some (.val (.tuple #[]),E):=fun E hE=>by
  have hev:evs (ZV fr) (#[x]:Array Operand).toList=some [.slice a3' n3 c3]:=Zc hx Zk;rw [QT,hev];show(match ts.toList with | t::_=>(match K7 X.P h t (.slice a3' n3 c3) with | some E=>some (AN.val (.tuple #[]),E) | none=>none) | []=>none)=_;rw [hts];dsimp only;rw [hE]
 obtain⟨h1,so⟩:=hS.get pk;by_cases h0':n3=0
 ·refine⟨_,.none,h,key _ ?_,rfl,hS.perm pk.perm⟩;unfold K7;simp only [hu,h0',Nat.beq_refl,cond_true]
 ·rcases tl.out with q | ⟨i,o,rfl,rfl,hcap⟩
  ·exact absurd q h0'
  ·rcases so.mem with⟨q,_⟩ | ⟨i',o',cs,q,q2,q3,q4,q5,q6⟩
   ·cases q
   ·cases q;have hb:Nat.beq n3 0=false:=by rw [Bool.eq_false_iff];intro q;exact h0' (Nat.eq_of_beq_eq_true q)
    have hfit:o + zs.length * e.sz + n3 * e.sz <=cs.length:=by
     have:(zs.length + n3) * e.sz <=c / 2 * e.sz:=Nat.mul_le_mul_right _ hcap;rw [Nat.add_mul] at this;omega
    have hzr:(J8 z.cells.toList n3).length=n3 * e.sz:=by rw [ZlX,hzl]
    have hl2:o + zs.length * e.sz + (J8 z.cells.toList n3).length <=cs.length:=by rw [hzr];exact hfit
    have hu':Up wm (fun j=>j=i) h (h.put i (.row (splice cs (o + zs.length * e.sz) (J8 z.cells.toList n3)) true e.sz)):=Up.put q2 (by rw [q3];rfl);refine⟨_,.upd i (.row (splice cs (o + zs.length * e.sz) (J8 z.cells.toList n3)) true e.sz),_,key _ ?_,?_,hS.one pk hu' (fun j q=>⟨o,by rw [q]⟩) ⟨h1,so.max,.inr ⟨i,o,_,rfl,q2,Z8 (XH q3 rfl) _,q4,by rw [QX _ _ _ hl2];exact q5,?_⟩⟩ fun j q=>.inl q⟩
    ·unfold K7;simp only [hu,hb,cond_false,hz,q3,hzl];rw [Nat.ble_eq_true_of_le hfit];rfl
    ·show(bif Nat.ble wm i && (h.at i).own then some (h.put i _) else none)=_;rw [q3,Nat.ble_eq_true_of_le q2];rfl
    ·refine⟨by rw [QX _ _ _ hl2];exact q6.len,fun k x hk=>?_⟩;obtain⟨q,g1,g2⟩:=q6.get k x hk;refine⟨q,?_,e.mono (hu'.fz (Nat.le_refl _)) g2⟩;have hkl:= (List.getElem?_eq_some_iff.1 hk).1;have:(k + 1) * e.sz <=zs.length * e.sz:=Nat.mul_le_mul_right _ hkl;rw [Nat.succ_mul] at this;rw [Zdk hl2 (.inl (by omega)),g1]
theorem Zx0 {ts:Array TypeId} {x y:Operand} {J2:Nat} {b2:Option Addr} {c2:Nat} {ys:List α} (hi:Zgo X.P ts e.sz J2) (hx:ZV fr x=some (.slice a xs.length c)) (hy:ZV fr y=some (.slice b2 ys.length c2)) (so:XF e wm wm h a c xs) (sr:Src e wm h b2 c2 ys) (hr:xs.length + ys.length <=c / 2):
 ∃ E,Xi X h (ZV fr) ⟨some d,.call {callee:= .builtin .append,args:=#[x,y],argTypes:=ts},ty,p,af,g⟩=some (.val (.slice a (xs ++ ys).length c),E):=by
 obtain⟨el,z,hi⟩:=hi;obtain⟨new,n1,n2,n3⟩:=sr.reads;have n4:=n3.one n2;have hev:evs (ZV fr) (#[x,y]:Array Operand).toList=some [.slice a xs.length c,.slice b2 ys.length c2]:=Zc hx (Zc hy Zk);have hls:Qc (.slice b2 ys.length c2)=ys.length:=rfl
 have key:∀ (v:Value) (E:Eff),XV X.P h ts (.slice a xs.length c) (.slice b2 ys.length c2)=some (v,E) ->Xi X h (ZV fr) ⟨some d,.call {callee:= .builtin .append,args:=#[x,y],argTypes:=ts},ty,p,af,g⟩=some (.val v,E):=by
  intro v E hE;rw [QT,hev];show vE (XV X.P h ts (.slice a xs.length c) (.slice b2 ys.length c2))=_;rw [hE];rfl
 have hle2:(xs ++ ys).length=xs.length + ys.length:=List.length_append;by_cases hy0:ys= []
 ·subst hy0;refine⟨.none,key _ _ ?_⟩;unfold XV;rw [hi];dsimp only;rw [n1];dsimp only;rw [hls,Nat.ble_eq_true_of_le hr,hle2];rfl
 ·have hyl:0 < ys.length:=List.length_pos_iff.2 hy0;rcases so.mem with⟨rfl,rfl,rfl⟩ | ⟨i,o,cs,rfl,hlo2,hrow,hc1,hc2,hel⟩
  ·exfalso;simp at hr;exact hy0 hr
  ·refine⟨.upd i (.row (splice cs (o + xs.length * e.sz) new) true e.sz),key _ _ ?_⟩
   have hfit:o + xs.length * e.sz + new.length <=cs.length:=by
    rw [n2];have:(xs.length + ys.length) * e.sz <=c / 2 * e.sz:=Nat.mul_le_mul_right _ hr;rw [Nat.add_mul] at this;omega
   unfold XV;rw [hi];dsimp only;rw [n1];dsimp only;rw [hls,Nat.ble_eq_true_of_le hr];have b1:Nat.beq ys.length 0=false:=by rw [Bool.eq_false_iff];intro q;have:=Nat.eq_of_beq_eq_true q;omega
   rw [b1,hrow];simp only [cond_true,cond_false];rw [Nat.ble_eq_true_of_le hfit,n4,hle2];rfl
theorem Zyo {ts:Array TypeId} {x y:Operand} {J2:Nat} {b2:Option Addr} {n2 c2:Nat} {ys:List α} (hS:Sp wm T h0 G h) (pk:Pk G (ow wm e a nn c xs) Gr) (hi:Zgo X.P ts e.sz J2) (hx:ZV fr x=some (.slice a nn c)) (hy:ZV fr y=some (.slice b2 n2 c2)) (sr:Src e wm h b2 c2 ys) (hn:n2=ys.length) (ha:app J2 xs ys=some zs) (hr:zs.length <=c / 2):
 HV X wm ⟨some d,.call {callee:= .builtin .append,args:=#[x,y],argTypes:=ts},ty,p,af,g⟩ fr h (XP a) (fun v h'=>v= .slice a zs.length c∧Sp wm T h0 (ow wm e a zs.length c zs::Gr) h'):=by
 obtain⟨v,E,h1,e1,e2,e3,e4,a',c',rfl,hS'⟩:=Zd4 (d:=d) (ty:=ty) (p:=p) (af:=af) (g:=g) hS pk hi hx hy sr hn ha;obtain⟨h1',so⟩:=hS.get pk;obtain⟨rfl,_⟩:=ZiA ha;subst h1' hn;obtain⟨E',e5⟩:=Zx0 (d:=d) (ty:=ty) (p:=p) (af:=af) (g:=g) hi hx hy so sr (by rw [List.length_append] at hr;exact hr);rw [e5] at e1;cases e1;exact⟨_,_,h1,e5,e2,e3,e4,rfl,hS'⟩
theorem ZgW {b:Nat} {i j:Int} {u v:List α} (h3:slL xs i j=some ws) (h1:slL xs 0 i=some u) (h2:slL xs j xs.length=some v) (ha:app b u v=some zs):zs.length <=xs.length:=by
 obtain⟨l,k,rfl,rfl,hlk,hkx,rfl⟩:=UO h3;obtain⟨l1,k1,hl1,hk1,_,_,rfl⟩:=UO h1;obtain⟨l2,k2,hl2,hk2,_,_,rfl⟩:=UO h2;obtain⟨rfl,_⟩:=ZiA ha;simp only [List.length_append,List.length_drop,List.length_take];omega
end
section
variable {κ ν:Type} [DecidableEq κ] {kt vt:TypeId} {kv:κ ->Value} {vv:ν ->Value} {i:Nat} {ll:List (κ×ν)}
theorem ZzM {ts:Array TypeId} {t:TypeId} {rest:List TypeId} {x y:Operand} {k:κ} (hS:Sp wm T h0 G h) (pk:Pk G (mp wm kv vv (some i) ll) Gr) (K:ZbB X.P kt kv) (hts:ts.toList=t::rest) (hu:X.P.underlying t=some (.map kt vt)) (hx:ZV fr x=some (.map (some i))) (hy:ZV fr y=some (kv k)):
 HW X wm ⟨none,.call {callee:= .builtin .delete,args:=#[x,y],argTypes:=ts},ty,p,af,g⟩ fr h (fun h'=>Sp wm T h0 (mp wm kv vv (some i) (ZaO ll k)::Gr) h'):=by
 obtain⟨h',⟨E,ha,hE,_⟩,u,ho⟩:=ZBy (d:=none) (ty:=ty) (p:=p) (af:=af) (g:=g) K hts hu (Nat.le_refl wm) hx rfl hy (hS.get pk);exact⟨_,E,h',ha,hE,hS.one pk u (fun j e=>by cases e;rfl) ho fun j e=>.inl e⟩
end
end Go.Yw
end
end
section
noncomputable section
namespace Go.Yw
open Go.Lf
variable {X:Ctx} {n wm:Nat} {rd:Option Nat} {ops:Array Oper} {l:List Oper} {fr:Fr} {ds:List Deferred} {h h1 h2 h0:H} {ty:TypeId} {p:String} {af:Array Edge} {g:Option (Nat×Bool)} {m:Nat} {T:Nat ->Prop} {G Gr Ga Gb:List (Ast wm)} {d:Nat} {sf:ST}
def HE (X:Ctx) (o:Oper) (fr:Fr) (h:H) (K:Value ->Prop):Prop:=∃ v,Xi X h (ZV fr) o=some (.val v,.none)∧K v
theorem WO.he {Q:XX ->Fs ->Prop} {op:Op} {K:Value ->Prop} (hg:ZO ops ⟨some d,op,ty,p,af,g⟩ fr) (hd:Nat.blt d n=true) (s:HE X ⟨some d,op,ty,p,af,g⟩ fr h K) (k:∀ v,K v ->WO X n wm rd ops l ⟨Tr.set fr d v,ds,h,none⟩ Q):
 WO X n wm rd ops (⟨some d,op,ty,p,af,g⟩::l) ⟨fr,ds,h,none⟩ Q:=let⟨v,ha,hk⟩:=s;WO.w hg hd ha (k v hk)
theorem WX.he {Q:Fr ->H ->Prop} {op:Op} {K:Value ->Prop} (hg:ZO ops ⟨some d,op,ty,p,af,g⟩ fr) (hd:Nat.blt d n=true) (s:HE X ⟨some d,op,ty,p,af,g⟩ fr h K) (k:∀ v,K v ->WX X n wm rd ops sf (m + 1) h l (Tr.set fr d v) Q) (hM:okM ops sf m ⟨some d,op,ty,p,af,g⟩=true):
 WX X n wm rd ops sf m h (⟨some d,op,ty,p,af,g⟩::l) fr Q:=let⟨v,ha,hk⟩:=s;WX.w hg hd ha (k v hk) hM
section
variable {α:Type} {e:J7 α} {t el:TypeId} {x:Operand} {a:Option Addr} {nn c:Nat} {xs zs ws us:List α} {a1 a2 a3:Int}
theorem ZpI {lo hi:Option Operand} (so:XF e wm wm h a c xs) (hn:nn=xs.length) (hu:X.P.underlying t=some (.slice el)) (hs:ZY X.P el=some e.sz) (hx:ZV fr x=some (.slice a nn c))
 (hlo:evo (ZV fr) lo=some none∧a1=0∨∃ k,evo (ZV fr) lo=some (some (.int k a1))) (hhi:evo (ZV fr) hi=some none∧a2=xs.length∨∃ k,evo (ZV fr) hi=some (some (.int k a2))) (hz:slL xs a1 a2=some zs):
 HE X ⟨some d,.slice t x lo hi none,ty,p,af,g⟩ fr h (fun v=>∃ a' c',v= .slice a' zs.length c'∧Zjh e a c xs a' c' zs):=
 let⟨a',c',h1,h2⟩:=Zvm (d:=d) (ty:=ty) (p:=p) (af:=af) (g:=g) so hn hu hs hx hlo hhi hz;⟨_,h1,a',c',rfl,h2⟩
theorem Zs1 {lo hi mx:Operand} (so:XF e wm wm h a c xs) (hn:nn=xs.length) (hu:X.P.underlying t=some (.slice el)) (hs:ZY X.P el=some e.sz) (hx:ZV fr x=some (.slice a nn c))
 (hlo:ZV fr lo=some (.int .i64 a1)) (hhi:ZV fr hi=some (.int .i64 a2)) (hmx:ZV fr mx=some (.int .i64 (xs.length:Nat))) (hz:slL xs a1 a2=some zs):
 HE X ⟨some d,.slice t x (some lo) (some hi) (some mx),ty,p,af,g⟩ fr h (fun _=>True):=let⟨v,hv⟩:=ZxV (d:=d) (ty:=ty) (p:=p) (af:=af) (g:=g) so hn hu hs hx hlo hhi hmx hz;⟨v,hv,trivial⟩
theorem ZsZ {hi:Operand} (so:XF e wm wm h a c xs) (hn:nn=xs.length) (hu:X.P.underlying t=some (.slice el)) (hs:ZY X.P el=some e.sz) (hx:ZV fr x=some (.slice a nn c))
 (hhi:ZV fr hi=some (.int .i64 a2)) (hz:slL xs 0 a2=some zs):
 HE X ⟨some d,.slice t x none (some hi) none,ty,p,af,g⟩ fr h (fun v=>∃ a' c',a'=a∧c'=c∧v= .slice a' zs.length c'∧Zjh e a c xs a' c' zs):=
 let⟨a',c',h1,h2,h3,h4⟩:=ZxU (d:=d) (ty:=ty) (p:=p) (af:=af) (g:=g) so hn hu hs hx hhi hz;⟨_,h3,a',c',h1,h2,rfl,h4⟩
theorem ZsY {lo hi:Operand} {mm:Nat} (so:XF e wm wm h a c zs) (hu:X.P.underlying t=some (.slice el)) (hs:ZY X.P el=some e.sz) (hx:ZV fr x=some (.slice a zs.length c))
 (hlo:ZV fr lo=some (.int .i64 (zs.length:Nat))) (hhi:ZV fr hi=some (.int .i64 (mm:Nat))) (hm:zs.length <=mm) (hc:mm <=c / 2):
 HE X ⟨some d,.slice t x (some lo) (some hi) none,ty,p,af,g⟩ fr h (fun v=>∃ a' c',v= .slice a' (mm - zs.length) c'∧Tl e a c zs.length (mm - zs.length) a'):=
 let⟨a',c',h1,h2⟩:=ZxT (d:=d) (ty:=ty) (p:=p) (af:=af) (g:=g) so hu hs hx hlo hhi hm hc;⟨_,h1,a',c',rfl,h2⟩
theorem ZzL {lo:Operand} {kk:IntKind} (so:XF e wm wm h a c xs) (hn:nn=xs.length) (hu:X.P.underlying t=some (.slice el)) (hs:ZY X.P el=some e.sz) (hx:ZV fr x=some (.slice a nn c))
 (hlo:ZV fr lo=some (.int kk a1)) (hz:slL xs a1 xs.length=some zs):
 HE X ⟨some d,.slice t x (some lo) none none,ty,p,af,g⟩ fr h (fun v=>∃ a' c',v= .slice a' zs.length c'∧Zjh e a c xs a' c' zs∧Tl e a c a1.toNat zs.length a'):=by
 obtain⟨a',c',h1,h2⟩:=Zvm (lo:=some lo) (hi:=none) (d:=d) (ty:=ty) (p:=p) (af:=af) (g:=g) so hn hu hs hx (.inr ⟨_,YB hlo⟩) (.inl ⟨rfl,rfl⟩) hz;refine⟨_,h1,a',c',rfl,h2,⟨?_⟩⟩;obtain⟨l,k,rfl,hk,hlk,hkx,rfl⟩:=UO hz;have hk:k=xs.length:=by omega
 subst hk;have hlen:((xs.take xs.length).drop l).length=xs.length - l:=by rw [List.length_drop,List.length_take];omega
 rw [hlen] at h1 ⊢;by_cases h00:xs.length - l=0
 ·exact .inl h00
 ·right;subst hn;have e1:obN (some (.int kk (l:Int))) 0=some l:=rfl;have e2:obN none xs.length=some xs.length:=rfl;rcases so.mem with⟨rfl,rfl,rfl⟩ | ⟨i,o,cs,rfl,q2,q3,q4,q5,q6⟩
  ·simp at h00
  ·refine⟨i,o,rfl,?_,by show l + _ <=_;omega⟩
   have key:∀ v,aslice X.P h t (.slice (some ⟨i,o,none⟩) xs.length c) (some (.int kk (l:Int))) none none=some v ->v= .slice a' (xs.length - l) c':=fun v hv=>by
    have:=Qk (lo:=some lo) (hi:=none) (mx:=none) (d:=d) (ty:=ty) (p:=p) (af:=af) (g:=g) hx (YB hlo) rfl rfl hv;rw [h1] at this;cases this;rfl
   unfold aslice at key;simp only [hu,hs,e1,e2] at key;rw [Nat.ble_eq_true_of_le hlk,Nat.ble_eq_true_of_le q4,q3] at key;have b2:(Nat.beq e.sz e.sz && Nat.ble 1 e.sz)=true:=by rw [Nat.beq_refl,Nat.ble_eq_true_of_le (show 1 <=e.sz from e.pos)];rfl
   simp only [b2,Bool.and_self,cond_true] at key;show a'=some ⟨i,o + l * e.sz,none⟩;cases hev:Nat.beq (c % 2) 0 with
   | true=>
     rw [hev] at key;have hcl:Nat.beq (c / 2) l=false:=by rw [Bool.eq_false_iff];intro q;have:=Nat.eq_of_beq_eq_true q;omega
     rw [hcl] at key;have:=key _ rfl;cases this;rfl
   | false=>
     rw [hev] at key;cases hl0:Nat.beq l 0 with
     | true=>
       have ZIs:=Nat.eq_of_beq_eq_true hl0;subst ZIs;rw [hl0] at key;have:=key _ rfl;cases this;simp
     | false=>
       rw [hl0] at key;have:=key _ rfl;cases this;rfl
theorem Zmd {cs vs:List Value} {q j k:Nat} (hl:q + vs.length <=cs.length) (hj:j + k <=vs.length):((splice cs q vs).drop (q + j)).take k= (vs.drop j).take k:=by
 apply List.ext_getElem?;intro t;by_cases ht:t < k
 ·rw [List.getElem?_take_of_lt ht,List.getElem?_take_of_lt ht,List.getElem?_drop,List.getElem?_drop,Za7 _ _ _ _ hl,if_pos (by omega)];congr 1;omega
 ·rw [List.getElem?_eq_none (by rw [List.length_take];omega),List.getElem?_eq_none (by rw [List.length_take];omega)]
theorem ZzN {ts:Array TypeId} {rest:List TypeId} {k n3 c3:Nat} {z:Value} {a3':Option Addr} {q0:e.Par} {x0:α} (hS:Sp wm T h0 G h) (pk:Pk G (ow wm e a nn c xs) Gr) (tl:Tl e a c k n3 a3') (hk:k + n3=xs.length) (hts:ts.toList=t::rest) (hu:X.P.underlying t=some (.slice el)) (hz:YA X.P el=some z) (hsh:z.cells.toList=e.sh q0 x0) (hF:∀ h',e.F wm h' q0 x0) (hx:ZV fr x=some (.slice a3' n3 c3)):
 HW X wm ⟨none,.call {callee:= .builtin .clear,args:=#[x],argTypes:=ts},ty,p,af,g⟩ fr h (fun h'=>Sp wm T h0 (ow wm e a nn c (xs.take k ++ List.replicate n3 x0)::Gr) h'):=by
 have hzl:z.cells.toList.length=e.sz:=by rw [hsh,e.len]
 have key:∀ E,K7 X.P h t (.slice a3' n3 c3)=some E ->Xi X h (ZV fr) ⟨none,.call {callee:= .builtin .clear,args:=#[x],argTypes:=ts},ty,p,af,g⟩=some (.val (.tuple #[]),E):=fun E hE=>by
  have hev:evs (ZV fr) (#[x]:Array Operand).toList=some [.slice a3' n3 c3]:=Zc hx Zk;rw [QT,hev];show(match ts.toList with | t::_=>(match K7 X.P h t (.slice a3' n3 c3) with | some E=>some (AN.val (.tuple #[]),E) | none=>none) | []=>none)=_;rw [hts];dsimp only;rw [hE]
 obtain⟨h1,so⟩:=hS.get pk;by_cases h0':n3=0
 ·refine⟨_,.none,h,key _ ?_,rfl,?_⟩
  ·unfold K7;simp only [hu,h0',Nat.beq_refl,cond_true]
  ·have:xs.take k ++ List.replicate n3 x0=xs:=by rw [h0',List.take_of_length_le (by omega)];simp
   rw [this];exact hS.perm pk.perm
 ·rcases tl.out with q | ⟨i,o,rfl,rfl,hcap⟩
  ·exact absurd q h0'
  ·rcases so.mem with⟨q,_⟩ | ⟨i',o',cs,q,q2,q3,q4,q5,q6⟩
   ·cases q
   ·cases q;have hb:Nat.beq n3 0=false:=by rw [Bool.eq_false_iff];intro q;exact h0' (Nat.eq_of_beq_eq_true q)
    have hle:=q6.len;have hkn:k * e.sz + n3 * e.sz=xs.length * e.sz:=by rw [← Nat.add_mul,hk]
    have hfit:o + k * e.sz + n3 * e.sz <=cs.length:=by omega
    have hzr:(J8 z.cells.toList n3).length=n3 * e.sz:=by rw [ZlX,hzl]
    have hl2:o + k * e.sz + (J8 z.cells.toList n3).length <=cs.length:=by rw [hzr];exact hfit
    have hlen:(xs.take k ++ List.replicate n3 x0).length=xs.length:=by rw [List.length_append,List.length_take,List.length_replicate];omega
    have hu':Up wm (fun j=>j=i) h (h.put i (.row (splice cs (o + k * e.sz) (J8 z.cells.toList n3)) true e.sz)):=Up.put q2 (by rw [q3];rfl);refine⟨_,.upd i (.row (splice cs (o + k * e.sz) (J8 z.cells.toList n3)) true e.sz),_,key _ ?_,?_,hS.one pk hu' (fun j q=>⟨o,by rw [q]⟩) ⟨h1.trans hlen.symm,by rw [hlen];exact so.max,.inr ⟨i,o,_,rfl,q2,Z8 (XH q3 rfl) _,by rw [hlen];exact q4,by rw [QX _ _ _ hl2];exact q5,?_⟩⟩ fun j q=>.inl q⟩
    ·unfold K7;simp only [hu,hb,cond_false,hz,q3,hzl];rw [Nat.ble_eq_true_of_le hfit];rfl
    ·show(bif Nat.ble wm i && (h.at i).own then some (h.put i _) else none)=_;rw [q3,Nat.ble_eq_true_of_le q2];rfl
    ·refine⟨by rw [hlen,QX _ _ _ hl2];exact q6.len,fun j x hj=>?_⟩;by_cases hjk:j < k
     ·rw [List.getElem?_append_left (by rw [List.length_take];omega),List.getElem?_take_of_lt hjk] at hj;obtain⟨q,g1,g2⟩:=q6.get j x hj;refine⟨q,?_,e.mono (hu'.fz (Nat.le_refl _)) g2⟩;have:(j + 1) * e.sz <=k * e.sz:=Nat.mul_le_mul_right _ hjk;rw [Nat.succ_mul] at this;rw [Zdk hl2 (.inl (by omega)),g1]
     ·have hjl:j < xs.length:=by have:= (List.getElem?_eq_some_iff.1 hj).1;rwa [hlen] at this
      have hx0:x=x0:=by
       rw [List.getElem?_append_right (by rw [List.length_take];omega),List.getElem?_replicate] at hj;split at hj
       ·exact(Option.some.inj hj).symm
       ·cases hj
      refine⟨q0,?_,by rw [hx0];exact hF _⟩
      have e0:o + j * e.sz=o + k * e.sz + (j - k) * e.sz:=by
       have:k * e.sz + (j - k) * e.sz=j * e.sz:=by rw [← Nat.add_mul];congr 1;omega
       omega
      have e1:(j - k) * e.sz + e.sz <= (J8 z.cells.toList n3).length:=by
       rw [hzr];have:(j - k + 1) * e.sz <=n3 * e.sz:=Nat.mul_le_mul_right _ (by omega);rw [Nat.succ_mul] at this;exact this
      rw [e0,Zmd hl2 e1];have:=Zjl z.cells.toList n3 (j - k) (by omega);rw [hzl] at this;rw [this,hsh,hx0]
end
theorem Zwb {α:Type} {xs zs:List α} {a1:Int} (hz:slL xs a1 xs.length=some zs):a1.toNat + zs.length=xs.length:=by
 obtain⟨l,k,rfl,hk,hlk,hkx,rfl⟩:=UO hz;rw [List.length_drop,List.length_take];have:(l:Int).toNat=l:=rfl;omega
end Go.Yw
end
end
section
noncomputable section
namespace Go.Yw
open Go.Lf
variable {X:Ctx} {n wm UH:Nat} {fr:Fr} {h:H} {ty:TypeId} {p:String} {af:Array Edge} {g:Option (Nat×Bool)} {d:Nat}
section
variable {α:Type} {e:J7 α} {t el:TypeId} {x:Operand} {a:Option Addr} {nn c:Nat} {xs zs:List α} {a2:Int}
theorem Sl.pre {k:Nat} (s:Sl e wm h a c xs) (hk:k <=xs.length):Sl e wm h a c (xs.take k):=by
 have hlen:(xs.take k).length=k:=by rw [List.length_take];omega
 refine⟨by rw [hlen];exact Nat.le_trans hk s.max,by rw [hlen];exact Nat.le_trans hk s.cap,s.nl,?_⟩;rcases s.mem with q | ⟨i,o,cs,own,z,q1,q2,q3,q4⟩
 ·left;subst q;simp
 ·refine .inr ⟨i,o,cs,own,z,q1,q2,q3,?_⟩;have:=q4.piece (Nat.zero_le k) hk
  simpa using this
theorem XF.pre {k:Nat} (s:XF e wm wm h a c xs) (hk:k <=xs.length):XF e wm wm h a c (xs.take k):=by
 have hlen:(xs.take k).length=k:=by rw [List.length_take];omega
 refine⟨by rw [hlen];exact Nat.le_trans hk s.max,?_⟩;rcases s.mem with⟨q1,q2,q3⟩ | ⟨i,o,cs,q1,q2,q3,q4,q5,q6⟩
 ·left;subst q3;exact⟨q1,q2,by simp⟩
 ·refine .inr ⟨i,o,cs,q1,q2,q3,by rw [hlen];omega,q5,?_⟩;have:=q6.piece (Nat.zero_le k) hk
  simpa using this
theorem Zs0 {hi:Operand} {kk:IntKind} (so:Sl e UH h a c xs) (hn:nn=xs.length) (hu:X.P.underlying t=some (.slice el)) (hs:ZY X.P el=some e.sz) (hx:ZV fr x=some (.slice a nn c))
 (hhi:ZV fr hi=some (.int kk a2)) (hz:slL xs 0 a2=some zs):
 HE X ⟨some d,.slice t x none (some hi) none,ty,p,af,g⟩ fr h (fun v=>∃ a' c',v= .slice a' zs.length c'∧Zjh e a c xs a' c' zs):=by
 obtain⟨l,k,hl0,rfl,hlk,hkx,rfl⟩:=UO hz;have hl0:l=0:=by omega
 subst hl0 hn;have hlen:((xs.take k).drop 0).length=k:=by rw [List.drop_zero,List.length_take];omega
 have e2:∀ q,obN (some (.int kk (k:Int))) q=some k:=fun q=>rfl
 have e1:obN none 0=some 0:=rfl
 have sub:Zjh e a c xs a c ((xs.take k).drop 0):=by
  rw [List.drop_zero];exact⟨fun s=>s.pre hkx,fun s=>s.pre hkx,fun i q=>q⟩
 refine⟨.slice a k c,?_,a,c,by rw [hlen],sub⟩;have hcap:=so.cap;rcases so.nl with⟨rfl,rfl⟩ | ⟨rfl,rfl⟩ | ⟨i,o,rfl⟩
 ·have hx0:xs= []:=List.length_eq_zero_iff.1 (by omega);subst hx0;have hk0:k=0:=by simpa using hkx
  subst hk0;refine Qk hx rfl (YB hhi) rfl ?_
  have:aslice X.P h t (.slice none 0 0) none (some (.int kk ((0:Nat):Int))) none=some (.slice none 0 0):=by
   unfold aslice;simp only [hu,hs]
   rfl
  exact this
 ·have hx0:xs= []:=List.length_eq_zero_iff.1 (by omega);subst hx0;have hk0:k=0:=by simpa using hkx
  subst hk0;refine Qk hx rfl (YB hhi) rfl ?_
  have:aslice X.P h t (.slice (some ⟨0,0,some 0⟩) 0 0) none (some (.int kk ((0:Nat):Int))) none=some (.slice (some ⟨0,0,some 0⟩) 0 0):=by
   unfold aslice;simp only [hu,hs]
   rfl
  exact this
 ·refine Qk hx rfl (YB hhi) rfl ?_;unfold aslice;simp only [hu,hs,e1,e2];rw [Nat.ble_eq_true_of_le (Nat.zero_le k),Nat.ble_eq_true_of_le (Nat.le_trans hkx hcap)];simp only [Bool.and_self,cond_true];cases hev:Nat.beq (c % 2) 0 with
  | true=>
    have:=Nat.eq_of_beq_eq_true hev;simp only [cond_true,Nat.zero_mul,Nat.add_zero,Nat.sub_zero];have hc:2 * (c / 2)=c:=by omega
    rw [hc];cases Nat.beq (c / 2) 0 <;> rfl
  | false=>
    simp only [cond_false]
    rfl
end
end Go.Yw
end
end
section
noncomputable section
namespace Go.Yw
open Go.Lf
variable {X:Ctx} {n wm:Nat} {rd:Option Nat} {ops:Array Oper} {l:List Oper} {fr:Fr} {ds:List Deferred} {h h1 h2 h0:H} {ty:TypeId} {p:String} {af:Array Edge} {g:Option (Nat×Bool)} {T:Nat ->Prop} {G Gr Ga Gb:List (Ast wm)} {d:Nat}
theorem Zta {α β:Type} {y:α} {p:Int ->Option β} {k:α ->Option β} {r:β} (h:prC (.ok y) p k=some r):k y=some r:=h
theorem ZpN {α β:Type} {e:Int} {p:Int ->Option β} {k:α ->Option β} {r:β} (h:prC (.Jk e) p k=some r):p e=some r:=h
theorem Zth {α β:Type} {y:α} {p:Option β} {k:α ->Option β} {r:β} (h:opt (some y) p k=some r):k y=some r:=h
theorem Zti {α β:Type} {p:Option β} {k:α ->Option β} {r:β} (h:opt none p k=some r):p=some r:=h
def pv (t:TypeId) (k:Int):Value:= .iface t (.int .i64 k)
def PQ {β:Type} {wm:Nat} (t:TypeId) (K:β ->Value ->List (Ast wm) ->Prop) (Ga:List (Ast wm)) (h:H) (r:PR β):WZ ->H ->Prop:=fun e h'=>match r with
 | .ok b=>∃ v,e= .ret v∧CP (K b) Ga h v h'
 | .Jk k=>e= .Jk (pv t k)∧Sp wm (XG Ga) h [] h'
section
variable {β:Type} {t:TypeId} {K:β ->Value ->List (Ast wm) ->Prop} {f:FuncId} {args:Array Value}
theorem PQ.ok {b:β} (k:WF X f args wm h (PQ t K Ga h (.ok b))):WR X f args wm h (CP (K b) Ga h):=k
theorem PQ.Jk {k:Int} (w:WF X f args wm h (PQ t K Ga h (.Jk k))):∃ h',Sp wm (XG Ga) h [] h'∧Yq X (.call f args wm h) (.fin (.Jk (pv t k)) h'):=
 let⟨_,h',hq,hj⟩:=w;⟨h',hq.2,by have:=hq.1;subst this;exact hj⟩
theorem WO.clX {Q:XX ->Fs ->Prop} {op:Op} {k:Int} (hg:ZO ops ⟨some d,op,ty,p,af,g⟩ fr) (he:YS X fr ⟨some d,op,ty,p,af,g⟩ f args) (hS:Sp wm T h0 G h) (pk:Sel G Ga Gr)
 (hc:∀ g':H,g'.size=h.size ->Fz wm h g' ->ZQ Ga g' ->WF X f args wm g' (PQ t K Ga g' (.Jk k))) (kk:∀ h',Sp wm T h0 Gr h' ->Q (.panic (pv t k)) ⟨fr,ds,h',none⟩):
 WO X n wm rd ops (⟨some d,op,ty,p,af,g⟩::l) ⟨fr,ds,h,none⟩ Q:=by
 obtain⟨h',hs,hj⟩:=PQ.Jk (hc h rfl (Fz.refl _ _) (hS.ZgO pk));exact WO.Zit hg (he h) rfl hj (kk h' (hS.call pk hs))
theorem WO.ZIL {Q:XX ->Fs ->Prop} {op:Op} {k:Int} {K:β ->Value ->List (Ast h.size) ->Prop} (hg:ZO ops ⟨some d,op,ty,p,af,g⟩ fr) (he:YS X fr ⟨some d,op,ty,p,af,g⟩ f args) (hw:wm <=h.size) (hS:Sp wm T h0 G h)
 (hc:WF X f args h.size h (PQ t K [] h (.Jk k))) (kk:∀ h',Sp wm T h0 G h' ->Q (.panic (pv t k)) ⟨fr,ds,h',none⟩):
 WO X n wm rd ops (⟨some d,op,ty,p,af,g⟩::l) ⟨fr,ds,h,none⟩ Q:=by
 obtain⟨h',hs,hj⟩:=PQ.Jk hc;exact WO.Zit hg (he h) rfl (hj.weaken hw (Nat.le_refl _)) (kk h' (Sp.clR (Gb:= []) hS hs .n))
theorem XY.Zuw {fn:Func} {rs:List ResultVar} {vs:List Value} {v:Value} {b:β} {h0:H} (hr:fn.results.toList=rs) (hv:Zc1 X.P fr h rs=some vs) (hl:(match vs with | [v]=>v | vs=>.tuple vs.toArray)=v) (k:CP (K b) Ga h0 v h):XY X fn wm (PQ t K Ga h0 (.ok b)) .ret ⟨fr,[],h,none⟩:=
 XY.gen (R:=fun v h'=>CP (K b) Ga h0 v h') hr hv hl k
end
def Za2 (X:Ctx) (fn:Func) (wm:Nat) (Q:WZ ->H ->Prop) (pm:PM) (s:Fs):Prop:=∃ E h',Q E h'∧Yq X (.leave fn wm pm s) (.fin E h')
section
variable {fn:Func} {R:WZ ->H ->Prop} {s:Fs} {v:Value} {pm:PM}
theorem XY.ofP (k:Za2 X fn wm R .ret s):XY X fn wm R .ret s:=let⟨E,h',h1,h2⟩:=k;⟨⟨.ret,E,h',rfl,h1,h2⟩⟩
theorem XY.ofX (k:Za2 X fn wm R (.Jk v) s):XY X fn wm R (.panic v) s:=let⟨E,h',h1,h2⟩:=k;⟨⟨.Jk v,E,h',rfl,h1,h2⟩⟩
theorem Za2.ofL (k:XY X fn wm R .ret s) (hp:pm= .ret):Za2 X fn wm R pm s:=by
 obtain⟨Km,E,h',e,h1,h2⟩:=k.out;cases e;subst hp;exact⟨E,h',h1,h2⟩
theorem Za2.Jk (k:R (.Jk v) h):Za2 X fn wm R (.Jk v) ⟨fr,[],h,none⟩:=by
 refine⟨.Jk v,h,k,Jh (C:=cfg X fun _=>false) (ih:=fun _=>none) (fun _ _ h=>by cases h) ?_⟩;unfold Ul
 rfl
def DC (X:Ctx) (n wm:Nat) (c:Code) (pm:PM) (s:Fs) (Q:XX ->PM ->Fs ->Prop):Prop:=∃ e Km s',Q e Km s'∧Yq X (.Xc c n wm pm s) (.Xc e Km s')
structure DSq (X:Ctx) (n wm:Nat) (b:Code) (Q:XX ->PM ->Fs ->Prop) (e:XX) (pm:PM) (s:Fs):Prop where
 Yy:e= .normal
 k:DC X n wm b pm s Q
theorem DC.seq {a b:Code} {Q:XX ->PM ->Fs ->Prop} (k:DC X n wm a pm s (DSq X n wm b Q)):DC X n wm (.seq a b) pm s Q:=by
 obtain⟨e,pm1,s1,⟨rfl,e2,pm2,s2,hq,j2⟩,j1⟩:=k;obtain⟨_,_,_,q1,ka⟩:=XK.1 j1;cases q1;obtain⟨_,_,_,q2,kb⟩:=XK.1 j2;cases q2;refine⟨_,_,_,hq,XK.2 ⟨_,_,_,rfl,fun ρ a c0 cs w ZE hi hpm=>wpSIn_seq (QV (ka ρ a c0 cs w ZE hi hpm) ?_)⟩⟩;rintro e' a' cs' w' ⟨ρ',u',rfl,hp',he,hi',hst⟩;cases he;refine QV (kb ρ' a' {c0 with mode:=u'} cs w' (Nat.le_trans ZE hst.size) hi' hp') ?_;rintro e3 a3 cs3 w3 ⟨ρ3,u3,rfl,q1,q2,q3,q4⟩;exact⟨ρ3,u3,rfl,q1,q2,q3,hst.trans hi.rel.lt q4⟩
theorem DC.rgn {id:Nat} {ops:Array Oper} {dr:Bool} {Q:XX ->PM ->Fs ->Prop} (hn:(!dr && ops.toList.any isRecover)=false) (k:WC X n wm none (.region id ops dr) s (fun e s'=>Q e pm s')):DC X n wm (.region id ops dr) pm s Q:=by
 obtain⟨e,s',hq,j⟩:=k;refine⟨e,pm,s',hq,XK.2 (Ji (C:=cfg X fun _=>false) (ih:=Kb (.code (.region id ops dr) n wm none s) (.code e s')) (QF (Xd.2 ⟨_,_,rfl,j⟩)) ?_)⟩;unfold Ku;dsimp only;rw [hn];unfold ZaT;rw [QG];rfl
theorem DC.skip {Q:XX ->PM ->Fs ->Prop} (k:Q .normal pm s):DC X n wm .skip pm s Q:=by
 obtain⟨e,s',hq,j⟩:WC X n wm none .skip s (fun e s'=>Q e pm s'):=WC.skip k;refine⟨e,pm,s',hq,XK.2 (Ji (C:=cfg X fun _=>false) (ih:=Kb (.code .skip n wm none s) (.code e s')) (QF (Xd.2 ⟨_,_,rfl,j⟩)) ?_)⟩;unfold Ku ZaT;dsimp only;rw [QG];rfl
theorem DC.Zu7 {c:Operand} {a b:Code} {t:Bool} {Q:XX ->PM ->Fs ->Prop} {fr:Fr} (hc:ZV fr c=some (.bool t)) (ht:t=true) (k:DC X n wm a pm ⟨fr,ds,h,none⟩ Q):DC X n wm (.cond c a b) pm ⟨fr,ds,h,none⟩ Q:=by
 subst ht;obtain⟨e,Km,s',hq,j⟩:=k;refine⟨e,Km,s',hq,XK.2 (Ji (C:=cfg X fun _=>false) (ih:=Kb (.Xc a n wm pm ⟨fr,ds,h,none⟩) (.Xc e Km s')) (QF j) ?_)⟩;unfold Ku;dsimp only;rw [hc];exact QG _ _
theorem DC.Zu8 {c:Operand} {a b:Code} {t:Bool} {Q:XX ->PM ->Fs ->Prop} {fr:Fr} (hc:ZV fr c=some (.bool t)) (ht:t=false) (k:DC X n wm b pm ⟨fr,ds,h,none⟩ Q):DC X n wm (.cond c a b) pm ⟨fr,ds,h,none⟩ Q:=by
 subst ht;obtain⟨e,Km,s',hq,j⟩:=k;refine⟨e,Km,s',hq,XK.2 (Ji (C:=cfg X fun _=>false) (ih:=Kb (.Xc b n wm pm ⟨fr,ds,h,none⟩) (.Xc e Km s')) (QF j) ?_)⟩;unfold Ku;dsimp only;rw [hc];exact QG _ _
theorem DC.rec {id:Nat} {ops:Array Oper} {Q:XX ->PM ->Fs ->Prop} (Km:PM) (fr':Fr) (hd:Znq X n wm ops.toList ops.toList pm ⟨fr,ds,h,none⟩=some (Km,⟨fr',ds,h,none⟩)) (hn:ops.toList.any isRecover=true) (k:Q .normal Km ⟨fr',ds,h,none⟩):DC X n wm (.region id ops false) pm ⟨fr,ds,h,none⟩ Q:=by
 refine⟨.normal,Km,_,k,XK.2 (Ji (C:=cfg X fun _=>false) (ih:=fun _=>none) (fun _ _ h=>by cases h) ?_)⟩;unfold Ku;dsimp only;rw [hn];have hd':Znq (cfg X fun _=>false).X n wm ops.toList ops.toList pm ⟨fr,ds,h,none⟩=some (Km,⟨fr',ds,h,none⟩):=hd;rw [hd'];rfl
structure DEn (X:Ctx) (fn:Func) (wm:Nat) (R:WZ ->H ->Prop) (fr:Fr) (ds:List Deferred) (e:XX) (pm:PM) (s:Fs):Prop where
 Yy:e= .normal
 no:s.ds= []
 k:Za2 X fn wm R (ZgF pm) ⟨fr,ds,s.h,none⟩
theorem Za2.dfn {f:FuncId} {fn2:Func} {c:Code} {cap:List Value} {n2:Nat} (hf:X.fns.get f=some fn2) (hb:fn2.body=some c) (hnt:fn2.ntmps=n2) (hn:cap.length <=n2) (hr:fn2.results.toList= [])
 (k:DC X n2 wm c pm ⟨XI cap 0 .nil,[],h,none⟩ (DEn X fn wm R fr ds)):Za2 X fn wm R pm ⟨fr,⟨.fn (.func f) cap.toArray,#[]⟩::ds,h,none⟩:=by
 subst hnt;obtain⟨e,Km,s',⟨rfl,hno,E,h',hR,jl⟩,jd⟩:=k;obtain⟨fr',ds',h2,wr'⟩:=s';dsimp only at hno jl;subst hno
 have jc:Yq X (.dcall f (([]:List Value) ++ cap).toArray pm wm h) (.Zc0 Km h2):=by
  refine Zdc (C:=cfg X fun _=>false) (ih:=Kb (.Xc c fn2.ntmps wm pm ⟨XI cap 0 .nil,[],h,none⟩) (.Xc .normal Km ⟨fr',[],h2,wr'⟩)) (QF jd) ?_;unfold Zeo;have hf':(cfg X fun _=>false).X.fns.get f=some fn2:=hf;rw [hf'];dsimp only;rw [hb];dsimp only;have e1:Nat.ble (([]:List Value) ++ cap).toArray.toList.length fn2.ntmps=true:=Nat.ble_eq_true_of_le hn;rw [e1,cond_true];rw [List.nil_append,QG];unfold Zu6;dsimp only;have e3:QC (cfg X fun _=>false).X.P fn2 fr' h2=some (.tuple #[]):=by unfold QC;rw [hr];rfl
  rw [e3]
 refine⟨E,h',hR,?_⟩
 classical
 let ih:Q9 ->Option YD:=fun j=>if j= .dcall f (([]:List Value) ++ cap).toArray pm wm h then some (.Zc0 Km h2) else if j= .leave fn wm (ZgF Km) ⟨fr,ds,h2,none⟩ then some (.fin E h') else none
 refine Jh (C:=cfg X fun _=>false) (ih:=ih) ?_ ?_
 ·intro j r e;dsimp only [ih] at e;split at e
  ·rename_i hj;cases e;rw [hj];exact jc
  ·split at e
   ·rename_i hj;cases e;rw [hj];exact jl
   ·cases e
 ·unfold Ul;dsimp only;have hf':(cfg X fun _=>false).X.fns.get f=some fn2:=hf;rw [hf'];dsimp only;have i1:ih (.dcall f ((#[]:Array Value).toList ++ cap.toArray.toList).toArray pm wm h)=some (.Zc0 Km h2):=by dsimp only [ih];rw [if_pos rfl]
  rw [i1];dsimp only [ih];rw [if_neg (by intro q;cases q),if_pos rfl]
end
section
theorem WO.dfr {Q:XX ->Fs ->Prop} {fo:Operand} {ts:Array TypeId} {f:FuncId} {cap:Array Value} (hg:ZO ops ⟨none,.defer {callee:= .value fo,args:=#[],argTypes:=ts},ty,p,af,g⟩ fr) (hf:ZV fr fo=some (.func (.func f) #[] cap))
 (k:WO X n wm none ops l ⟨fr,⟨.fn (.func f) cap,#[]⟩::ds,h,none⟩ Q):WO X n wm none ops (⟨none,.defer {callee:= .value fo,args:=#[],argTypes:=ts},ty,p,af,g⟩::l) ⟨fr,ds,h,none⟩ Q:=by
 refine WO.cons (Zbh X) (s1:= ⟨fr,⟨.fn (.func f) cap,#[]⟩::ds,h,none⟩) ?_ k
 have ha:Xi X h (ZV fr) ⟨none,.defer {callee:= .value fo,args:=#[],argTypes:=ts},ty,p,af,g⟩=some (.dfr ⟨.fn (.func f) cap,#[]⟩,.none):=by
  show(match evs (ZV fr) [] with
   | some args=>(match ZV fr fo with
     | some (.func (.func g) first cap)=>some (AN.dfr {target:= .fn (.func g) cap,args:=first ++ args.toArray},Eff.none)
     | _=>none)
   | none=>none)=_
  rw [hf];rfl
 unfold WW;rw [hg.1,hg.2];dsimp only [Bool.not_true,cond_false,cond_true];rw [ha]
 rfl
theorem WO.pnc {Q:XX ->Fs ->Prop} {x:Operand} {t:TypeId} {v:Value} (hg:ZO ops ⟨none,.panic x,ty,p,af,g⟩ fr) (hx:ZV fr x=some (.iface t v)) (k:Q (.panic (.iface t v)) ⟨fr,ds,h,none⟩):WO X n wm rd ops (⟨none,.panic x,ty,p,af,g⟩::l) ⟨fr,ds,h,none⟩ Q:=by
 refine WO.panic (E:= .none) (h1:=h) hg ?_ rfl k
 show(match ZV fr x with
  | some (.iface t v)=>some (AN.panic (.iface t v),Eff.none)
  | _=>none)=_
 rw [hx]
theorem ZfM {x:Operand} {t:TypeId} {v:Value} (hx:ZV fr x=some v) (ht:(match X.P.underlying t with | some (.interface _)=>false | some _=>true | none=>false)=true):Xi X h (ZV fr) ⟨some d,.makeInterface t x,ty,p,af,g⟩=some (.val (.iface t v),.none):=by
 show(match ZV fr x,X.P.underlying t with
  | some _,some (.interface _)=>none
  | some v,some _=>some (AN.val (.iface t v),Eff.none)
  | _,_=>none)=_
 rw [hx];cases hh:X.P.underlying t with
 | none=>rw [hh] at ht;cases ht
 | some u=>
   rw [hh] at ht;cases u
   case interface=>cases ht
   all_goals rfl
end
end Go.Yw
end
end
section
noncomputable section
namespace Go.Yw
open Go.Lf
variable {X:Ctx} {n wm:Nat} {rd:Option Nat} {ops:Array Oper} {l:List Oper} {rest:Code}
theorem WO.body {s:Fs} {Q:XX ->Fs ->Prop} (k:WO X n wm rd ops l s (QA X n wm rd rest Q)):∃ e s',Q e s'∧∀ {ρ:Ren} {F:Fence} {a:Act} {w:World},Inv ρ n s a w ->wm <=s.h.size ->FR' ρ rd F ->∀ Q':Exit ->Act ->World ->Prop,(∀ e' a' w',Xx wm n ρ s.h w e s' e' a' w' ->Q' e' a' w') ->
 wpListIn F 0 X.P ops (Exit.then (rest.wpIn F 0 X.P Q') Q') l a w:=by
 obtain⟨e1,s1,hk,ho⟩:=k.out;have hk:=hk.out;cases e1 with
 | normal=>
   obtain⟨e,s',hq,hj⟩:=hk;obtain⟨_,_,q0,kb⟩:=Xd.1 hj;cases q0;refine⟨e,s',hq,fun{ρ F a w} hi hw hF Q' hQ=>ho _ hi hw hF fun e' a' w' hp=>?_⟩;obtain⟨ρ',he,hi',hst⟩:=hp;cases he;exact wpIn_mono (kb ρ' a' w' F (Nat.le_trans hw hst.size) hi' (hF.mono hst.ext)) fun e2 a2 w2 hp2=>hQ _ _ _ (Xx.trans hi.rel.lt hst hp2)
 | exit id=>
   refine⟨_,s1,hk,fun{ρ F a w} hi hw hF Q' hQ=>ho _ hi hw hF fun e' a' w' hp=>?_⟩;obtain⟨ρ',he,hi',hst⟩:=hp;cases he;exact hQ _ _ _ ⟨ρ',.exit id,hi',hst⟩
 | goto id=>
   refine⟨_,s1,hk,fun{ρ F a w} hi hw hF Q' hQ=>ho _ hi hw hF fun e' a' w' hp=>?_⟩;obtain⟨ρ',he,hi',hst⟩:=hp;cases he;exact hQ _ _ _ ⟨ρ',.goto id,hi',hst⟩
 | ret=>
   refine⟨_,s1,hk,fun{ρ F a w} hi hw hF Q' hQ=>ho _ hi hw hF fun e' a' w' hp=>?_⟩;obtain⟨ρ',he,hi',hst⟩:=hp;cases he;exact hQ _ _ _ ⟨ρ',.ret,hi',hst⟩
 | panic v=>
   refine⟨_,s1,hk,fun{ρ F a w} hi hw hF Q' hQ=>ho _ hi hw hF fun e' a' w' hp=>?_⟩;obtain⟨ρ',he,hi',hst⟩:=hp;cases he with
   | panic hv=>exact hQ _ _ _ ⟨ρ',.panic hv,hi',hst⟩
theorem EL.mem' {ρ:Ren} {es es':List MapEntry} (e:EL ρ es es') {x:MapEntry} (hx:x ∈ es):∃ x' ∈ es',x'.born=x.born:=by
 induction e with
 | nil=>cases hx
 | cons hk hp hb hv _ ih=>
   rcases List.mem_cons.1 hx with rfl | h
   ·exact⟨_,by simp,hb⟩
   ·obtain⟨x',h1,h2⟩:=ih h;exact⟨x',List.mem_cons_of_mem _ h1,h2⟩
theorem ZtD {s:Fs} {id:Nat} {o:Oper} {t it m Y9 clock d:Nat} {es:List MapEntry} {T:List Nat} {v:Value} {e:XX} {s2:Fs} (Jk:Nat ->Bool)
 (hops:ops.toList=o::l) (hop:o.op= .next (.tmp t) false) (hgu:o.guard=none) (hfr:s.fr.at t= .pointer (some ⟨it,0,none⟩)) (hit:s.h.at it= .iter m clock Y9 none) (hm:s.h.at m= .map es clock) (hck:clock <=Y9) (hborn:WG clock es=true) (Zov:wm <=it) (htT:t ∉ T) (hd:o.dst=some d) (hdn:d < n) (hdT:d ∈ T) (hv:plain v=true)
 (ZhS:∀ x ∈ es,∃ ex s3,(s3.ds=s.ds∧(∀ t,t ∉ T ->s3.fr.at t=s.fr.at t)∧(ex= .normal∧Jk x.born=false∨ex= .panic v∧Jk x.born=true))∧∀ {ρ:Ren} {F:Fence} {a:Act} {w:World},Inv ρ n {fr:=J4 (Yc T s.fr) o.dst (.tuple #[.bool true,x.key,x.val]),ds:=s.ds,h:=s.h.put it (.iter m clock clock (some x.born)),wr:=s.wr} a w ->s.h.size <= (s.h.put it (.iter m clock clock (some x.born))).size ->FR' ρ rd F ->∀ Q':Exit ->Act ->World ->Prop,
   (∀ e' a' w',Xx s.h.size n ρ (s.h.put it (.iter m clock clock (some x.born))) w ex s3 e' a' w' ->Q' e' a' w') ->wpListIn F 0 X.P ops (Exit.then (rest.wpIn F 0 X.P Q') Q') l a w)
 (hover:(∀ x ∈ es,Jk x.born=false) ->e ≠ .normal∧∀ {ρ:Ren} {F:Fence} {a:Act} {w:World},Inv ρ n {s with fr:=J4 (Yc T s.fr) o.dst U7,h:=s.h.put it .dead} a w ->wm <= (s.h.put it .dead).size ->FR' ρ rd F ->∀ Q':Exit ->Act ->World ->Prop,
   (∀ e' a' w',Xx wm n ρ (s.h.put it .dead) w e s2 e' a' w' ->Q' e' a' w') ->wpListIn F 0 X.P ops (Exit.then (rest.wpIn F 0 X.P Q') Q') l a w)
 (ZHt:(∃ x ∈ es,Jk x.born=true) ->e= .panic v∧s2= {s with fr:=Yc T s.fr,h:=s.h.put it .dead}):Yq X (.loop (.seq (.region id ops false) rest) n wm rd s) (.code e s2):=by
 refine Zb2.2 ⟨e,s2,rfl,fun ρ a0 w0 F ZE hi0 hF=>?_⟩;obtain⟨dd,hdr⟩:∃ d,d=it:= ⟨_,rfl⟩
 have Zox:=hi0.fr.val t (by rw [hfr];rfl);rw [hfr] at Zox;generalize hpx:a0.tmps.getD t undef=px at Zox;cases Zox with
 | @ptr _ bi di _ ZdC=>
 have hoi:=hi0.rel.obj _ _ _ ZdC;rw [hit] at hoi;obtain⟨rfl,bm,ZCL,ZhL,Zt0,_,ZdD⟩:=hoi;have ZdD:=ZdD rfl;subst ZdD;have hom:=hi0.rel.obj _ _ _ ZhL;rw [hm] at hom;obtain⟨_,es',ZtY,hes⟩:=hom;have hilt:=hi0.rel.dom _ _ _ ZdC;have ZHw:=hi0.rel.dom _ _ _ ZhL;have ZoB:m ≠ it:=fun z=>by rw [z,hit] at hm;cases hm
 have hold:∀ x ∈ es'.toList,x.born < clock:=by
  intro x hx;obtain⟨y,hy,_,_,hyb,_⟩:=hes.mem hx;rw [hyb];exact Ziu hborn y hy
 have ZmL:∀ j b d,ρ j=some (b,d) ->b=bi ->j ≠ it ->((s.h.at j).live=true ->False):=by
  intro j b d hj hbb hne' hl;subst hbb;exact hne' (hi0.rel.inj it j b 0 d ZdC hj (by rw [hit];rfl) hl).symm
 have hbne:bm ≠ bi:=fun z=>ZmL m bm 0 ZhL z ZoB (by rw [hm];rfl)
 have ZDB:s.h.size= (s.h.put it .dead).size:=rfl
 have ZhO:∀ {a:Act} {w:World} {K:Act ->World ->Prop} {Q:Exit ->Act ->World ->Prop} {v:Value} {w1:World},a.tmps.getD t undef= .pointer (some ⟨bi,0,none⟩) ->(Instr.next (.pointer (some ⟨bi,0,none⟩)) false o.type).run X.P w= .ok v w1 ->
  K (a.put o.dst v) w1 ->(if Region.wanted o (yielded ops a.tmps) then o.wpIn F 0 X.P a w K Q else(∀ f,o.about X.P w a.eval=some f ->F.fn f)∧K (a.put o.dst undef) w):=by
  intro a w K Q v w1 ht hrun hK;have hw:Region.wanted o (yielded ops a.tmps)=true:=by unfold Region.wanted;rw [hgu]
  rw [if_pos hw];refine⟨fun f _=>WU hF f,?_⟩;have ZkA:o.semAt F.round a.eval=execOp a.eval o:=Oper.semAt_eq _ _ _ fun c hc=>by rw [hop] at hc;cases hc
  have he:a.eval (.tmp t)= .pointer (some ⟨bi,0,none⟩):=ht
  have hx:(execOp a.eval o).run X.P w= .ok (.value v) w1:=by
   unfold execOp;rw [hop];simp [he,hrun]
  rw [ZkA,hx];exact hK
 have ZDx:∀ t,t ∉ T ->t ≠ d:=fun t ht z=>by rw [z] at ht;exact ht hdT
 have ZmJ:∀ (a:Act) (w:World),Inv ρ n {s with fr:=Yc T s.fr,h:=s.h.put it .dead} a w ->a.tmps.getD t undef= .pointer (some ⟨bi,0,none⟩):=by
  intro a w hi;have h0:VR ρ ((Yc T s.fr).at t) (a.tmps.getD t undef):=hi.fr.val t (by show QH ((Yc T s.fr).at t)=false;rw [Xh,if_neg htT,hfr];rfl);rw [Xh,if_neg htT,hfr] at h0;generalize a.tmps.getD t undef=y at h0;cases h0 with
  | ptr _ h1=>rw [ZdC] at h1;cases h1;rfl
 have ZtT:(∀ x ∈ es,Jk x.born=false) ->∀ (a:Act) (w:World),Inv ρ n {s with fr:=Yc T s.fr,h:=s.h.put it .dead} a w ->Stp wm ρ s.h w0 ρ (s.h.put it .dead) w ->a.tmps.getD t undef= .pointer (some ⟨bi,0,none⟩) ->
  (Instr.next (.pointer (some ⟨bi,0,none⟩)) false o.type).run X.P w= .ok U7 w ->LoopIn F 0 X.P (.seq (.region id ops false) rest) (Xx wm n ρ s.h w0 e s2) a w:=by
  intro hall a w hi hst ht hrun;obtain⟨hne,hover⟩:=hover hall;refine XB (wpIn_seq (wpIn_region_list ?_));rw [hops];refine ZhO ht hrun ?_
  have hio:Inv ρ n {s with fr:=J4 (Yc T s.fr) o.dst U7,h:=s.h.put it .dead} (a.put o.dst U7) w:=by
   refine⟨hi.rel,?_,?_⟩
   ·rw [hd];exact hi.fr.set hdn (VR.ZI rfl)
   ·rw [hd];exact hi.ds
  refine hover hio ZE hF _ fun e3 a3 w3 hp=>?_
  have hp2:=Xx.trans hi0.rel.lt hst hp;obtain⟨ρ3,hx3,hi3,Wp⟩:=hp2;cases hx3 with
  | normal=>exact(hne rfl).elim
  | exit id=>exact⟨ρ3,.exit id,hi3,Wp⟩
  | goto id=>exact⟨ρ3,.goto id,hi3,Wp⟩
  | ret=>exact⟨ρ3,.ret,hi3,Wp⟩
  | panic hv=>exact⟨ρ3,.panic hv,hi3,Wp⟩
 have ZyZ:∀ seen:Array Nat,(∀ b,seen.contains b=true ->Jk b=false) ->(leftOf es' seen).size=0 ->∀ x ∈ es,Jk x.born=false:=by
  intro seen ZjE h00 x hx;obtain⟨y,hy,hyb⟩:=hes.mem' hx;refine ZjE _ ?_;cases hc:seen.contains x.born with
  | true=>rfl
  | false=>
    exfalso;have:y ∈ leftOf es' seen:=Array.mem_filter.2 ⟨Array.mem_toList_iff.1 hy,by rw [hyb,hc];rfl⟩;rw [Array.eq_empty_of_size_eq_zero h00] at this;simp at this
 have head:∀ (k:Nat) (seen:Array Nat) (last:Nat) (a:Act) (w:World),(∀ b,seen.contains b=true ->Jk b=false) ->(leftOf es' seen).size <=k ->clock <=last ->w.heap[bi]? =some (.mapIter (some bm) clock seen last) ->w.heap[bm]? =some (.map es' clock) ->
  Inv ρ n {s with fr:=Yc T s.fr,h:=s.h.put it .dead} a w ->
  Stp wm ρ s.h w0 ρ (s.h.put it .dead) w ->LoopIn F 0 X.P (.seq (.region id ops false) rest) (Xx wm n ρ s.h w0 e s2) a w:=by
  intro k
  induction k with
  | zero=>
    intro seen last a w ZjE hk hlast hblk Zee hi hst;have ht:=ZmJ a w hi;rcases ZgJ (P:=X.P) o.type hblk Zee hold (hlast) with⟨h00,hrun⟩ | ⟨e',he',_⟩
    ·exact ZtT (ZyZ seen ZjE h00) a w hi hst ht hrun
    ·have:=Array.length_toList ▸ List.length_pos_of_mem he';omega
  | succ k ihk=>
    intro seen last a w ZjE hk hlast hblk Zee hi hst;have ht:=ZmJ a w hi;rcases ZgJ (P:=X.P) o.type hblk Zee hold (hlast) with⟨h00,hrun⟩ | ⟨e',he',w1,hw1,hsame,hrun⟩
    ·exact ZtT (ZyZ seen ZjE h00) a w hi hst ht hrun
    ·have hmem:= (mem_left he').1;obtain⟨x,hx,hkey,hkp,hbn,hval⟩:=hes.mem hmem;obtain⟨ex,s3,⟨ZAq,hwr,hpn⟩,hbody⟩:=ZhS x hx;have ZtZ:bi < w.heap.size:= (hi.rel.dom _ _ _ ZdC).2;have ZDz:bm < w.heap.size:= (hi.rel.dom _ _ _ ZhL).2;obtain⟨w2,hw2⟩:∃ w2,w2=w1.putObj bi (.mapIter (some bm) clock (seen.push e'.born) clock):= ⟨_,rfl⟩
     rw [← hw2] at hrun;have hsz2:w2.heap.size=w.heap.size:=by rw [hw2,World.putObj_size,hw1]
     have hother:∀ k,k ≠ bi ->w2.heap[k]? =w.heap[k]?:=fun k hk=>by rw [hw2,World.putObj_heap_other hk,hw1]
     have Zt1:w2.heap[bi]? =some (.mapIter (some bm) clock (seen.push e'.born) clock):=by rw [hw2];exact World.putObj_heap_same (by rw [hw1];exact ZtZ)
     have ZdE:Same w w2:=by rw [hw2];exact⟨hsame.os,hsame.tape,hsame.output⟩
     have hrel:Rel ρ (s.h.put it (.iter m clock clock (some x.born))) w2:=by
      refine Zhq hi.rel ZdC ZmL hother hsz2 ⟨rfl,bm,seen.push e'.born,ZhL,Zt1,fun z hz=>?_,fun z=>by cases z⟩;cases hz;rw [← hbn];simp
     have hie:Inv ρ n {fr:=J4 (Yc T s.fr) o.dst (.tuple #[.bool true,x.key,x.val]),ds:=s.ds,h:=s.h.put it (.iter m clock clock (some x.born)),wr:=s.wr} (a.put o.dst (.tuple #[.bool true,e'.key,e'.val])) w2:=by
      refine⟨hrel,?_,?_⟩
      ·rw [hd];refine hi.fr.set hdn (.tuple _ _ rfl fun j y y' p q=>?_)
       match j,p,q with
       | 0,p,q=>simp at p q;subst p q;exact .bool true
       | 1,p,q=>simp at p q;subst p q;rw [hkey];exact VR.ZI hkp
       | 2,p,q=>simp at p q;subst p q;exact hval
       | j + 3,p,q=>simp at p
      ·rw [hd];exact hi.ds
     refine XB (wpIn_seq (wpIn_region_list ?_));rw [hops];refine ZhO ht hrun ?_;refine hbody hie (Nat.le_refl _) hF _ fun e3 a3 w3 hp=>?_
     obtain⟨ρ3,hx3,hi3,Wp⟩:=hp;obtain⟨q1,q2⟩:=ZaU hrel Wp;have ZoC:∀ b,b < w2.heap.size ->w3.heap[b]? =w2.heap[b]?:=fun b hb=>Wp.frame b hb fun i d hi' e _=>by have:=hrel.lt i _ e;simp at this hi';omega
     have hinv:Inv ρ n {s with fr:=Yc T s.fr,h:=s.h.put it .dead} a3 w3:=by
      refine⟨?_,⟨hi3.fr.size,fun t hany=>?_⟩,?_⟩
      ·refine(ZbP (i:=it) q1).congr rfl fun i=>?_
       rw [H.Xv,H.Xv];by_cases hii:i=it∧i < s.h.size
       ·rw [if_pos hii,if_pos (by simpa using hii)]
       ·rw [if_neg hii,if_neg (by simpa using hii),H.Xv,if_neg hii]
      ·change QH ((Yc T s.fr).at t)=false at hany
       show VR ρ ((Yc T s.fr).at t) _;rw [Xh] at hany ⊢;by_cases Zb4:t ∈ T
       ·rw [if_pos Zb4] at hany;cases hany
       ·rw [if_neg Zb4] at hany ⊢;have h0:=hi.fr.val t (by show QH ((Yc T s.fr).at t)=false;rw [Xh,if_neg Zb4];exact hany);have h0:VR ρ ((Yc T s.fr).at t) _:=h0;rw [Xh,if_neg Zb4] at h0;have h1:=hi3.fr.val t (by rw [hwr t Zb4];exact hany);rw [hwr t Zb4] at h1;exact VR.back Wp.ext h0 h1
      ·have h0:DsR ρ s.ds a.defers:=hi.ds;have h1:=hi3.ds;rw [ZAq] at h1;exact DsR.back Wp.ext h0 h1
     have hstp:Stp wm ρ s.h w0 ρ (s.h.put it .dead) w3:=by
      refine⟨Ren.le_refl _,hst.size,hst.keep,hst.own,hst.live,Wp.os.trans (ZdE.os.trans hst.os),Wp.tape.trans (ZdE.tape.trans hst.tape),Wp.output.trans (ZdE.output.trans hst.output),
       Nat.le_trans hst.Y0 (by rw [← hsz2];exact Wp.Y0),fun b hb hno=>?_,fun i b d p q=>by rw [p] at q;cases q⟩
      have hbb:b ≠ bi:=fun z=>by subst z;exact hno it 0 Zov ZdC (by rw [hit];rfl)
      have:=hst.Y0;rw [ZoC b (by omega),hother b hbb,hst.frame b hb hno]
     rcases hpn with⟨rfl,hpf⟩ | ⟨rfl,hpt⟩
     ·cases hx3;show LoopIn F 0 X.P _ _ a3 w3
      exact ihk (seen.push e'.born) clock a3 w3 (fun b hb=>by
       rw [contains_push] at hb;rcases Bool.or_eq_true_iff.1 hb with z | z
       ·exact ZjE b z
       ·have:b=e'.born:=by simpa using z
        rw [this,hbn];exact hpf) (by have:=left_shrinks es' seen e' he';omega) (Nat.le_refl _) (by rw [ZoC bi (by omega)];exact Zt1) (by rw [ZoC bm (by omega),hother bm hbne];exact Zee) hinv hstp
     ·obtain⟨he,ZHo⟩:=ZHt ⟨x,hx,hpt⟩;cases hx3 with
      | panic hv3=>
        show Xx wm n ρ s.h w0 e s2 _ a3 w3;rw [he,ZHo];have:=VR.YE hv hv3;subst this;exact⟨ρ,.panic (VR.ZI hv),hinv,hstp⟩
 have ZAg:Stp wm ρ s.h w0 ρ (s.h.put it .dead) w0:=by
  have kk:=Uh (h:=s.h) (A:= .dead) Zov (by rw [hit];rfl);exact⟨Ren.le_refl _,Nat.le_refl _,kk.keep,kk.own,kk.live,rfl,rfl,rfl,Nat.le_refl _,fun _ _ _=>rfl,fun i b d e e'=>by rw [e] at e';cases e'⟩
 refine head _ #[] Y9 a0 w0 (fun b hb=>by simp at hb) (Nat.le_refl _) hck Zt0 ZtY ⟨ZbP hi0.rel,⟨hi0.fr.size,fun t hany=>?_⟩,hi0.ds⟩ ZAg
 change QH ((Yc T s.fr).at t)=false at hany
 show VR ρ ((Yc T s.fr).at t) _;rw [Xh] at hany ⊢;by_cases ht:t ∈ T
 ·rw [if_pos ht] at hany;cases hany
 ·rw [if_neg ht] at hany ⊢;exact hi0.fr.val t hany
def Agr (T:List Nat) (fr fr':Fr):Prop:=∀ t v,T.contains t=false ->fr.at t=v ->fr'.at t=v
theorem Agr.at {T:List Nat} {fr fr':Fr} (a:Agr T fr fr') {t:Nat} {v:Value} (ht:T.contains t=false) (h:fr.at t=v):fr'.at t=v:=a t v ht h
def MFr (T:List Nat) (fr f:Fr):Prop:=∀ t,t ∉ T ->f.at t=fr.at t
theorem MFr.z {T:List Nat} {fr:Fr}:MFr T fr fr:=fun _ _=>rfl
theorem MFr.s {T:List Nat} {fr f:Fr} {i:Nat} {v:Value} (hi:T.contains i=true) (h:MFr T fr f):MFr T fr (Tr.set f i v):=fun t ht=>by
 have hne:t ≠ i:=fun z=>ht (by subst z;rwa [List.contains_iff_mem] at hi)
 have:=ZcB (fr:=f) (d:=some i) (v:=v) (t:=t);rw [show J4 f (some i) v=Tr.set f i v from rfl] at this;rw [this,if_neg (fun z=>hne (Option.some.inj z).symm)];exact h t ht
structure ZpB (T:List Nat) (fr:Fr) (ds:List Deferred) (v:Value) (p:Bool) (e:XX) (s:Fs):Prop where
 ds:s.ds=ds
 fr:MFr T fr s.fr
 e:e= .normal∧p=false∨e= .panic v∧p=true
theorem ZpB.Yy {T:List Nat} {fr f:Fr} {ds:List Deferred} {v:Value} {h:H} (k:MFr T fr f):ZpB T fr ds v false .normal ⟨f,ds,h,none⟩:= ⟨rfl,k,.inl ⟨rfl,rfl⟩⟩
theorem ZpB.panic {T:List Nat} {fr f:Fr} {ds:List Deferred} {v:Value} {h:H} (k:MFr T fr f):ZpB T fr ds v true (.panic v) ⟨f,ds,h,none⟩:= ⟨rfl,k,.inr ⟨rfl,rfl⟩⟩
structure Zx9 (Q:XX ->Fs ->Prop) (e:XX) (s:Fs):Prop where
 nn:e ≠ .normal
 k:Q e s
theorem Zx9.exit {Q:XX ->Fs ->Prop} {s:Fs} {id:Nat} (k:Q (.exit id) s):Zx9 Q (.exit id) s:= ⟨(fun z=>by cases z),k⟩
def Zye {κ ν:Type} (kv:κ ->Value) (vv:ν ->Value) (h:H) (it:Nat) (x:κ×ν):Prop:=ZdT h (.pointer (some ⟨it,0,none⟩))=some (.tuple #[kv x.1,vv x.2])
section
variable {κ ν:Type} {kv:κ ->Value} {vv:ν ->Value} {ll:List (κ×ν)} {bs:List Nat}
theorem Zmz:∀ {ll:List (κ×ν)} {bs:List Nat} {x:MapEntry},x ∈ Yp kv vv ll bs ->∃ (j:Nat) (y:κ×ν) (b:Nat),ll[j]? =some y∧bs[j]? =some b∧x= ⟨kv y.1,vv y.2,b⟩:=by
 intro ll bs x hx;obtain⟨j,hj⟩:=List.mem_iff_getElem?.1 hx;unfold Yp at hj;rw [List.getElem?_zipWith] at hj;cases h1:ll[j]? with
 | none=>rw [h1] at hj;simp at hj
 | some y=>
   cases h2:bs[j]? with
   | none=>rw [h1,h2] at hj;simp at hj
   | some b=>rw [h1,h2] at hj;simp at hj;exact⟨j,y,b,h1,h2,hj.symm⟩
theorem Zwr {j:Nat} {y:κ×ν} {b:Nat} (h1:ll[j]? =some y) (h2:bs[j]? =some b):(⟨kv y.1,vv y.2,b⟩:MapEntry) ∈ Yp kv vv ll bs:=by
 refine List.mem_iff_getElem?.2 ⟨j,?_⟩;unfold Yp;rw [List.getElem?_zipWith,h1,h2]
theorem Zf5 {b:Nat}:∀ {ll:List (κ×ν)} {bs:List Nat},b ∉ bs ->Zdt b (Yp kv vv ll bs)=true
 | [],_,_=>by unfold Yp;simp [Zdt]
 | _::_,[],_=>by unfold Yp;simp [Zdt]
 | x::ll,b'::bs,h=>by
   have ih:=Zf5 (ll:=ll) (bs:=bs) (b:=b) (fun z=>h (by simp [z]));unfold Yp at ih ⊢;rw [List.zipWith_cons_cons];unfold Zdt;have:Nat.beq b' b=false:=by rw [Bool.eq_false_iff];intro q;exact h (by simp [Nat.eq_of_beq_eq_true q])
   dsimp only;rw [this];exact ih
theorem ZhD {Y9:Nat}:∀ {ll:List (κ×ν)} {bs:List Nat},bs.Nodup ->(∀ b ∈ bs,b < Y9) ->WG Y9 (Yp kv vv ll bs)=true
 | [],_,_,_=>by unfold Yp;simp [WG]
 | _::_,[],_,_=>by unfold Yp;simp [WG]
 | x::ll,b::bs,hn,hl=>by
   rw [List.nodup_cons] at hn;have ih:=ZhD (ll:=ll) (bs:=bs) hn.2 (fun b hb=>hl b (by simp [hb]));have hno:Zdt b (Yp kv vv ll bs)=true:=Zf5 (ll:=ll) hn.1;unfold Yp at ih hno ⊢;rw [List.zipWith_cons_cons];unfold WG;dsimp only;rw [hno,ih];have:Nat.blt b Y9=true:=by rw [Nat.blt_eq];exact hl b (by simp)
   rw [this];rfl
theorem Zjw:∀ {ll:List (κ×ν)} {bs:List Nat} {j:Nat} {y:κ×ν} {b:Nat},bs.Nodup ->ll[j]? =some y ->bs[j]? =some b ->ZjS b (Yp kv vv ll bs)=some ⟨kv y.1,vv y.2,b⟩
 | [],_,_,_,_,_,h,_=>by simp at h
 | _::_,[],_,_,_,_,_,h=>by simp at h
 | x::ll,b'::bs,j,y,b,hn,h1,h2=>by
   rw [List.nodup_cons] at hn;unfold Yp;rw [List.zipWith_cons_cons];unfold ZjS;dsimp only;cases j with
   | zero=>
     simp at h1 h2;subst h1 h2;rw [Nat.beq_refl];rfl
   | succ j=>
     simp at h1 h2
     have:Nat.beq b' b=false:=by
      rw [Bool.eq_false_iff];intro q;have:=Nat.eq_of_beq_eq_true q;subst this;exact hn.1 (List.mem_iff_getElem?.2 ⟨j,h2⟩)
     rw [this];exact Zjw hn.2 h1 h2
end
section
variable {wm:Nat} {G Gr:List (Ast wm)} {h h0:H} {T0:Nat ->Prop} {fr:Fr} {ds:List Deferred} {ty:TypeId} {p:String} {af:Array Edge} {g:Option (Nat×Bool)} {κ ν:Type} {kv:κ ->Value} {vv:ν ->Value} {ll:List (κ×ν)} {d:Nat}
theorem WO.rng {Q:XX ->Fs ->Prop} {t kt vt:TypeId} {x:Operand} {i:Nat} (hg:ZO ops ⟨some d,.range t x,ty,p,af,g⟩ fr) (hd:Nat.blt d n=true) (hS:Sp wm T0 h0 G h) (hu:X.P.underlying t=some (.map kt vt)) (hx:ZV fr x=some (.map (some i))) (s:MapAt kv vv h (some i) ll)
 (k:∀ h' b bs Y9,Sp wm T0 h0 (ob wm b (.iter i Y9 Y9 none)::G) h' ->h'.at i= .map (Yp kv vv ll bs) Y9 ->bs.length=ll.length∧bs.Nodup∧(∀ x ∈ bs,x < Y9) ->WO X n wm rd ops l ⟨Tr.set fr d (.pointer (some ⟨b,0,none⟩)),ds,h',none⟩ Q):
 WO X n wm rd ops (⟨some d,.range t x,ty,p,af,g⟩::l) ⟨fr,ds,h,none⟩ Q:=by
 rcases s.mem with⟨q,_⟩ | ⟨i',bs,Y9,q,h1,h2,h3,h4⟩
 ·cases q
 ·cases q;refine WO.v (v:=Je h) (E:= .new (.iter i Y9 Y9 none)) (h1:=h.push (.iter i Y9 Y9 none)) hg hd ?_ (Zlu h rfl) (k (h.push (.iter i Y9 Y9 none)) h.size bs Y9 (Zoe rfl hS) ?_ ⟨h2,h3,h4⟩)
  ·show(match ZV fr x with
    | some x=>vE (Ziz X.P h t x)
    | none=>none)=_
   rw [hx];dsimp only;unfold Ziz;simp only [hu,h1]
   rfl
  ·rw [Zaq (XH h1 rfl),h1]
theorem Zvp {x:Operand} {it:Nat} {y:κ×ν} (hx:ZV fr x=some (.pointer (some ⟨it,0,none⟩))) (he:Zye kv vv h it y):Xi X h (ZV fr) ⟨some d,.entry x,ty,p,af,g⟩=some (.val (.tuple #[kv y.1,vv y.2]),.none):=by
 show(match ZV fr x with
  | some it=>vN (ZdT h it)
  | none=>none)=_
 rw [hx];dsimp only;rw [show ZdT h (.pointer (some ⟨it,0,none⟩))=_ from he];rfl
theorem WL.ZGM {Q:XX ->Fs ->Prop} {id:Nat} {o:Oper} {t it m Y9:Nat} {bs:List Nat} {b:κ ->ν ->Option Bool} {q:Bool} (T:List Nat) (v:Value) (hq:Zjv b ll=some q) (hS:Sp wm T0 h0 G h) (pi:Pk G (ob wm it (.iter m Y9 Y9 none)) Gr) (hat:fr.at t= .pointer (some ⟨it,0,none⟩)) (hm:h.at m= .map (Yp kv vv ll bs) Y9) (hb:bs.length=ll.length∧bs.Nodup∧∀ x ∈ bs,x < Y9)
 (hops:ops.toList=o::l) (hop:o.op= .next (.tmp t) false) (hgu:o.guard=none) (hd:o.dst=some d) (hdn:Nat.blt d n=true) (hT:T.contains t=false) (hdT:T.contains d=true) (hv:plain v=true)
 (body:∀ (x:κ×ν) (p:Bool),b x.1 x.2=some p ->∀ h2 fr',Agr T fr fr' ->Sp h.size (XG ([]:List (Ast h.size))) h2 [] h2 ->Zye kv vv h2 it x ->WO X n h.size rd ops l ⟨Tr.set fr' d (.tuple #[.bool true,kv x.1,vv x.2]),ds,h2,none⟩ (QA X n h.size rd rest (ZpB T fr' ds v p)))
 (over:q=false ->∀ h' fr',Agr T fr fr' ->Sp wm T0 h0 Gr h' ->WO X n wm rd ops l ⟨Tr.set fr' d (.tuple #[.bool false]),ds,h',none⟩ (QA X n wm rd rest (Zx9 Q)))
 (Jk:q=true ->∀ h' fr',Agr T fr fr' ->Sp wm T0 h0 Gr h' ->Q (.panic v) ⟨fr',ds,h',none⟩):WL X n wm rd (.seq (.region id ops false) rest) ⟨fr,ds,h,none⟩ Q:=by
 obtain⟨hb1,hb2,hb3⟩:=hb;obtain⟨o1,o2,o3⟩:=hS.get pi;obtain⟨m1,m2⟩:=Zdz hq
 have ZAH:Agr T fr (Yc T fr):=fun t' v' ht' hv'=>by
  rw [Xh,if_neg (fun z=>by rw [← List.contains_iff_mem] at z;rw [z] at ht';cases ht'),hv']
 have htT:t ∉ T:=fun z=>by rw [← List.contains_iff_mem] at z;rw [z] at hT;cases hT
 have ZHI:d ∈ T:=List.contains_iff_mem.1 hdT;have ZHv:m ≠ it:=fun z=>by rw [z,o1] at hm;cases hm
 classical
 let pn:Nat ->Bool:=fun bn=>decide (∃ (j:Nat) (y:κ×ν),ll[j]? =some y∧bs[j]? =some bn∧b y.1 y.2=some true)
 have Zkm:∀ (j:Nat) (y:κ×ν) (bn:Nat),ll[j]? =some y ->bs[j]? =some bn ->∀ p,b y.1 y.2=some p ->pn bn=p:=by
  intro j y bn h1 h2 p hp;cases p with
  | true=>exact decide_eq_true ⟨j,y,h1,h2,hp⟩
  | false=>
    refine decide_eq_false ?_;rintro⟨j',y',h1',h2',hp'⟩
    have hj:j'=j:=by
     obtain⟨q1,e1⟩:=List.getElem?_eq_some_iff.1 h2';obtain⟨q2,e2⟩:=List.getElem?_eq_some_iff.1 h2;exact(List.getElem_inj hb2).1 (e1.trans e2.symm)
    subst hj;rw [h1] at h1';cases h1';rw [hp] at hp';cases hp'
 have ZyK:Sp wm T0 h0 Gr (h.put it .dead):=
  Sp.step (Ga:= [ob wm it (.iter m Y9 Y9 none)]) (Gb:= []) (hS.perm pi.perm) (Up.put o2 (by rw [o1];rfl)) (fun i e=>⟨_,List.mem_singleton.2 rfl,e⟩) ZQ.nil fun i ⟨A,mm,f⟩=>by simp at mm
 have ZhS:∀ x ∈ Yp kv vv ll bs,∃ ex s3,(s3.ds=ds∧(∀ t,t ∉ T ->s3.fr.at t=fr.at t)∧(ex= .normal∧pn x.born=false∨ex= .panic v∧pn x.born=true))∧∀ {ρ:Ren} {F:Fence} {a:Act} {w:World},Inv ρ n {fr:=J4 (Yc T fr) o.dst (.tuple #[.bool true,x.key,x.val]),ds:=ds,h:=h.put it (.iter m Y9 Y9 (some x.born)),wr:=none} a w ->h.size <= (h.put it (.iter m Y9 Y9 (some x.born))).size ->FR' ρ rd F ->∀ Q':Exit ->Act ->World ->Prop,
  (∀ e' a' w',Xx h.size n ρ (h.put it (.iter m Y9 Y9 (some x.born))) w ex s3 e' a' w' ->Q' e' a' w') ->wpListIn F 0 X.P ops (Exit.then (rest.wpIn F 0 X.P Q') Q') l a w:=by
  intro x hx;obtain⟨j,y,bn,h1,h2,rfl⟩:=Zmz hx;obtain⟨p,hp⟩:=m1 y (List.mem_iff_getElem?.2 ⟨j,h1⟩);have hpn:=Zkm j y bn h1 h2 p hp;have hsz:(h.put it (.iter m Y9 Y9 (some bn))).size=h.size:=H.size_put _ _ _;have e1:(h.put it (.iter m Y9 Y9 (some bn))).at it= .iter m Y9 Y9 (some bn):=Z8 (XH o1 rfl) _;have e2:(h.put it (.iter m Y9 Y9 (some bn))).at m= .map (Yp kv vv ll bs) Y9:=by rw [XU ZHv,hm]
  have hent:Zye kv vv (h.put it (.iter m Y9 Y9 (some bn))) it y:=by
   unfold Zye ZdT;simp only [e1,e2,Nat.beq_refl,cond_true,Zjw hb2 h1 h2]
  obtain⟨ex,s3,⟨q1,q2,q3⟩,q4⟩:=WO.body (body y p hp (h.put it (.iter m Y9 Y9 (some bn))) (Yc T fr) ZAH (Sp.start (Nat.le_of_eq hsz.symm) ZQ.nil) hent);refine⟨ex,s3,⟨q1,fun t' ht'=>?_,?_⟩,?_⟩
  ·rw [q2 t' ht',Xh,if_neg ht']
  ·dsimp only;rw [hpn];exact q3
  ·rw [hd];intro ρ F a w i1 i2 i3 Q' i4;exact q4 i1 i2 i3 Q' i4
 have key:=fun(e:XX) (s2:Fs)=>ZtD (X:=X) (n:=n) (wm:=wm) (rd:=rd) (rest:=rest) (id:=id) (s:= ⟨fr,ds,h,none⟩) (e:=e) (s2:=s2) (T:=T) (v:=v) pn hops hop hgu hat o1 hm (Nat.le_refl _) (ZhD hb2 hb3) o2 htT hd (by rwa [Nat.blt_eq] at hdn) ZHI hv ZhS
 cases q with
 | true=>
   refine⟨.panic v,⟨Yc T fr,ds,h.put it .dead,none⟩,Jk rfl _ _ ZAH ZyK,key _ _ (fun hall=>?_) fun _=>⟨rfl,rfl⟩⟩;exfalso;obtain⟨y,hy,hyb⟩:=m2.1 rfl;obtain⟨j,hj⟩:=List.mem_iff_getElem?.1 hy;have hjl:= (List.getElem?_eq_some_iff.1 hj).1;have h2:bs[j]? =some (bs[j]'(by omega)):=List.getElem?_eq_getElem _;have:=hall _ (Zwr hj h2);rw [Zkm j y _ hj h2 true hyb] at this;cases this
 | false=>
   obtain⟨e,s2,⟨q1,q2⟩,q3⟩:=WO.body (over rfl _ _ ZAH ZyK);refine⟨e,s2,q2,key e s2 (fun _=>⟨q1,?_⟩) fun⟨x,hx,hp⟩=>?_⟩
   ·rw [hd];intro ρ F a w i1 i2 i3 Q' i4;exact q3 i1 i2 i3 Q' i4
   ·exfalso;obtain⟨j,y,bn,h1,h2,rfl⟩:=Zmz hx;obtain⟨p,hp'⟩:=m1 y (List.mem_iff_getElem?.2 ⟨j,h1⟩);have hpn:=Zkm j y bn h1 h2 p hp';rw [show pn bn=true from hp] at hpn;subst hpn;exact absurd (m2.2 ⟨y,List.mem_iff_getElem?.2 ⟨j,h1⟩,hp'⟩) (by simp)
end
end Go.Yw
end
end
section
noncomputable section
namespace Go.Yw
open Go.Lf
variable {X:Ctx} {n wm:Nat} {rd:Option Nat} {ops:Array Oper} {l:List Oper} {fr:Fr} {ds:List Deferred} {h h1 h2 h0:H} {T:Nat ->Prop} {G Gr Ga Gb:List (Ast wm)}
inductive FzS (wm:Nat):H ->H ->Prop
 | refl (h:H):FzS wm h h
 | step {h h':H} {i:Nat} {cs:List Value} {z:Nat} (hw:wm <=i) (hr:h.at i= .row cs true z) (k:FzS wm (h.put i (.row cs false 0)) h'):FzS wm h h'
theorem FzS.trans {h h1 h2:H} (a:FzS wm h h1) (b:FzS wm h1 h2):FzS wm h h2:=by
 induction a with
 | refl _=>exact b
 | step hw hr _ ih=>exact .step hw hr (ih b)
theorem WO.fzS {Q:XX ->Fs ->Prop} {h h':H} (a:FzS wm h h') (k:WO X n wm rd ops l ⟨fr,ds,h',none⟩ Q):WO X n wm rd ops l ⟨fr,ds,h,none⟩ Q:=by
 induction a with
 | refl _=>exact k
 | step hw hr _ ih=>exact WO.ZjK hw hr (ih k)
theorem XF.fzs {α:Type} {e:J7 α} {a:Option Addr} {c:Nat} {xs:List α} (so:XF e wm wm h a c xs):∃ h',FzS wm h h'∧Up wm (XP a) h h'∧Sl e wm h' a c xs:=by
 rcases so.mem with⟨rfl,rfl,rfl⟩ | ⟨i,o,cs,rfl,h1,h2,h3,h4,h5⟩
 ·exact⟨h,.refl h,⟨Nat.le_refl _,fun _ _ _=>rfl,fun i hb=>by obtain⟨o,hb⟩:=hb;cases hb⟩,Sl.nil⟩
 ·have hown:(h.at i).own=true:=by rw [h2];rfl
  have hu:Up wm (XP (some ⟨i,o,none⟩)) h (h.put i (.row cs false 0)):=
   ⟨Nat.le_refl _,fun j _ hn=>XU (fun q=>hn ⟨o,by rw [q]⟩) _,fun j hb=>by obtain⟨o',hb⟩:=hb;cases hb;exact⟨h1,hown⟩⟩
  exact⟨_,.step h1 h2 (.refl _),hu,⟨so.max,so.cap,so.nl,.inr ⟨i,o,cs,false,0,rfl,Z8 (XH h2 rfl) _,.inr rfl,h5.mono (hu.fz (Nat.le_refl _))⟩⟩⟩
theorem ZmY {α:Type} {e:J7 α} (ps:Nat ->Option Addr×Nat×Nat):∀ (xs:List (List α)) (k:Nat) (h:H) (Gr:List (Ast wm)),Sp wm T h0 (Yi (fun k x=>(Xa e).YH wm (ps k) x) k xs ++ Gr) h ->
 ∃ h',FzS wm h h'∧Fz wm h h'∧Sp wm T h0 Gr h'∧∀ j x,xs[j]? =some x ->(ps (k + j)).2.1=x.length∧Sl e wm h' (ps (k + j)).1 (ps (k + j)).2.2 x
 | [],k,h,Gr,hS=>⟨h,.refl h,Fz.refl _ _,hS,fun j x hj=>by simp at hj⟩
 | x::xs,k,h,Gr,hS=>by
   have hS:Sp wm T h0 (ow wm e (ps k).1 (ps k).2.1 (ps k).2.2 x::(Yi (fun k x=>(Xa e).YH wm (ps k) x) (k + 1) xs ++ Gr)) h:=hS;have hg:=hS.get k0;obtain⟨h1,f1,u1,s1⟩:=hg.2.fzs;have hS1:= (Zza hS k0 u1 s1).2.drop k0;obtain⟨h2,f2,z2,hS2,hall⟩:=ZmY ps xs (k + 1) h1 Gr hS1;refine⟨h2,f1.trans f2,(u1.fz (Nat.le_refl _)).trans z2,hS2,fun j y hj=>?_⟩;cases j with
   | zero=>simp at hj;subst hj;exact⟨hg.1,s1.mono z2⟩
   | succ j=>
     have:=hall j y (by simpa using hj);have e1:k + 1 + j=k + (j + 1):=by omega
     rwa [e1] at this
theorem ZA6 {α:Type} {e:J7 α} {a:Option Addr} {nn c:Nat} {ps:Nat ->Option Addr×Nat×Nat} {xs:List (List α)} (hS:Sp wm T h0 G h) (pk:Pk G (nst wm (Xa e) a nn c ps xs) Gr):∃ h',FzS wm h h'∧nn=xs.length∧Sp wm T h0 (fzA wm (rSl (rSl e)) (a,c) xs::Gr) h':=by
 obtain⟨g1,g2,g3,g4⟩:=hS.get pk
 let O:Ast wm:=ow wm (Zs6 (Xa e).sz (Xa e).pos) a ((Xa e).rows ps xs).length c ((Xa e).rows ps xs)
 have hS1:Sp wm T h0 ((Xa e).parts wm ps xs ++ (O::Gr)) h:=by
  have h1:Sp wm T h0 ((O::(Xa e).parts wm ps xs) ++ Gr) h:=by
   refine Sp.say (Ga:= [nst wm (Xa e) a nn c ps xs]) (Gr:=Gr) (hS.perm pk.perm) (ZQ.cons ⟨rfl,g2⟩ g3 fun i f=>g4 i f) fun i f=>?_
   rcases XG.cons.1 f with f | f
   ·exact⟨_,List.mem_singleton.2 rfl,.inl f⟩
   ·exact⟨_,List.mem_singleton.2 rfl,.inr f⟩
  exact h1.perm (by
   rw [List.cons_append];exact(List.perm_middle).symm)
 obtain⟨h1,f1,z1,hS2,hall⟩:=ZmY ps xs 0 h (O::Gr) hS1;obtain⟨h2,f2,u2,s2⟩:= (hS2.get k0).2.fzs;refine⟨h2,f1.trans f2,g1,hS2.one k0 u2 (fun _ q=>q) ?_ fun _ z=>z.elim⟩;show Sl (rSl e) wm h2 a c xs;have hlen:((Xa e).rows ps xs).length=xs.length:=ZaI _ _ _;refine⟨by rw [← hlen];exact s2.max,by rw [← hlen];exact s2.cap,s2.nl,?_⟩;rcases s2.mem with q | ⟨i,o,cs,own,z,q1,q2,q3,q4⟩
 ·left;apply List.eq_nil_of_length_eq_zero;rw [← hlen,q];rfl
 ·refine .inr ⟨i,o,cs,own,z,q1,q2,q3,⟨by have:=q4.len;rw [hlen] at this;exact this,fun k x hk=>?_⟩⟩;obtain⟨n1,n2⟩:=hall k x hk;rw [Nat.zero_add] at n1 n2
  have hrow:((Xa e).rows ps xs)[k]? =some ((Xa e).raw (ps k) x):=by
   unfold Ne.rows;rw [Uw,hk,Nat.zero_add];rfl
  obtain⟨_,w1,_⟩:=q4.get k _ hrow;refine⟨((ps k).1,(ps k).2.2),?_,n2.mono (u2.fz (Nat.le_refl _))⟩;have w2:(cs.drop (o + k * 1)).take 1= [Value.slice (ps k).1 (ps k).2.1 (ps k).2.2]:=w1;rw [n1] at w2;exact w2
theorem WO.ZA5 {Q:XX ->Fs ->Prop} {α:Type} {e:J7 α} {a:Option Addr} {nn c:Nat} {ps:Nat ->Option Addr×Nat×Nat} {xs:List (List α)} (hS:Sp wm T h0 G h) (pk:Pk G (nst wm (Xa e) a nn c ps xs) Gr) (k:∀ h',nn=xs.length∧Sp wm T h0 (fzA wm (rSl (rSl e)) (a,c) xs::Gr) h' ->WO X n wm rd ops l ⟨fr,ds,h',none⟩ Q):WO X n wm rd ops l ⟨fr,ds,h,none⟩ Q:=
 let⟨h',f,hh⟩:=ZA6 hS pk;WO.fzS f (k h' hh)
end Go.Yw
end
end
section
end
section
namespace Go.Proofs.Ytekpjgmhkkjhgaa
structure Zb where
 name:Int
 root:Bool
 from_:Int
 has:Int
 out:Int
 use:Bool
 deriving DecidableEq,Inhabited
structure Zd where
 kind:Int
 Zw:Int
 name:Int
 via:Int
 w:Int
 deriving DecidableEq,Inhabited
structure Za where
 cells:(List (List Zb))
 notes:(List Zd)
 names:Int
 freed:(List Int)
 deriving DecidableEq,Inhabited
structure Zn where
 ZX:Int
 at_:Int
 name:Int
 Zw:Int
 deriving DecidableEq,Inhabited
structure YI where
 at_:Int
 name:Int
 deriving DecidableEq,Inhabited
structure ZaE where
 ZX:Int
 at_:Int
 name:Int
 Zw:Int
 deriving DecidableEq,Inhabited
structure Ze where
 e0:Int
 e1:Int
 deriving DecidableEq,Inhabited
structure Store where
 machines:Int
 names:Int
 cells:(List (Ze×Zb))
 notes:(List Zd)
 freed:(List Int)
 deriving DecidableEq,Inhabited
structure Model where
 uses:(List YI)
 ways:(List YI)
 deriving DecidableEq,Inhabited
def Zao (x y:Zb):Bool:= [x.name==y.name,x.root==y.root,x.from_==y.from_,x.has==y.has,x.out==y.out,x.use==y.use].all id
def KX (x y:YI):Bool:= [x.at_==y.at_,x.name==y.name].all id
def ZBt:Option Bool:=some true
def ZuX (x:Int):Option Int:=Go.Lf.Qc x
end Go.Proofs.Ytekpjgmhkkjhgaa
end
section
set_option maxRecDepth 100000
noncomputable section
namespace Go.Proofs.Ytekpjgmhkkjhgaa
open Go.Yw Go.Lf
def Zu:J7 Zb where
 sz:=6
 pos:=by decide
 Par:=Unit
 dflt:= ()
 sh:=fun _ x=>[.int .i64 x.name,.bool x.root,.int .i64 x.from_,.int .i64 x.has,.int .i64 x.out,.bool x.use]
 len:=fun _ _=>rfl
 one:=fun _ _=>rfl
 F:=fun _ _ _ _=>True
 mono:=fun _ x=>x
 up:=fun _ x=>x
def Zj:J7 Zd where
 sz:=5
 pos:=by decide
 Par:=Unit
 dflt:= ()
 sh:=fun _ x=>[.int .i64 x.kind,.int .i64 x.Zw,.int .i64 x.name,.int .i64 x.via,.int .i64 x.w]
 len:=fun _ _=>rfl
 one:=fun _ _=>rfl
 F:=fun _ _ _ _=>True
 mono:=fun _ x=>x
 up:=fun _ x=>x
def Ym:J7 YI where
 sz:=2
 pos:=by decide
 Par:=Unit
 dflt:= ()
 sh:=fun _ x=>[.int .i64 x.at_,.int .i64 x.name]
 len:=fun _ _=>rfl
 one:=fun _ _=>rfl
 F:=fun _ _ _ _=>True
 mono:=fun _ x=>x
 up:=fun _ x=>x
def Zs7:J7 ZaE where
 sz:=4
 pos:=by decide
 Par:=Unit
 dflt:= ()
 sh:=fun _ x=>[.int .u8 x.ZX,.int .u8 x.at_,.int .u8 x.name,.int .u8 x.Zw]
 len:=fun _ _=>rfl
 one:=fun _ _=>rfl
 F:=fun _ _ _ _=>True
 mono:=fun _ x=>x
 up:=fun _ x=>x
def Zg (x:Ze):Value:= .agg [.int .i64 x.e0,.int .i64 x.e1].toArray
def Zl (x:Zb):Value:= .agg [.int .i64 x.name,.bool x.root,.int .i64 x.from_,.int .i64 x.has,.int .i64 x.out,.bool x.use].toArray
theorem Zl8:XX.P.underlying 3=some (.int .i64):=by kernel_rfl
theorem ZGz:XX.P.underlying 4=some .bool:=by kernel_rfl
theorem Zn3:XX.P.underlying 5=some (.int .u8):=by kernel_rfl
theorem Zhc:XX.P.underlying 22=some (.slice 59):=by kernel_rfl
theorem Ub:XX.P.underlying 23=some (.slice 58):=by kernel_rfl
theorem X9:XX.P.underlying 24=some (.slice 3):=by kernel_rfl
theorem ZCE:XX.P.underlying 38=some (.slice 29):=by kernel_rfl
theorem ZCD:XX.P.underlying 43=some (.slice 91):=by kernel_rfl
theorem Zjo:XX.P.underlying 59=some (.slice 61):=by kernel_rfl
theorem ZsK:XX.P.underlying 62=some (.slice 80):=by kernel_rfl
theorem Qz:XX.P.underlying 63=some (.slice 73):=by kernel_rfl
theorem Zyi:XX.P.underlying 69=some (.slice 5):=by kernel_rfl
theorem Ua:XX.P.underlying 95=some (.map 113 61):=by kernel_rfl
theorem UM:XX.P.underlying 110=some (.map 113 3):=by kernel_rfl
theorem ZzB:XX.P.underlying 160=some (.int .u64):=by kernel_rfl
theorem Xm:Yn XX.P 3=some false:=by kernel_rfl
theorem ZI1:Yn XX.P 4=some false:=by kernel_rfl
theorem ZFG:Yn XX.P 5=some false:=by kernel_rfl
theorem Zzl:Yn XX.P 22=some false:=by kernel_rfl
theorem Zj5:Yn XX.P 23=some false:=by kernel_rfl
theorem ZvB:Yn XX.P 24=some false:=by kernel_rfl
theorem Wh:Yn XX.P 26=some true:=by kernel_rfl
theorem ZvA:Yn XX.P 27=some false:=by kernel_rfl
theorem ZiD:Yn XX.P 29=some true:=by kernel_rfl
theorem Zvz:Yn XX.P 32=some false:=by kernel_rfl
theorem ZFF:Yn XX.P 56=some false:=by kernel_rfl
theorem Zdg:Yn XX.P 58=some true:=by kernel_rfl
theorem ZnN:Yn XX.P 59=some false:=by kernel_rfl
theorem ZiC:Yn XX.P 61=some true:=by kernel_rfl
theorem ZFE:Yn XX.P 63=some false:=by kernel_rfl
theorem WY:Yn XX.P 65=some true:=by kernel_rfl
theorem Zdf:Yn XX.P 73=some true:=by kernel_rfl
theorem Zzk:Yn XX.P 80=some true:=by kernel_rfl
theorem ZFD:Yn XX.P 91=some true:=by kernel_rfl
theorem Zvy:Yn XX.P 94=some false:=by kernel_rfl
theorem Zgn:Yn XX.P 95=some false:=by kernel_rfl
theorem ZlO:Yn XX.P 110=some false:=by kernel_rfl
theorem ZBQ:Yn XX.P 113=some true:=by kernel_rfl
theorem Y5:ZY XX.P 3=some 1:=by kernel_rfl
theorem Zym:ZY XX.P 4=some 1:=by kernel_rfl
theorem Zyl:ZY XX.P 5=some 1:=by kernel_rfl
theorem ZzJ:ZY XX.P 22=some 1:=by kernel_rfl
theorem Zoc:ZY XX.P 23=some 1:=by kernel_rfl
theorem ZzI:ZY XX.P 24=some 1:=by kernel_rfl
theorem Xz:ZY XX.P 26=some 4:=by kernel_rfl
theorem Zdl:ZY XX.P 29=some 4:=by kernel_rfl
theorem ZzH:ZY XX.P 32=some 1:=by kernel_rfl
theorem Xl:ZY XX.P 58=some 5:=by kernel_rfl
theorem ZbI:ZY XX.P 59=some 1:=by kernel_rfl
theorem Uo:ZY XX.P 61=some 6:=by kernel_rfl
theorem ZsR:ZY XX.P 63=some 1:=by kernel_rfl
theorem XL:ZY XX.P 65=some 2:=by kernel_rfl
theorem YT:ZY XX.P 73=some 2:=by kernel_rfl
theorem Zkh:ZY XX.P 80=some 4:=by kernel_rfl
theorem ZzG:ZY XX.P 91=some 4:=by kernel_rfl
theorem ZzF:ZY XX.P 94=some 1:=by kernel_rfl
theorem Zki:ZY XX.P 110=some 1:=by kernel_rfl
theorem Zwc:ZY XX.P 113=some 2:=by kernel_rfl
theorem Zxr:Zv XX.P 26 0 0:=Zv.of (by kernel_rfl)
theorem Zxq:Zv XX.P 26 1 1:=Zv.of (by kernel_rfl)
theorem Zxp:Zv XX.P 26 2 2:=Zv.of (by kernel_rfl)
theorem Zxo:Zv XX.P 26 3 3:=Zv.of (by kernel_rfl)
theorem ZkT:Zv XX.P 29 0 0:=Zv.of (by kernel_rfl)
theorem Zbq:Zv XX.P 29 1 1:=Zv.of (by kernel_rfl)
theorem ZcL:Zv XX.P 29 2 2:=Zv.of (by kernel_rfl)
theorem Zbp:Zv XX.P 29 3 3:=Zv.of (by kernel_rfl)
theorem Zxn:Zv XX.P 58 0 0:=Zv.of (by kernel_rfl)
theorem Zxm:Zv XX.P 58 1 1:=Zv.of (by kernel_rfl)
theorem Zxl:Zv XX.P 58 2 2:=Zv.of (by kernel_rfl)
theorem Zxk:Zv XX.P 58 3 3:=Zv.of (by kernel_rfl)
theorem Zqm:Zv XX.P 58 4 4:=Zv.of (by kernel_rfl)
theorem Zxj:Zv XX.P 61 0 0:=Zv.of (by kernel_rfl)
theorem Zxi:Zv XX.P 61 1 1:=Zv.of (by kernel_rfl)
theorem Zql:Zv XX.P 61 2 2:=Zv.of (by kernel_rfl)
theorem ZkS:Zv XX.P 61 3 3:=Zv.of (by kernel_rfl)
theorem Zxh:Zv XX.P 61 4 4:=Zv.of (by kernel_rfl)
theorem Zxg:Zv XX.P 61 5 5:=Zv.of (by kernel_rfl)
theorem Zqk:Zv XX.P 65 0 0:=Zv.of (by kernel_rfl)
theorem Zxf:Zv XX.P 65 1 1:=Zv.of (by kernel_rfl)
theorem Zxe:Zv XX.P 73 0 0:=Zv.of (by kernel_rfl)
theorem Zxd:Zv XX.P 73 1 1:=Zv.of (by kernel_rfl)
theorem Zxc:Zv XX.P 80 0 0:=Zv.of (by kernel_rfl)
theorem Zxb:Zv XX.P 80 1 1:=Zv.of (by kernel_rfl)
theorem Zxa:Zv XX.P 80 2 2:=Zv.of (by kernel_rfl)
theorem Zw9:Zv XX.P 80 3 3:=Zv.of (by kernel_rfl)
theorem Zw8:Zv XX.P 91 2 2:=Zv.of (by kernel_rfl)
theorem Zw7:Zv XX.P 91 3 3:=Zv.of (by kernel_rfl)
theorem Zw6:Zv XX.P 97 0 0:=Zv.of (by kernel_rfl)
theorem Zw5:Zv XX.P 97 1 1:=Zv.of (by kernel_rfl)
theorem Zw4:Zv XX.P 97 2 2:=Zv.of (by kernel_rfl)
theorem ZkR:Zv XX.P 97 3 3:=Zv.of (by kernel_rfl)
theorem Zw3:Zv XX.P 97 4 4:=Zv.of (by kernel_rfl)
theorem U6:YA XX.P 3=some (.int .i64 0):=by kernel_rfl
theorem Zzt:YA XX.P 24=some (.slice none 0 0):=by kernel_rfl
theorem ZnU:YA XX.P 26=some (.agg #[.slice none 0 0,.slice none 0 0,.int .i64 0,.slice none 0 0]):=by kernel_rfl
theorem ZsE:YA XX.P 29=some (.agg #[.int .i64 0,.int .i64 0,.int .i64 0,.int .i64 0]):=by kernel_rfl
theorem Zzs:YA XX.P 32=some (.int .i64 0):=by kernel_rfl
theorem ZeL:YA XX.P 58=some (.agg #[.int .i64 0,.int .i64 0,.int .i64 0,.int .i64 0,.int .i64 0]):=by kernel_rfl
theorem ZsD:YA XX.P 59=some (.slice none 0 0):=by kernel_rfl
theorem Un:YA XX.P 61=some (.agg #[.int .i64 0,.bool false,.int .i64 0,.int .i64 0,.int .i64 0,.bool false]):=by kernel_rfl
theorem ZnT:YA XX.P 65=some (.agg #[.slice none 0 0,.slice none 0 0]):=by kernel_rfl
theorem Za4:YA XX.P 73=some (.agg #[.int .i64 0,.int .i64 0]):=by kernel_rfl
theorem Zzr:YA XX.P 80=some (.agg #[.int .u8 0,.int .u8 0,.int .u8 0,.int .u8 0]):=by kernel_rfl
theorem Zzq:YA XX.P 91=some (.agg #[.int .i64 0,.int .i64 0,.int .i64 0,.int .i64 0]):=by kernel_rfl
theorem Zzp:YA XX.P 94=some (.pointer none):=by kernel_rfl
theorem ZsC:YA XX.P 97=some (.agg #[.int .i64 0,.int .i64 0,.map none,.slice none 0 0,.slice none 0 0]):=by kernel_rfl
theorem Zv1:YA XX.P 110=some (.map none):=by kernel_rfl
theorem ZpE:YA XX.P 113=some (.agg #[.int .i64 0,.int .i64 0]):=by kernel_rfl
theorem Zj0:Zau XX.P 26 [.slice none 0 0,.slice none 0 0,.int .i64 0,.slice none 0 0] [(0,1),(1,1),(2,1),(3,1)]:= ⟨_,_,ZnU,rfl,Try.underlying26,by kernel_rfl⟩
theorem Ziv:Zau XX.P 29 [.int .i64 0,.int .i64 0,.int .i64 0,.int .i64 0] [(0,1),(1,1),(2,1),(3,1)]:= ⟨_,_,ZsE,rfl,Try.underlying29,by kernel_rfl⟩
theorem ZqM:Zau XX.P 58 [.int .i64 0,.int .i64 0,.int .i64 0,.int .i64 0,.int .i64 0] [(0,1),(1,1),(2,1),(3,1),(4,1)]:= ⟨_,_,ZeL,rfl,Try.underlying58,by kernel_rfl⟩
theorem Zzg:Zau XX.P 61 [.int .i64 0,.bool false,.int .i64 0,.int .i64 0,.int .i64 0,.bool false] [(0,1),(1,1),(2,1),(3,1),(4,1),(5,1)]:= ⟨_,_,Un,rfl,Try.underlying61,by kernel_rfl⟩
theorem ZFo:Zau XX.P 65 [.slice none 0 0,.slice none 0 0] [(0,1),(1,1)]:= ⟨_,_,ZnT,rfl,Try.underlying65,by kernel_rfl⟩
theorem ZjZ:Zau XX.P 73 [.int .i64 0,.int .i64 0] [(0,1),(1,1)]:= ⟨_,_,Za4,rfl,Try.underlying73,by kernel_rfl⟩
theorem Zvi:Zau XX.P 97 [.int .i64 0,.int .i64 0,.map none,.slice none 0 0,.slice none 0 0] [(0,1),(1,1),(2,1),(3,1),(4,1)]:= ⟨_,_,ZsC,rfl,Try.underlying97,by kernel_rfl⟩
theorem XT:ZqY XX.P 113 [.int .i64 0,.int .i64 0] 1:= ⟨_,_,_,ZpE,rfl,Try.underlying113,by kernel_rfl⟩
theorem ZiB:Zgo XX.P #[23,23] 5 40:= ⟨58,.agg #[.int .i64 0,.int .i64 0,.int .i64 0,.int .i64 0,.int .i64 0],by kernel_rfl⟩
theorem Zez:Zgo XX.P #[24,24] 1 8:= ⟨3,.int .i64 0,by kernel_rfl⟩
theorem Zvs:Zgo XX.P #[59,59] 6 48:= ⟨61,.agg #[.int .i64 0,.bool false,.int .i64 0,.int .i64 0,.int .i64 0,.bool false],by kernel_rfl⟩
theorem K6:Zgo XX.P #[63,63] 2 16:= ⟨73,.agg #[.int .i64 0,.int .i64 0],by kernel_rfl⟩
theorem ZFe (x y:Zb):Zyd XX.P 61 (Zu.sh () x) (Zu.sh () y) (Zao x y):=
 ⟨by kernel_rfl,ZjR (d:=9999) (bs:= [x.name==y.name,x.root==y.root,x.from_==y.from_,x.has==y.has,x.out==y.out,x.use==y.use]) Try.underlying61 (by kernel_rfl) ⟨⟨by decide,_,_,YF (by kernel_rfl) rfl,YF (by kernel_rfl) rfl,eq_int (by kernel_rfl)⟩,⟨by decide,_,_,YF (by kernel_rfl) rfl,YF (by kernel_rfl) rfl,Zls (by kernel_rfl)⟩,⟨by decide,_,_,YF (by kernel_rfl) rfl,YF (by kernel_rfl) rfl,eq_int (by kernel_rfl)⟩,⟨by decide,_,_,YF (by kernel_rfl) rfl,YF (by kernel_rfl) rfl,eq_int (by kernel_rfl)⟩,⟨by decide,_,_,YF (by kernel_rfl) rfl,YF (by kernel_rfl) rfl,eq_int (by kernel_rfl)⟩,⟨by decide,_,_,YF (by kernel_rfl) rfl,YF (by kernel_rfl) rfl,Zls (by kernel_rfl)⟩,trivial⟩⟩
theorem ZqE (x y:YI):Zyd XX.P 73 (Ym.sh () x) (Ym.sh () y) (KX x y):=
 ⟨by kernel_rfl,ZjR (d:=9999) (bs:= [x.at_==y.at_,x.name==y.name]) Try.underlying73 (by kernel_rfl) ⟨⟨by decide,_,_,YF (by kernel_rfl) rfl,YF (by kernel_rfl) rfl,eq_int (by kernel_rfl)⟩,⟨by decide,_,_,YF (by kernel_rfl) rfl,YF (by kernel_rfl) rfl,eq_int (by kernel_rfl)⟩,trivial⟩⟩
theorem YN:ZbB XX.P 113 Zg:=ZbB.ZI0 (et:=3) (by kernel_rfl) (by kernel_rfl) (by kernel_rfl) (fun x=>x.e0) (fun x=>x.e1) (fun _=>rfl) (fun x y=>by cases x;cases y;simp)
theorem ZBG:ZdO XX.P 59=some 24:=by kernel_rfl
theorem ZDW:(XX.fns.get 14).isSome=true:=by kernel_rfl
theorem ZDV:(XX.fns.get 15).isSome=true:=by kernel_rfl
theorem ZyX:(XX.fns.get 17).isSome=true:=by kernel_rfl
theorem ZDU:(XX.fns.get 23).isSome=true:=by kernel_rfl
theorem ZyW:(XX.fns.get 37).isSome=true:=by kernel_rfl
theorem ZDT:(XX.fns.get 38).isSome=true:=by kernel_rfl
theorem ZyV:(XX.fns.get 39).isSome=true:=by kernel_rfl
theorem ZyU:(XX.fns.get 41).isSome=true:=by kernel_rfl
theorem Zt5:(XX.fns.get 42).isSome=true:=by kernel_rfl
theorem Zqb:(XX.fns.get 43).isSome=true:=by kernel_rfl
theorem Zt4:(XX.fns.get 44).isSome=true:=by kernel_rfl
theorem ZDS:(XX.fns.get 45).isSome=true:=by kernel_rfl
theorem Zqa:(XX.fns.get 52).isSome=true:=by kernel_rfl
theorem ZyT:(XX.fns.get 54).isSome=true:=by kernel_rfl
theorem ZDR:(XX.fns.get 55).isSome=true:=by kernel_rfl
theorem Zp9:(XX.fns.get 56).isSome=true:=by kernel_rfl
theorem ZyS:(XX.fns.get 57).isSome=true:=by kernel_rfl
theorem ZyR:(XX.fns.get 66).isSome=true:=by kernel_rfl
theorem ZyQ:(XX.fns.get 68).isSome=true:=by kernel_rfl
theorem Zt3:(XX.fns.get 71).isSome=true:=by kernel_rfl
theorem Zp8:(XX.fns.get 75).isSome=true:=by kernel_rfl
theorem ZDQ:(XX.fns.get 76).isSome=true:=by kernel_rfl
theorem ZyP:(XX.fns.get 77).isSome=true:=by kernel_rfl
theorem ZDP:(XX.fns.get 78).isSome=true:=by kernel_rfl
theorem ZDO:(XX.fns.get 79).isSome=true:=by kernel_rfl
theorem ZDN:(XX.fns.get 80).isSome=true:=by kernel_rfl
theorem ZyO:(XX.fns.get 86).isSome=true:=by kernel_rfl
theorem ZyN:(XX.fns.get 87).isSome=true:=by kernel_rfl
theorem ZDM:(XX.fns.get 88).isSome=true:=by kernel_rfl
theorem Zt2:(XX.fns.get 89).isSome=true:=by kernel_rfl
theorem ZDL:(XX.fns.get 90).isSome=true:=by kernel_rfl
theorem ZDK:(XX.fns.get 91).isSome=true:=by kernel_rfl
theorem Zp7:(XX.fns.get 92).isSome=true:=by kernel_rfl
theorem ZDJ:(XX.fns.get 94).isSome=true:=by kernel_rfl
theorem ZyM:(XX.fns.get 95).isSome=true:=by kernel_rfl
theorem ZkI:(XX.fns.get 103).isSome=true:=by kernel_rfl
theorem ZhU:(XX.fns.get 104).isSome=true:=by kernel_rfl
theorem Zua:(XX.fns.get 105).isSome=true:=by kernel_rfl
theorem ZoJ:(XX.fns.get 106).isSome=true:=by kernel_rfl
theorem ZoI:(XX.fns.get 110).isSome=true:=by kernel_rfl
theorem ZAF:(XX.fns.get 111).isSome=true:=by kernel_rfl
theorem ZAE:(XX.fns.get 112).isSome=true:=by kernel_rfl
theorem ZAD:(XX.fns.get 113).isSome=true:=by kernel_rfl
theorem ZAC:(XX.fns.get 114).isSome=true:=by kernel_rfl
theorem Zt9:(XX.fns.get 115).isSome=true:=by kernel_rfl
theorem ZAB:(XX.fns.get 116).isSome=true:=by kernel_rfl
theorem ZkH:(XX.fns.get 117).isSome=true:=by kernel_rfl
theorem ZAA:(XX.fns.get 118).isSome=true:=by kernel_rfl
theorem Zt8:(XX.fns.get 119).isSome=true:=by kernel_rfl
theorem ZAz:(XX.fns.get 120).isSome=true:=by kernel_rfl
theorem ZoH:(XX.fns.get 124).isSome=true:=by kernel_rfl
theorem ZAy:(XX.fns.get 125).isSome=true:=by kernel_rfl
theorem ZAx:(XX.fns.get 126).isSome=true:=by kernel_rfl
theorem ZAw:(XX.fns.get 127).isSome=true:=by kernel_rfl
theorem ZAv:(XX.fns.get 128).isSome=true:=by kernel_rfl
theorem ZoG:(XX.fns.get 133).isSome=true:=by kernel_rfl
theorem Zt7:(XX.fns.get 138).isSome=true:=by kernel_rfl
theorem Zt6:(XX.fns.get 143).isSome=true:=by kernel_rfl
end Go.Proofs.Ytekpjgmhkkjhgaa
end
end
section
noncomputable section
namespace Go.Yw
open Go.Lf
class ZdX (P:Program) (t:TypeId):Prop where
 out:Yn P t=some false
class Zjk (P:Program) (t:TypeId):Prop where
 out:Yn P t=some true
class SzF (P:Program) (t:TypeId) (n:outParam Nat):Prop where
 out:ZY P t=some n
class JN (P:Program) (t:TypeId) (f:Nat) (o:outParam Nat):Prop where
 out:Zv P t f o
class Zji (P:Program) (t:TypeId) (e:outParam TypeId):Prop where
 out:P.underlying t=some (.slice e)
class ZB0 (P:Program) (t:TypeId):Prop where
 out:P.underlying t=some .bool
class Zcu (P:Program) (t:TypeId) (v:outParam Value):Prop where
 out:YA P t=some v
theorem ia {v:Value} (h:QH v=false):QH v=false:=h
theorem Zaa {fr:Fr} {t:Nat} {c:Bool} {v:Value} (h:fr.at t=cond c v undef) (ha:QH v=false) (hc:c=true):ZV fr (.tmp t)=some v:=XJ h ha hc
section
variable {X:Ctx} {h:H} {fr:Fr} {ty:TypeId} {p':String} {af:Array Edge} {g:Option (Nat×Bool)} {d:Option Tmp} {wm:Nat} {T:Nat ->Prop} {h0:H} {G Gr:List (Ast wm)}
theorem ZFt {x:Operand} {t:TypeId} {f off b o:Nat} [hf:JN X.P t f off] (hx:ZV fr x=some (.pointer (some ⟨b,o,none⟩))):Xi X h (ZV fr) ⟨d,.fieldAddr t x f,ty,p',af,g⟩=some (.val (.pointer (some ⟨b,o + off,none⟩)),.none):=Xu hf.out hx
theorem ZIY {x:Operand} {t:TypeId} {b oo:Nat} {vs:List Value} {v:Value} [ht:ZdX X.P t] (hx:ZV fr x=some (.pointer (some ⟨b,oo,none⟩))) (hS:Sp wm T h0 G h) (pp:Pk G (bx wm b vs) Gr) (hv:vs[oo]? =some v):
 Xi X h (ZV fr) ⟨d,.load t x,ty,p',af,g⟩=some (.val v,.none):=ZU ht.out hx (hS.X7 pp) (Nat.zero_add _).symm hv
theorem ZFs {x:Operand} {t:TypeId} {b oo sz:Nat} {vs ws:List Value} [ht:Zjk X.P t] [hs:SzF X.P t sz] (hx:ZV fr x=some (.pointer (some ⟨b,oo,none⟩))) (hS:Sp wm T h0 G h) (pp:Pk G (bx wm b vs) Gr) (hj:Nat.ble (oo + sz) vs.length=true) (hv:(vs.drop oo).take sz=ws):
 Xi X h (ZV fr) ⟨d,.load t x,ty,p',af,g⟩=some (.val (.agg ws.toArray),.none):=Y3 ht.out hs.out hx (hS.X7 pp) (Nat.zero_add _).symm hj hv
theorem ZFu {dd:Tmp} {x:Operand} {t:TypeId} {v:Value} {vs:List Value} (hx:ZV fr x=some v) (hS:Sp wm T h0 G h) (hv:v.cells.toList=vs):
 HN X wm ⟨some dd,.box t x,ty,p',af,g⟩ fr h (fun v h'=>∃ b,h.size=b∧v= .pointer (some ⟨b,0,none⟩)∧Sp wm T h0 (bx wm b vs::G) h'):=ZpJ hS hx hv
theorem ZFv {dd:Tmp} {t:TypeId} {v:Value} {vs:List Value} [hz:Zcu X.P t v] (hS:Sp wm T h0 G h) (hv:v.cells.toList=vs):
 HN X wm ⟨some dd,.alloc t,ty,p',af,g⟩ fr h (fun v h'=>∃ b,h.size=b∧v= .pointer (some ⟨b,0,none⟩)∧Sp wm T h0 (bx wm b vs::G) h'):=Zhn hS hz.out hv
theorem ZIX {x y:Operand} {t:TypeId} {b o sz:Nat} {cs cs' vs:List Value} {v:Value} [hs:SzF X.P t sz] (hx:ZV fr x=some (.pointer (some ⟨b,o,none⟩))) (hS:Sp wm T h0 G h) (pk:Pk G (bx wm b cs) Gr) (hy:ZV fr y=some v)
 (hvs:v.cells.toList=vs) (hn:Nat.beq vs.length sz=true) (hl:Nat.ble (o + sz) cs.length=true) (hc:vs.all Value.oneCell'=true) (hv:splice cs o vs=cs'):
 HU X wm ⟨none,.store t x y,ty,p',af,g⟩ fr h (fun i=>i=b) (fun h'=>Sp wm T h0 (bx wm b cs'::Gr) h'):=J5 hS pk hs.out hx hy hvs hn hl hc hv
theorem ZFr {x:Operand} {t e':TypeId} {a:Option Addr} {mm cc dd:Nat} [hu:Zji X.P t e'] (hx:ZV fr x=some (.slice a mm cc)):
 Xi X h (ZV fr) ⟨some dd,.call {callee:= .builtin .len,args:=#[x],argTypes:=#[t]},ty,p',af,g⟩=some (.val (.int .i64 (mm:Int)),.none):=ZlI hu.out hx rfl
end
section
variable {X:Ctx} {n wm:Nat} {rd:Option Nat} {ops:Array Oper} {l:List Oper} {fr:Fr} {ds:List Deferred} {h:H} {ty:TypeId} {p:String} {af:Array Edge} {g:Option (Nat×Bool)} {sf:ST} {m:Nat}
theorem WX.w2 {Q:Fr ->H ->Prop} {d:Nat} {op:Op} {v:Value} (hg:ZO ops ⟨some d,op,ty,p,af,g⟩ fr) (hd:Nat.blt d n=true) (hM:okM ops sf m ⟨some d,op,ty,p,af,g⟩=true) (ha:Xi X h (ZV fr) ⟨some d,op,ty,p,af,g⟩=some (.val v,.none)) (k:WX X n wm rd ops sf (m + 1) h l (Tr.set fr d v) Q):
 WX X n wm rd ops sf m h (⟨some d,op,ty,p,af,g⟩::l) fr Q:=WX.w hg hd ha k hM
theorem WX.gv2 {Q:Fr ->H ->Prop} {d:Nat} {op:Op} {c:Bool} {v:Value} (hg:Zi ops ⟨some d,op,ty,p,af,g⟩ fr c) (hd:Nat.blt d n=true) (hM:okM ops sf m ⟨some d,op,ty,p,af,g⟩=true) (ha:c=true ->Xi X h (ZV fr) ⟨some d,op,ty,p,af,g⟩=some (.val v,.none)) (k:WX X n wm rd ops sf (m + 1) h l (Tr.set fr d (cond c v undef)) Q):
 WX X n wm rd ops sf m h (⟨some d,op,ty,p,af,g⟩::l) fr Q:=WX.gv hg hd ha k hM
end
structure Kp (q:Prop):Prop where
 out:q
section
variable {X:Ctx} {n wm:Nat} {rd:Option Nat} {Q:XX ->Fs ->Prop}
theorem E0 {p:Prop}(h:p:=by(focus (repeat (first | with_reducible exact fh | ((with_reducible apply ZM);exact rfl) | ((with_reducible apply Yd);exact rfl) | ((with_reducible apply ZP);exact rfl) | ((with_reducible apply Zf);exact rfl) | with_reducible assumption));first|done|fail)):p:=h
theorem cn {c:Operand} {a b:Code} {t:Bool} {fr:Fr} {ds:List Deferred} {h:H} {α:Type} {x y r:α} (hL:(bif t then x else y)=r) (h1:t=true ->x=r ->WC X n wm rd a ⟨fr,ds,h,none⟩ Q) (h2:t=false ->y=r ->WC X n wm rd b ⟨fr,ds,h,none⟩ Q) (hc:ZV fr c=some (.bool t):=by(first | exact Ju rfl | (apply Zt;exact E0;(first | exact ia rfl | assumption)) | (apply Zaa;exact E0;(first | exact ia rfl | assumption);assumption) | fail)):WC X n wm rd (.cond c a b) ⟨fr,ds,h,none⟩ Q:=
 WC.Znv hc (fun e=>h1 e (WA e hL)) (fun e=>h2 e (WB e hL))
theorem rt {fn:Func} {fr:Fr} {h h0:H} {T:Nat ->Prop} {G G':List (Ast wm)} {wr:Option Nat} {t:Tmp} {β:Type} {x r:β} {g:β ->Value} (hL:some x=some r) (hT:T=XG G) (hS:Sp wm T h0 G' h) (hr:fn.results.toList= [.tmp t]:=by exact rfl) (hv:ZV fr (.tmp t)=some (g x):=by(first | exact Ju rfl | (apply Zt;exact E0;(first | exact ia rfl | assumption)) | (apply Zaa;exact E0;(first | exact ia rfl | assumption);assumption) | fail)):
 ZR X fn (fun e h'=>∃ v,e= .ret v∧CP (fun v Gb=>v=g r∧Gb= []) G h0 v h') .ret ⟨fr,[],h,wr⟩:=by
 cases hL;exact ZR.Js hr (ZB hv Zm) ⟨_,⟨rfl,rfl⟩,hT ▸ hS.only .n⟩
theorem bg {f:FuncId} {fn:Func} {c:Code} {args:List Value} {n:Nat} {K:Value ->List (Ast wm) ->Prop} {G:List (Ast wm)} {h:H} {fr:Fr} (hnt:fn.ntmps=n) (ZE:wm <=h.size) (hO:ZQ G h)
 (k:∀ T,T=XG (wm:=wm) G ->Sp wm T h G h ->WC X n wm none c ⟨fr,[],h,none⟩ (ZR X fn (fun e h'=>∃ v,e= .ret v∧CP K G h v h'))) (hf:X.fns.get f=some fn:=by kernel_rfl) (hb:fn.body=some c:=by exact rfl) (hn:args.length <=n:=by simp)
 (hfr:XI args 0 .nil=fr:=by(simp only [ZG,ZN,Nat.reduceAdd];exact rfl)):WR X f args.toArray wm h (CP K G h):=by
 subst hfr;exact WF.begin hf hb hnt hn (k _ rfl (Sp.start ZE hO))
end
theorem lk {p:Prop} (h:p:=by(first | exact Ju rfl | (apply Zt;exact E0;(first | exact ia rfl | assumption)) | (apply Zaa;exact E0;(first | exact ia rfl | assumption);assumption) | fail)):p:=h
theorem lks {p:Prop} (h:p:=by
 repeat (first | exact Zk | (apply Zc;(focus (first | exact Ju rfl | (apply Zt;exact E0;(first | exact ia rfl | assumption)) | (apply Zaa;exact E0;(first | exact ia rfl | assumption);assumption) | fail);done)))
 done):p:=h
theorem YV {p:Prop} (h:p:=by
 repeat (first | with_reducible exact fh | ((with_reducible apply ZM);exact rfl) | ((with_reducible apply Yd);exact rfl) | ((with_reducible apply ZP);exact rfl) | ((with_reducible apply Zf);exact rfl) | with_reducible assumption | refine⟨?_,?_⟩)
 done):p:=h
theorem r1 {p q:Prop} (k:q) (h:Kp q ->p:=by
 intro k
 first
 | refine WO.nil ?_
 | refine QA.Yy ?_
 | refine WC.seq ?_
 | refine WC.region ?_
 | ((first | apply WO.w gN rfl | (apply WO.gv;(focus (first | (apply Zi.yes rfl rfl rfl;exact E0) | (apply Zi.no rfl rfl rfl;exact E0) | (apply Zi.Zq0 rfl rfl rfl;exact E0) | (apply Zi.no2 rfl rfl rfl;exact E0) | fail);done);rfl;intro hg) | (apply WX.w2 gN;rfl;rfl) | (apply WX.gv2;(focus (first | (apply Zi.yes rfl rfl rfl;exact E0) | (apply Zi.no rfl rfl rfl;exact E0) | (apply Zi.Zq0 rfl rfl rfl;exact E0) | (apply Zi.no2 rfl rfl rfl;exact E0) | fail);done);rfl;rfl;intro hg));(focus (first
   | ((with_reducible apply YC);(first | exact Ju rfl | (apply Zt;exact E0;(first | exact ia rfl | assumption)) | (apply Zaa;exact E0;(first | exact ia rfl | assumption);assumption) | fail))
   | ((with_reducible apply ZIY);(focus (first | exact Ju rfl | (apply Zt;exact E0;(first | exact ia rfl | assumption)) | (apply Zaa;exact E0;(first | exact ia rfl | assumption);assumption) | fail);done);assumption;(focus (first | exact k0 | exact k1 | exact k2 | exact k3 | exact k4 | exact k5 | exact k6 | exact k7 | (repeat (first | exact k7 | apply Pk.s)));done);rfl)
   | ((with_reducible apply ZFt);(first | exact Ju rfl | (apply Zt;exact E0;(first | exact ia rfl | assumption)) | (apply Zaa;exact E0;(first | exact ia rfl | assumption);assumption) | fail))
   | ((with_reducible apply Z5);(first | exact Ju rfl | (apply Zt;exact E0;(first | exact ia rfl | assumption)) | (apply Zaa;exact E0;(first | exact ia rfl | assumption);assumption) | fail))
   | ((with_reducible apply Yb);(focus (first | exact Ju rfl | (apply Zt;exact E0;(first | exact ia rfl | assumption)) | (apply Zaa;exact E0;(first | exact ia rfl | assumption);assumption) | fail);done);(focus (first | exact Ju rfl | (apply Zt;exact E0;(first | exact ia rfl | assumption)) | (apply Zaa;exact E0;(first | exact ia rfl | assumption);assumption) | fail);done);(first | with_reducible exact Zsq | with_reducible exact JL | with_reducible exact Zct | with_reducible exact ZiF | with_reducible exact Zsm | with_reducible exact ZvH | with_reducible exact U1 | with_reducible exact ZvG | with_reducible exact Zso | with_reducible exact Zsp ZB0.out | with_reducible exact Zsn ZB0.out))
   | ((with_reducible apply ZFs);(focus (first | exact Ju rfl | (apply Zt;exact E0;(first | exact ia rfl | assumption)) | (apply Zaa;exact E0;(first | exact ia rfl | assumption);assumption) | fail);done);assumption;(focus (first | exact k0 | exact k1 | exact k2 | exact k3 | exact k4 | exact k5 | exact k6 | exact k7 | (repeat (first | exact k7 | apply Pk.s)));done);rfl;(focus simp only [Nat.zero_add,Nat.reduceAdd,List.drop_succ_cons,List.drop_zero,List.take_succ_cons,List.take_zero,List.take_nil];rfl))
   | ((with_reducible apply ZFr);(first | exact Ju rfl | (apply Zt;exact E0;(first | exact ia rfl | assumption)) | (apply Zaa;exact E0;(first | exact ia rfl | assumption);assumption) | fail))
   | ((with_reducible apply Ws);(focus (first | exact Ju rfl | (apply Zt;exact E0;(first | exact ia rfl | assumption)) | (apply Zaa;exact E0;(first | exact ia rfl | assumption);assumption) | fail);done);rfl)
   | ((with_reducible apply ZlH);(first | exact Ju rfl | (apply Zt;exact E0;(first | exact ia rfl | assumption)) | (apply Zaa;exact E0;(first | exact ia rfl | assumption);assumption) | fail))
   | ((with_reducible apply Zpj);(first | exact Ju rfl | (apply Zt;exact E0;(first | exact ia rfl | assumption)) | (apply Zaa;exact E0;(first | exact ia rfl | assumption);assumption) | fail))
   | ((with_reducible apply QK);(focus (first | exact Ju rfl | (apply Zt;exact E0;(first | exact ia rfl | assumption)) | (apply Zaa;exact E0;(first | exact ia rfl | assumption);assumption) | fail);done);(focus (apply Zcf;exact E0);done);(first | exact Ju rfl | (apply Zt;exact E0;(first | exact ia rfl | assumption)) | (apply Zaa;exact E0;(first | exact ia rfl | assumption);assumption) | fail))
   | ((with_reducible apply Zzi);(focus (first | exact Ju rfl | (apply Zt;exact E0;(first | exact ia rfl | assumption)) | (apply Zaa;exact E0;(first | exact ia rfl | assumption);assumption) | fail);done);(focus (first | exact Ju rfl | (apply Zt;exact E0;(first | exact ia rfl | assumption)) | (apply Zaa;exact E0;(first | exact ia rfl | assumption);assumption) | fail);done);(apply Zcf;exact E0))
   | fail)))
 | (apply WO.hu gN;(focus (first | (((with_reducible apply ZIX));(focus (first | exact Ju rfl | (apply Zt;exact E0;(first | exact ia rfl | assumption)) | (apply Zaa;exact E0;(first | exact ia rfl | assumption);assumption) | fail);done);assumption;(focus (first | exact k0 | exact k1 | exact k2 | exact k3 | exact k4 | exact k5 | exact k6 | exact k7 | (repeat (first | exact k7 | apply Pk.s)));done);(focus (first | exact Ju rfl | (apply Zt;exact E0;(first | exact ia rfl | assumption)) | (apply Zaa;exact E0;(first | exact ia rfl | assumption);assumption) | fail);done);(focus (first | (simp only [ZfH,ZdN,Zci,ZfF,ZfG,ZfJ,Zbv,cells_func,ZaD,KY,Zcj];exact rfl) | exact rfl));exact rfl;exact rfl;exact rfl;(focus simp only [splice,List.take_succ_cons,List.take_zero,List.drop_succ_cons,List.drop_zero,List.cons_append,List.nil_append,List.append_nil,List.length_cons,List.length_nil,Nat.reduceAdd,Nat.zero_add,List.take_nil,List.drop_nil];exact rfl)) | fail)))
 | (apply WO.hn gN rfl;(focus (first | (((with_reducible apply ZFu));(focus (first | exact Ju rfl | (apply Zt;exact E0;(first | exact ia rfl | assumption)) | (apply Zaa;exact E0;(first | exact ia rfl | assumption);assumption) | fail);done);assumption;(focus (first | (simp only [ZfH,ZdN,Zci,ZfF,ZfG,ZfJ,Zbv,cells_func,ZaD,KY,Zcj];exact rfl) | exact rfl))) | (((with_reducible apply ZFv));assumption;(focus (first | (simp only [ZfH,ZdN,Zci,ZfF,ZfG,ZfJ,Zbv,cells_func,ZaD,KY,Zcj];exact rfl) | exact rfl))) | fail)))
 | refine WC.skip ?_
 | refine WC.ret ?_
 | refine WC.block ?_
 | refine WC.exit ?_
 | refine QA.ret ?_
 | refine QA.exit ?_
 | refine U5.ret ?_
 | refine U5.Yy ?_
 | refine U5.here ?_
 | refine Yz.exit ?_
 | refine Yz.ret ?_
 | refine WX.nil ?_
 | fail
 exact k.out):p:=h ⟨k⟩
theorem r2 {p q:Prop} (k:q) (h:Kp q ->p:=by
 intro k
 iterate 2 (refine r1 ?_)
 exact k.out):p:=h ⟨k⟩
theorem r3 {p q:Prop} (k:q) (h:Kp q ->p:=by
 intro k
 iterate 3 (refine r1 ?_)
 exact k.out):p:=h ⟨k⟩
theorem r4 {p q:Prop} (k:q) (h:Kp q ->p:=by
 intro k
 iterate 4 (refine r1 ?_)
 exact k.out):p:=h ⟨k⟩
theorem r6 {p q:Prop} (k:q) (h:Kp q ->p:=by
 intro k
 iterate 6 (refine r1 ?_)
 exact k.out):p:=h ⟨k⟩
theorem r8 {p q:Prop} (k:q) (h:Kp q ->p:=by
 intro k
 iterate 8 (refine r1 ?_)
 exact k.out):p:=h ⟨k⟩
theorem Ud {p q:Prop} (k:q) (h:Kp q ->p:=by
 intro k
 iterate 12 (refine r1 ?_)
 exact k.out):p:=h ⟨k⟩
theorem r16 {p q:Prop} (k:q) (h:Kp q ->p:=by
 intro k
 iterate 16 (refine r1 ?_)
 exact k.out):p:=h ⟨k⟩
end Go.Yw
end
end
section
noncomputable section
namespace Go.Proofs.Ytekpjgmhkkjhgaa
open Go.Yw Go.Lf
instance:ZdX XX.P 3:= ⟨Xm⟩
instance:ZdX XX.P 4:= ⟨ZI1⟩
instance:ZdX XX.P 5:= ⟨ZFG⟩
instance:ZdX XX.P 22:= ⟨Zzl⟩
instance:ZdX XX.P 23:= ⟨Zj5⟩
instance:ZdX XX.P 24:= ⟨ZvB⟩
instance:Zjk XX.P 26:= ⟨Wh⟩
instance:ZdX XX.P 27:= ⟨ZvA⟩
instance:Zjk XX.P 29:= ⟨ZiD⟩
instance:ZdX XX.P 32:= ⟨Zvz⟩
instance:ZdX XX.P 56:= ⟨ZFF⟩
instance:Zjk XX.P 58:= ⟨Zdg⟩
instance:ZdX XX.P 59:= ⟨ZnN⟩
instance:Zjk XX.P 61:= ⟨ZiC⟩
instance:ZdX XX.P 63:= ⟨ZFE⟩
instance:Zjk XX.P 65:= ⟨WY⟩
instance:Zjk XX.P 73:= ⟨Zdf⟩
instance:Zjk XX.P 80:= ⟨Zzk⟩
instance:Zjk XX.P 91:= ⟨ZFD⟩
instance:ZdX XX.P 94:= ⟨Zvy⟩
instance:ZdX XX.P 95:= ⟨Zgn⟩
instance:ZdX XX.P 110:= ⟨ZlO⟩
instance:Zjk XX.P 113:= ⟨ZBQ⟩
instance:SzF XX.P 3 1:= ⟨Y5⟩
instance:SzF XX.P 4 1:= ⟨Zym⟩
instance:SzF XX.P 5 1:= ⟨Zyl⟩
instance:SzF XX.P 22 1:= ⟨ZzJ⟩
instance:SzF XX.P 23 1:= ⟨Zoc⟩
instance:SzF XX.P 24 1:= ⟨ZzI⟩
instance:SzF XX.P 26 4:= ⟨Xz⟩
instance:SzF XX.P 29 4:= ⟨Zdl⟩
instance:SzF XX.P 32 1:= ⟨ZzH⟩
instance:SzF XX.P 58 5:= ⟨Xl⟩
instance:SzF XX.P 59 1:= ⟨ZbI⟩
instance:SzF XX.P 61 6:= ⟨Uo⟩
instance:SzF XX.P 63 1:= ⟨ZsR⟩
instance:SzF XX.P 65 2:= ⟨XL⟩
instance:SzF XX.P 73 2:= ⟨YT⟩
instance:SzF XX.P 80 4:= ⟨Zkh⟩
instance:SzF XX.P 91 4:= ⟨ZzG⟩
instance:SzF XX.P 94 1:= ⟨ZzF⟩
instance:SzF XX.P 110 1:= ⟨Zki⟩
instance:SzF XX.P 113 2:= ⟨Zwc⟩
instance:JN XX.P 26 0 0:= ⟨Zxr⟩
instance:JN XX.P 26 1 1:= ⟨Zxq⟩
instance:JN XX.P 26 2 2:= ⟨Zxp⟩
instance:JN XX.P 26 3 3:= ⟨Zxo⟩
instance:JN XX.P 29 0 0:= ⟨ZkT⟩
instance:JN XX.P 29 1 1:= ⟨Zbq⟩
instance:JN XX.P 29 2 2:= ⟨ZcL⟩
instance:JN XX.P 29 3 3:= ⟨Zbp⟩
instance:JN XX.P 58 0 0:= ⟨Zxn⟩
instance:JN XX.P 58 1 1:= ⟨Zxm⟩
instance:JN XX.P 58 2 2:= ⟨Zxl⟩
instance:JN XX.P 58 3 3:= ⟨Zxk⟩
instance:JN XX.P 58 4 4:= ⟨Zqm⟩
instance:JN XX.P 61 0 0:= ⟨Zxj⟩
instance:JN XX.P 61 1 1:= ⟨Zxi⟩
instance:JN XX.P 61 2 2:= ⟨Zql⟩
instance:JN XX.P 61 3 3:= ⟨ZkS⟩
instance:JN XX.P 61 4 4:= ⟨Zxh⟩
instance:JN XX.P 61 5 5:= ⟨Zxg⟩
instance:JN XX.P 65 0 0:= ⟨Zqk⟩
instance:JN XX.P 65 1 1:= ⟨Zxf⟩
instance:JN XX.P 73 0 0:= ⟨Zxe⟩
instance:JN XX.P 73 1 1:= ⟨Zxd⟩
instance:JN XX.P 80 0 0:= ⟨Zxc⟩
instance:JN XX.P 80 1 1:= ⟨Zxb⟩
instance:JN XX.P 80 2 2:= ⟨Zxa⟩
instance:JN XX.P 80 3 3:= ⟨Zw9⟩
instance:JN XX.P 91 2 2:= ⟨Zw8⟩
instance:JN XX.P 91 3 3:= ⟨Zw7⟩
instance:JN XX.P 97 0 0:= ⟨Zw6⟩
instance:JN XX.P 97 1 1:= ⟨Zw5⟩
instance:JN XX.P 97 2 2:= ⟨Zw4⟩
instance:JN XX.P 97 3 3:= ⟨ZkR⟩
instance:JN XX.P 97 4 4:= ⟨Zw3⟩
instance:Zji XX.P 22 59:= ⟨Zhc⟩
instance:Zji XX.P 23 58:= ⟨Ub⟩
instance:Zji XX.P 24 3:= ⟨X9⟩
instance:Zji XX.P 38 29:= ⟨ZCE⟩
instance:Zji XX.P 43 91:= ⟨ZCD⟩
instance:Zji XX.P 59 61:= ⟨Zjo⟩
instance:Zji XX.P 62 80:= ⟨ZsK⟩
instance:Zji XX.P 63 73:= ⟨Qz⟩
instance:Zji XX.P 69 5:= ⟨Zyi⟩
instance:ZB0 XX.P 4:= ⟨ZGz⟩
instance:Zcu XX.P 3 (.int .i64 0):= ⟨U6⟩
instance:Zcu XX.P 24 (.slice none 0 0):= ⟨Zzt⟩
instance:Zcu XX.P 26 (.agg #[.slice none 0 0,.slice none 0 0,.int .i64 0,.slice none 0 0]):= ⟨ZnU⟩
instance:Zcu XX.P 29 (.agg #[.int .i64 0,.int .i64 0,.int .i64 0,.int .i64 0]):= ⟨ZsE⟩
instance:Zcu XX.P 32 (.int .i64 0):= ⟨Zzs⟩
instance:Zcu XX.P 58 (.agg #[.int .i64 0,.int .i64 0,.int .i64 0,.int .i64 0,.int .i64 0]):= ⟨ZeL⟩
instance:Zcu XX.P 59 (.slice none 0 0):= ⟨ZsD⟩
instance:Zcu XX.P 61 (.agg #[.int .i64 0,.bool false,.int .i64 0,.int .i64 0,.int .i64 0,.bool false]):= ⟨Un⟩
instance:Zcu XX.P 65 (.agg #[.slice none 0 0,.slice none 0 0]):= ⟨ZnT⟩
instance:Zcu XX.P 73 (.agg #[.int .i64 0,.int .i64 0]):= ⟨Za4⟩
instance:Zcu XX.P 80 (.agg #[.int .u8 0,.int .u8 0,.int .u8 0,.int .u8 0]):= ⟨Zzr⟩
instance:Zcu XX.P 91 (.agg #[.int .i64 0,.int .i64 0,.int .i64 0,.int .i64 0]):= ⟨Zzq⟩
instance:Zcu XX.P 94 (.pointer none):= ⟨Zzp⟩
instance:Zcu XX.P 97 (.agg #[.int .i64 0,.int .i64 0,.map none,.slice none 0 0,.slice none 0 0]):= ⟨ZsC⟩
instance:Zcu XX.P 110 (.map none):= ⟨Zv1⟩
instance:Zcu XX.P 113 (.agg #[.int .i64 0,.int .i64 0]):= ⟨ZpE⟩
end Go.Proofs.Ytekpjgmhkkjhgaa
end
end
section
namespace Go.Proofs.Ytekpjgmhkkjhgaa
open Go.Lf
end Go.Proofs.Ytekpjgmhkkjhgaa
end
section
set_option maxRecDepth 20000
noncomputable section
namespace Go.Proofs.Ytekpjgmhkkjhgaa
open Go.Yw Go.Lf
end Go.Proofs.Ytekpjgmhkkjhgaa
end
end
section
namespace Go.Proofs.Ytekpjgmhkkjhgaa
open Go.Lf
def Zlf (p0:(List Int)) (p1:(List Int)):Int ->(Int ->Option Bool) ->Option Bool:=fun v6 Zf4=>
 (bif decide (v6 < (p0.length:Int)) then(Yg p0 v6).bind fun x9=>(Yg p1 v6).bind fun x12=>(bif(x9 !=x12) then some false else Zf4 (ZK (v6 + 1))) else some true)
def Zo3 (F:Nat) (p0:(List Int)) (p1:(List Int)):Option Bool:=
 (bif((p0.length:Int) != (p1.length:Int)) then some false else loop F (Zlf p0 p1) 0)
def Zo2 (p0:(List YI)):Option (List YI):=
 (app 16 ([]:List YI) p0).bind fun z3=>some z3
def Zfr (p0:ZaE) (p1:Int) (p2:Int) (p3:Int) (x5:Int) (v14:Int) (v26:Int) (x28:Int):Bool ->Option (Zn×Bool):=fun v41=>
 (bif v41 then some ((Zn.mk 2 x5 v14 v26),((decide (p2 > 0)) && (decide (p1 > 1)))) else(bif(x28==3) then some ((Zn.mk 3 x5 v14 0),decide (p2 > 0)) else(bif(x28==4) then some ((Zn.mk 4 x5 v14 v26),((decide (p2 > 0)) && (decide (p1 > 1)))) else(bif(p3==0) then some ((Zn.mk 0 0 0 0),false) else(Zdp (ZK p0.at_) p3).bind fun x47=>some ((Zn.mk 5 x47 0 0),true)))))
def Zfs (p0:ZaE) (p1:Int) (p2:Int) (p3:Int) (x5:Int) (v14:Int):Int ->Option (Zn×Bool):=fun v26=>
 (Zdp p0.ZX 9).bind fun x28=>(bif(x28==0) then some ((Zn.mk 1 x5 0 0),decide (p2 < 12)) else(bif(x28==1) then(Zfr p0 p1 p2 p3 x5 v14 v26 x28) (x28==1) else(Zfr p0 p1 p2 p3 x5 v14 v26 x28) (x28==2)))
def Zft (p0:ZaE) (p1:Int) (p2:Int) (p3:Int) (x5:Int):Int ->Option (Zn×Bool):=fun v14=>
 (bif decide (p1 > 1) then(Zdp (ZK p0.Zw) (ZK (p1 - 1))).bind fun x49=>(Zdp (ZK ((ZK (x5 + 1)) + x49)) p1).bind fun x50=>(Zfs p0 p1 p2 p3 x5 v14) x50 else(Zfs p0 p1 p2 p3 x5 v14) 0)
def ZuO (p0:ZaE) (p1:Int) (p2:Int) (p3:Int):Option (Zn×Bool):=
 (Zdp (ZK p0.at_) p1).bind fun x5=>(bif decide (p2 > 0) then(Zdp (ZK p0.name) p2).bind fun x51=>(Zft p0 p1 p2 p3 x5) x51 else(Zft p0 p1 p2 p3 x5) 0)
def Zh6 (p0:Zn) (p1:Int):Bool ->Option Bool:=fun v10=>
 (bif v10 then(bif((decide (p0.at_ >=0)) && (decide (p0.at_ < p1))) then some ((((decide (p0.Zw >=0)) && (decide (p0.Zw < p1))) && (p0.at_ !=p0.Zw)) && (decide (p0.name >=0))) else some ((false && (p0.at_ !=p0.Zw)) && (decide (p0.name >=0)))) else(bif(p0.ZX==3) then some ((((decide (p0.at_ >=0)) && (decide (p0.at_ < p1))) && (decide (p0.name >=0))) && (p0.Zw==0)) else some ((((p0.ZX==5) && (decide (p0.at_ >=0))) && (p0.name==0)) && (p0.Zw==0))))
def ZrU (p0:Zn) (p1:Int):Option Bool:=
 (bif(p0.ZX==1) then some ((((decide (p0.at_ >=0)) && (decide (p0.at_ < p1))) && (p0.name==0)) && (p0.Zw==0)) else(bif(p0.ZX==2) then(Zh6 p0 p1) (p0.ZX==2) else(Zh6 p0 p1) (p0.ZX==4)))
end Go.Proofs.Ytekpjgmhkkjhgaa
end
section
set_option maxRecDepth 20000
noncomputable section
namespace Go.Proofs.Ytekpjgmhkkjhgaa
open Go.Yw Go.Lf
theorem ZBp {F wm:Nat} {h:H} {p0 p1:(List Int)} {Zr:Option Addr} {Zq:Nat} {Yu:Option Addr} {Yt:Nat} {r:Bool} (ZE:wm <=h.size) (ZF:Sl (ZL .i64) wm h Zr Zq p0) (Q0:Sl (ZL .i64) wm h Yu Yt p1) (hL:Zo3 F p0 p1=some r):
 WR XX 37 #[.slice Zr p0.length Zq,.slice Yu p1.length Yt] wm h (CP (fun(v:Value) (Gb:List (Ast wm))=>v= .bool r∧Gb= []) [] h):=by
 refine bg Try.ntmps37 ZE ZQ.nil ?_;intro T hT hS;unfold Zo3 at hL;refine Ud ?_;refine r3 ?_;refine cn hL ?_ ?_
 ·intro hc hL;refine r6 ?_;refine r1 ?_;exact rt hL hT hS
 ·intro hc hL;refine r8 ?_;refine r3 ?_;refine WC.loop (WL.lift hL (fun(v6:Int) (s:Fs)=>∃ (Jt:Fr) (h1:H),s= ⟨Jt,[],h1,none⟩∧Sp wm T h [] h1∧Jt.at 0= .slice Zr p0.length Zq∧Jt.at 1= .slice Yu p1.length Yt∧Jt.at 12= .int .i64 (p0.length:Int)∧Jt.at 13= .int .i64 v6) ⟨_,_,rfl,hS.only .n,YV⟩ ?_);clear hL hS;rintro Zf4 v6 s ZhQ hL ⟨Jt,h1,rfl,hS,e3,e4,e5,e7⟩;dsimp only [Zlf] at hL;refine r6 ?_;refine cn hL ?_ ?_
  ·intro hc hL;refine r8 ?_;refine r3 ?_;refine WC.Yl mixed (by kernel_rfl) ?_;refine r2 ?_;obtain⟨x9,hx9,hL⟩:=bind_some hL;obtain⟨b10,o11,_,ZmQ,ZmV,ZmS,Zy6⟩:=Sl.at_ ZF hx9;refine WX.w gN rfl (Z4 X9 Y5 lk lk rfl ZmQ hx9) ?_ rfl;refine WX.w gN rfl (ZU Xm (Zt fh rfl) (At.fz hS.fz ZmS ZmV) (j:=0) rfl (v:= .int .i64 x9) rfl) ?_ rfl;refine r2 ?_;obtain⟨x12,ZiV,hL⟩:=bind_some hL;obtain⟨b13,o14,_,ZmP,ZmU,ZmR,Zug⟩:=Sl.at_ Q0 ZiV;refine WX.w gN rfl (Z4 X9 Y5 lk lk rfl ZmP ZiV) ?_ rfl;refine WX.w gN rfl (ZU Xm (Zt fh rfl) (At.fz hS.fz ZmR ZmU) (j:=0) rfl (v:= .int .i64 x12) rfl) ?_ rfl;refine r3 ?_;refine cn hL ?_ ?_
   ·intro hc hL;refine r8 ?_;refine r3 ?_;exact rt hL hT hS
   ·intro hc hL;refine r6 ?_;refine r1 ?_;exact Yz.Yy (ZhQ _ _ hL ⟨_,_,rfl,hS.only .n,YV⟩)
  ·intro hc hL;refine r8 ?_;refine r3 ?_;exact rt hL hT hS
theorem ZuS {F:Nat} {h:H} {p0 p1:(List Int)} {Zr:Option Addr} {Zq:Nat} {Yu:Option Addr} {Yt:Nat} {r:Bool} (ZF:Sl (ZL .i64) h.size h Zr Zq p0) (Q0:Sl (ZL .i64) h.size h Yu Yt p1) (hL:Zo3 F p0 p1=some r):Pure XX 37 #[.slice Zr p0.length Zq,.slice Yu p1.length Yt] h (.bool r):=
 WR.Qq rfl (ZBp (Nat.le_refl _) ZF Q0 hL)
theorem Zo1 {wm:Nat} {h:H} {p0:(List YI)} {Zr:Option Addr} {Zq:Nat} {r:(List YI)} (ZE:wm <=h.size) (ZF:Sl Ym wm h Zr Zq p0) (hL:Zo2 p0=some r):
 WR XX 42 #[.slice Zr p0.length Zq] wm h (CP (fun(v:Value) (Gb:List (Ast wm))=>∃ (Xk:Option Addr) (XA:Nat) (Xj:Nat),v= .slice Xk XA Xj∧Gb= [ow wm Ym Xk XA Xj r]) [] h):=by
 refine bg Try.ntmps42 ZE ZQ.nil ?_;intro T hT hS;unfold Zo2 at hL;refine r8 ?_;rcases Sl.cases ZF with⟨rfl,rfl,rfl⟩ | ⟨qa,rfl⟩
 ·
  refine r1 ?_;refine WO.w gN rfl (Yb (Zt fh rfl) (Ju rfl) (ZfS Qz)) ?_;refine r2 ?_;refine WC.Zly lk rfl ?_;rw [Zpn _ (by decide)] at hL;replace hL:some []=some r:=hL;refine r6 ?_;refine r1 ?_;have hS:=hS.nil (e:=Ym);have hr:=Option.some.inj hL;subst hr;exact ZR.Js rfl (ZB lk Zm) ⟨_,⟨none,0,0,rfl,rfl⟩,hT ▸ hS.only (.c k0 .n)⟩
 ·
  refine r1 ?_;refine WO.w gN rfl (Yb (Zt fh rfl) (Ju rfl) (ZfT Qz)) ?_;refine r2 ?_;refine WC.ZdM lk rfl ?_;refine r4 ?_;refine WO.hn gN rfl (Zgr (e:=Ym) hS Qz YT Za4 rfl rfl rfl ZC rfl [] rfl (xs:= ([]:List YI)) rfl (by intro q hq;cases hq) rfl) ?_;rintro _ h2 ⟨b1,eb1,rfl,hS⟩;refine r1 ?_;obtain⟨z3,hz3,hL⟩:=bind_some hL;refine WO.hv gN rfl (Zd4 (e:=Ym) hS k0 K6 lk lk (Sl.src (hS.sl ZF)) rfl hz3) ?_;rintro _ h6 ⟨a4,c5,rfl,hS⟩;refine r4 ?_;have hr:=Option.some.inj hL;subst hr;exact ZR.Js rfl (ZB lk Zm) ⟨_,⟨a4,z3.length,c5,rfl,rfl⟩,hT ▸ hS.only (.c k0 .n)⟩
theorem ZBm {wm:Nat} {h:H} {p0:ZaE} {p1 p2 p3:Int} {r:(Zn×Bool)} (ZE:wm <=h.size) (hL:ZuO p0 p1 p2 p3=some r):
 WR XX 45 #[.agg [.int .u8 p0.ZX,.int .u8 p0.at_,.int .u8 p0.name,.int .u8 p0.Zw].toArray,.int .i64 p1,.int .i64 p2,.int .i64 p3] wm h (CP (fun(v:Value) (Gb:List (Ast wm))=>v= .tuple [.agg [.int .i64 r.1.ZX,.int .i64 r.1.at_,.int .i64 r.1.name,.int .i64 r.1.Zw].toArray,.bool r.2].toArray∧Gb= []) [] h):=by
 refine bg Try.ntmps45 ZE ZQ.nil ?_;intro T hT hS;unfold ZuO at hL;refine r3 ?_;rintro _ h2 ⟨b1,eb1,rfl,hS⟩;refine r1 ?_;rintro _ h4 ⟨b3,eb3,rfl,hS⟩;refine r6 ?_;refine r1 ?_;refine WO.w gN rfl (Zcm Zn3 Zl8 lk) ?_;refine r1 ?_;obtain⟨x5,hx5,hL⟩:=bind_some hL;refine WO.w gN rfl (Yb (Zt (Zf rfl fh) rfl) (Zt fh rfl) (Jj hx5)) ?_;refine r4 ?_;refine r1 ?_;refine WC.ZaG (r:=r) (fun(v14:Int) (s:Fs)=>∃ (fr7:Fr) (h6:H),s= ⟨fr7,[],h6,none⟩∧Sp wm T h [bx wm b1 [.int .u8 p0.ZX,.int .u8 p0.at_,.int .u8 p0.name,.int .u8 p0.Zw],bx wm b3 [.int .i64 0,.int .i64 0,.int .i64 0,.int .i64 0]] h6∧fr7.at 1= .int .i64 p1∧fr7.at 2= .int .i64 p2∧fr7.at 3= .int .i64 p3∧fr7.at 4= .pointer (some ⟨b1,0,none⟩)∧fr7.at 8= .pointer (some ⟨b3,0,none⟩)∧fr7.at 10= .int .i64 x5∧fr7.at 11= .int .i64 v14∧fr7.at 12= .int .i64 0) (Zft p0 p1 p2 p3 x5) ?_ ?_
 ·clear hL hS;rintro v14 s hL ⟨fr7,h6,rfl,hS,e8,e9,e10,e11,e12,e13,e15,e16⟩;dsimp only [Zft] at hL;refine WC.ZaG (r:=r) (fun(v26:Int) (s:Fs)=>∃ (KU:Fr) (h17:H),s= ⟨KU,[],h17,none⟩∧Sp wm T h [bx wm b1 [.int .u8 p0.ZX,.int .u8 p0.at_,.int .u8 p0.name,.int .u8 p0.Zw],bx wm b3 [.int .i64 0,.int .i64 0,.int .i64 0,.int .i64 0]] h17∧KU.at 1= .int .i64 p1∧KU.at 2= .int .i64 p2∧KU.at 3= .int .i64 p3∧KU.at 4= .pointer (some ⟨b1,0,none⟩)∧KU.at 8= .pointer (some ⟨b3,0,none⟩)∧KU.at 10= .int .i64 x5∧KU.at 11= .int .i64 v14∧KU.at 12= .int .i64 v26) (Zfs p0 p1 p2 p3 x5 v14) ?_ ?_
  ·clear hL hS;rintro v26 s hL ⟨KU,h17,rfl,hS,e19,e20,e21,e22,e23,e24,e25,e27⟩;dsimp only [Zfs] at hL;refine r4 ?_;refine r1 ?_;obtain⟨x28,hx28,hL⟩:=bind_some hL;refine WO.w gN rfl (Yb (Zt fh rfl) (Ju rfl) (Jj hx28)) ?_;refine r8 ?_;refine r1 ?_;refine cn hL ?_ ?_
   ·intro hc hL;refine r3 ?_;refine WO.w gN rfl (Xf Ziv (Zh lk (Zh lk ZC)) rfl (cs':= [.int .i64 1,.int .i64 x5,.int .i64 0,.int .i64 0]) rfl) ?_;refine r3 ?_;rintro h29 hS;refine r6 ?_;have hr:=Option.some.inj hL;subst hr;exact ZR.gen (vs:= [.agg [.int .i64 1,.int .i64 x5,.int .i64 0,.int .i64 0].toArray,.bool (decide (p2 < 12))]) rfl (ZJ (ZM rfl (ZP rfl e23)) (ZT ZiD Zdl (hS.X7 k0) (j:=0) rfl rfl (ws:= [.int .i64 1,.int .i64 x5,.int .i64 0,.int .i64 0]) rfl) (ZB lk Zm)) rfl ⟨_,⟨rfl,rfl⟩,hT ▸ hS.only .n⟩
   ·intro hc hL;refine WC.ZaG (r:=r) (fun(v41:Bool) (s:Fs)=>∃ (Zgx:Fr) (h30:H),s= ⟨Zgx,[],h30,none⟩∧Sp wm T h [bx wm b1 [.int .u8 p0.ZX,.int .u8 p0.at_,.int .u8 p0.name,.int .u8 p0.Zw],bx wm b3 [.int .i64 0,.int .i64 0,.int .i64 0,.int .i64 0]] h30∧Zgx.at 1= .int .i64 p1∧Zgx.at 2= .int .i64 p2∧Zgx.at 3= .int .i64 p3∧Zgx.at 4= .pointer (some ⟨b1,0,none⟩)∧Zgx.at 8= .pointer (some ⟨b3,0,none⟩)∧Zgx.at 10= .int .i64 x5∧Zgx.at 11= .int .i64 v14∧Zgx.at 12= .int .i64 v26∧Zgx.at 40= .int .u8 x28∧Zgx.at 47= .bool v41) (Zfr p0 p1 p2 p3 x5 v14 v26 x28) ?_ ?_
    ·clear hL hS;rintro v41 s hL ⟨Zgx,h30,rfl,hS,e32,e33,e34,e35,e36,e37,e38,e39,e40,e42⟩;dsimp only [Zfr] at hL;refine cn hL ?_ ?_
     ·intro hc hL;refine r4 ?_;refine r1 ?_;refine WO.w gN rfl (Xf Ziv (Zh lk (Zh lk (Zh lk (Zh lk ZC)))) rfl (cs':= [.int .i64 2,.int .i64 x5,.int .i64 v14,.int .i64 v26]) rfl) ?_;refine r6 ?_;refine r1 ?_;rintro h43 hS;refine r6 ?_;have hr:=Option.some.inj hL;subst hr;exact ZR.gen (vs:= [.agg [.int .i64 2,.int .i64 x5,.int .i64 v14,.int .i64 v26].toArray,.bool ((decide (p2 > 0)) && (decide (p1 > 1)))]) rfl (ZJ (ZM rfl (ZP rfl (Zf rfl e36))) (ZT ZiD Zdl (hS.X7 k0) (j:=0) rfl rfl (ws:= [.int .i64 2,.int .i64 x5,.int .i64 v14,.int .i64 v26]) rfl) (ZB lk Zm)) rfl ⟨_,⟨rfl,rfl⟩,hT ▸ hS.only .n⟩
     ·intro hc hL;refine r6 ?_;refine cn hL ?_ ?_
      ·intro hc hL;refine r4 ?_;refine WO.w gN rfl (Xf Ziv (Zh lk (Zh lk (Zh lk ZC))) rfl (cs':= [.int .i64 3,.int .i64 x5,.int .i64 v14,.int .i64 0]) rfl) ?_;refine r3 ?_;rintro h44 hS;refine r6 ?_;have hr:=Option.some.inj hL;subst hr;exact ZR.gen (vs:= [.agg [.int .i64 3,.int .i64 x5,.int .i64 v14,.int .i64 0].toArray,.bool (decide (p2 > 0))]) rfl (ZJ (ZM rfl e36) (ZT ZiD Zdl (hS.X7 k0) (j:=0) rfl rfl (ws:= [.int .i64 3,.int .i64 x5,.int .i64 v14,.int .i64 0]) rfl) (ZB lk Zm)) rfl ⟨_,⟨rfl,rfl⟩,hT ▸ hS.only .n⟩
      ·intro hc hL;refine r6 ?_;refine cn hL ?_ ?_
       ·intro hc hL;refine r4 ?_;refine r1 ?_;refine WO.w gN rfl (Xf Ziv (Zh lk (Zh lk (Zh lk (Zh lk ZC)))) rfl (cs':= [.int .i64 4,.int .i64 x5,.int .i64 v14,.int .i64 v26]) rfl) ?_;refine r6 ?_;refine r1 ?_;rintro h45 hS;refine r6 ?_;have hr:=Option.some.inj hL;subst hr;exact ZR.gen (vs:= [.agg [.int .i64 4,.int .i64 x5,.int .i64 v14,.int .i64 v26].toArray,.bool ((decide (p2 > 0)) && (decide (p1 > 1)))]) rfl (ZJ (ZM rfl (Yd rfl (ZP rfl (Zf rfl e36)))) (ZT ZiD Zdl (hS.X7 k0) (j:=0) rfl rfl (ws:= [.int .i64 4,.int .i64 x5,.int .i64 v14,.int .i64 v26]) rfl) (ZB lk Zm)) rfl ⟨_,⟨rfl,rfl⟩,hT ▸ hS.only .n⟩
       ·intro hc hL;refine r8 ?_;refine r2 ?_;refine cn hL ?_ ?_
        ·intro hc hL;refine r2 ?_;refine WO.w gN rfl (Xf Ziv ZC rfl (cs':= [.int .i64 0,.int .i64 0,.int .i64 0,.int .i64 0]) rfl) ?_;refine r1 ?_;rintro h46 hS;refine r4 ?_;refine r1 ?_;have hr:=Option.some.inj hL;subst hr;exact ZR.gen (vs:= [.agg [.int .i64 0,.int .i64 0,.int .i64 0,.int .i64 0].toArray,.bool false]) rfl (ZJ (ZM rfl e36) (ZT ZiD Zdl (hS.X7 k0) (j:=0) rfl rfl (ws:= [.int .i64 0,.int .i64 0,.int .i64 0,.int .i64 0]) rfl) (ZB lk Zm)) rfl ⟨_,⟨rfl,rfl⟩,hT ▸ hS.only .n⟩
        ·intro hc hL;refine r6 ?_;refine WO.w gN rfl (Zcm Zn3 Zl8 lk) ?_;refine r1 ?_;obtain⟨x47,Zz6,hL⟩:=bind_some hL;refine WO.w gN rfl (Yb (Zt (Zf rfl fh) rfl) (Zt fh rfl) (Jj Zz6)) ?_;refine WO.w gN rfl (Xf Ziv (Zh lk (Zh lk ZC)) rfl (cs':= [.int .i64 5,.int .i64 x47,.int .i64 0,.int .i64 0]) rfl) ?_;refine r1 ?_;rintro h48 hS;refine r4 ?_;have hr:=Option.some.inj hL;subst hr;exact ZR.gen (vs:= [.agg [.int .i64 5,.int .i64 x47,.int .i64 0,.int .i64 0].toArray,.bool true]) rfl (ZJ (ZM rfl (Yd rfl (Zf rfl e36))) (ZT ZiD Zdl (hS.X7 k0) (j:=0) rfl rfl (ws:= [.int .i64 5,.int .i64 x47,.int .i64 0,.int .i64 0]) rfl) (ZB lk Zm)) rfl ⟨_,⟨rfl,rfl⟩,hT ▸ hS.only .n⟩
    ·skip;refine r6 ?_;refine cn hL ?_ ?_
     ·intro hc hL;refine r1 ?_;exact YR.Yy _ hL ⟨_,_,rfl,hS.only (.c k0 (.c k0 .n)),YV⟩
     ·intro hc hL;refine r4 ?_;exact YR.Yy _ hL ⟨_,_,rfl,hS.only (.c k0 (.c k0 .n)),YV⟩
  ·skip;refine r6 ?_;refine cn hL ?_ ?_
   ·intro hc hL;refine r4 ?_;refine r1 ?_;refine WO.w gN rfl (Zcm Zn3 Zl8 lk) ?_;refine r2 ?_;obtain⟨x49,Zrv,hL⟩:=bind_some hL;refine WO.w gN rfl (Yb (Zt (ZP rfl fh) rfl) (Zt fh rfl) (Jj Zrv)) ?_;refine r2 ?_;obtain⟨x50,Zz5,hL⟩:=bind_some hL;refine WO.w gN rfl (Yb (Zt (Zf rfl fh) rfl) (Zt fh rfl) (Jj Zz5)) ?_;refine r2 ?_;exact YR.Yy _ hL ⟨_,_,rfl,hS.only (.c k0 (.c k0 .n)),YV⟩
   ·intro hc hL;refine r1 ?_;exact YR.Yy _ hL ⟨_,_,rfl,hS.only (.c k0 (.c k0 .n)),YV⟩
 ·skip;refine r6 ?_;refine cn hL ?_ ?_
  ·intro hc hL;refine r3 ?_;refine WO.w gN rfl (Zcm Zn3 Zl8 lk) ?_;refine r1 ?_;obtain⟨x51,ZHg,hL⟩:=bind_some hL;refine WO.w gN rfl (Yb (Zt (Zf rfl fh) rfl) (Zt fh rfl) (Jj ZHg)) ?_;refine r2 ?_;exact YR.Yy _ hL ⟨_,_,rfl,hS.only (.c k1 (.c k0 .n)),YV⟩
  ·intro hc hL;refine r1 ?_;exact YR.Yy _ hL ⟨_,_,rfl,hS.only (.c k1 (.c k0 .n)),YV⟩
theorem ZBk {wm:Nat} {h:H} {p0:Zn} {p1:Int} {r:Bool} (ZE:wm <=h.size) (hL:ZrU p0 p1=some r):
 WR XX 55 #[.agg [.int .i64 p0.ZX,.int .i64 p0.at_,.int .i64 p0.name,.int .i64 p0.Zw].toArray,.int .i64 p1] wm h (CP (fun(v:Value) (Gb:List (Ast wm))=>v= .bool r∧Gb= []) [] h):=by
 refine WF.begin (args:= [_,_]) (fn:=Try.f55) (by kernel_rfl) (by exact rfl) Try.ntmps55 (by simp) ?_;simp only [ZG,ZN,Nat.reduceAdd];obtain⟨T,hT,hS⟩:∃ T,T=XG (wm:=wm) []∧Sp wm T h [] h:= ⟨_,rfl,Sp.start ZE ZQ.nil⟩
 unfold ZrU at hL;refine WC.seq ?_;refine WC.region ?_;refine WO.hn gN rfl (ZpJ hS (Zt (Zf rfl fh) rfl) (vs:= [.int .i64 p0.ZX,.int .i64 p0.at_,.int .i64 p0.name,.int .i64 p0.Zw]) rfl) ?_;rintro _ h2 ⟨b1,eb1,rfl,hS⟩;refine WO.hn gN rfl (ZpJ hS (Zt (Zf rfl fh) rfl) (vs:= [.int .i64 p1]) rfl) ?_;rintro _ h4 ⟨b3,eb3,rfl,hS⟩;refine WO.w gN rfl (Z5 (Ju rfl)) ?_;refine WO.nil ?_;refine QA.Yy ?_;refine WC.seq ?_;refine WC.region ?_;refine WO.w gN rfl (ZdP (Zc (Zt (Zf rfl fh) rfl) Zk)) ?_;refine WO.w gN rfl (Z5 (Zt fh rfl)) ?_;refine WO.nil ?_;refine QA.Yy ?_;refine WC.seq ?_;refine WC.seq ?_;refine WC.region ?_;refine WO.w gN rfl (Xu ZkT (Zt (Yd rfl fh) rfl)) ?_;refine WO.w gN rfl (ZU ZvA (Zt fh rfl) (hS.X7 k1) (j:=0) rfl (v:= .int .i64 p0.ZX) rfl) ?_;refine WO.nil ?_;refine QA.Yy ?_;refine WC.block ?_;refine WC.seq ?_;refine WC.region ?_;refine WO.w gN rfl (Yb (Zt fh rfl) (Ju rfl) JL) ?_;refine WO.w gN rfl (Z5 (Zt fh rfl)) ?_;refine WO.nil ?_;refine QA.Yy ?_;refine WC.Znv (Zt fh rfl) (fun hc=>?_) (fun hc=>?_)
 ·replace hL:=WA hc hL;refine WC.seq ?_;refine WC.region ?_;refine WO.w gN rfl (YC (Zt (Yd rfl fh) rfl)) ?_;refine WO.w gN rfl (Xu Zbq (Zt (ZM rfl (Zf rfl fh)) rfl)) ?_;refine WO.w gN rfl (ZU Xm (Zt fh rfl) (hS.X7 k1) (j:=1) rfl (v:= .int .i64 p0.at_) rfl) ?_;refine WO.inl gN rfl (YS.clo (first:= []) (cap:= [.pointer (some ⟨b3,0,none⟩)]) (Zt (ZP rfl fh) rfl) Zp7 (Zc (Zt fh rfl) Zk) rfl) (WF.begin (args:= [_,_]) (fn:=Try.f92) (by kernel_rfl) (by exact rfl) Try.ntmps92 (by simp) ?_);simp only [ZG,ZN,Nat.reduceAdd];refine WC.seq ?_;refine WC.region ?_;refine WO.w gN rfl (Z5 (Ju rfl)) ?_;refine WO.nil ?_;refine QA.Yy ?_;refine WC.seq ?_;refine WC.region ?_;refine WO.w gN rfl (YC (Zt (ZP rfl fh) rfl)) ?_;refine WO.w gN rfl (Yb (Zt fh rfl) (Ju rfl) U1) ?_;refine WO.w gN rfl (YC (Zt fh rfl)) ?_;refine WO.gv (Zi.yes rfl rfl rfl fh) rfl (fun hg=>(YC (Zt (Yd rfl (Zf rfl fh)) rfl))) ?_;refine WO.gv (Zi.yes rfl rfl rfl (Zf rfl fh)) rfl (fun hg=>(ZU Xm (Zt (Yd rfl (Zf rfl fh)) rfl) (hS.X7 k0) (j:=0) rfl (v:= .int .i64 p1) rfl)) ?_;refine WO.gv (Zi.yes rfl rfl rfl (ZP rfl fh)) rfl (fun hg=>(Yb (XJ (Zf rfl fh) rfl hg) (XJ fh rfl hg) Zct)) ?_;refine WO.w gN rfl (QK (Zt (ZP rfl (Zf rfl fh)) rfl) (Zcf fh) (Ju rfl)) ?_;refine WO.w gN rfl (Z5 (Zt fh rfl)) ?_;refine WO.nil ?_;refine QA.Yy ?_;refine WC.ret ?_;refine ZR.Js rfl (ZB (Zt fh rfl) Zm) ?_;refine WO.w gN rfl (YC (Zt fh rfl)) ?_;refine WO.gv (Zi.yes rfl rfl rfl fh) rfl (fun hg=>(Xu ZcL (Zt (ZM rfl (Yd rfl (Zf rfl fh))) rfl))) ?_;refine WO.gv (Zi.yes rfl rfl rfl (Zf rfl fh)) rfl (fun hg=>(ZU Xm (XJ fh rfl hg) (hS.X7 k1) (j:=2) rfl (v:= .int .i64 p0.name) rfl)) ?_;refine WO.gv (Zi.yes rfl rfl rfl (ZP rfl fh)) rfl (fun hg=>(Yb (XJ fh rfl hg) (Ju rfl) JL)) ?_;refine WO.w gN rfl (QK (Zt (ZP rfl (Zf rfl fh)) rfl) (Zcf fh) (Ju rfl)) ?_;refine WO.w gN rfl (YC (Zt fh rfl)) ?_;refine WO.gv (Zi.yes rfl rfl rfl fh) rfl (fun hg=>(Xu Zbp (Zt (ZM rfl (ZM rfl (ZP rfl fh))) rfl))) ?_;refine WO.gv (Zi.yes rfl rfl rfl (Zf rfl fh)) rfl (fun hg=>(ZU Xm (XJ fh rfl hg) (hS.X7 k1) (j:=3) rfl (v:= .int .i64 p0.Zw) rfl)) ?_;refine WO.gv (Zi.yes rfl rfl rfl (ZP rfl fh)) rfl (fun hg=>(Yb (XJ fh rfl hg) (Ju rfl) JL)) ?_;refine WO.w gN rfl (QK (Zt (ZP rfl (Zf rfl fh)) rfl) (Zcf fh) (Ju rfl)) ?_;refine WO.w gN rfl (Z5 (Zt fh rfl)) ?_;refine WO.nil ?_;refine QA.Yy ?_;refine WC.ret ?_;refine U5.ret ?_;refine QA.ret ?_;have hr:=Option.some.inj hL;subst hr;exact ZR.Js rfl (ZB (Zt fh rfl) Zm) ⟨_,⟨rfl,rfl⟩,hT ▸ hS.only .n⟩
 ·replace hL:=WB hc hL;refine WC.ZaG (r:=r) (fun(v10:Bool) (s:Fs)=>∃ (fr6:Fr) (h5:H),s= ⟨fr6,[],h5,none⟩∧Sp wm T h [bx wm b1 [.int .i64 p0.ZX,.int .i64 p0.at_,.int .i64 p0.name,.int .i64 p0.Zw],bx wm b3 [.int .i64 p1]] h5∧fr6.at 2= .pointer (some ⟨b1,0,none⟩)∧fr6.at 5= .func (.func 92) #[] [.pointer (some ⟨b3,0,none⟩)].toArray∧fr6.at 8= .int .i64 p0.ZX∧fr6.at 25= .bool v10) (Zh6 p0 p1) ?_ ?_
  ·clear hL hS;rintro v10 s hL ⟨fr6,h5,rfl,hS,e7,e8,e9,e11⟩;dsimp only [Zh6] at hL;refine WC.Znv (Zt e11 rfl) (fun hc=>?_) (fun hc=>?_)
   ·replace hL:=WA hc hL;refine WC.seq ?_;refine WC.region ?_;refine WO.w gN rfl (YC (Zt e8 rfl)) ?_;refine WO.w gN rfl (Xu Zbq (Zt (Zf rfl e7) rfl)) ?_;refine WO.w gN rfl (ZU Xm (Zt fh rfl) (hS.X7 k0) (j:=1) rfl (v:= .int .i64 p0.at_) rfl) ?_;refine WO.inl gN rfl (YS.clo (first:= []) (cap:= [.pointer (some ⟨b3,0,none⟩)]) (Zt (ZP rfl fh) rfl) Zp7 (Zc (Zt fh rfl) Zk) rfl) (WF.begin (args:= [_,_]) (fn:=Try.f92) (by kernel_rfl) (by exact rfl) Try.ntmps92 (by simp) ?_);simp only [ZG,ZN,Nat.reduceAdd];refine WC.seq ?_;refine WC.region ?_;refine WO.w gN rfl (Z5 (Ju rfl)) ?_;refine WO.nil ?_;refine QA.Yy ?_;refine WC.seq ?_;refine WC.region ?_;refine WO.w gN rfl (YC (Zt (ZP rfl fh) rfl)) ?_;refine WO.w gN rfl (Yb (Zt fh rfl) (Ju rfl) U1) ?_;refine WO.w gN rfl (YC (Zt fh rfl)) ?_;refine WO.gv (Zi.yes rfl rfl rfl fh) rfl (fun hg=>(YC (Zt (Yd rfl (Zf rfl fh)) rfl))) ?_;refine WO.gv (Zi.yes rfl rfl rfl (Zf rfl fh)) rfl (fun hg=>(ZU Xm (Zt (Yd rfl (Zf rfl fh)) rfl) (hS.X7 k1) (j:=0) rfl (v:= .int .i64 p1) rfl)) ?_;refine WO.gv (Zi.yes rfl rfl rfl (ZP rfl fh)) rfl (fun hg=>(Yb (XJ (Zf rfl fh) rfl hg) (XJ fh rfl hg) Zct)) ?_;refine WO.w gN rfl (QK (Zt (ZP rfl (Zf rfl fh)) rfl) (Zcf fh) (Ju rfl)) ?_;refine WO.w gN rfl (Z5 (Zt fh rfl)) ?_;refine WO.nil ?_;refine QA.Yy ?_;refine WC.ret ?_;refine ZR.Js rfl (ZB (Zt fh rfl) Zm) ?_;refine WO.w gN rfl (YC (Zt fh rfl)) ?_;refine WO.gv (Zi.yes rfl rfl rfl fh) rfl (fun hg=>(YC (Zt (Yd rfl (Zf rfl e8)) rfl))) ?_;refine WO.gv (Zi.yes rfl rfl rfl (Zf rfl fh)) rfl (fun hg=>(Xu Zbp (Zt (Yd rfl (ZP rfl e7)) rfl))) ?_;refine WO.gv (Zi.yes rfl rfl rfl (ZP rfl fh)) rfl (fun hg=>(ZU Xm (XJ fh rfl hg) (hS.X7 k0) (j:=3) rfl (v:= .int .i64 p0.Zw) rfl)) ?_;refine WO.ZkJ (Zi.yes rfl rfl rfl (ZP rfl (Zf rfl fh))) (fun ZkG=>?_) (fun ZkG=>?_)
    ·replace hL:=WA ZkG hL;refine WO.inl (Zi.on (Zi.yes rfl rfl rfl (ZP rfl (Zf rfl fh))) ZkG) rfl (YS.clo (first:= []) (cap:= [.pointer (some ⟨b3,0,none⟩)]) (XJ (ZP rfl fh) rfl ZkG) Zp7 (Zc (XJ fh rfl ZkG) Zk) rfl) (WF.begin (args:= [_,_]) (fn:=Try.f92) (by kernel_rfl) (by exact rfl) Try.ntmps92 (by simp) ?_);simp only [ZG,ZN,Nat.reduceAdd];refine WC.seq ?_;refine WC.region ?_;refine WO.w gN rfl (Z5 (Ju rfl)) ?_;refine WO.nil ?_;refine QA.Yy ?_;refine WC.seq ?_;refine WC.region ?_;refine WO.w gN rfl (YC (Zt (ZP rfl fh) rfl)) ?_;refine WO.w gN rfl (Yb (Zt fh rfl) (Ju rfl) U1) ?_;refine WO.w gN rfl (YC (Zt fh rfl)) ?_;refine WO.gv (Zi.yes rfl rfl rfl fh) rfl (fun hg=>(YC (Zt (Yd rfl (Zf rfl fh)) rfl))) ?_;refine WO.gv (Zi.yes rfl rfl rfl (Zf rfl fh)) rfl (fun hg=>(ZU Xm (Zt (Yd rfl (Zf rfl fh)) rfl) (hS.X7 k1) (j:=0) rfl (v:= .int .i64 p1) rfl)) ?_;refine WO.gv (Zi.yes rfl rfl rfl (ZP rfl fh)) rfl (fun hg=>(Yb (XJ (Zf rfl fh) rfl hg) (XJ fh rfl hg) Zct)) ?_;refine WO.w gN rfl (QK (Zt (ZP rfl (Zf rfl fh)) rfl) (Zcf fh) (Ju rfl)) ?_;refine WO.w gN rfl (Z5 (Zt fh rfl)) ?_;refine WO.nil ?_;refine QA.Yy ?_;refine WC.ret ?_;refine ZR.Js rfl (ZB (Zt fh rfl) Zm) ?_;refine WO.w gN rfl (ZlF (Zt (Yd rfl fh) rfl) ZkG (Zt fh rfl)) ?_;refine WO.w gN rfl (YC (Zt fh rfl)) ?_;refine WO.gv (Zi.yes rfl rfl rfl fh) rfl (fun hg=>(Xu Zbq (Zt (ZM rfl (ZP rfl (Zf rfl e7))) rfl))) ?_;refine WO.gv (Zi.yes rfl rfl rfl (Zf rfl fh)) rfl (fun hg=>(ZU Xm (XJ fh rfl hg) (hS.X7 k0) (j:=1) rfl (v:= .int .i64 p0.at_) rfl)) ?_;refine WO.gv (Zi.yes rfl rfl rfl (ZP rfl fh)) rfl (fun hg=>(Xu Zbp (Zt (ZM rfl (Yd rfl (Zf rfl e7))) rfl))) ?_;refine WO.gv (Zi.yes rfl rfl rfl (ZP rfl (Zf rfl fh))) rfl (fun hg=>(ZU Xm (XJ fh rfl hg) (hS.X7 k0) (j:=3) rfl (v:= .int .i64 p0.Zw) rfl)) ?_;refine WO.gv (Zi.yes rfl rfl rfl (Yd rfl fh)) rfl (fun hg=>(Yb (XJ (ZP rfl fh) rfl hg) (XJ fh rfl hg) ZiF)) ?_;refine WO.w gN rfl (QK (Zt (Yd rfl (Zf rfl fh)) rfl) (Zcf fh) (Ju rfl)) ?_;refine WO.w gN rfl (YC (Zt fh rfl)) ?_;refine WO.gv (Zi.yes rfl rfl rfl fh) rfl (fun hg=>(Xu ZcL (Zt (ZM rfl (ZM rfl (ZP rfl e7))) rfl))) ?_;refine WO.gv (Zi.yes rfl rfl rfl (Zf rfl fh)) rfl (fun hg=>(ZU Xm (XJ fh rfl hg) (hS.X7 k0) (j:=2) rfl (v:= .int .i64 p0.name) rfl)) ?_;refine WO.gv (Zi.yes rfl rfl rfl (ZP rfl fh)) rfl (fun hg=>(Yb (XJ fh rfl hg) (Ju rfl) U1)) ?_;refine WO.w gN rfl (QK (Zt (ZP rfl (Zf rfl fh)) rfl) (Zcf fh) (Ju rfl)) ?_;refine WO.w gN rfl (Z5 (Zt fh rfl)) ?_;refine WO.nil ?_;refine QA.Yy ?_;refine WC.ret ?_;refine U5.ret ?_;refine QA.ret ?_;have hr:=Option.some.inj hL;subst hr;exact ZR.Js rfl (ZB (Zt fh rfl) Zm) ⟨_,⟨rfl,rfl⟩,hT ▸ hS.only .n⟩
    ·replace hL:=WB ZkG hL;refine WO.Zmy (Zi.yes rfl rfl rfl (ZP rfl (Zf rfl fh))) ZkG rfl ?_;refine WO.w gN rfl (ZlG (Zt (Yd rfl fh) rfl) ZkG (Ju rfl)) ?_;refine WO.w gN rfl (YC (Zt fh rfl)) ?_;refine WO.gv (Zi.yes rfl rfl rfl fh) rfl (fun hg=>(Xu Zbq (Zt (ZM rfl (ZP rfl (Zf rfl e7))) rfl))) ?_;refine WO.gv (Zi.yes rfl rfl rfl (Zf rfl fh)) rfl (fun hg=>(ZU Xm (XJ fh rfl hg) (hS.X7 k0) (j:=1) rfl (v:= .int .i64 p0.at_) rfl)) ?_;refine WO.gv (Zi.yes rfl rfl rfl (ZP rfl fh)) rfl (fun hg=>(Xu Zbp (Zt (ZM rfl (Yd rfl (Zf rfl e7))) rfl))) ?_;refine WO.gv (Zi.yes rfl rfl rfl (ZP rfl (Zf rfl fh))) rfl (fun hg=>(ZU Xm (XJ fh rfl hg) (hS.X7 k0) (j:=3) rfl (v:= .int .i64 p0.Zw) rfl)) ?_;refine WO.gv (Zi.yes rfl rfl rfl (Yd rfl fh)) rfl (fun hg=>(Yb (XJ (ZP rfl fh) rfl hg) (XJ fh rfl hg) ZiF)) ?_;refine WO.w gN rfl (QK (Zt (Yd rfl (Zf rfl fh)) rfl) (Zcf fh) (Ju rfl)) ?_;refine WO.w gN rfl (YC (Zt fh rfl)) ?_;refine WO.gv (Zi.yes rfl rfl rfl fh) rfl (fun hg=>(Xu ZcL (Zt (ZM rfl (ZM rfl (ZP rfl e7))) rfl))) ?_;refine WO.gv (Zi.yes rfl rfl rfl (Zf rfl fh)) rfl (fun hg=>(ZU Xm (XJ fh rfl hg) (hS.X7 k0) (j:=2) rfl (v:= .int .i64 p0.name) rfl)) ?_;refine WO.gv (Zi.yes rfl rfl rfl (ZP rfl fh)) rfl (fun hg=>(Yb (XJ fh rfl hg) (Ju rfl) U1)) ?_;refine WO.w gN rfl (QK (Zt (ZP rfl (Zf rfl fh)) rfl) (Zcf fh) (Ju rfl)) ?_;refine WO.w gN rfl (Z5 (Zt fh rfl)) ?_;refine WO.nil ?_;refine QA.Yy ?_;refine WC.ret ?_;refine U5.ret ?_;refine QA.ret ?_;have hr:=Option.some.inj hL;subst hr;exact ZR.Js rfl (ZB (Zt fh rfl) Zm) ⟨_,⟨rfl,rfl⟩,hT ▸ hS.only .n⟩
   ·replace hL:=WB hc hL;refine WC.seq ?_;refine WC.region ?_;refine WO.w gN rfl (Yb (Zt e9 rfl) (Ju rfl) JL) ?_;refine WO.w gN rfl (Z5 (Zt fh rfl)) ?_;refine WO.nil ?_;refine QA.Yy ?_;refine WC.Znv (Zt fh rfl) (fun hc=>?_) (fun hc=>?_)
    ·replace hL:=WA hc hL;refine WC.seq ?_;refine WC.region ?_;refine WO.w gN rfl (YC (Zt (ZP rfl e8) rfl)) ?_;refine WO.w gN rfl (Xu Zbq (Zt (ZP rfl (Zf rfl e7)) rfl)) ?_;refine WO.w gN rfl (ZU Xm (Zt fh rfl) (hS.X7 k0) (j:=1) rfl (v:= .int .i64 p0.at_) rfl) ?_;refine WO.inl gN rfl (YS.clo (first:= []) (cap:= [.pointer (some ⟨b3,0,none⟩)]) (Zt (ZP rfl fh) rfl) Zp7 (Zc (Zt fh rfl) Zk) rfl) (WF.begin (args:= [_,_]) (fn:=Try.f92) (by kernel_rfl) (by exact rfl) Try.ntmps92 (by simp) ?_);simp only [ZG,ZN,Nat.reduceAdd];refine WC.seq ?_;refine WC.region ?_;refine WO.w gN rfl (Z5 (Ju rfl)) ?_;refine WO.nil ?_;refine QA.Yy ?_;refine WC.seq ?_;refine WC.region ?_;refine WO.w gN rfl (YC (Zt (ZP rfl fh) rfl)) ?_;refine WO.w gN rfl (Yb (Zt fh rfl) (Ju rfl) U1) ?_;refine WO.w gN rfl (YC (Zt fh rfl)) ?_;refine WO.gv (Zi.yes rfl rfl rfl fh) rfl (fun hg=>(YC (Zt (Yd rfl (Zf rfl fh)) rfl))) ?_;refine WO.gv (Zi.yes rfl rfl rfl (Zf rfl fh)) rfl (fun hg=>(ZU Xm (Zt (Yd rfl (Zf rfl fh)) rfl) (hS.X7 k1) (j:=0) rfl (v:= .int .i64 p1) rfl)) ?_;refine WO.gv (Zi.yes rfl rfl rfl (ZP rfl fh)) rfl (fun hg=>(Yb (XJ (Zf rfl fh) rfl hg) (XJ fh rfl hg) Zct)) ?_;refine WO.w gN rfl (QK (Zt (ZP rfl (Zf rfl fh)) rfl) (Zcf fh) (Ju rfl)) ?_;refine WO.w gN rfl (Z5 (Zt fh rfl)) ?_;refine WO.nil ?_;refine QA.Yy ?_;refine WC.ret ?_;refine ZR.Js rfl (ZB (Zt fh rfl) Zm) ?_;refine WO.w gN rfl (YC (Zt fh rfl)) ?_;refine WO.gv (Zi.yes rfl rfl rfl fh) rfl (fun hg=>(Xu ZcL (Zt (Yd rfl (ZP rfl (Zf rfl e7))) rfl))) ?_;refine WO.gv (Zi.yes rfl rfl rfl (Zf rfl fh)) rfl (fun hg=>(ZU Xm (XJ fh rfl hg) (hS.X7 k0) (j:=2) rfl (v:= .int .i64 p0.name) rfl)) ?_;refine WO.gv (Zi.yes rfl rfl rfl (ZP rfl fh)) rfl (fun hg=>(Yb (XJ fh rfl hg) (Ju rfl) U1)) ?_;refine WO.w gN rfl (QK (Zt (ZP rfl (Zf rfl fh)) rfl) (Zcf fh) (Ju rfl)) ?_;refine WO.w gN rfl (YC (Zt fh rfl)) ?_;refine WO.gv (Zi.yes rfl rfl rfl fh) rfl (fun hg=>(Xu Zbp (Zt (ZM rfl (Yd rfl e7)) rfl))) ?_;refine WO.gv (Zi.yes rfl rfl rfl (Zf rfl fh)) rfl (fun hg=>(ZU Xm (XJ fh rfl hg) (hS.X7 k0) (j:=3) rfl (v:= .int .i64 p0.Zw) rfl)) ?_;refine WO.gv (Zi.yes rfl rfl rfl (ZP rfl fh)) rfl (fun hg=>(Yb (XJ fh rfl hg) (Ju rfl) JL)) ?_;refine WO.w gN rfl (QK (Zt (ZP rfl (Zf rfl fh)) rfl) (Zcf fh) (Ju rfl)) ?_;refine WO.w gN rfl (Z5 (Zt fh rfl)) ?_;refine WO.nil ?_;refine QA.Yy ?_;refine WC.ret ?_;refine U5.ret ?_;refine QA.ret ?_;have hr:=Option.some.inj hL;subst hr;exact ZR.Js rfl (ZB (Zt fh rfl) Zm) ⟨_,⟨rfl,rfl⟩,hT ▸ hS.only .n⟩
    ·replace hL:=WB hc hL;refine WC.skip ?_;refine U5.Yy ?_;refine QA.Yy ?_;refine WC.seq ?_;refine WC.region ?_;refine WO.w gN rfl (Xu ZkT (Zt (ZP rfl e7) rfl)) ?_;refine WO.w gN rfl (ZU ZvA (Zt fh rfl) (hS.X7 k0) (j:=0) rfl (v:= .int .i64 p0.ZX) rfl) ?_;refine WO.w gN rfl (Yb (Zt fh rfl) (Ju rfl) JL) ?_;refine WO.w gN rfl (YC (Zt fh rfl)) ?_;refine WO.gv (Zi.yes rfl rfl rfl fh) rfl (fun hg=>(Xu Zbq (Zt (Yd rfl (ZP rfl e7)) rfl))) ?_;refine WO.gv (Zi.yes rfl rfl rfl (Zf rfl fh)) rfl (fun hg=>(ZU Xm (XJ fh rfl hg) (hS.X7 k0) (j:=1) rfl (v:= .int .i64 p0.at_) rfl)) ?_;refine WO.gv (Zi.yes rfl rfl rfl (ZP rfl fh)) rfl (fun hg=>(Yb (XJ fh rfl hg) (Ju rfl) U1)) ?_;refine WO.w gN rfl (QK (Zt (ZP rfl (Zf rfl fh)) rfl) (Zcf fh) (Ju rfl)) ?_;refine WO.w gN rfl (YC (Zt fh rfl)) ?_;refine WO.gv (Zi.yes rfl rfl rfl fh) rfl (fun hg=>(Xu ZcL (Zt (ZM rfl (ZP rfl (Zf rfl e7))) rfl))) ?_;refine WO.gv (Zi.yes rfl rfl rfl (Zf rfl fh)) rfl (fun hg=>(ZU Xm (XJ fh rfl hg) (hS.X7 k0) (j:=2) rfl (v:= .int .i64 p0.name) rfl)) ?_;refine WO.gv (Zi.yes rfl rfl rfl (ZP rfl fh)) rfl (fun hg=>(Yb (XJ fh rfl hg) (Ju rfl) JL)) ?_;refine WO.w gN rfl (QK (Zt (ZP rfl (Zf rfl fh)) rfl) (Zcf fh) (Ju rfl)) ?_;refine WO.w gN rfl (YC (Zt fh rfl)) ?_;refine WO.gv (Zi.yes rfl rfl rfl fh) rfl (fun hg=>(Xu Zbp (Zt (ZM rfl (ZM rfl e7)) rfl))) ?_;refine WO.gv (Zi.yes rfl rfl rfl (Zf rfl fh)) rfl (fun hg=>(ZU Xm (XJ fh rfl hg) (hS.X7 k0) (j:=3) rfl (v:= .int .i64 p0.Zw) rfl)) ?_;refine WO.gv (Zi.yes rfl rfl rfl (ZP rfl fh)) rfl (fun hg=>(Yb (XJ fh rfl hg) (Ju rfl) JL)) ?_;refine WO.w gN rfl (QK (Zt (ZP rfl (Zf rfl fh)) rfl) (Zcf fh) (Ju rfl)) ?_;refine WO.w gN rfl (Z5 (Zt fh rfl)) ?_;refine WO.nil ?_;refine QA.Yy ?_;refine WC.ret ?_;have hr:=Option.some.inj hL;subst hr;exact ZR.Js rfl (ZB (Zt fh rfl) Zm) ⟨_,⟨rfl,rfl⟩,hT ▸ hS.only .n⟩
  ·skip;refine WC.seq ?_;refine WC.region ?_;refine WO.w gN rfl (Yb (Zt (ZP rfl fh) rfl) (Ju rfl) JL) ?_;refine WO.w gN rfl (Z5 (Zt fh rfl)) ?_;refine WO.nil ?_;refine QA.Yy ?_;refine WC.Znv (Zt fh rfl) (fun hc=>?_) (fun hc=>?_)
   ·replace hL:=WA hc hL;refine WC.skip ?_;exact YR.Yy _ hL ⟨_,_,rfl,hS.only (.c k1 (.c k0 .n)),(ZM rfl (ZP rfl fh)),(Yd rfl (ZP rfl fh)),(Yd rfl fh),fh⟩
   ·replace hL:=WB hc hL;refine WC.region ?_;refine WO.w gN rfl (Yb (Zt (Yd rfl fh) rfl) (Ju rfl) JL) ?_;refine WO.w gN rfl (Z5 (Zt fh rfl)) ?_;refine WO.nil ?_;exact YR.Yy _ hL ⟨_,_,rfl,hS.only (.c k1 (.c k0 .n)),(ZM rfl (Yd rfl fh)),(ZM rfl fh),(Yd rfl (ZP rfl fh)),fh⟩
theorem ZBl {h:H} {p0:Zn} {p1:Int} {r:Bool} (hL:ZrU p0 p1=some r):Pure XX 55 #[.agg [.int .i64 p0.ZX,.int .i64 p0.at_,.int .i64 p0.name,.int .i64 p0.Zw].toArray,.int .i64 p1] h (.bool r):=
 WR.Qq rfl (ZBk (Nat.le_refl _) hL)
end Go.Proofs.Ytekpjgmhkkjhgaa
end
end
section
namespace Go.Proofs.Ytekpjgmhkkjhgaa
open Go.Lf
def Zfn (v29:Int) (Zdx:(Int×(List (Ze×Int))×(List (Ze×Int)) ->Option ((List (Ze×Int))×(List (Ze×Int))))):(List (Ze×Int))×(List (Ze×Int)) ->Option ((List (Ze×Int))×(List (Ze×Int))):=fun(v41,v42)=>
 Zdx (ZK (v29 + 1),v41,v42)
def Zh4 (p0:Store):Int×(List (Ze×Int))×(List (Ze×Int)) ->(Int×(List (Ze×Int))×(List (Ze×Int)) ->Option ((List (Ze×Int))×(List (Ze×Int)))) ->Option ((List (Ze×Int))×(List (Ze×Int))):=fun(v29,v31,v32) Zdx=>
 (bif decide (v29 < (p0.notes.length:Int)) then(Yg p0.notes v29).bind fun x43=>(bif(x43.kind==1) then(Zay v32 (Ze.mk x43.via x43.name) 0).bind fun x49=>(Zfn v29 Zdx) (v31,Y1 (WQ v32 (Ze.mk x43.via x43.name) 0) (Ze.mk x43.via x43.name) (ZK (x49 + x43.w))) else(bif(x43.kind==2) then(Zay v32 (Ze.mk x43.Zw x43.name) 0).bind fun x53=>(Zfn v29 Zdx) (v31,Y1 (WQ v32 (Ze.mk x43.Zw x43.name) 0) (Ze.mk x43.Zw x43.name) (ZK (x53 + x43.w))) else(Zay v31 (Ze.mk x43.Zw x43.name) 0).bind fun x57=>(Zfn v29 Zdx) (Y1 (WQ v31 (Ze.mk x43.Zw x43.name) 0) (Ze.mk x43.Zw x43.name) (ZK (x57 + 16)),v32))) else some (v31,v32))
def Zfo (F:Nat) (p0:Store):(List (Ze×Int))×(List (Ze×Int)) ->Option ((List (Ze×Int))×(List (Ze×Int))):=fun(v20,v21)=>
 loop F (Zh4 p0) (0,v20,v21)
def Zk3 (F:Nat) (p0:Store) (v80:Int) (Zdu:(Int×(List (Ze×Int))×(List (Ze×Int)) ->Option ((List (Ze×Int))×(List (Ze×Int))))):(List (Ze×Int))×(List (Ze×Int)) ->Option ((List (Ze×Int))×(List (Ze×Int))):=fun(v96,v97)=>
 (bif(!true) then(Zfo F p0) (v96,v97) else Zdu (ZK (v80 + 1),v96,v97))
def ZoX (F:Nat) (p0:Store) (v70:Int) (Zdw:(Int×(List (Ze×Int))×(List (Ze×Int)) ->Option ((List (Ze×Int))×(List (Ze×Int))))):Int×(List (Ze×Int))×(List (Ze×Int)) ->(Int×(List (Ze×Int))×(List (Ze×Int)) ->Option ((List (Ze×Int))×(List (Ze×Int)))) ->Option ((List (Ze×Int))×(List (Ze×Int))):=fun(v80,v82,v83) Zdu=>
 (bif decide (v80 < p0.names) then(Zag p0.cells (Ze.mk v70 v80) (Zb.mk 0 false 0 0 0 false)).bind fun x85=>(bif x85.2 then(Zay v82 (Ze.mk v70 x85.1.name) 0).bind fun x99=>(bif decide (x85.1.from_ >=0) then(Zay v83 (Ze.mk x85.1.from_ x85.1.name) 0).bind fun x103=>(Zk3 F p0 v80 Zdu) (Y1 (WQ v82 (Ze.mk v70 x85.1.name) 0) (Ze.mk v70 x85.1.name) (ZK (x99 + x85.1.out)),Y1 (WQ v83 (Ze.mk x85.1.from_ x85.1.name) 0) (Ze.mk x85.1.from_ x85.1.name) (ZK (x103 + x85.1.has))) else(Zk3 F p0 v80 Zdu) (Y1 (WQ v82 (Ze.mk v70 x85.1.name) 0) (Ze.mk v70 x85.1.name) (ZK (x99 + x85.1.out)),v83)) else Zdu (ZK (v80 + 1),v82,v83)) else Zdw (ZK (v70 + 1),v82,v83))
def ZoY (F:Nat) (p0:Store):Int×(List (Ze×Int))×(List (Ze×Int)) ->(Int×(List (Ze×Int))×(List (Ze×Int)) ->Option ((List (Ze×Int))×(List (Ze×Int)))) ->Option ((List (Ze×Int))×(List (Ze×Int))):=fun(v70,v72,v73) Zdw=>
 (bif decide (v70 < p0.machines) then loop F (ZoX F p0 v70 Zdw) (0,v72,v73) else(Zfo F p0) (v72,v73))
def ZrR (F:Nat) (p0:Store):Option ((List (Ze×Int))×(List (Ze×Int))):=
 loop F (ZoY F p0) (0,[],[])
def ZuJ (p0:(List YI)) (p1:Int) (p2:Int):Option (List YI):=
 (slL p0 p1 p2).bind fun z1=>(bif(p1==p2) then some p0 else(slL p0 0 p1).bind fun z4=>(slL p0 p2 (p0.length:Int)).bind fun z13=>(app 16 z4 z13).bind fun z17=>some z17)
def Zfm (p0:(List YI)) (p1:YI):Int ->(Int ->Option Int) ->Option Int:=fun v8 Zhz=>
 (bif decide (v8 < (p0.length:Int)) then(Yg p0 v8).bind fun x11=>(bif KX p1 x11 then some v8 else Zhz (ZK (v8 + 1))) else some (-1))
def Zxu (F:Nat) (p0:(List YI)) (p1:YI):Option Int:=
 loop F (Zfm p0 p1) 0
end Go.Proofs.Ytekpjgmhkkjhgaa
end
section
set_option maxRecDepth 20000
noncomputable section
namespace Go.Proofs.Ytekpjgmhkkjhgaa
open Go.Yw Go.Lf
theorem ZuK {F wm:Nat} {h:H} {p0:Store} {ZH:Option Nat} {Zp:Option Addr} {Zo:Nat} {ZA:Option Addr} {Zz Xo UI:Nat} {r:((List (Ze×Int))×(List (Ze×Int)))} (ZE:wm <=h.size) (YZ:At h Xo UI [.int .i64 p0.machines,.int .i64 p0.names,.map ZH,.slice Zp p0.notes.length Zo,.slice ZA p0.freed.length Zz]) (YX:Stb wm h Xo) (ZF:Uu Zg Zl wm h ZH p0.cells) (Yk:Sl Zj wm h Zp Zo p0.notes) (Yo:Sl (ZL .i64) wm h ZA Zz p0.freed) (hL:ZrR F p0=some r):
 WR XX 68 #[.pointer (some ⟨Xo,UI,none⟩)] wm h (CP (fun(v:Value) (Gb:List (Ast wm))=>∃ (ZbM:Nat) (Zyp:Nat),v= .tuple [.map (some ZbM),.map (some Zyp)].toArray∧Gb= [mp wm Zg (Value.int .i64) (some ZbM) r.1,mp wm Zg (Value.int .i64) (some Zyp) r.2]) [] h):=by
 refine WF.ZfL (args:= [_]) (fn:=Try.f68) (by kernel_rfl) (by exact rfl) Try.ntmps68 (by simp) ?_;simp only [ZG,ZN,Nat.reduceAdd];obtain⟨T,hT,hS⟩:∃ T,T=XG (wm:=wm) []∧Sp wm T h [] h:= ⟨_,rfl,Sp.start ZE ZQ.nil⟩
 unfold ZrR at hL;refine r3 ?_;rintro _ h2 ⟨b1,eb1,rfl,hS⟩;refine r1 ?_;rintro _ h4 ⟨b3,eb3,rfl,hS⟩;refine r4 ?_;refine WO.hn gN rfl (Zs2 Zg (Value.int .i64) hS) ?_;rintro _ h5 ⟨b6,eb6,rfl,hS⟩;refine WO.hn gN rfl (Zs2 Zg (Value.int .i64) hS) ?_;rintro _ h7 ⟨b8,eb8,rfl,hS⟩;refine r1 ?_;rintro h9 hS;refine r1 ?_;rintro h10 hS;refine r6 ?_;refine WO.inl gN rfl (YS.fn Zt3 (Zc lk Zk)) (WF.begin (args:= [_]) (fn:=Try.f71) (by kernel_rfl) (by exact rfl) Try.ntmps71 (by simp) ?_);simp only [ZG,ZN,Nat.reduceAdd];refine r3 ?_;rintro _ h12 ⟨b11,ZMV,rfl,hS⟩;refine r4 ?_;refine r1 ?_;refine WO.w gN rfl (ZdP (Zc lk Zk)) ?_;refine r4 ?_;refine ZR.Js rfl (ZB lk Zm) ?_;refine r3 ?_;refine WC.Zod (first:= []) (cap:= [.pointer (some ⟨b11,0,none⟩)]) hS lk ZoI ?_;intro h13 l14 Zns Zya Zqf hS;refine WR.Zrt (r:=r) (fun(p:(List (Ze×Int))×(List (Ze×Int))) (v:Value) (h18:H)=>match p with | (v20,v21)=>v= .tuple [].toArray∧Sp wm T h [bx wm b1 [.map (some b6)],bx wm b3 [.map (some b8)],bx wm b11 [.pointer (some ⟨Xo,UI,none⟩)],mp wm Zg (Value.int .i64) (some b6) v20,mp wm Zg (Value.int .i64) (some b8) v21,ob wm l14 Zya,ob wm Zns .deferred] h18) (Zfo F p0) ?_ (WF.begin (args:= [_,_]) (fn:=Try.f110) (by kernel_rfl) (by exact rfl) Try.ntmps110 (by simp) ?_)
 ·clear hL hS;rintro⟨v20,v21⟩ v h18 hL ⟨rfl,hS⟩;dsimp only [Zfo] at hL;refine RgE.sp Zqf hS k5 ?_;rintro h22 hS;refine r8 ?_;refine WO.w gN rfl (ZU Zj5 (Zt fh rfl) (At.fz hS.fz YX YZ) (j:=3) rfl (v:= .slice Zp p0.notes.length Zo) rfl) ?_;refine r4 ?_;refine r1 ?_;refine WC.loop (WL.lift hL (fun(p:Int×(List (Ze×Int))×(List (Ze×Int))) (s:Fs)=>match p with | (v29,v31,v32)=>∃ (ZoO:Fr) (h23:H),s= ⟨ZoO,[⟨.collected Zns,#[]⟩],h23,none⟩∧Sp wm T h [bx wm b1 [.map (some b6)],bx wm b3 [.map (some b8)],mp wm Zg (Value.int .i64) (some b6) v31,mp wm Zg (Value.int .i64) (some b8) v32,ob wm Zns .deferred] h23∧ZoO.at 2= .pointer (some ⟨b1,0,none⟩)∧ZoO.at 3= .pointer (some ⟨b3,0,none⟩)∧ZoO.at 43= .slice Zp p0.notes.length Zo∧ZoO.at 44= .int .i64 (p0.notes.length:Int)∧ZoO.at 45= .int .i64 v29) ⟨_,_,rfl,hS.only (.c k0 (.c k0 (.c k1 (.c k1 (.c k1 .n))))),YV⟩ ?_);clear hL hS;rintro Zdx ⟨v29,v31,v32⟩ s ZwO hL ⟨ZoO,h23,rfl,hS,e25,e26,e27,e28,e30⟩;dsimp only [Zh4] at hL;refine r6 ?_;refine cn hL ?_ ?_
  ·intro hc hL;refine r2 ?_;refine WC.ZaG (r:=r) (fun(p:(List (Ze×Int))×(List (Ze×Int))) (s:Fs)=>match p with | (v41,v42)=>∃ (ZoN:Fr) (h34:H),s= ⟨ZoN,[⟨.collected Zns,#[]⟩],h34,none⟩∧Sp wm T h [bx wm b1 [.map (some b6)],bx wm b3 [.map (some b8)],mp wm Zg (Value.int .i64) (some b6) v41,mp wm Zg (Value.int .i64) (some b8) v42,ob wm Zns .deferred] h34∧ZoN.at 2= .pointer (some ⟨b1,0,none⟩)∧ZoN.at 3= .pointer (some ⟨b3,0,none⟩)∧ZoN.at 43= .slice Zp p0.notes.length Zo∧ZoN.at 44= .int .i64 (p0.notes.length:Int)∧ZoN.at 45= .int .i64 v29) (Zfn v29 Zdx) ?_ ?_
   ·clear hL hS;rintro⟨v41,v42⟩ s hL ⟨ZoN,h34,rfl,hS,e36,e37,e38,e39,e40⟩;dsimp only [Zfn] at hL;refine r4 ?_;exact Yz.Yy (ZwO _ _ hL ⟨_,_,rfl,hS.only (.c k0 (.c k0 (.c k0 (.c k0 (.c k0 .n))))),YV⟩)
   ·skip;refine r3 ?_;obtain⟨x43,Zos,hL⟩:=bind_some hL;obtain⟨b44,o45,_,Zuc,Zuk,Zuh,ZEk⟩:=Sl.at_ Yk Zos;refine WO.w gN rfl (Z4 Ub Xl lk lk rfl Zuc Zos) ?_;refine WO.w gN rfl (Y3 Zdg Xl (Zt fh rfl) (At.fz hS.fz Zuh Zuk) (j:=0) rfl rfl (ws:= [.int .i64 x43.kind,.int .i64 x43.Zw,.int .i64 x43.name,.int .i64 x43.via,.int .i64 x43.w]) rfl) ?_;refine r1 ?_;rintro _ h47 ⟨b46,ZIA,rfl,hS⟩;refine r1 ?_;rintro h48 hS;refine Ud ?_;refine r3 ?_;refine cn hL ?_ ?_
    ·intro hc hL;refine WC.Yl mixed (by kernel_rfl) ?_;refine r4 ?_;refine r1 ?_;refine WX.w gN rfl (Y7 XT (Zh lk (Zh lk ZC)) rfl (cs':= [.int .i64 x43.via,.int .i64 x43.name]) rfl) ?_ rfl;obtain⟨x49,Zrv,hL⟩:=bind_some hL;refine WX.ZtG (kv:=Zg) (vv:= (Value.int .i64)) (k:= (Ze.mk x43.via x43.name)) (z:=0) gN rfl YN UM U6 (Zt (Yd rfl (Zf rfl fh)) rfl) (Zt fh rfl) (hS.get k4).at_ Zrv 10 (w:= .int .i64 x49) rfl (fun _=>rfl) ?_ rfl;refine r3 ?_;refine WX.Zu1 (kv:=Zg) (vv:= (Value.int .i64)) (k:= (Ze.mk x43.via x43.name)) (z:=0) gN rfl hS k4 YN UM U6 (Zt (ZM rfl (Zf rfl fh)) rfl) (Zt (Yd rfl fh) rfl) ?_ rfl 6 (by kernel_rfl) (by kernel_rfl) (by simp);rintro _ h50 ⟨b51,rfl,hS⟩;refine WX.w gN rfl (Ws lk (v:= .int .i64 (b51:Nat)) rfl) ?_ (by kernel_rfl);refine WX.hu gN (Zmi (kv:=Zg) (vv:= (Value.int .i64)) (v:=ZK (x49 + x43.w)) hS k0 (Zt (ZM rfl (ZP rfl (Zf rfl fh))) rfl) (Zt fh rfl) (Zt (ZP rfl fh) rfl)) ?_ rfl (by kernel_rfl) [] (by kernel_rfl) Z7.e;rintro h52 hS;refine r3 ?_;exact YR.Yy _ hL ⟨_,_,rfl,hS.only (.c k2 (.c k2 (.c k2 (.c k0 (.c k1 .n))))),YV⟩
    ·intro hc hL;refine r6 ?_;refine cn hL ?_ ?_
     ·intro hc hL;refine WC.Yl mixed (by kernel_rfl) ?_;refine r4 ?_;refine r1 ?_;refine WX.w gN rfl (Y7 XT (Zh lk (Zh lk ZC)) rfl (cs':= [.int .i64 x43.Zw,.int .i64 x43.name]) rfl) ?_ rfl;obtain⟨x53,Zz4,hL⟩:=bind_some hL;refine WX.ZtG (kv:=Zg) (vv:= (Value.int .i64)) (k:= (Ze.mk x43.Zw x43.name)) (z:=0) gN rfl YN UM U6 (Zt (Yd rfl (Zf rfl fh)) rfl) (Zt fh rfl) (hS.get k4).at_ Zz4 10 (w:= .int .i64 x53) rfl (fun _=>rfl) ?_ rfl;refine r3 ?_;refine WX.Zu1 (kv:=Zg) (vv:= (Value.int .i64)) (k:= (Ze.mk x43.Zw x43.name)) (z:=0) gN rfl hS k4 YN UM U6 (Zt (ZM rfl (Zf rfl fh)) rfl) (Zt (Yd rfl fh) rfl) ?_ rfl 6 (by kernel_rfl) (by kernel_rfl) (by simp);rintro _ h54 ⟨b55,rfl,hS⟩;refine WX.w gN rfl (Ws lk (v:= .int .i64 (b55:Nat)) rfl) ?_ (by kernel_rfl);refine WX.hu gN (Zmi (kv:=Zg) (vv:= (Value.int .i64)) (v:=ZK (x53 + x43.w)) hS k0 (Zt (ZM rfl (ZP rfl (Zf rfl fh))) rfl) (Zt fh rfl) (Zt (ZP rfl fh) rfl)) ?_ rfl (by kernel_rfl) [] (by kernel_rfl) Z7.e;rintro h56 hS;refine r3 ?_;exact YR.Yy _ hL ⟨_,_,rfl,hS.only (.c k2 (.c k2 (.c k2 (.c k0 (.c k1 .n))))),YV⟩
     ·intro hc hL;refine WC.Yl mixed (by kernel_rfl) ?_;refine r4 ?_;refine r1 ?_;refine WX.w gN rfl (Y7 XT (Zh lk (Zh lk ZC)) rfl (cs':= [.int .i64 x43.Zw,.int .i64 x43.name]) rfl) ?_ rfl;obtain⟨x57,ZHe,hL⟩:=bind_some hL;refine WX.ZtG (kv:=Zg) (vv:= (Value.int .i64)) (k:= (Ze.mk x43.Zw x43.name)) (z:=0) gN rfl YN UM U6 (Zt (Yd rfl (Zf rfl fh)) rfl) (Zt fh rfl) (hS.get k3).at_ ZHe 8 (w:= .int .i64 x57) rfl (fun _=>rfl) ?_ rfl;refine r1 ?_;refine WX.Zu1 (kv:=Zg) (vv:= (Value.int .i64)) (k:= (Ze.mk x43.Zw x43.name)) (z:=0) gN rfl hS k3 YN UM U6 (Zt (Yd rfl (ZP rfl (Zf rfl fh))) rfl) (Zt (ZP rfl fh) rfl) ?_ rfl 6 (by kernel_rfl) (by kernel_rfl) (by simp);rintro _ h58 ⟨b59,rfl,hS⟩;refine WX.w gN rfl (Ws lk (v:= .int .i64 (b59:Nat)) rfl) ?_ (by kernel_rfl);refine WX.hu gN (Zmi (kv:=Zg) (vv:= (Value.int .i64)) (v:=ZK (x57 + 16)) hS k0 (Zt (ZM rfl (Zf rfl fh)) rfl) (Zt fh rfl) (Zt (ZP rfl fh) rfl)) ?_ rfl (by kernel_rfl) [] (by kernel_rfl) Z7.e;rintro h60 hS;refine r3 ?_;exact YR.Yy _ hL ⟨_,_,rfl,hS.only (.c k2 (.c k2 (.c k0 (.c k1 (.c k1 .n))))),YV⟩
  ·intro hc hL;refine r6 ?_;refine WC.Yl mixed (by kernel_rfl) ?_;refine r1 ?_;refine WX.wr (fun x=>x=b3) hS gN rfl (fun _ _ hR=>ZU ZlO (Zt (ZP rfl e26) rfl) (At.eqv (hR b3 rfl) (hS.X7 k1)) (j:=0) rfl (v:= .map (some b8)) rfl) ?_ rfl rfl;rintro h61 e62 hS;refine WX.hu gN (J5 hS k0 Zki lk lk (vs:= [.map (some b6)]) rfl rfl rfl rfl (cs':= [.map (some b6)]) rfl) ?_ rfl rfl [1] (by kernel_rfl) (.c .z (hS.dj (.c k0 (.c k0 .n))) Z7.e);rintro h63 hS;refine WX.hu gN (J5 hS k1 Zki lk lk (vs:= [.map (some b8)]) rfl rfl rfl rfl (cs':= [.map (some b8)]) rfl) ?_ rfl (by kernel_rfl) [] (by kernel_rfl) Z7.e;rintro h64 hS;refine r3 ?_;refine XY.ZBz hS k4 ?_;rintro h65 hS;have hr:=Option.some.inj hL;subst hr;exact XY.gen rfl (ZJ (ZP rfl (Zf rfl e25)) (KE ZlO (hS.X7 k1) (j:=0) rfl (v:= .map (some b6)) rfl) (ZJ (ZP rfl (Zf rfl e26)) (KE ZlO (hS.X7 k0) (j:=0) rfl (v:= .map (some b8)) rfl) Zm)) rfl ⟨_,⟨b6,b8,rfl,rfl⟩,hT ▸ hS.only (.c k2 (.c k2 .n))⟩
 ·skip;simp only [ZG,ZN,Nat.reduceAdd];refine r6 ?_;refine WC.loop (WL.lift hL (fun(p:Int×(List (Ze×Int))×(List (Ze×Int))) (s:Fs)=>match p with | (v70,v72,v73)=>∃ (Zux:Fr) (h66:H),s= ⟨Zux,[],h66,none⟩∧Sp wm T h [bx wm b11 [.pointer (some ⟨Xo,UI,none⟩)],bx wm b1 [.map (some b6)],bx wm b3 [.map (some b8)],mp wm Zg (Value.int .i64) (some b6) v72,mp wm Zg (Value.int .i64) (some b8) v73,ob wm l14 Zya,ob wm Zns .deferred] h66∧Zux.at 0= .func (.yield l14) #[] #[]∧Zux.at 1= .pointer (some ⟨b11,0,none⟩)∧Zux.at 3= .int .i64 v70) ⟨_,_,rfl,hS.only (.c k2 (.c k3 (.c k2 (.c k3 (.c k2 (.c k0 (.c k0 .n))))))),YV⟩ ?_);clear hL hS;rintro Zdw ⟨v70,v72,v73⟩ s ZkB hL ⟨Zux,h66,rfl,hS,e68,e69,e71⟩;dsimp only [ZoY] at hL;refine r6 ?_;refine r1 ?_;refine WO.w gN rfl (ZU Xm (Zt fh rfl) (At.fz hS.fz YX YZ) (j:=0) rfl (v:= .int .i64 p0.machines) rfl) ?_;refine r3 ?_;refine cn hL ?_ ?_
  ·intro hc hL;refine r8 ?_;refine r2 ?_;refine WC.loop (WL.lift hL (fun(p:Int×(List (Ze×Int))×(List (Ze×Int))) (s:Fs)=>match p with | (v80,v82,v83)=>∃ (ZrH:Fr) (h75:H),s= ⟨ZrH,[],h75,none⟩∧Sp wm T h [bx wm b11 [.pointer (some ⟨Xo,UI,none⟩)],bx wm b1 [.map (some b6)],bx wm b3 [.map (some b8)],mp wm Zg (Value.int .i64) (some b6) v82,mp wm Zg (Value.int .i64) (some b8) v83,ob wm l14 Zya,ob wm Zns .deferred] h75∧ZrH.at 0= .func (.yield l14) #[] #[]∧ZrH.at 1= .pointer (some ⟨b11,0,none⟩)∧ZrH.at 3= .int .i64 v70∧ZrH.at 4= .int .i64 v80) ⟨_,_,rfl,hS.only (.c k0 (.c k0 (.c k0 (.c k0 (.c k0 (.c k0 (.c k0 .n))))))),YV⟩ ?_);clear hL hS;rintro Zdu ⟨v80,v82,v83⟩ s Zp5 hL ⟨ZrH,h75,rfl,hS,e77,e78,e79,e81⟩;dsimp only [ZoX] at hL;refine r6 ?_;refine r1 ?_;refine WO.w gN rfl (ZU Xm (Zt fh rfl) (At.fz hS.fz YX YZ) (j:=1) rfl (v:= .int .i64 p0.names) rfl) ?_;refine r3 ?_;refine cn hL ?_ ?_
   ·intro hc hL;refine r8 ?_;refine r1 ?_;refine WO.w gN rfl (ZU Zgn (Zt fh rfl) (At.fz hS.fz YX YZ) (j:=2) rfl (v:= .map ZH) rfl) ?_;refine r2 ?_;refine WO.w gN rfl (Y7 XT (Zh lk (Zh lk ZC)) rfl (cs':= [.int .i64 v70,.int .i64 v80]) rfl) ?_;obtain⟨x85,ZG6,hL⟩:=bind_some hL;refine WO.w gN rfl (K5 (kv:=Zg) (vv:=Zl) (k:= (Ze.mk v70 v80)) (z:= (Zb.mk 0 false 0 0 0 false)) YN Ua Un (Zt (ZP rfl (Zf rfl fh)) rfl) (Zt fh rfl) (hS.ms ZF).at_ ZG6 (w:= .agg [.int .i64 x85.1.name,.bool x85.1.root,.int .i64 x85.1.from_,.int .i64 x85.1.has,.int .i64 x85.1.out,.bool x85.1.use].toArray) rfl) ?_;refine r4 ?_;rintro _ h87 ⟨b86,ZMy,rfl,hS⟩;refine r1 ?_;rintro h88 hS;refine r8 ?_;refine r2 ?_;refine WO.ZkJ (Zi.yes rfl rfl rfl (ZP rfl (Zf rfl fh))) (fun Zgt=>?_) (fun Zgt=>?_)
    ·replace hL:=WA Zgt hL;refine WO.Zzu (Zi.on (Zi.yes rfl rfl rfl (ZP rfl (Zf rfl fh))) Zgt) rfl (XJ (ZP rfl fh) rfl Zgt) (Zc (XJ (Zf rfl fh) rfl Zgt) (Zc (XJ fh rfl Zgt) Zk)) hS k6 Zqf rfl rfl ?_;refine r6 ?_;refine r1 ?_;rintro _ h91 ⟨b90,ZIy,rfl,hS⟩;refine r1 ?_;rintro h92 hS;refine r1 ?_;refine AsK.sp Zqf hS k7 ?_;rintro h93 hS;refine WC.jn (r:=r) (fun(p:(List (Ze×Int))×(List (Ze×Int))) (s:Fs)=>match p with | (v96,v97)=>∃ (ZE5:Fr) (h94:H),s= ⟨ZE5,[],h94,none⟩∧Sp wm T h [bx wm b1 [.map (some b6)],bx wm b3 [.map (some b8)],bx wm b11 [.pointer (some ⟨Xo,UI,none⟩)],bx wm b86 [.int .i64 x85.1.name,.bool x85.1.root,.int .i64 x85.1.from_,.int .i64 x85.1.has,.int .i64 x85.1.out,.bool x85.1.use],mp wm Zg (Value.int .i64) (some b6) v96,mp wm Zg (Value.int .i64) (some b8) v97,ob wm l14 (bsy Zya),ob wm Zns .deferred] h94) (Zk3 F p0 v80 Zdu) ?_ ?_
     ·clear hL hS;rintro⟨v96,v97⟩ s hL ⟨ZE5,h94,rfl,hS⟩;dsimp only [Zk3] at hL;refine BdK.sp Zqf hS k6 ?_;rintro h98 hS;refine WO.w (Zi.on (Zi.yes rfl rfl rfl (Yd rfl fh)) Zgt) rfl (ZlH lk) ?_;refine WO.w gN rfl (ZlF lk Zgt lk) ?_;refine r2 ?_;refine cn hL ?_ ?_
      ·intro hc hL;refine r8 ?_;refine r1 ?_;exact ZR.gen (vs:= []) rfl Zm rfl ⟨_,hL,⟨rfl,hS.only (.c k1 (.c k1 (.c k1 (.c k2 (.c k2 (.c k0 (.c k1 .n)))))))⟩⟩
      ·intro hc hL;refine r8 ?_;exact Yz.Yy (Zp5 _ _ hL ⟨_,_,rfl,hS.only (.c k3 (.c k1 (.c k1 (.c k2 (.c k2 (.c k0 (.c k1 .n))))))),YV⟩)
     ·skip;refine r2 ?_;refine WC.Yl mixed (by kernel_rfl) ?_;refine r4 ?_;refine WX.w gN rfl (Y7 XT (Zh lk (Zh lk ZC)) rfl (cs':= [.int .i64 v70,.int .i64 x85.1.name]) rfl) ?_ rfl;obtain⟨x99,hx99,hL⟩:=bind_some hL;refine WX.ZtG (kv:=Zg) (vv:= (Value.int .i64)) (k:= (Ze.mk v70 x85.1.name)) (z:=0) gN rfl YN UM U6 (Zt (Yd rfl fh) rfl) (Zt fh rfl) (hS.get k6).at_ hx99 9 (w:= .int .i64 x99) rfl (fun _=>rfl) ?_ rfl;refine r3 ?_;refine WX.Zu1 (kv:=Zg) (vv:= (Value.int .i64)) (k:= (Ze.mk v70 x85.1.name)) (z:=0) gN rfl hS k6 YN UM U6 (Zt (ZM rfl fh) rfl) (Zt (Yd rfl fh) rfl) ?_ rfl 5 (by kernel_rfl) (by kernel_rfl) (by simp);rintro _ ZIr ⟨ZFx,rfl,hS⟩;refine WX.w gN rfl (Ws lk (v:= .int .i64 (ZFx:Nat)) rfl) ?_ (by kernel_rfl);refine WX.hu gN (Zmi (kv:=Zg) (vv:= (Value.int .i64)) (v:=ZK (x99 + x85.1.out)) hS k0 (Zt (ZM rfl (ZP rfl fh)) rfl) (Zt fh rfl) (Zt (ZP rfl fh) rfl)) ?_ rfl (by kernel_rfl) [] (by kernel_rfl) Z7.e;rintro ZA4 hS;refine r8 ?_;refine r1 ?_;refine cn hL ?_ ?_
      ·intro hc hL;refine WC.Yl mixed (by kernel_rfl) ?_;refine r4 ?_;refine r1 ?_;refine WX.w gN rfl (Y7 XT (Zh lk (Zh lk ZC)) rfl (cs':= [.int .i64 x85.1.from_,.int .i64 x85.1.name]) rfl) ?_ rfl;obtain⟨x103,ZjD,hL⟩:=bind_some hL;refine WX.ZtG (kv:=Zg) (vv:= (Value.int .i64)) (k:= (Ze.mk x85.1.from_ x85.1.name)) (z:=0) gN rfl YN UM U6 (Zt (Yd rfl (Zf rfl fh)) rfl) (Zt fh rfl) (hS.get k7).at_ ZjD 10 (w:= .int .i64 x103) rfl (fun _=>rfl) ?_ rfl;refine r3 ?_;refine WX.Zu1 (kv:=Zg) (vv:= (Value.int .i64)) (k:= (Ze.mk x85.1.from_ x85.1.name)) (z:=0) gN rfl hS k7 YN UM U6 (Zt (ZM rfl (Zf rfl fh)) rfl) (Zt (Yd rfl fh) rfl) ?_ rfl 6 (by kernel_rfl) (by kernel_rfl) (by simp);rintro _ ZIq ⟨ZFw,rfl,hS⟩;refine WX.w gN rfl (Ws lk (v:= .int .i64 (ZFw:Nat)) rfl) ?_ (by kernel_rfl);refine WX.hu gN (Zmi (kv:=Zg) (vv:= (Value.int .i64)) (v:=ZK (x103 + x85.1.has)) hS k0 (Zt (ZM rfl (ZP rfl (Zf rfl fh))) rfl) (Zt fh rfl) (Zt (ZP rfl fh) rfl)) ?_ rfl (by kernel_rfl) [] (by kernel_rfl) Z7.e;rintro ZIp hS;refine r2 ?_;exact JnK.Yy _ hL ⟨_,_,rfl,hS.only (.c k6 (.c k6 (.c k5 (.c k4 (.c k1 (.c k0 (.c k0 (.c k1 .n))))))))⟩
      ·intro hc hL;refine r2 ?_;exact JnK.Yy _ hL ⟨_,_,rfl,hS.only (.c k5 (.c k5 (.c k4 (.c k3 (.c k0 (.c k2 (.c k0 (.c k1 .n))))))))⟩
    ·replace hL:=WB Zgt hL;refine WO.Zmy (Zi.yes rfl rfl rfl (ZP rfl (Zf rfl fh))) Zgt rfl ?_;refine WO.Zmy (Zi.yes rfl rfl rfl (Yd rfl fh)) Zgt rfl ?_;refine WO.w gN rfl (ZlG lk Zgt lk) ?_;refine r2 ?_;refine WC.ZdM lk rfl ?_;refine r8 ?_;exact Yz.Yy (Zp5 _ _ hL ⟨_,_,rfl,hS.only (.c k1 (.c k1 (.c k1 (.c k1 (.c k1 (.c k1 (.c k1 .n))))))),YV⟩)
   ·intro hc hL;refine r8 ?_;refine r3 ?_;exact Yz.Yy (ZkB _ _ hL ⟨_,_,rfl,hS.only (.c k0 (.c k0 (.c k0 (.c k0 (.c k0 (.c k0 (.c k0 .n))))))),YV⟩)
  ·intro hc hL;refine r4 ?_;refine ZR.Yy ?_;exact ZR.gen (vs:= []) rfl Zm rfl ⟨_,hL,⟨rfl,hS.only (.c k1 (.c k1 (.c k0 (.c k0 (.c k0 (.c k0 (.c k0 .n)))))))⟩⟩
theorem ZBi {wm:Nat} {h:H} {p0:(List YI)} {p1 p2:Int} {Zr:Option Addr} {Zq Xw:Nat} {r:(List YI)} (ZE:wm <=h.size) (hO:ZQ (wm:=wm) [ow wm Ym Zr Xw Zq p0] h) (hL:ZuJ p0 p1 p2=some r):
 WR XX 78 #[.slice Zr Xw Zq,.int .i64 p1,.int .i64 p2] wm h (CP (fun(v:Value) (Gb:List (Ast wm))=>∃ (Xk:Option Addr) (XA:Nat) (Xj:Nat),v= .slice Xk XA Xj∧Gb= [ow wm Ym Xk XA Xj r]) [ow wm Ym Zr Xw Zq p0] h):=by
 refine bg Try.ntmps78 ZE hO ?_;intro T hT hS;unfold ZuJ at hL;obtain rfl:=hS.on k0;refine Ud ?_;obtain⟨z1,hz1,hL⟩:=bind_some hL;refine WO.he gN rfl (Zs1 (hS.get k0).2 rfl Qz YT (Zt (Yd rfl fh) rfl) (Zt (ZP rfl (Zf rfl fh)) rfl) (Zt (ZP rfl fh) rfl) (Zt fh rfl) hz1) ?_;rintro v2 hv3;refine r8 ?_;refine r2 ?_;refine cn hL ?_ ?_
 ·intro hc hL;refine r8 ?_;have hr:=Option.some.inj hL;subst hr;exact ZR.Js rfl (ZB lk Zm) ⟨_,⟨Zr,p0.length,Zq,rfl,rfl⟩,hT ▸ hS.only (.c k0 .n)⟩
 ·intro hc hL;refine r8 ?_;refine r2 ?_;refine WC.Yl mixed (by kernel_rfl) ?_;refine r2 ?_;obtain⟨z4,hz4,hL⟩:=bind_some hL;have ZhT:= (hS.get k0).2.cap;refine WX.he gN rfl (ZsZ (hS.get k0).2 rfl Qz YT (Zt (Zf rfl fh) rfl) (Zt fh rfl) hz4) ?_ rfl;rintro _ ⟨a5,c6,ea7,ec8,rfl,ZAd⟩;have Zu2:=ec8.symm;refine r2 ?_;obtain⟨z13,Zoq,hL⟩:=bind_some hL;refine WX.he gN rfl (ZpI (hS.get k0).2 rfl Qz YT (Zt (Zf rfl fh) rfl) (.inr ⟨_,YB (Zt fh rfl)⟩) (.inl ⟨rfl,rfl⟩) Zoq) ?_ rfl;rintro _ ⟨a14,c15,rfl,ZAc⟩;obtain⟨z17,Zop,hL⟩:=bind_some hL;have Zz1:= (ZAc.own (hS.get k0).2).src;have hS:=hS.sub k0 ZAd;refine WX.hv gN rfl (Zyo (e:=Ym) hS k0 K6 lk lk Zz1 rfl Zop (Zu2 ▸ Nat.le_trans (ZgW hz1 hz4 Zoq Zop) ZhT)) ?_ rfl rfl [] (by kernel_rfl) Z7.e;rintro _ h19 ⟨rfl,hS⟩;refine WX.w gN rfl (Z5 lk) ?_ (by kernel_rfl);refine r8 ?_;refine WO.he gN rfl (ZsY (hS.get k0).2 Qz YT (Zt (ZP rfl (Zf rfl fh)) rfl) (Zt (Zf rfl fh) rfl) (Zt fh rfl) (ZgW hz1 hz4 Zoq Zop) (Zu2 ▸ ZhT)) ?_;rintro _ ⟨a20,c21,rfl,ZAf⟩;refine WO.hw gN (Zyn hS k0 ZAf rfl Qz Za4 rfl (Zt fh rfl)) ?_;rintro h24 hS;refine r8 ?_;refine r1 ?_;have hr:=Option.some.inj hL;subst hr;exact ZR.Js rfl (ZB lk Zm) ⟨_,⟨a5,z17.length,c6,rfl,rfl⟩,hT ▸ hS.only (.c k0 .n)⟩
theorem ZBh {F wm:Nat} {h:H} {p0:(List YI)} {p1:YI} {Zr:Option Addr} {Zq:Nat} {r:Int} (ZE:wm <=h.size) (ZF:Sl Ym wm h Zr Zq p0) (hL:Zxu F p0 p1=some r):
 WR XX 79 #[.slice Zr p0.length Zq,.agg [.int .i64 p1.at_,.int .i64 p1.name].toArray] wm h (CP (fun(v:Value) (Gb:List (Ast wm))=>v= .int .i64 r∧Gb= []) [] h):=by
 refine bg Try.ntmps79 ZE ZQ.nil ?_;intro T hT hS;unfold Zxu at hL;refine r3 ?_;rintro _ h2 ⟨b1,eb1,rfl,hS⟩;refine Ud ?_;refine WC.loop (WL.lift hL (fun(v8:Int) (s:Fs)=>∃ (fr4:Fr) (h3:H),s= ⟨fr4,[],h3,none⟩∧Sp wm T h [bx wm b1 [.int .i64 p1.at_,.int .i64 p1.name]] h3∧fr4.at 0= .slice Zr p0.length Zq∧fr4.at 3= .pointer (some ⟨b1,0,none⟩)∧fr4.at 7= .int .i64 (p0.length:Int)∧fr4.at 8= .int .i64 v8) ⟨_,_,rfl,hS.only (.c k0 .n),YV⟩ ?_);clear hL hS;rintro Zhz v8 s ZkF hL ⟨fr4,h3,rfl,hS,e5,e6,e7,e9⟩;dsimp only [Zfm] at hL;refine r6 ?_;refine cn hL ?_ ?_
 ·intro hc hL;refine r8 ?_;refine r3 ?_;refine WC.Yl mixed (by kernel_rfl) ?_;refine r3 ?_;obtain⟨x11,Zkz,hL⟩:=bind_some hL;obtain⟨b12,o13,_,Zuf,Zup,Zuj,ZEo⟩:=Sl.at_ ZF Zkz;refine WX.w gN rfl (Z4 Qz YT lk lk rfl Zuf Zkz) ?_ rfl;refine WX.w gN rfl (Y3 Zdf YT (Zt fh rfl) (At.fz hS.fz Zuj Zup) (j:=0) rfl rfl (ws:= [.int .i64 x11.at_,.int .i64 x11.name]) rfl) ?_ rfl;refine WX.w gN rfl (Yb (Zt (Yd rfl fh) rfl) (Zt fh rfl) (ZiG (xs:= [.int .i64 p1.at_,.int .i64 p1.name]) (ys:= [.int .i64 x11.at_,.int .i64 x11.name]) (ZqE p1 x11) rfl rfl)) ?_ rfl;refine r2 ?_;refine cn hL ?_ ?_
  ·intro hc hL;refine Ud ?_;exact rt hL hT hS
  ·intro hc hL;refine r6 ?_;refine r1 ?_;exact Yz.Yy (ZkF _ _ hL ⟨_,_,rfl,hS.only (.c k0 .n),YV⟩)
 ·intro hc hL;refine r8 ?_;refine r3 ?_;exact rt hL hT hS
end Go.Proofs.Ytekpjgmhkkjhgaa
end
end
section
namespace Go.Proofs.Ytekpjgmhkkjhgaa
open Go.Lf
def Zk0 (p0:(List YI)) (p1:(List YI)):Int ->(Int ->Option Bool) ->Option Bool:=fun v6 Zf4=>
 (bif decide (v6 < (p0.length:Int)) then(Yg p0 v6).bind fun x9=>(Yg p1 v6).bind fun x12=>(bif(!(KX x9 x12)) then some false else Zf4 (ZK (v6 + 1))) else some true)
def ZrQ (F:Nat) (p0:(List YI)) (p1:(List YI)):Option Bool:=
 (bif((p0.length:Int) != (p1.length:Int)) then some false else loop F (Zk0 p0 p1) 0)
def ZoW (p0:(List Zd)):Option (List Zd):=
 (app 40 ([]:List Zd) p0).bind fun z3=>some z3
def ZoV (p0:(List Int)):Option (List Int):=
 (app 8 ([]:List Int) p0).bind fun z3=>some z3
def Zh1 (v25:Int) (ZeZ:(Int×(List Int) ->Option (List Int))):(List Int) ->Option (List Int):=fun v39=>
 ZeZ (ZK (v25 + 1),v39)
def Zh2 (p0:Store) (p1:Int):Int×(List Int) ->(Int×(List Int) ->Option (List Int)) ->Option (List Int):=fun(v25,v27) ZeZ=>
 (bif decide (v25 < (p0.notes.length:Int)) then(Yg p0.notes v25).bind fun x43=>(bif((x43.kind==3) && (x43.name==p1)) then(app 8 v27 [x43.Zw]).bind fun z51=>(Zh1 v25 ZeZ) z51 else(Zh1 v25 ZeZ) v27) else some v27)
def Zfj (F:Nat) (p0:Store) (p1:Int):(List Int) ->Option (List Int):=fun v14=>
 loop F (Zh2 p0 p1) (0,v14)
def ZkZ (F:Nat) (p0:Store) (p1:Int) (v73:Int) (Zdv:(Int×(List Int) ->Option (List Int))):(List Int) ->Option (List Int):=fun v91=>
 (bif(!true) then(Zfj F p0 p1) v91 else Zdv (ZK (v73 + 1),v91))
def ZoS (F:Nat) (p0:Store) (p1:Int) (v61:Int) (Zkq:(Int×(List Int) ->Option (List Int))):Int×(List Int) ->(Int×(List Int) ->Option (List Int)) ->Option (List Int):=fun(v73,v75) Zdv=>
 (bif decide (v73 < p0.names) then(Zag p0.cells (Ze.mk v61 v73) (Zb.mk 0 false 0 0 0 false)).bind fun x80=>(bif x80.2 then(bif((x80.1.name==p1) && x80.1.root) then(app 8 v75 [v61]).bind fun z98=>(ZkZ F p0 p1 v73 Zdv) z98 else(ZkZ F p0 p1 v73 Zdv) v75) else Zdv (ZK (v73 + 1),v75)) else Zkq (ZK (v61 + 1),v75))
def ZoT (F:Nat) (p0:Store) (p1:Int):Int×(List Int) ->(Int×(List Int) ->Option (List Int)) ->Option (List Int):=fun(v61,v63) Zkq=>
 (bif decide (v61 < p0.machines) then loop F (ZoS F p0 p1 v61 Zkq) (0,v63) else(Zfj F p0 p1) v63)
def ZuF (F:Nat) (p0:Store) (p1:Int):Option (List Int):=
 loop F (ZoT F p0 p1) (0,[])
def ZhY (v7:Int) (Ue:(Int ->Option Bool)):Unit ->Option Bool:=fun _=>
 Ue (ZK (v7 + 1))
def ZhZ (p0:Store) (p1:Int) (p2:Int) (v7:Int) (Ue:(Int ->Option Bool)):Int×Bool×Int×Int×Bool×Int×Int×Int×Bool ->(Int×Bool×Int×Int×Bool×Int×Int×Int×Bool ->Option Bool) ->Option Bool:=fun(v26,v29,v34,v36,v37,v38,v39,v40,v41) Ztt=>
 (bif decide (v34 < p0.machines) then(bif(v26==p2) then(ZhY v7 Ue) () else(bif((!v29) || (decide (v38 < 0))) then some false else(Zag p0.cells (Ze.mk v38 p1) (Zb.mk 0 false 0 0 0 false)).bind fun x43=>Ztt (v38,x43.2,ZK (v34 + 1),x43.1.name,x43.1.root,x43.1.from_,x43.1.has,x43.1.out,x43.1.use))) else(bif(v26 !=p2) then some false else(ZhY v7 Ue) ()))
def Zh0 (F:Nat) (p0:Store) (p1:Int) (p2:Int):Int ->(Int ->Option Bool) ->Option Bool:=fun v7 Ue=>
 (bif decide (v7 < p0.machines) then(Zag p0.cells (Ze.mk v7 p1) (Zb.mk 0 false 0 0 0 false)).bind fun x17=>(bif(!x17.2) then(ZhY v7 Ue) () else loop F (ZhZ p0 p1 p2 v7 Ue) (v7,x17.2,0,x17.1.name,x17.1.root,x17.1.from_,x17.1.has,x17.1.out,x17.1.use)) else some true)
def ZrP (F:Nat) (p0:Store) (p1:Int) (p2:Int):Option Bool:=
 loop F (Zh0 F p0 p1 p2) 0
end Go.Proofs.Ytekpjgmhkkjhgaa
end
section
set_option maxRecDepth 20000
noncomputable section
namespace Go.Proofs.Ytekpjgmhkkjhgaa
open Go.Yw Go.Lf
theorem ZBf {F wm:Nat} {h:H} {p0 p1:(List YI)} {Zr:Option Addr} {Zq:Nat} {Yu:Option Addr} {Yt:Nat} {r:Bool} (ZE:wm <=h.size) (ZF:Sl Ym wm h Zr Zq p0) (Q0:Sl Ym wm h Yu Yt p1) (hL:ZrQ F p0 p1=some r):
 WR XX 80 #[.slice Zr p0.length Zq,.slice Yu p1.length Yt] wm h (CP (fun(v:Value) (Gb:List (Ast wm))=>v= .bool r∧Gb= []) [] h):=by
 refine bg Try.ntmps80 ZE ZQ.nil ?_;intro T hT hS;unfold ZrQ at hL;refine Ud ?_;refine r3 ?_;refine cn hL ?_ ?_
 ·intro hc hL;refine r6 ?_;refine r1 ?_;exact rt hL hT hS
 ·intro hc hL;refine r8 ?_;refine r3 ?_;refine WC.loop (WL.lift hL (fun(v6:Int) (s:Fs)=>∃ (Jt:Fr) (h1:H),s= ⟨Jt,[],h1,none⟩∧Sp wm T h [] h1∧Jt.at 0= .slice Zr p0.length Zq∧Jt.at 1= .slice Yu p1.length Yt∧Jt.at 12= .int .i64 (p0.length:Int)∧Jt.at 13= .int .i64 v6) ⟨_,_,rfl,hS.only .n,YV⟩ ?_);clear hL hS;rintro Zf4 v6 s ZhQ hL ⟨Jt,h1,rfl,hS,e3,e4,e5,e7⟩;dsimp only [Zk0] at hL;refine r6 ?_;refine cn hL ?_ ?_
  ·intro hc hL;refine r8 ?_;refine r3 ?_;refine WC.Yl mixed (by kernel_rfl) ?_;refine r2 ?_;obtain⟨x9,hx9,hL⟩:=bind_some hL;obtain⟨b10,o11,_,ZmQ,ZmV,ZmS,Zy6⟩:=Sl.at_ ZF hx9;refine WX.w gN rfl (Z4 Qz YT lk lk rfl ZmQ hx9) ?_ rfl;refine WX.w gN rfl (Y3 Zdf YT (Zt fh rfl) (At.fz hS.fz ZmS ZmV) (j:=0) rfl rfl (ws:= [.int .i64 x9.at_,.int .i64 x9.name]) rfl) ?_ rfl;refine r2 ?_;obtain⟨x12,ZiV,hL⟩:=bind_some hL;obtain⟨b13,o14,_,ZmP,ZmU,ZmR,Zug⟩:=Sl.at_ Q0 ZiV;refine WX.w gN rfl (Z4 Qz YT lk lk rfl ZmP ZiV) ?_ rfl;refine WX.w gN rfl (Y3 Zdf YT (Zt fh rfl) (At.fz hS.fz ZmR ZmU) (j:=0) rfl rfl (ws:= [.int .i64 x12.at_,.int .i64 x12.name]) rfl) ?_ rfl;refine WX.w gN rfl (Yb (Zt (Yd rfl fh) rfl) (Zt fh rfl) (ZnP (xs:= [.int .i64 x9.at_,.int .i64 x9.name]) (ys:= [.int .i64 x12.at_,.int .i64 x12.name]) (ZqE x9 x12) rfl rfl)) ?_ rfl;refine r2 ?_;refine cn hL ?_ ?_
   ·intro hc hL;refine r8 ?_;refine r3 ?_;exact rt hL hT hS
   ·intro hc hL;refine r6 ?_;refine r1 ?_;exact Yz.Yy (ZhQ _ _ hL ⟨_,_,rfl,hS.only .n,YV⟩)
  ·intro hc hL;refine r8 ?_;refine r3 ?_;exact rt hL hT hS
theorem ZBg {F:Nat} {h:H} {p0 p1:(List YI)} {Zr:Option Addr} {Zq:Nat} {Yu:Option Addr} {Yt:Nat} {r:Bool} (ZF:Sl Ym h.size h Zr Zq p0) (Q0:Sl Ym h.size h Yu Yt p1) (hL:ZrQ F p0 p1=some r):Pure XX 80 #[.slice Zr p0.length Zq,.slice Yu p1.length Yt] h (.bool r):=
 WR.Qq rfl (ZBf (Nat.le_refl _) ZF Q0 hL)
theorem ZuI {wm:Nat} {h:H} {p0:(List Zd)} {Zr:Option Addr} {Zq:Nat} {r:(List Zd)} (ZE:wm <=h.size) (ZF:Sl Zj wm h Zr Zq p0) (hL:ZoW p0=some r):
 WR XX 86 #[.slice Zr p0.length Zq] wm h (CP (fun(v:Value) (Gb:List (Ast wm))=>∃ (Xk:Option Addr) (XA:Nat) (Xj:Nat),v= .slice Xk XA Xj∧Gb= [ow wm Zj Xk XA Xj r]) [] h):=by
 refine bg Try.ntmps86 ZE ZQ.nil ?_;intro T hT hS;unfold ZoW at hL;refine r8 ?_;rcases Sl.cases ZF with⟨rfl,rfl,rfl⟩ | ⟨qa,rfl⟩
 ·
  refine r1 ?_;refine WO.w gN rfl (Yb (Zt fh rfl) (Ju rfl) (ZfS Ub)) ?_;refine r2 ?_;refine WC.Zly lk rfl ?_;rw [Zpn _ (by decide)] at hL;replace hL:some []=some r:=hL;refine r6 ?_;refine r1 ?_;have hS:=hS.nil (e:=Zj);have hr:=Option.some.inj hL;subst hr;exact ZR.Js rfl (ZB lk Zm) ⟨_,⟨none,0,0,rfl,rfl⟩,hT ▸ hS.only (.c k0 .n)⟩
 ·
  refine r1 ?_;refine WO.w gN rfl (Yb (Zt fh rfl) (Ju rfl) (ZfT Ub)) ?_;refine r2 ?_;refine WC.ZdM lk rfl ?_;refine r4 ?_;refine WO.hn gN rfl (Zgr (e:=Zj) hS Ub Xl ZeL rfl rfl rfl ZC rfl [] rfl (xs:= ([]:List Zd)) rfl (by intro q hq;cases hq) rfl) ?_;rintro _ h2 ⟨b1,eb1,rfl,hS⟩;refine r1 ?_;obtain⟨z3,hz3,hL⟩:=bind_some hL;refine WO.hv gN rfl (Zd4 (e:=Zj) hS k0 ZiB lk lk (Sl.src (hS.sl ZF)) rfl hz3) ?_;rintro _ h6 ⟨a4,c5,rfl,hS⟩;refine r4 ?_;have hr:=Option.some.inj hL;subst hr;exact ZR.Js rfl (ZB lk Zm) ⟨_,⟨a4,z3.length,c5,rfl,rfl⟩,hT ▸ hS.only (.c k0 .n)⟩
theorem ZuH {wm:Nat} {h:H} {p0:(List Int)} {Zr:Option Addr} {Zq:Nat} {r:(List Int)} (ZE:wm <=h.size) (ZF:Sl (ZL .i64) wm h Zr Zq p0) (hL:ZoV p0=some r):
 WR XX 87 #[.slice Zr p0.length Zq] wm h (CP (fun(v:Value) (Gb:List (Ast wm))=>∃ (Xk:Option Addr) (XA:Nat) (Xj:Nat),v= .slice Xk XA Xj∧Gb= [ow wm (ZL .i64) Xk XA Xj r]) [] h):=by
 refine bg Try.ntmps87 ZE ZQ.nil ?_;intro T hT hS;unfold ZoV at hL;refine r8 ?_;rcases Sl.cases ZF with⟨rfl,rfl,rfl⟩ | ⟨qa,rfl⟩
 ·
  refine r1 ?_;refine WO.w gN rfl (Yb (Zt fh rfl) (Ju rfl) (ZfS X9)) ?_;refine r2 ?_;refine WC.Zly lk rfl ?_;rw [Zpn _ (by decide)] at hL;replace hL:some []=some r:=hL;refine r6 ?_;refine r1 ?_;have hS:=hS.nil (e:= (ZL .i64));have hr:=Option.some.inj hL;subst hr;exact ZR.Js rfl (ZB lk Zm) ⟨_,⟨none,0,0,rfl,rfl⟩,hT ▸ hS.only (.c k0 .n)⟩
 ·
  refine r1 ?_;refine WO.w gN rfl (Yb (Zt fh rfl) (Ju rfl) (ZfT X9)) ?_;refine r2 ?_;refine WC.ZdM lk rfl ?_;refine r4 ?_;refine WO.hn gN rfl (Zgr (e:= (ZL .i64)) hS X9 Y5 U6 rfl rfl rfl ZC rfl [] rfl (xs:= ([]:List Int)) rfl (by intro q hq;cases hq) rfl) ?_;rintro _ h2 ⟨b1,eb1,rfl,hS⟩;refine r1 ?_;obtain⟨z3,hz3,hL⟩:=bind_some hL;refine WO.hv gN rfl (Zd4 (e:= (ZL .i64)) hS k0 Zez lk lk (Sl.src (hS.sl ZF)) rfl hz3) ?_;rintro _ h6 ⟨a4,c5,rfl,hS⟩;refine r4 ?_;have hr:=Option.some.inj hL;subst hr;exact ZR.Js rfl (ZB lk Zm) ⟨_,⟨a4,z3.length,c5,rfl,rfl⟩,hT ▸ hS.only (.c k0 .n)⟩
theorem ZBc {F wm:Nat} {h:H} {p0:Store} {p1:Int} {ZH:Option Nat} {Zp:Option Addr} {Zo:Nat} {ZA:Option Addr} {Zz Xo UI:Nat} {r:(List Int)} (ZE:wm <=h.size) (YZ:At h Xo UI [.int .i64 p0.machines,.int .i64 p0.names,.map ZH,.slice Zp p0.notes.length Zo,.slice ZA p0.freed.length Zz]) (YX:Stb wm h Xo) (ZF:Uu Zg Zl wm h ZH p0.cells) (Yk:Sl Zj wm h Zp Zo p0.notes) (Yo:Sl (ZL .i64) wm h ZA Zz p0.freed) (hL:ZuF F p0 p1=some r):
 WR XX 90 #[.pointer (some ⟨Xo,UI,none⟩),.int .i64 p1] wm h (CP (fun(v:Value) (Gb:List (Ast wm))=>∃ (Xk:Option Addr) (XA:Nat) (Xj:Nat),v= .slice Xk XA Xj∧Gb= [ow wm (ZL .i64) Xk XA Xj r]) [] h):=by
 refine WF.ZfL (args:= [_,_]) (fn:=Try.f90) (by kernel_rfl) (by exact rfl) Try.ntmps90 (by simp) ?_;simp only [ZG,ZN,Nat.reduceAdd];obtain⟨T,hT,hS⟩:∃ T,T=XG (wm:=wm) []∧Sp wm T h [] h:= ⟨_,rfl,Sp.start ZE ZQ.nil⟩
 unfold ZuF at hL;refine r3 ?_;rintro _ h2 ⟨b1,eb1,rfl,hS⟩;refine r6 ?_;rintro _ h4 ⟨b3,eb3,rfl,hS⟩;refine r6 ?_;refine WO.inl gN rfl (YS.fn Zt3 (Zc lk Zk)) (WF.begin (args:= [_]) (fn:=Try.f71) (by kernel_rfl) (by exact rfl) Try.ntmps71 (by simp) ?_);simp only [ZG,ZN,Nat.reduceAdd];refine r3 ?_;rintro _ h6 ⟨b5,eb5,rfl,hS⟩;refine r4 ?_;refine r1 ?_;refine WO.w gN rfl (ZdP (Zc lk Zk)) ?_;refine r4 ?_;refine ZR.Js rfl (ZB lk Zm) ?_;refine r3 ?_;refine WC.Zod (first:= []) (cap:= [.pointer (some ⟨b5,0,none⟩)]) hS lk ZoI ?_;intro h7 l8 df9 Zyb Zqg hS;refine WR.Zrt (r:=r) (fun(v14:(List Int)) (v:Value) (h12:H)=>∃ (a15:Option Addr) (c16:Nat) (n17:Nat),v= .tuple [].toArray∧Sp wm T h [bx wm b1 [.int .i64 p1],ow wm (ZL .i64) a15 n17 c16 v14,bx wm b3 [.slice a15 n17 c16],bx wm b5 [.pointer (some ⟨Xo,UI,none⟩)],ob wm l8 Zyb,ob wm df9 .deferred] h12) (Zfj F p0 p1) ?_ (WF.begin (args:= [_,_]) (fn:=Try.f110) (by kernel_rfl) (by exact rfl) Try.ntmps110 (by simp) ?_)
 ·clear hL hS;rintro v14 v h12 hL ⟨a15,c16,n17,rfl,hS⟩;obtain rfl:=hS.on k1;dsimp only [Zfj] at hL;refine RgE.sp Zqg hS k4 ?_;rintro h18 hS;refine r8 ?_;refine WO.w gN rfl (ZU Zj5 (Zt fh rfl) (At.fz hS.fz YX YZ) (j:=3) rfl (v:= .slice Zp p0.notes.length Zo) rfl) ?_;refine r4 ?_;refine r1 ?_;refine WC.loop (WL.lift hL (fun(p:Int×(List Int)) (s:Fs)=>match p with | (v25,v27)=>∃ (KT:Fr) (h19:H) (a28:Option Addr) (c29:Nat) (n30:Nat),s= ⟨KT,[⟨.collected df9,#[]⟩],h19,none⟩∧Sp wm T h [bx wm b1 [.int .i64 p1],ow wm (ZL .i64) a28 n30 c29 v27,bx wm b3 [.slice a28 n30 c29],ob wm df9 .deferred] h19∧KT.at 3= .pointer (some ⟨b1,0,none⟩)∧KT.at 5= .pointer (some ⟨b3,0,none⟩)∧KT.at 29= .slice Zp p0.notes.length Zo∧KT.at 30= .int .i64 (p0.notes.length:Int)∧KT.at 31= .int .i64 v25) ⟨_,_,a15,c16,v14.length,rfl,hS.only (.c k0 (.c k0 (.c k0 (.c k1 .n)))),YV⟩ ?_);clear hL hS;rintro ZeZ ⟨v25,v27⟩ s ZwP hL ⟨KT,h19,a28,c29,n30,rfl,hS,e21,e22,e23,e24,e26⟩;obtain rfl:=hS.on k1;dsimp only [Zh2] at hL;refine r6 ?_;refine cn hL ?_ ?_
  ·intro hc hL;refine r2 ?_;refine WC.ZaG (r:=r) (fun(v39:(List Int)) (s:Fs)=>∃ (Zb9:Fr) (h32:H) (a40:Option Addr) (c41:Nat) (n42:Nat),s= ⟨Zb9,[⟨.collected df9,#[]⟩],h32,none⟩∧Sp wm T h [bx wm b1 [.int .i64 p1],ow wm (ZL .i64) a40 n42 c41 v39,bx wm b3 [.slice a40 n42 c41],ob wm df9 .deferred] h32∧Zb9.at 3= .pointer (some ⟨b1,0,none⟩)∧Zb9.at 5= .pointer (some ⟨b3,0,none⟩)∧Zb9.at 29= .slice Zp p0.notes.length Zo∧Zb9.at 30= .int .i64 (p0.notes.length:Int)∧Zb9.at 31= .int .i64 v25) (Zh1 v25 ZeZ) ?_ ?_
   ·clear hL hS;rintro v39 s hL ⟨Zb9,h32,a40,c41,n42,rfl,hS,e34,e35,e36,e37,e38⟩;obtain rfl:=hS.on k1;dsimp only [Zh1] at hL;refine r4 ?_;exact Yz.Yy (ZwP _ _ hL ⟨_,_,a40,c41,v39.length,rfl,hS.only (.c k0 (.c k0 (.c k0 (.c k0 .n)))),YV⟩)
   ·skip;refine r3 ?_;obtain⟨x43,Zos,hL⟩:=bind_some hL;obtain⟨b44,o45,_,Zuc,Zuk,Zuh,ZEk⟩:=Sl.at_ Yk Zos;refine WO.w gN rfl (Z4 Ub Xl lk lk rfl Zuc Zos) ?_;refine WO.w gN rfl (Y3 Zdg Xl (Zt fh rfl) (At.fz hS.fz Zuh Zuk) (j:=0) rfl rfl (ws:= [.int .i64 x43.kind,.int .i64 x43.Zw,.int .i64 x43.name,.int .i64 x43.via,.int .i64 x43.w]) rfl) ?_;refine r1 ?_;rintro _ h47 ⟨b46,ZIA,rfl,hS⟩;refine r1 ?_;rintro h48 hS;refine Ud ?_;refine r3 ?_;refine cn hL ?_ ?_
    ·intro hc hL;refine r4 ?_;refine WO.hn gN rfl (Zgr (e:= (ZL .i64)) hS X9 Y5 U6 rfl rfl rfl (Zh lk ZC) rfl [((),x43.Zw)] rfl (xs:= [x43.Zw]) rfl (by intro q hq;simp only [List.mem_cons,List.not_mem_nil,or_false] at hq;subst hq;exact trivial) rfl) ?_;rintro _ h50 ⟨b49,ZIz,rfl,hS⟩;obtain⟨z51,ZGV,hL⟩:=bind_some hL;refine WO.hv gN rfl (Zd4 (e:= (ZL .i64)) hS k3 Zez lk lk (hS.Jb k0) (hS.on k0) ZGV) ?_;rintro _ h54 ⟨a52,c53,rfl,hS⟩;refine r1 ?_;rintro h55 hS;refine r2 ?_;exact YR.Yy _ hL ⟨_,_,a52,c53,z51.length,rfl,hS.only (.c k4 (.c k1 (.c k0 (.c k2 .n)))),YV⟩
    ·intro hc hL;refine r2 ?_;exact YR.Yy _ hL ⟨_,_,a28,c29,v27.length,rfl,hS.only (.c k1 (.c k1 (.c k1 (.c k1 .n)))),YV⟩
  ·intro hc hL;refine Ud ?_;refine XY.ZBz hS k3 ?_;rintro h56 hS;have hr:=Option.some.inj hL;subst hr;exact XY.gen rfl (ZB lk Zm) rfl ⟨_,⟨a28,v27.length,c29,rfl,rfl⟩,hT ▸ hS.only (.c k1 .n)⟩
 ·skip;simp only [ZG,ZN,Nat.reduceAdd];refine r6 ?_;have hS:=hS.nil (e:= (ZL .i64));refine WC.loop (WL.lift hL (fun(p:Int×(List Int)) (s:Fs)=>match p with | (v61,v63)=>∃ (Zuy:Fr) (h57:H) (a64:Option Addr) (c65:Nat) (n66:Nat),s= ⟨Zuy,[],h57,none⟩∧Sp wm T h [bx wm b5 [.pointer (some ⟨Xo,UI,none⟩)],bx wm b1 [.int .i64 p1],ow wm (ZL .i64) a64 n66 c65 v63,bx wm b3 [.slice a64 n66 c65],ob wm l8 Zyb,ob wm df9 .deferred] h57∧Zuy.at 0= .func (.yield l8) #[] #[]∧Zuy.at 1= .pointer (some ⟨b5,0,none⟩)∧Zuy.at 3= .int .i64 v61) ⟨_,_,none,0,0,rfl,hS.only (.c k3 (.c k4 (.c k0 (.c k2 (.c k0 (.c k0 .n)))))),YV⟩ ?_);clear hL hS;rintro Zkq ⟨v61,v63⟩ s ZwI hL ⟨Zuy,h57,a64,c65,n66,rfl,hS,e59,e60,e62⟩;obtain rfl:=hS.on k2;dsimp only [ZoT] at hL;refine r6 ?_;refine r1 ?_;refine WO.w gN rfl (ZU Xm (Zt fh rfl) (At.fz hS.fz YX YZ) (j:=0) rfl (v:= .int .i64 p0.machines) rfl) ?_;refine r3 ?_;refine cn hL ?_ ?_
  ·intro hc hL;refine r8 ?_;refine r2 ?_;refine WC.loop (WL.lift hL (fun(p:Int×(List Int)) (s:Fs)=>match p with | (v73,v75)=>∃ (ZrI:Fr) (h68:H) (a76:Option Addr) (c77:Nat) (n78:Nat),s= ⟨ZrI,[],h68,none⟩∧Sp wm T h [bx wm b5 [.pointer (some ⟨Xo,UI,none⟩)],bx wm b1 [.int .i64 p1],ow wm (ZL .i64) a76 n78 c77 v75,bx wm b3 [.slice a76 n78 c77],ob wm l8 Zyb,ob wm df9 .deferred] h68∧ZrI.at 0= .func (.yield l8) #[] #[]∧ZrI.at 1= .pointer (some ⟨b5,0,none⟩)∧ZrI.at 3= .int .i64 v61∧ZrI.at 4= .int .i64 v73) ⟨_,_,a64,c65,v63.length,rfl,hS.only (.c k0 (.c k0 (.c k0 (.c k0 (.c k0 (.c k0 .n)))))),YV⟩ ?_);clear hL hS;rintro Zdv ⟨v73,v75⟩ s Zp6 hL ⟨ZrI,h68,a76,c77,n78,rfl,hS,e70,e71,e72,e74⟩;obtain rfl:=hS.on k2;dsimp only [ZoS] at hL;refine r6 ?_;refine r1 ?_;refine WO.w gN rfl (ZU Xm (Zt fh rfl) (At.fz hS.fz YX YZ) (j:=1) rfl (v:= .int .i64 p0.names) rfl) ?_;refine r3 ?_;refine cn hL ?_ ?_
   ·intro hc hL;refine r8 ?_;refine r1 ?_;refine WO.w gN rfl (ZU Zgn (Zt fh rfl) (At.fz hS.fz YX YZ) (j:=2) rfl (v:= .map ZH) rfl) ?_;refine r2 ?_;refine WO.w gN rfl (Y7 XT (Zh lk (Zh lk ZC)) rfl (cs':= [.int .i64 v61,.int .i64 v73]) rfl) ?_;obtain⟨x80,Zz2,hL⟩:=bind_some hL;refine WO.w gN rfl (K5 (kv:=Zg) (vv:=Zl) (k:= (Ze.mk v61 v73)) (z:= (Zb.mk 0 false 0 0 0 false)) YN Ua Un (Zt (ZP rfl (Zf rfl fh)) rfl) (Zt fh rfl) (hS.ms ZF).at_ Zz2 (w:= .agg [.int .i64 x80.1.name,.bool x80.1.root,.int .i64 x80.1.from_,.int .i64 x80.1.has,.int .i64 x80.1.out,.bool x80.1.use].toArray) rfl) ?_;refine r4 ?_;rintro _ h82 ⟨b81,ZMA,rfl,hS⟩;refine r1 ?_;rintro h83 hS;refine r8 ?_;refine r2 ?_;refine WO.ZkJ (Zi.yes rfl rfl rfl (ZP rfl (Zf rfl fh))) (fun Zgu=>?_) (fun Zgu=>?_)
    ·replace hL:=WA Zgu hL;refine WO.Zzu (Zi.on (Zi.yes rfl rfl rfl (ZP rfl (Zf rfl fh))) Zgu) rfl (XJ (ZP rfl fh) rfl Zgu) (Zc (XJ (Zf rfl fh) rfl Zgu) (Zc (XJ fh rfl Zgu) Zk)) hS k5 Zqg rfl rfl ?_;refine r6 ?_;refine r1 ?_;rintro _ h86 ⟨b85,ZMz,rfl,hS⟩;refine r1 ?_;rintro h87 hS;refine r1 ?_;refine AsK.sp Zqg hS k6 ?_;rintro h88 hS;refine WC.jn (r:=r) (fun(v91:(List Int)) (s:Fs)=>∃ (ZE6:Fr) (h89:H) (a92:Option Addr) (c93:Nat) (n94:Nat),s= ⟨ZE6,[],h89,none⟩∧Sp wm T h [bx wm b1 [.int .i64 p1],ow wm (ZL .i64) a92 n94 c93 v91,bx wm b3 [.slice a92 n94 c93],bx wm b5 [.pointer (some ⟨Xo,UI,none⟩)],bx wm b81 [.int .i64 x80.1.name,.bool x80.1.root,.int .i64 x80.1.from_,.int .i64 x80.1.has,.int .i64 x80.1.out,.bool x80.1.use],ob wm l8 (bsy Zyb),ob wm df9 .deferred] h89) (ZkZ F p0 p1 v73 Zdv) ?_ ?_
     ·clear hL hS;rintro v91 s hL ⟨ZE6,h89,a92,c93,n94,rfl,hS⟩;obtain rfl:=hS.on k1;dsimp only [ZkZ] at hL;refine BdK.sp Zqg hS k5 ?_;rintro h95 hS;refine WO.w (Zi.on (Zi.yes rfl rfl rfl (Yd rfl fh)) Zgu) rfl (ZlH lk) ?_;refine WO.w gN rfl (ZlF lk Zgu lk) ?_;refine r2 ?_;refine cn hL ?_ ?_
      ·intro hc hL;refine r8 ?_;refine r1 ?_;exact ZR.gen (vs:= []) rfl Zm rfl ⟨_,hL,⟨a92,c93,v91.length,rfl,hS.only (.c k1 (.c k1 (.c k1 (.c k1 (.c k0 (.c k1 .n))))))⟩⟩
      ·intro hc hL;refine r8 ?_;exact Yz.Yy (Zp6 _ _ hL ⟨_,_,a92,c93,v91.length,rfl,hS.only (.c k4 (.c k1 (.c k1 (.c k1 (.c k0 (.c k1 .n)))))),YV⟩)
     ·skip;refine Ud ?_;refine r1 ?_;refine cn hL ?_ ?_
      ·intro hc hL;refine r3 ?_;refine WO.hn gN rfl (Zgr (e:= (ZL .i64)) hS X9 Y5 U6 rfl rfl rfl (Zh lk ZC) rfl [((),v61)] rfl (xs:= [v61]) rfl (by intro q hq;simp only [List.mem_cons,List.not_mem_nil,or_false] at hq;subst hq;exact trivial) rfl) ?_;rintro _ h97 ⟨b96,ZMv,rfl,hS⟩;obtain⟨z98,ZGS,hL⟩:=bind_some hL;refine WO.hv gN rfl (Zd4 (e:= (ZL .i64)) hS k6 Zez lk lk (hS.Jb k0) (hS.on k0) ZGS) ?_;rintro _ ZE3 ⟨a99,ZxS,rfl,hS⟩;refine r1 ?_;rintro ZA4 hS;refine r2 ?_;exact JnK.Yy _ hL ⟨_,_,a99,ZxS,z98.length,rfl,hS.only (.c k7 (.c k1 (.c k0 (.c k4 (.c k3 (.c k1 (.c k2 .n)))))))⟩
      ·intro hc hL;refine r2 ?_;exact JnK.Yy _ hL ⟨_,_,a76,c77,v75.length,rfl,hS.only (.c k4 (.c k4 (.c k4 (.c k3 (.c k2 (.c k0 (.c k1 .n)))))))⟩
    ·replace hL:=WB Zgu hL;refine WO.Zmy (Zi.yes rfl rfl rfl (ZP rfl (Zf rfl fh))) Zgu rfl ?_;refine WO.Zmy (Zi.yes rfl rfl rfl (Yd rfl fh)) Zgu rfl ?_;refine WO.w gN rfl (ZlG lk Zgu lk) ?_;refine r2 ?_;refine WC.ZdM lk rfl ?_;refine r8 ?_;exact Yz.Yy (Zp6 _ _ hL ⟨_,_,a76,c77,v75.length,rfl,hS.only (.c k1 (.c k1 (.c k1 (.c k1 (.c k1 (.c k1 .n)))))),YV⟩)
   ·intro hc hL;refine r8 ?_;refine r3 ?_;exact Yz.Yy (ZwI _ _ hL ⟨_,_,a76,c77,v75.length,rfl,hS.only (.c k0 (.c k0 (.c k0 (.c k0 (.c k0 (.c k0 .n)))))),YV⟩)
  ·intro hc hL;refine r4 ?_;refine ZR.Yy ?_;exact ZR.gen (vs:= []) rfl Zm rfl ⟨_,hL,⟨a64,c65,v63.length,rfl,hS.only (.c k1 (.c k1 (.c k1 (.c k0 (.c k0 (.c k0 .n))))))⟩⟩
theorem ZBa {F wm:Nat} {h:H} {p0:Store} {p1 p2:Int} {ZH:Option Nat} {Zp:Option Addr} {Zo:Nat} {ZA:Option Addr} {Zz Xo UI:Nat} {r:Bool} (ZE:wm <=h.size) (YZ:At h Xo UI [.int .i64 p0.machines,.int .i64 p0.names,.map ZH,.slice Zp p0.notes.length Zo,.slice ZA p0.freed.length Zz]) (YX:Stb wm h Xo) (ZF:Uu Zg Zl wm h ZH p0.cells) (Yk:Sl Zj wm h Zp Zo p0.notes) (Yo:Sl (ZL .i64) wm h ZA Zz p0.freed) (hL:ZrP F p0 p1 p2=some r):
 WR XX 91 #[.pointer (some ⟨Xo,UI,none⟩),.int .i64 p1,.int .i64 p2] wm h (CP (fun(v:Value) (Gb:List (Ast wm))=>v= .bool r∧Gb= []) [] h):=by
 refine bg Try.ntmps91 ZE ZQ.nil ?_;intro T hT hS;unfold ZrP at hL;refine r4 ?_;refine r1 ?_;refine WC.scope ?_;refine r1 ?_;refine WC.label ?_;refine r6 ?_;refine r1 ?_;refine WO.w gN rfl (ZU Xm (Zt fh rfl) (At.fz hS.fz YX YZ) (j:=0) rfl (v:= .int .i64 p0.machines) rfl) ?_;refine r4 ?_;refine WC.loop (WL.lift hL (fun(v7:Int) (s:Fs)=>∃ (Jt:Fr) (h1:H),s= ⟨Jt,[],h1,none⟩∧Sp wm T h [] h1∧Jt.at 0= .pointer (some ⟨Xo,UI,none⟩)∧Jt.at 1= .int .i64 p1∧Jt.at 2= .int .i64 p2∧Jt.at 13= .int .i64 p0.machines∧Jt.at 14= .int .i64 v7) ⟨_,_,rfl,hS.only .n,YV⟩ ?_);clear hL hS;rintro Ue v7 s ZhP hL ⟨Jt,h1,rfl,hS,e3,e4,e5,e6,e8⟩;dsimp only [Zh0] at hL;refine r6 ?_;refine cn hL ?_ ?_
 ·intro hc hL;refine r2 ?_;refine WC.ZaG (r:=r) (fun(_:Unit) (s:Fs)=>∃ (UJ:Fr) (h10:H),s= ⟨UJ,[],h10,none⟩∧Sp wm T h [] h10∧UJ.at 0= .pointer (some ⟨Xo,UI,none⟩)∧UJ.at 1= .int .i64 p1∧UJ.at 2= .int .i64 p2∧UJ.at 13= .int .i64 p0.machines∧UJ.at 14= .int .i64 v7) (ZhY v7 Ue) ?_ ?_
  ·clear hL hS;rintro _ s hL ⟨UJ,h10,rfl,hS,e12,e13,e14,e15,e16⟩;dsimp only [ZhY] at hL;refine r4 ?_;exact Yz.Yy (ZhP _ _ hL ⟨_,_,rfl,hS.only .n,YV⟩)
  ·skip;refine Ud ?_;refine WO.w gN rfl (ZU Zgn (Zt fh rfl) (At.fz hS.fz YX YZ) (j:=2) rfl (v:= .map ZH) rfl) ?_;refine r2 ?_;refine WO.w gN rfl (Y7 XT (Zh lk (Zh lk ZC)) rfl (cs':= [.int .i64 v7,.int .i64 p1]) rfl) ?_;obtain⟨x17,ZAb,hL⟩:=bind_some hL;refine WO.w gN rfl (K5 (kv:=Zg) (vv:=Zl) (k:= (Ze.mk v7 p1)) (z:= (Zb.mk 0 false 0 0 0 false)) YN Ua Un (Zt (ZP rfl (Zf rfl fh)) rfl) (Zt fh rfl) (hS.ms ZF).at_ ZAb (w:= .agg [.int .i64 x17.1.name,.bool x17.1.root,.int .i64 x17.1.from_,.int .i64 x17.1.has,.int .i64 x17.1.out,.bool x17.1.use].toArray) rfl) ?_;refine r4 ?_;rintro _ h19 ⟨b18,ZMT,rfl,hS⟩;refine r1 ?_;rintro h20 hS;refine r8 ?_;refine r2 ?_;refine cn hL ?_ ?_
   ·intro hc hL;refine r3 ?_;exact YR.Yy _ hL ⟨_,_,rfl,hS.only .n,YV⟩
   ·intro hc hL;refine r8 ?_;refine WO.w gN rfl (ZU Xm (Zt fh rfl) (At.fz hS.fz YX YZ) (j:=0) rfl (v:= .int .i64 p0.machines) rfl) ?_;refine r4 ?_;refine WC.loop (WL.lift hL (fun(p:Int×Bool×Int×Int×Bool×Int×Int×Int×Bool) (s:Fs)=>match p with | (v26,v29,v34,v36,v37,v38,v39,v40,v41)=>∃ (Zgy:Fr) (h21:H),s= ⟨Zgy,[],h21,none⟩∧Sp wm T h [bx wm b18 [.int .i64 v36,.bool v37,.int .i64 v38,.int .i64 v39,.int .i64 v40,.bool v41]] h21∧Zgy.at 0= .pointer (some ⟨Xo,UI,none⟩)∧Zgy.at 1= .int .i64 p1∧Zgy.at 2= .int .i64 p2∧Zgy.at 7= .int .i64 v26∧Zgy.at 8= .pointer (some ⟨b18,0,none⟩)∧Zgy.at 9= .bool v29∧Zgy.at 13= .int .i64 p0.machines∧Zgy.at 14= .int .i64 v7∧Zgy.at 33= .int .i64 p0.machines∧Zgy.at 34= .int .i64 v34) ⟨_,_,rfl,hS.only (.c k0 .n),YV⟩ ?_);clear hL hS;rintro Ztt ⟨v26,v29,v34,v36,v37,v38,v39,v40,v41⟩ s ZwN hL ⟨Zgy,h21,rfl,hS,e23,e24,e25,e27,e28,e30,e31,e32,e33,e35⟩;dsimp only [ZhZ] at hL;refine r6 ?_;refine cn hL ?_ ?_
    ·intro hc hL;refine Ud ?_;refine cn hL ?_ ?_
     ·intro hc hL;refine r2 ?_;refine U5.other rfl ?_;refine r2 ?_;refine U5.other rfl ?_;refine r2 ?_;exact YR.Yy _ hL ⟨_,_,rfl,hS.only .n,YV⟩
     ·intro hc hL;refine Ud ?_;refine r2 ?_;refine cn hL ?_ ?_
      ·intro hc hL;refine Ud ?_;refine r1 ?_;refine YR.ret ?_;refine r3 ?_;refine Zst.ret ?_;exact rt hL hT hS
      ·intro hc hL;refine Ud ?_;refine r1 ?_;refine WO.w gN rfl (ZU Zgn (Zt fh rfl) (At.fz hS.fz YX YZ) (j:=2) rfl (v:= .map ZH) rfl) ?_;refine r2 ?_;refine WO.w gN rfl (Y7 XT (Zh lk (Zh lk ZC)) rfl (cs':= [.int .i64 v38,.int .i64 p1]) rfl) ?_;obtain⟨x43,Zos,hL⟩:=bind_some hL;refine WO.w gN rfl (K5 (kv:=Zg) (vv:=Zl) (k:= (Ze.mk v38 p1)) (z:= (Zb.mk 0 false 0 0 0 false)) YN Ua Un (Zt (ZP rfl (Zf rfl fh)) rfl) (Zt fh rfl) (hS.ms ZF).at_ Zos (w:= .agg [.int .i64 x43.1.name,.bool x43.1.root,.int .i64 x43.1.from_,.int .i64 x43.1.has,.int .i64 x43.1.out,.bool x43.1.use].toArray) rfl) ?_;refine r4 ?_;rintro h44 hS;refine r8 ?_;exact Yz.Yy (ZwN _ _ hL ⟨_,_,rfl,hS.only (.c k0 .n),YV⟩)
    ·intro hc hL;refine Ud ?_;refine cn hL ?_ ?_
     ·intro hc hL;refine r6 ?_;refine r1 ?_;refine YR.ret ?_;refine r3 ?_;refine Zst.ret ?_;exact rt hL hT hS
     ·intro hc hL;refine r2 ?_;exact YR.Yy _ hL ⟨_,_,rfl,hS.only .n,YV⟩
 ·intro hc hL;refine r8 ?_;refine r3 ?_;refine Zst.ret ?_;exact rt hL hT hS
theorem ZBb {F:Nat} {h:H} {p0:Store} {p1 p2:Int} {ZH:Option Nat} {Zp:Option Addr} {Zo:Nat} {ZA:Option Addr} {Zz Xo UI:Nat} {r:Bool} (YZ:At h Xo UI [.int .i64 p0.machines,.int .i64 p0.names,.map ZH,.slice Zp p0.notes.length Zo,.slice ZA p0.freed.length Zz]) (YX:Stb h.size h Xo) (ZF:Uu Zg Zl h.size h ZH p0.cells) (Yk:Sl Zj h.size h Zp Zo p0.notes) (Yo:Sl (ZL .i64) h.size h ZA Zz p0.freed) (hL:ZrP F p0 p1 p2=some r):Pure XX 91 #[.pointer (some ⟨Xo,UI,none⟩),.int .i64 p1,.int .i64 p2] h (.bool r):=
 WR.Qq rfl (ZBa (Nat.le_refl _) YZ YX ZF Yk Yo hL)
end Go.Proofs.Ytekpjgmhkkjhgaa
end
end
section
namespace Go.Proofs.Ytekpjgmhkkjhgaa
open Go.Lf
def ZcO (p0:(List Int)) (p1:Int):Int ->(Int ->Option Int) ->Option Int:=fun v6 Zf4=>
 (bif decide (v6 < (p0.length:Int)) then(Yg p0 v6).bind fun x9=>(bif(p1==x9) then some v6 else Zf4 (ZK (v6 + 1))) else some (-1))
def Zqz (F:Nat) (p0:(List Int)) (p1:Int):Option Int:=
 loop F (ZcO p0 p1) 0
end Go.Proofs.Ytekpjgmhkkjhgaa
end
section
set_option maxRecDepth 20000
noncomputable section
namespace Go.Proofs.Ytekpjgmhkkjhgaa
open Go.Yw Go.Lf
theorem ZxG {F wm:Nat} {h:H} {p0:(List Int)} {p1:Int} {Zr:Option Addr} {Zq:Nat} {r:Int} (ZE:wm <=h.size) (ZF:Sl (ZL .i64) wm h Zr Zq p0) (hL:Zqz F p0 p1=some r):
 WR XX 112 #[.slice Zr p0.length Zq,.int .i64 p1] wm h (CP (fun(v:Value) (Gb:List (Ast wm))=>v= .int .i64 r∧Gb= []) [] h):=by
 refine bg Try.ntmps112 ZE ZQ.nil ?_;intro T hT hS;unfold Zqz at hL;refine Ud ?_;refine r2 ?_;refine WC.loop (WL.lift hL (fun(v6:Int) (s:Fs)=>∃ (Jt:Fr) (h1:H),s= ⟨Jt,[],h1,none⟩∧Sp wm T h [] h1∧Jt.at 0= .slice Zr p0.length Zq∧Jt.at 1= .int .i64 p1∧Jt.at 7= .int .i64 (p0.length:Int)∧Jt.at 8= .int .i64 v6) ⟨_,_,rfl,hS.only .n,YV⟩ ?_);clear hL hS;rintro Zf4 v6 s ZhQ hL ⟨Jt,h1,rfl,hS,e3,e4,e5,e7⟩;dsimp only [ZcO] at hL;refine r6 ?_;refine cn hL ?_ ?_
 ·intro hc hL;refine Ud ?_;refine r3 ?_;obtain⟨x9,hx9,hL⟩:=bind_some hL;obtain⟨b10,o11,_,ZmQ,ZmV,ZmS,Zy6⟩:=Sl.at_ ZF hx9;refine WO.w gN rfl (Z4 X9 Y5 lk lk rfl ZmQ hx9) ?_;refine WO.w gN rfl (ZU Xm (Zt fh rfl) (At.fz hS.fz ZmS ZmV) (j:=0) rfl (v:= .int .i64 x9) rfl) ?_;refine r3 ?_;refine cn hL ?_ ?_
  ·intro hc hL;refine Ud ?_;exact rt hL hT hS
  ·intro hc hL;refine r6 ?_;refine r1 ?_;exact Yz.Yy (ZhQ _ _ hL ⟨_,_,rfl,hS.only .n,YV⟩)
 ·intro hc hL;refine r8 ?_;refine r3 ?_;exact rt hL hT hS
end Go.Proofs.Ytekpjgmhkkjhgaa
end
end
section
namespace Go.Proofs.Ytekpjgmhkkjhgaa
open Go.Lf
def Znc (p0:Store) (p1:Zn):Option (PR Unit):=
 (Zag p0.cells (Ze.mk p1.at_ p1.name) (Zb.mk 0 false 0 0 0 false)).bind fun x3=>(bif(p1.ZX==1) then(bif decide (p0.names >=12) then some (.Jk 3) else some (.ok ())) else(bif(p1.ZX==5) then(bif decide (p1.at_ >= (p0.notes.length:Int)) then some (.Jk 5) else some (.ok ())) else(bif(p1.ZX==4) then(bif((!x3.2) || (!x3.1.root)) then some (.Jk 7) else some (.ok ())) else(bif((!x3.2) || (!x3.1.use)) then some (.Jk 7) else some (.ok ())))))
def Zan (p0:Store) (p1:Zd):Option Store:=
 (app 40 p0.notes [p1]).bind fun z5=>some (Store.mk p0.machines p0.names p0.cells z5 p0.freed)
def Zna (p0:(List Zd)) (p1:Int) (p2:Int):Option (List Zd):=
 (slL p0 p1 p2).bind fun z1=>(bif(p1==p2) then some p0 else(slL p0 0 p1).bind fun z4=>(slL p0 p2 (p0.length:Int)).bind fun z13=>(app 40 z4 z13).bind fun z17=>some z17)
def Zm9 (p0:Int):Option Zb:=
 some (Zb.mk p0 false (-1) 0 0 false)
end Go.Proofs.Ytekpjgmhkkjhgaa
end
section
set_option maxRecDepth 20000
noncomputable section
namespace Go.Proofs.Ytekpjgmhkkjhgaa
open Go.Yw Go.Lf
theorem Zqy {wm:Nat} {h:H} {p0:Store} {p1:Zn} {ZH:Option Nat} {Zp:Option Addr} {Zo:Nat} {ZA:Option Addr} {Zz Xo UI:Nat} {r:(PR Unit)} (ZE:wm <=h.size) (YZ:At h Xo UI [.int .i64 p0.machines,.int .i64 p0.names,.map ZH,.slice Zp p0.notes.length Zo,.slice ZA p0.freed.length Zz]) (YX:Stb wm h Xo) (ZF:Uu Zg Zl wm h ZH p0.cells) (Yk:Sl Zj wm h Zp Zo p0.notes) (Yo:Sl (ZL .i64) wm h ZA Zz p0.freed) (hL:Znc p0 p1=some r):
 WF XX 115 #[.pointer (some ⟨Xo,UI,none⟩),.agg [.int .i64 p1.ZX,.int .i64 p1.at_,.int .i64 p1.name,.int .i64 p1.Zw].toArray] wm h (PQ 32 (fun(r:Unit) (v:Value) (Gb:List (Ast wm))=>v= .tuple [].toArray∧Gb= []) [] h r):=by
 refine WF.ZfL (args:= [_,_]) (fn:=Try.f115) (by kernel_rfl) (by exact rfl) Try.ntmps115 (by simp) ?_;simp only [ZG,ZN,Nat.reduceAdd];obtain⟨T,hT,hS⟩:∃ T,T=XG (wm:=wm) []∧Sp wm T h [] h:= ⟨_,rfl,Sp.start ZE ZQ.nil⟩
 unfold Znc at hL;refine r3 ?_;rintro _ h2 ⟨b1,eb1,rfl,hS⟩;refine r3 ?_;refine WC.Yl mixed (by kernel_rfl) ?_;refine r3 ?_;refine WX.w gN rfl (ZU Zgn (Zt fh rfl) (At.fz hS.fz YX YZ) (j:=2) rfl (v:= .map ZH) rfl) ?_ rfl;refine r4 ?_;refine WX.w gN rfl (Y7 XT (Zh lk (Zh lk ZC)) rfl (cs':= [.int .i64 p1.at_,.int .i64 p1.name]) rfl) ?_ rfl;obtain⟨x3,hx3,hL⟩:=bind_some hL;refine WX.w gN rfl (K5 (kv:=Zg) (vv:=Zl) (k:= (Ze.mk p1.at_ p1.name)) (z:= (Zb.mk 0 false 0 0 0 false)) YN Ua Un (Zt (Yd rfl (Zf rfl fh)) rfl) (Zt fh rfl) (hS.ms ZF).at_ hx3 (w:= .agg [.int .i64 x3.1.name,.bool x3.1.root,.int .i64 x3.1.from_,.int .i64 x3.1.has,.int .i64 x3.1.out,.bool x3.1.use].toArray) rfl) ?_ rfl;refine r3 ?_;refine WX.hn gN rfl (Zhn hS Un (vs:= [.int .i64 0,.bool false,.int .i64 0,.int .i64 0,.int .i64 0,.bool false]) rfl) ?_ rfl;rintro _ h5 ⟨b4,eb4,rfl,hS⟩;refine WX.hu gN (J5 hS k0 Uo lk lk (vs:= [.int .i64 x3.1.name,.bool x3.1.root,.int .i64 x3.1.from_,.int .i64 x3.1.has,.int .i64 x3.1.out,.bool x3.1.use]) rfl rfl rfl rfl (cs':= [.int .i64 x3.1.name,.bool x3.1.root,.int .i64 x3.1.from_,.int .i64 x3.1.has,.int .i64 x3.1.out,.bool x3.1.use]) rfl) ?_ rfl rfl [] (by kernel_rfl) Z7.e;rintro h6 hS;refine WX.w gN rfl (Z5 lk) ?_ (by kernel_rfl);refine Ud ?_;refine r3 ?_;refine cn hL ?_ ?_
 ·intro hc hL;refine r4 ?_;refine r1 ?_;refine WO.w gN rfl (ZU Xm (Zt fh rfl) (At.fz hS.fz YX YZ) (j:=1) rfl (v:= .int .i64 p0.names) rfl) ?_;refine r3 ?_;refine cn hL ?_ ?_
  ·intro hc hL;refine r1 ?_;refine WO.w gN rfl (ZfM lk (by kernel_rfl)) ?_;refine WO.pnc gN lk ?_;refine U5.panic ?_;refine XY.ofX ?_;refine Za2.Jk ?_;have hr:=Option.some.inj hL;subst hr;exact⟨rfl,hT ▸ hS.only .n⟩
  ·intro hc hL;refine r2 ?_;refine XY.Yy ?_;have hr:=Option.some.inj hL;subst hr;exact XY.Zuw rfl Zm rfl ⟨_,⟨rfl,rfl⟩,hT ▸ hS.only .n⟩
 ·intro hc hL;refine r6 ?_;refine cn hL ?_ ?_
  ·intro hc hL;refine r1 ?_;refine WC.Yl mixed (by kernel_rfl) ?_;refine r4 ?_;refine r1 ?_;refine WX.w gN rfl (ZU Zj5 (Zt fh rfl) (At.fz hS.fz YX YZ) (j:=3) rfl (v:= .slice Zp p0.notes.length Zo) rfl) ?_ rfl;refine r4 ?_;refine cn hL ?_ ?_
   ·intro hc hL;refine r1 ?_;refine WO.w gN rfl (ZfM lk (by kernel_rfl)) ?_;refine WO.pnc gN lk ?_;refine U5.panic ?_;refine XY.ofX ?_;refine Za2.Jk ?_;have hr:=Option.some.inj hL;subst hr;exact⟨rfl,hT ▸ hS.only .n⟩
   ·intro hc hL;refine r2 ?_;refine XY.Yy ?_;have hr:=Option.some.inj hL;subst hr;exact XY.Zuw rfl Zm rfl ⟨_,⟨rfl,rfl⟩,hT ▸ hS.only .n⟩
  ·intro hc hL;refine r6 ?_;refine cn hL ?_ ?_
   ·intro hc hL;refine r8 ?_;refine r3 ?_;refine cn hL ?_ ?_
    ·intro hc hL;refine r1 ?_;refine WO.w gN rfl (ZfM lk (by kernel_rfl)) ?_;refine WO.pnc gN lk ?_;refine U5.panic ?_;refine XY.ofX ?_;refine Za2.Jk ?_;have hr:=Option.some.inj hL;subst hr;exact⟨rfl,hT ▸ hS.only .n⟩
    ·intro hc hL;refine r2 ?_;refine XY.Yy ?_;have hr:=Option.some.inj hL;subst hr;exact XY.Zuw rfl Zm rfl ⟨_,⟨rfl,rfl⟩,hT ▸ hS.only .n⟩
   ·intro hc hL;refine r8 ?_;refine r3 ?_;refine cn hL ?_ ?_
    ·intro hc hL;refine r1 ?_;refine WO.w gN rfl (ZfM lk (by kernel_rfl)) ?_;refine WO.pnc gN lk ?_;refine U5.panic ?_;refine XY.ofX ?_;refine Za2.Jk ?_;have hr:=Option.some.inj hL;subst hr;exact⟨rfl,hT ▸ hS.only .n⟩
    ·intro hc hL;refine r2 ?_;refine XY.Yy ?_;have hr:=Option.some.inj hL;subst hr;exact XY.Zuw rfl Zm rfl ⟨_,⟨rfl,rfl⟩,hT ▸ hS.only .n⟩
theorem ZgS {wm:Nat} {h:H} {p0:Store} {p1:Zd} {ZH:Nat} {Zp:Option Addr} {Zo Xr:Nat} {ZA:Option Addr} {Zz XO Xo:Nat} {r:Store} (ZE:wm <=h.size) (hO:ZQ (wm:=wm) [bx wm Xo [.int .i64 p0.machines,.int .i64 p0.names,.map (some ZH),.slice Zp Xr Zo,.slice ZA XO Zz],mp wm Zg Zl (some ZH) p0.cells,ow wm Zj Zp Xr Zo p0.notes,ow wm (ZL .i64) ZA XO Zz p0.freed] h) (hL:Zan p0 p1=some r):
 WR XX 117 #[.pointer (some ⟨Xo,0,none⟩),.agg [.int .i64 p1.kind,.int .i64 p1.Zw,.int .i64 p1.name,.int .i64 p1.via,.int .i64 p1.w].toArray] wm h (CP (fun(v:Value) (Gb:List (Ast wm))=>∃ (JB:Nat) (JF:Option Addr) (Jz:Nat) (JD:Nat) (JE:Option Addr) (Jy:Nat) (JC:Nat),v= .tuple [].toArray∧Gb= [bx wm Xo [.int .i64 r.machines,.int .i64 r.names,.map (some JB),.slice JF Jz JD,.slice JE Jy JC],mp wm Zg Zl (some JB) r.cells,ow wm Zj JF Jz JD r.notes,ow wm (ZL .i64) JE Jy JC r.freed]) [bx wm Xo [.int .i64 p0.machines,.int .i64 p0.names,.map (some ZH),.slice Zp Xr Zo,.slice ZA XO Zz],mp wm Zg Zl (some ZH) p0.cells,ow wm Zj Zp Xr Zo p0.notes,ow wm (ZL .i64) ZA XO Zz p0.freed] h):=by
 refine bg Try.ntmps117 ZE hO ?_;intro T hT hS;unfold Zan at hL;obtain rfl:=hS.on k2;obtain rfl:=hS.on k3;refine r3 ?_;rintro _ h2 ⟨b1,eb1,rfl,hS⟩;refine r2 ?_;refine WC.Yl mixed (by kernel_rfl) ?_;refine r6 ?_;refine WX.hn gN rfl (Zgr (e:=Zj) hS Ub Xl ZeL rfl rfl rfl (Zh lk ZC) rfl [((),p1)] rfl (xs:= [p1]) rfl (by intro q hq;simp only [List.mem_cons,List.not_mem_nil,or_false] at hq;subst hq;exact trivial) rfl) ?_ rfl;rintro _ h4 ⟨b3,eb3,rfl,hS⟩;obtain⟨z5,hz5,hL⟩:=bind_some hL;refine WX.hv gN rfl (Zd4 (e:=Zj) hS k4 ZiB lk lk (hS.Jb k0) (hS.on k0) hz5) ?_ rfl rfl [] (by kernel_rfl) Z7.e;rintro _ h8 ⟨a6,c7,rfl,hS⟩;refine WX.w gN rfl (Zpj lk) ?_ (by kernel_rfl);refine WX.w gN rfl (Xu ZkR lk) ?_ (by kernel_rfl);refine WX.hu gN (J5 hS k3 Zoc lk lk (vs:= [.slice a6 z5.length c7]) rfl rfl rfl rfl (cs':= [.int .i64 p0.machines,.int .i64 p0.names,.map (some ZH),.slice a6 z5.length c7,.slice ZA p0.freed.length Zz]) rfl) ?_ rfl (by kernel_rfl) [] (by kernel_rfl) Z7.e;rintro h9 hS;refine r1 ?_;refine ZR.Yy ?_;have hr:=Option.some.inj hL;subst hr;exact ZR.gen (vs:= []) rfl Zm rfl ⟨_,⟨ZH,a6,z5.length,c7,ZA,p0.freed.length,Zz,rfl,rfl⟩,hT ▸ hS.only (.c k0 (.c k3 (.c k0 (.c k2 .n))))⟩
theorem ZxC {wm:Nat} {h:H} {p0:(List Zd)} {p1 p2:Int} {Zr:Option Addr} {Zq Xw:Nat} {r:(List Zd)} (ZE:wm <=h.size) (hO:ZQ (wm:=wm) [ow wm Zj Zr Xw Zq p0] h) (hL:Zna p0 p1 p2=some r):
 WR XX 118 #[.slice Zr Xw Zq,.int .i64 p1,.int .i64 p2] wm h (CP (fun(v:Value) (Gb:List (Ast wm))=>∃ (Xk:Option Addr) (XA:Nat) (Xj:Nat),v= .slice Xk XA Xj∧Gb= [ow wm Zj Xk XA Xj r]) [ow wm Zj Zr Xw Zq p0] h):=by
 refine bg Try.ntmps118 ZE hO ?_;intro T hT hS;unfold Zna at hL;obtain rfl:=hS.on k0;refine Ud ?_;obtain⟨z1,hz1,hL⟩:=bind_some hL;refine WO.he gN rfl (Zs1 (hS.get k0).2 rfl Ub Xl (Zt (Yd rfl fh) rfl) (Zt (ZP rfl (Zf rfl fh)) rfl) (Zt (ZP rfl fh) rfl) (Zt fh rfl) hz1) ?_;rintro v2 hv3;refine r8 ?_;refine r2 ?_;refine cn hL ?_ ?_
 ·intro hc hL;refine r8 ?_;have hr:=Option.some.inj hL;subst hr;exact ZR.Js rfl (ZB lk Zm) ⟨_,⟨Zr,p0.length,Zq,rfl,rfl⟩,hT ▸ hS.only (.c k0 .n)⟩
 ·intro hc hL;refine r8 ?_;refine r2 ?_;refine WC.Yl mixed (by kernel_rfl) ?_;refine r2 ?_;obtain⟨z4,hz4,hL⟩:=bind_some hL;have ZhT:= (hS.get k0).2.cap;refine WX.he gN rfl (ZsZ (hS.get k0).2 rfl Ub Xl (Zt (Zf rfl fh) rfl) (Zt fh rfl) hz4) ?_ rfl;rintro _ ⟨a5,c6,ea7,ec8,rfl,ZAd⟩;have Zu2:=ec8.symm;refine r2 ?_;obtain⟨z13,Zoq,hL⟩:=bind_some hL;refine WX.he gN rfl (ZpI (hS.get k0).2 rfl Ub Xl (Zt (Zf rfl fh) rfl) (.inr ⟨_,YB (Zt fh rfl)⟩) (.inl ⟨rfl,rfl⟩) Zoq) ?_ rfl;rintro _ ⟨a14,c15,rfl,ZAc⟩;obtain⟨z17,Zop,hL⟩:=bind_some hL;have Zz1:= (ZAc.own (hS.get k0).2).src;have hS:=hS.sub k0 ZAd;refine WX.hv gN rfl (Zyo (e:=Zj) hS k0 ZiB lk lk Zz1 rfl Zop (Zu2 ▸ Nat.le_trans (ZgW hz1 hz4 Zoq Zop) ZhT)) ?_ rfl rfl [] (by kernel_rfl) Z7.e;rintro _ h19 ⟨rfl,hS⟩;refine WX.w gN rfl (Z5 lk) ?_ (by kernel_rfl);refine r8 ?_;refine WO.he gN rfl (ZsY (hS.get k0).2 Ub Xl (Zt (ZP rfl (Zf rfl fh)) rfl) (Zt (Zf rfl fh) rfl) (Zt fh rfl) (ZgW hz1 hz4 Zoq Zop) (Zu2 ▸ ZhT)) ?_;rintro _ ⟨a20,c21,rfl,ZAf⟩;refine WO.hw gN (Zyn hS k0 ZAf rfl Ub ZeL rfl (Zt fh rfl)) ?_;rintro h24 hS;refine r8 ?_;refine r1 ?_;have hr:=Option.some.inj hL;subst hr;exact ZR.Js rfl (ZB lk Zm) ⟨_,⟨a5,z17.length,c6,rfl,rfl⟩,hT ▸ hS.only (.c k0 .n)⟩
theorem Zqx {wm:Nat} {h:H} {p0:Int} {r:Zb} (ZE:wm <=h.size) (hL:Zm9 p0=some r):
 WR XX 119 #[.int .i64 p0] wm h (CP (fun(v:Value) (Gb:List (Ast wm))=>v= .agg [.int .i64 r.name,.bool r.root,.int .i64 r.from_,.int .i64 r.has,.int .i64 r.out,.bool r.use].toArray∧Gb= []) [] h):=by
 refine bg Try.ntmps119 ZE ZQ.nil ?_;intro T hT hS;unfold Zm9 at hL;refine r3 ?_;rintro _ h2 ⟨b1,eb1,rfl,hS⟩;refine r4 ?_;refine r1 ?_;refine WO.w gN rfl (Xf Zzg (Zh lk (Zh lk ZC)) rfl (cs':= [.int .i64 p0,.bool false,.int .i64 (-1),.int .i64 0,.int .i64 0,.bool false]) rfl) ?_;refine r1 ?_;rintro h3 hS;refine r3 ?_;have hr:=Option.some.inj hL;subst hr;exact ZR.Js rfl (ZJ (ZP rfl fh) (ZT ZiC Uo (hS.X7 k0) (j:=0) rfl rfl (ws:= [.int .i64 p0,.bool false,.int .i64 (-1),.int .i64 0,.int .i64 0,.bool false]) rfl) Zm) ⟨_,⟨rfl,rfl⟩,hT ▸ hS.only .n⟩
end Go.Proofs.Ytekpjgmhkkjhgaa
end
end
section
namespace Go.Proofs.Ytekpjgmhkkjhgaa
open Go.Lf
def Zig (p0:Store) (p1:Int):Option Bool:=
 some ((decide (p1 >=0)) && (decide (p1 < p0.machines)))
def ZjO (p0:Int):Option Bool:=
 some (p0 !=p0)
end Go.Proofs.Ytekpjgmhkkjhgaa
end
section
set_option maxRecDepth 20000
noncomputable section
namespace Go.Proofs.Ytekpjgmhkkjhgaa
open Go.Yw Go.Lf
theorem Zli {wm:Nat} {h:H} {p0:Store} {p1:Int} {ZH:Option Nat} {Zp:Option Addr} {Zo:Nat} {ZA:Option Addr} {Zz Xo UI:Nat} {r:Bool} (ZE:wm <=h.size) (YZ:At h Xo UI [.int .i64 p0.machines,.int .i64 p0.names,.map ZH,.slice Zp p0.notes.length Zo,.slice ZA p0.freed.length Zz]) (YX:Stb wm h Xo) (ZF:Uu Zg Zl wm h ZH p0.cells) (Yk:Sl Zj wm h Zp Zo p0.notes) (Yo:Sl (ZL .i64) wm h ZA Zz p0.freed) (hL:Zig p0 p1=some r):
 WR XX 124 #[.pointer (some ⟨Xo,UI,none⟩),.int .i64 p1] wm h (CP (fun(v:Value) (Gb:List (Ast wm))=>v= .bool r∧Gb= []) [] h):=by
 refine bg Try.ntmps124 ZE ZQ.nil ?_;intro T hT hS;unfold Zig at hL;refine Ud ?_;refine r2 ?_;refine WO.gv (Zi.yes rfl rfl rfl (Yd rfl fh)) rfl (fun hg=>(ZU Xm (XJ fh rfl hg) (At.fz hS.fz YX YZ) (j:=0) rfl (v:= .int .i64 p0.machines) rfl)) ?_;refine r6 ?_;exact rt hL hT hS
theorem Zxv {wm:Nat} {h:H} {p0:Int} {r:Bool} (ZE:wm <=h.size) (hL:ZjO p0=some r):
 WR XX 143 #[.int .i64 p0] wm h (CP (fun(v:Value) (Gb:List (Ast wm))=>v= .bool r∧Gb= []) [] h):=by
 refine bg Try.ntmps143 ZE ZQ.nil ?_;intro T hT hS;unfold ZjO at hL;refine Ud ?_;refine r2 ?_;exact rt hL hT hS
theorem Zqp {h:H} {p0:Int} {r:Bool} (hL:ZjO p0=some r):Pure XX 143 #[.int .i64 p0] h (.bool r):=
 WR.Qq rfl (Zxv (Nat.le_refl _) hL)
end Go.Proofs.Ytekpjgmhkkjhgaa
end
end
section
namespace Go.Proofs.Ytekpjgmhkkjhgaa
open Go.Lf
def Zi2 (F:Nat) (p0:(List YI)) (p1:YI):Option Bool:=
 (Zxu F p0 p1).bind fun x3=>some (decide (x3 >=0))
def Zfq (p0:Store) (x7:(List Zd)) (x13:(List Int)):(List (List Zb)) ->Option Za:=fun v31=>
 some (Za.mk v31 x7 p0.names x13)
def Zk6 (p0:Store) (x7:(List Zd)) (x13:(List Int)) (v40:Int) (Wn:(Int×(List (List Zb)) ->Option Za)):Int×(List (List Zb)) ->(Int×(List (List Zb)) ->Option Za) ->Option Za:=fun(v50,v52) ZbX=>
 (bif decide (v50 < p0.names) then(Zag p0.cells (Ze.mk v40 v50) (Zb.mk 0 false 0 0 0 false)).bind fun x55=>(bif x55.2 then(Yg v52 v40).bind fun x66=>(app 48 x66 [x55.1]).bind fun z74=>(Yg v52 v40).bind fun x78=>(bif(!true) then(Zfq p0 x7 x13) (Jw v52 v40 z74) else ZbX (ZK (v50 + 1),Jw v52 v40 z74)) else ZbX (ZK (v50 + 1),v52)) else Wn (ZK (v40 + 1),v52))
def Zk7 (F:Nat) (p0:Store) (x7:(List Zd)) (x13:(List Int)):Int×(List (List Zb)) ->(Int×(List (List Zb)) ->Option Za) ->Option Za:=fun(v40,v42) Wn=>
 (bif decide (v40 < p0.machines) then loop F (Zk6 p0 x7 x13 v40 Wn) (0,v42) else(Zfq p0 x7 x13) v42)
def Zk8 (F:Nat) (p0:Store):Option Za:=
 (mkL ([]:(List Zb)) 24 p0.machines p0.machines).bind fun z3=>(ZoW p0.notes).bind fun x7=>(ZoV p0.freed).bind fun x13=>loop F (Zk7 F p0 x7 x13) (0,z3)
def ZaA (v24:Int) (Zkr:(Int×(List (Ze×Zb)) ->Option Store)) (x28:(List Zb)):Int×(List (Ze×Zb)) ->(Int×(List (Ze×Zb)) ->Option Store) ->Option Store:=fun(v42,v44) Zts=>
 (bif decide (v42 < (x28.length:Int)) then(Yg x28 v42).bind fun x46=>Zts (ZK (v42 + 1),Y1 v44 (Ze.mk v24 x46.name) x46) else Zkr (ZK (v24 + 1),v44))
def ZaB (F:Nat) (p0:Za) (x5:(List Zd)) (x11:(List Int)):Int×(List (Ze×Zb)) ->(Int×(List (Ze×Zb)) ->Option Store) ->Option Store:=fun(v24,v26) Zkr=>
 (bif decide (v24 < (p0.cells.length:Int)) then(Yg p0.cells v24).bind fun x28=>loop F (ZaA v24 Zkr x28) (0,v26) else some (Store.mk (p0.cells.length:Int) p0.names v26 x5 x11))
def Zh5 (F:Nat) (p0:Za):Option Store:=
 (ZoW p0.notes).bind fun x5=>(ZoV p0.freed).bind fun x11=>loop F (ZaB F p0 x5 x11) (0,[])
end Go.Proofs.Ytekpjgmhkkjhgaa
end
