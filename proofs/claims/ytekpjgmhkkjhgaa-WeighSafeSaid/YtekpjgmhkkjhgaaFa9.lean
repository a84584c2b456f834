/- Safe Part 9 of the proof. -/
import Derived.Test.YtekpjgmhkkjhgaaFa8
set_option linter.all false
section
noncomputable section
namespace Go.Yo
open Go.Lf
variable {X:Ctx} {n wm:Nat} {rd:Option Nat} {ops:Array Oper} {l:List Oper} {fr:Fr} {ds:List Deferred} {h h1 h2 h0:H} {ty:TypeId} {p:String} {af:Array Edge} {g:Option (Nat×Bool)} {m:Nat} {T:Nat ->Prop} {G Gr Ga Gb:List (Ast wm)} {d:Nat} {sf:ST}
def HW (X:Ctx) (wm:Nat) (o:Oper) (fr:Fr) (h:H) (K:H ->Prop):Prop:=∃ v E h1,Xc X h (ZQ fr) o=some (.val v,E)∧E.apply wm h=some h1∧K h1
theorem WO.hw {Q:XX ->Fs ->Prop} {op:Op} {K:H ->Prop} (hg:ZL ops ⟨none,op,ty,p,af,g⟩ fr) (s:HW X wm ⟨none,op,ty,p,af,g⟩ fr h K) (k:∀ h',K h' ->WO X n wm rd ops l ⟨fr,ds,h',none⟩ Q):
 WO X n wm rd ops (⟨none,op,ty,p,af,g⟩::l) ⟨fr,ds,h,none⟩ Q:=let⟨_,_,h1,ha,hE,hk⟩:=s;WO.val hg rfl ha hE (k h1 hk)
theorem Qe {t:TypeId} {x:Operand} {lo hi mx:Option Operand} {a:Option Addr} {nn c:Nat} {vlo vhi vmx:Option Value} {v:Value} (hx:ZQ fr x=some (.slice a nn c)) (el1:evo (ZQ fr) lo=some vlo) (eh1:evo (ZQ fr) hi=some vhi) (em1:evo (ZQ fr) mx=some vmx) (hv:aslice X.P h t (.slice a nn c) vlo vhi vmx=some v):
 Xc X h (ZQ fr) ⟨some d,.slice t x lo hi mx,ty,p,af,g⟩=some (.val v,.none):=by
 show(match ZQ fr x,evo (ZQ fr) lo,evo (ZQ fr) hi,evo (ZQ fr) mx with
  | some x,some lo,some hi,some mx=>bif plain x && not (ZlA x) then(match lo,hi,mx with
     | lo,hi,mx=>bif Qk (lo.toList ++ hi.toList ++ mx.toList) then pN (Zaf X.P (Instr.sliceAt t x lo hi mx)) else none)
    else vN (aslice X.P h t x lo hi mx)
  | _,_,_,_=>none)=_
 rw [hx,el1,eh1,em1];show(bif plain (.slice a nn c) && not (ZlA (.slice a nn c)) then _ else vN (aslice X.P h t (.slice a nn c) vlo vhi vmx))=_;have:ZlA (.slice a nn c)=true:=rfl;rw [this,Bool.not_true,Bool.and_false,cond_false,hv];rfl
section
variable {α:Type} {e:J7 α} {t el:TypeId} {x:Operand} {a:Option Addr} {nn c:Nat} {xs zs ws us:List α} {a1 a2 a3:Int}
theorem Zwl {lo hi mx:Operand} (so:Xv e wm wm h a c xs) (hn:nn=xs.length) (hu:X.P.underlying t=some (.slice el)) (hs:ZX X.P el=some e.sz) (hx:ZQ fr x=some (.slice a nn c))
 (hlo:ZQ fr lo=some (.int .i64 a1)) (hhi:ZQ fr hi=some (.int .i64 a2)) (hmx:ZQ fr mx=some (.int .i64 (xs.length:Nat))) (hz:slL xs a1 a2=some zs):
 ∃ v,Xc X h (ZQ fr) ⟨some d,.slice t x (some lo) (some hi) (some mx),ty,p,af,g⟩=some (.val v,.none):=by
 obtain⟨l,k,rfl,rfl,hlk,hkx,rfl⟩:=UG hz;subst hn;have e1:obN (some (.int .i64 (l:Int))) 0=some l:=rfl;have e2:∀ q,obN (some (.int .i64 (k:Int))) q=some k:=fun q=>rfl
 have e3:ZbM (.int .i64 ((xs.length:Nat):Int))=some xs.length:=rfl;rcases so.mem with⟨rfl,rfl,rfl⟩ | ⟨i,o,cs,rfl,q2,q3,q4,q5,q6⟩
 ·have hk0:k=0:=by simpa using hkx
  have hl0:l=0:=by omega
  subst hk0 hl0;refine⟨.slice none 0 0,Qe hx (YB hlo) (YB hhi) (YB hmx) ?_⟩
  have:aslice X.P h t (.slice none 0 0) (some (.int .i64 ((0:Nat):Int))) (some (.int .i64 ((0:Nat):Int))) (some (.int .i64 ((0:Nat):Int)))=some (.slice none 0 0):=by
   unfold aslice;simp only [hu,hs]
   rfl
  exact this
 ·refine⟨.slice (some ⟨i,bif Nat.beq xs.length l then o else o + l * e.sz,none⟩) (k - l) (2 * (xs.length - l)),Qe hx (YB hlo) (YB hhi) (YB hmx) ?_⟩;unfold aslice;simp only [hu,hs,e1,e2,e3];rw [Nat.ble_eq_true_of_le hlk,Nat.ble_eq_true_of_le hkx,Nat.ble_eq_true_of_le q4]
  rfl
theorem Zwk {hi:Operand} (so:Xv e wm wm h a c xs) (hn:nn=xs.length) (hu:X.P.underlying t=some (.slice el)) (hs:ZX X.P el=some e.sz) (hx:ZQ fr x=some (.slice a nn c))
 (hhi:ZQ fr hi=some (.int .i64 a2)) (hz:slL xs 0 a2=some zs):
 ∃ a' c',a'=a∧c'=c∧Xc X h (ZQ fr) ⟨some d,.slice t x none (some hi) none,ty,p,af,g⟩=some (.val (.slice a' zs.length c'),.none)∧Zix e a c xs a' c' zs:=by
 obtain⟨l,k,hl0,rfl,hlk,hkx,rfl⟩:=UG hz;have hl0:l=0:=by omega
 subst hl0 hn;have hlen:((xs.take k).drop 0).length=k:=by rw [List.drop_zero,List.length_take];omega
 have e2:∀ q,obN (some (.int .i64 (k:Int))) q=some k:=fun q=>rfl
 have e1:obN none 0=some 0:=rfl;refine⟨a,c,rfl,rfl,?_⟩;rcases so.mem with⟨rfl,rfl,rfl⟩ | ⟨i,o,cs,rfl,q2,q3,q4,q5,q6⟩
 ·have hk0:k=0:=by simpa using hkx
  subst hk0;refine⟨Qe hx rfl (YB hhi) rfl ?_,Zos rfl⟩
  have:aslice X.P h t (.slice none 0 0) none (some (.int .i64 ((0:Nat):Int))) none=some (.slice none 0 0):=by
   unfold aslice;simp only [hu,hs]
   rfl
  exact this
 ·refine⟨Qe hx rfl (YB hhi) rfl ?_,Zjs hlk hkx (.inl ⟨by omega,by omega⟩)⟩;rw [hlen];unfold aslice;simp only [hu,hs,e1,e2];rw [Nat.ble_eq_true_of_le (Nat.zero_le k),Nat.ble_eq_true_of_le (Nat.le_trans hkx q4)];simp only [Bool.and_self,cond_true];cases hev:Nat.beq (c % 2) 0 with
  | true=>
    have:=Nat.eq_of_beq_eq_true hev;have hc:2 * (c / 2 - 0)=c:=by omega
    simp only [cond_true,Nat.zero_mul,Nat.add_zero,Nat.sub_zero];cases Nat.beq (c / 2) 0 <;> simp only [cond_true,cond_false] <;> congr 2 <;> omega
  | false=>
    simp only [cond_false]
    rfl
structure Tl (e:J7 α) (a:Option Addr) (c k n3:Nat) (a3:Option Addr):Prop where
 out:n3=0∨∃ i o,a=some ⟨i,o,none⟩∧a3=some ⟨i,o + k * e.sz,none⟩∧k + n3 <=c / 2
theorem Zwj {lo hi:Operand} {mm:Nat} (so:Xv e wm wm h a c zs) (hu:X.P.underlying t=some (.slice el)) (hs:ZX X.P el=some e.sz) (hx:ZQ fr x=some (.slice a zs.length c))
 (hlo:ZQ fr lo=some (.int .i64 (zs.length:Nat))) (hhi:ZQ fr hi=some (.int .i64 (mm:Nat))) (hm:zs.length <=mm) (hc:mm <=c / 2):
 ∃ a' c',Xc X h (ZQ fr) ⟨some d,.slice t x (some lo) (some hi) none,ty,p,af,g⟩=some (.val (.slice a' (mm - zs.length) c'),.none)∧Tl e a c zs.length (mm - zs.length) a':=by
 have e1:obN (some (.int .i64 ((zs.length:Nat):Int))) 0=some zs.length:=rfl;have e2:∀ q,obN (some (.int .i64 (mm:Int))) q=some mm:=fun q=>rfl
 rcases so.mem with⟨rfl,rfl,rfl⟩ | ⟨i,o,cs,rfl,q2,q3,q4,q5,q6⟩
 ·have hk0:mm=0:=by omega
  subst hk0;refine⟨none,0,Qe hx (YB hlo) (YB hhi) rfl ?_,⟨.inl rfl⟩⟩
  have:aslice X.P h t (.slice none 0 0) (some (.int .i64 ((0:Nat):Int))) (some (.int .i64 ((0:Nat):Int))) none=some (.slice none 0 0):=by
   unfold aslice;simp only [hu,hs]
   rfl
  exact this
 ·have hmain:∀ v,(bif Nat.beq (c % 2) 0 then some (Value.slice (some ⟨i,bif Nat.beq (c / 2) zs.length then o else o + zs.length * e.sz,none⟩) (mm - zs.length) (2 * (c / 2 - zs.length)))
   else bif Nat.beq zs.length 0 then some (.slice (some ⟨i,o,none⟩) mm c)
   else some (.slice (some ⟨i,o + zs.length * e.sz,none⟩) (mm - zs.length) (2 * (c / 2 - zs.length) + 1)))=some v ->aslice X.P h t (.slice (some ⟨i,o,none⟩) zs.length c) (some (.int .i64 ((zs.length:Nat):Int))) (some (.int .i64 (mm:Int))) none=some v:=fun v hv=>by
   unfold aslice;simp only [hu,hs,e1,e2];rw [Nat.ble_eq_true_of_le hm,Nat.ble_eq_true_of_le hc,q3];have b2:(Nat.beq e.sz e.sz && Nat.ble 1 e.sz)=true:=by rw [Nat.beq_refl,Nat.ble_eq_true_of_le (show 1 <=e.sz from e.pos)];rfl
   simp only [b2,Bool.and_self,cond_true];exact hv
  cases hev:Nat.beq (c % 2) 0 with
  | true=>
    rw [hev] at hmain;refine⟨_,_,Qe hx (YB hlo) (YB hhi) rfl (hmain _ rfl),⟨?_⟩⟩;cases hcl:Nat.beq (c / 2) zs.length with
    | true=>have:=Nat.eq_of_beq_eq_true hcl;left;omega
    | false=>right;exact⟨i,o,rfl,rfl,by omega⟩
  | false=>
    rw [hev] at hmain;cases hl0:Nat.beq zs.length 0 with
    | true=>
      have h00:=Nat.eq_of_beq_eq_true hl0;rw [hl0] at hmain;refine⟨some ⟨i,o,none⟩,c,Qe hx (YB hlo) (YB hhi) rfl (hmain _ ?_),⟨.inr ⟨i,o,rfl,by rw [h00];simp,by omega⟩⟩⟩;rw [h00];rfl
    | false=>
      rw [hl0] at hmain;exact⟨_,_,Qe hx (YB hlo) (YB hhi) rfl (hmain _ rfl),⟨.inr ⟨i,o,rfl,rfl,by omega⟩⟩⟩
theorem Zk2 (z:List Value) (k:Nat):(JU z k).length=k * z.length:=by unfold JU;simp
theorem ZwK {ts:Array TypeId} {rest:List TypeId} {n3 c3:Nat} {z:Value} {a3':Option Addr} (hS:Sp wm T h0 G h) (pk:Pk G (ow wm e a nn c zs) Gr) (tl:Tl e a c zs.length n3 a3') (hts:ts.toList=t::rest) (hu:X.P.underlying t=some (.slice el)) (hz:Yt X.P el=some z) (hzl:z.cells.toList.length=e.sz) (hx:ZQ fr x=some (.slice a3' n3 c3)):
 HW X wm ⟨none,.call {callee:= .builtin .clear,args:=#[x],argTypes:=ts},ty,p,af,g⟩ fr h (fun h'=>Sp wm T h0 (ow wm e a nn c zs::Gr) h'):=by
 have key:∀ E,KO X.P h t (.slice a3' n3 c3)=some E ->Xc X h (ZQ fr) ⟨none,.call {callee:= .builtin .clear,args:=#[x],argTypes:=ts},ty,p,af,g⟩=some (.val (.tuple #[]),E):=fun E hE=>by
  have hev:evs (ZQ fr) (#[x]:Array Operand).toList=some [.slice a3' n3 c3]:=Zc hx Zl;rw [QE,hev];show(match ts.toList with | t::_=>(match KO X.P h t (.slice a3' n3 c3) with | some E=>some (AN.val (.tuple #[]),E) | none=>none) | []=>none)=_;rw [hts];dsimp only;rw [hE]
 obtain⟨h1,so⟩:=hS.get pk;by_cases h0':n3=0
 ·refine⟨_,.none,h,key _ ?_,rfl,hS.perm pk.perm⟩;unfold KO;simp only [hu,h0',Nat.beq_refl,cond_true]
 ·rcases tl.out with q | ⟨i,o,rfl,rfl,hcap⟩
  ·exact absurd q h0'
  ·rcases so.mem with⟨q,_⟩ | ⟨i',o',cs,q,q2,q3,q4,q5,q6⟩
   ·cases q
   ·cases q;have hb:Nat.beq n3 0=false:=by rw [Bool.eq_false_iff];intro q;exact h0' (Nat.eq_of_beq_eq_true q)
    have hfit:o + zs.length * e.sz + n3 * e.sz <=cs.length:=by
     have:(zs.length + n3) * e.sz <=c / 2 * e.sz:=Nat.mul_le_mul_right _ hcap;rw [Nat.add_mul] at this;omega
    have hzr:(JU z.cells.toList n3).length=n3 * e.sz:=by rw [Zk2,hzl]
    have hl2:o + zs.length * e.sz + (JU z.cells.toList n3).length <=cs.length:=by rw [hzr];exact hfit
    have hu':Up wm (fun j=>j=i) h (h.put i (.row (splice cs (o + zs.length * e.sz) (JU z.cells.toList n3)) true e.sz)):=Up.put q2 (by rw [q3];rfl);refine⟨_,.upd i (.row (splice cs (o + zs.length * e.sz) (JU z.cells.toList n3)) true e.sz),_,key _ ?_,?_,hS.one pk hu' (fun j q=>⟨o,by rw [q]⟩) ⟨h1,so.max,.inr ⟨i,o,_,rfl,q2,Z0 (Xx q3 rfl) _,q4,by rw [QI _ _ _ hl2];exact q5,?_⟩⟩ fun j q=>.inl q⟩
    ·unfold KO;simp only [hu,hb,cond_false,hz,q3,hzl];rw [Nat.ble_eq_true_of_le hfit];rfl
    ·show(bif Nat.ble wm i && (h.at i).own then some (h.put i _) else none)=_;rw [q3,Nat.ble_eq_true_of_le q2];rfl
    ·refine⟨by rw [QI _ _ _ hl2];exact q6.len,fun k x hk=>?_⟩;obtain⟨q,g1,g2⟩:=q6.get k x hk;refine⟨q,?_,e.mono (hu'.fz (Nat.le_refl _)) g2⟩;have hkl:= (List.getElem?_eq_some_iff.1 hk).1;have:(k + 1) * e.sz <=zs.length * e.sz:=Nat.mul_le_mul_right _ hkl;rw [Nat.succ_mul] at this;rw [ZcZ hl2 (.inl (by omega)),g1]
theorem Zwq {ts:Array TypeId} {x y:Operand} {JO:Nat} {b2:Option Addr} {c2:Nat} {ys:List α} (hi:ZfZ X.P ts e.sz JO) (hx:ZQ fr x=some (.slice a xs.length c)) (hy:ZQ fr y=some (.slice b2 ys.length c2)) (so:Xv e wm wm h a c xs) (sr:Src e wm h b2 c2 ys) (hr:xs.length + ys.length <=c / 2):
 ∃ E,Xc X h (ZQ fr) ⟨some d,.call {callee:= .builtin .append,args:=#[x,y],argTypes:=ts},ty,p,af,g⟩=some (.val (.slice a (xs ++ ys).length c),E):=by
 obtain⟨el,z,hi⟩:=hi;obtain⟨new,n1,n2,n3⟩:=sr.reads;have n4:=n3.one n2;have hev:evs (ZQ fr) (#[x,y]:Array Operand).toList=some [.slice a xs.length c,.slice b2 ys.length c2]:=Zc hx (Zc hy Zl);have hls:XZ (.slice b2 ys.length c2)=ys.length:=rfl
 have key:∀ (v:Value) (E:Eff),XO X.P h ts (.slice a xs.length c) (.slice b2 ys.length c2)=some (v,E) ->Xc X h (ZQ fr) ⟨some d,.call {callee:= .builtin .append,args:=#[x,y],argTypes:=ts},ty,p,af,g⟩=some (.val v,E):=by
  intro v E hE;rw [QE,hev];show vE (XO X.P h ts (.slice a xs.length c) (.slice b2 ys.length c2))=_;rw [hE];rfl
 have hle2:(xs ++ ys).length=xs.length + ys.length:=List.length_append;by_cases hy0:ys= []
 ·subst hy0;refine⟨.none,key _ _ ?_⟩;unfold XO;rw [hi];dsimp only;rw [n1];dsimp only;rw [hls,Nat.ble_eq_true_of_le hr,hle2];rfl
 ·have hyl:0 < ys.length:=List.length_pos_iff.2 hy0;rcases so.mem with⟨rfl,rfl,rfl⟩ | ⟨i,o,cs,rfl,hlo2,hrow,hc1,hc2,hel⟩
  ·exfalso;simp at hr;exact hy0 hr
  ·refine⟨.upd i (.row (splice cs (o + xs.length * e.sz) new) true e.sz),key _ _ ?_⟩
   have hfit:o + xs.length * e.sz + new.length <=cs.length:=by
    rw [n2];have:(xs.length + ys.length) * e.sz <=c / 2 * e.sz:=Nat.mul_le_mul_right _ hr;rw [Nat.add_mul] at this;omega
   unfold XO;rw [hi];dsimp only;rw [n1];dsimp only;rw [hls,Nat.ble_eq_true_of_le hr];have b1:Nat.beq ys.length 0=false:=by rw [Bool.eq_false_iff];intro q;have:=Nat.eq_of_beq_eq_true q;omega
   rw [b1,hrow];simp only [cond_true,cond_false];rw [Nat.ble_eq_true_of_le hfit,n4,hle2];rfl
theorem ZwL {ts:Array TypeId} {x y:Operand} {JO:Nat} {b2:Option Addr} {n2 c2:Nat} {ys:List α} (hS:Sp wm T h0 G h) (pk:Pk G (ow wm e a nn c xs) Gr) (hi:ZfZ X.P ts e.sz JO) (hx:ZQ fr x=some (.slice a nn c)) (hy:ZQ fr y=some (.slice b2 n2 c2)) (sr:Src e wm h b2 c2 ys) (hn:n2=ys.length) (ha:app JO xs ys=some zs) (hr:zs.length <=c / 2):
 HV X wm ⟨some d,.call {callee:= .builtin .append,args:=#[x,y],argTypes:=ts},ty,p,af,g⟩ fr h (XF a) (fun v h'=>v= .slice a zs.length c∧Sp wm T h0 (ow wm e a zs.length c zs::Gr) h'):=by
 obtain⟨v,E,h1,e1,e2,e3,e4,a',c',rfl,hS'⟩:=ZdJ (d:=d) (ty:=ty) (p:=p) (af:=af) (g:=g) hS pk hi hx hy sr hn ha;obtain⟨h1',so⟩:=hS.get pk;obtain⟨rfl,_⟩:=ZhR ha;subst h1' hn;obtain⟨E',e5⟩:=Zwq (d:=d) (ty:=ty) (p:=p) (af:=af) (g:=g) hi hx hy so sr (by rw [List.length_append] at hr;exact hr);rw [e5] at e1;cases e1;exact⟨_,_,h1,e5,e2,e3,e4,rfl,hS'⟩
theorem Zgt {b:Nat} {i j:Int} {u v:List α} (h3:slL xs i j=some ws) (h1:slL xs 0 i=some u) (h2:slL xs j xs.length=some v) (ha:app b u v=some zs):zs.length <=xs.length:=by
 obtain⟨l,k,rfl,rfl,hlk,hkx,rfl⟩:=UG h3;obtain⟨l1,k1,hl1,hk1,_,_,rfl⟩:=UG h1;obtain⟨l2,k2,hl2,hk2,_,_,rfl⟩:=UG h2;obtain⟨rfl,_⟩:=ZhR ha;simp only [List.length_append,List.length_drop,List.length_take];omega
end
section
variable {κ ν:Type} [DecidableEq κ] {kt vt:TypeId} {kv:κ ->Value} {vv:ν ->Value} {i:Nat} {ll:List (κ×ν)}
theorem Zx4 {ts:Array TypeId} {t:TypeId} {rest:List TypeId} {x y:Operand} {k:κ} (hS:Sp wm T h0 G h) (pk:Pk G (mp wm kv vv (some i) ll) Gr) (K:Zbr X.P kt kv) (hts:ts.toList=t::rest) (hu:X.P.underlying t=some (.map kt vt)) (hx:ZQ fr x=some (.map (some i))) (hy:ZQ fr y=some (kv k)):
 HW X wm ⟨none,.call {callee:= .builtin .delete,args:=#[x,y],argTypes:=ts},ty,p,af,g⟩ fr h (fun h'=>Sp wm T h0 (mp wm kv vv (some i) (Zay ll k)::Gr) h'):=by
 obtain⟨h',⟨E,ha,hE,_⟩,u,ho⟩:=ZzN (d:=none) (ty:=ty) (p:=p) (af:=af) (g:=g) K hts hu (Nat.le_refl wm) hx rfl hy (hS.get pk);exact⟨_,E,h',ha,hE,hS.one pk u (fun j e=>by cases e;rfl) ho fun j e=>.inl e⟩
end
end Go.Yo
end
end
section
noncomputable section
namespace Go.Yo
open Go.Lf
variable {X:Ctx} {n wm:Nat} {rd:Option Nat} {ops:Array Oper} {l:List Oper} {fr:Fr} {ds:List Deferred} {h h1 h2 h0:H} {ty:TypeId} {p:String} {af:Array Edge} {g:Option (Nat×Bool)} {m:Nat} {T:Nat ->Prop} {G Gr Ga Gb:List (Ast wm)} {d:Nat} {sf:ST}
def HE (X:Ctx) (o:Oper) (fr:Fr) (h:H) (K:Value ->Prop):Prop:=∃ v,Xc X h (ZQ fr) o=some (.val v,.none)∧K v
theorem WO.he {Q:XX ->Fs ->Prop} {op:Op} {K:Value ->Prop} (hg:ZL ops ⟨some d,op,ty,p,af,g⟩ fr) (hd:Nat.blt d n=true) (s:HE X ⟨some d,op,ty,p,af,g⟩ fr h K) (k:∀ v,K v ->WO X n wm rd ops l ⟨Tr.set fr d v,ds,h,none⟩ Q):
 WO X n wm rd ops (⟨some d,op,ty,p,af,g⟩::l) ⟨fr,ds,h,none⟩ Q:=let⟨v,ha,hk⟩:=s;WO.w hg hd ha (k v hk)
theorem WX.he {Q:Fr ->H ->Prop} {op:Op} {K:Value ->Prop} (hg:ZL ops ⟨some d,op,ty,p,af,g⟩ fr) (hd:Nat.blt d n=true) (s:HE X ⟨some d,op,ty,p,af,g⟩ fr h K) (k:∀ v,K v ->WX X n wm rd ops sf (m + 1) h l (Tr.set fr d v) Q) (hM:okM ops sf m ⟨some d,op,ty,p,af,g⟩=true):
 WX X n wm rd ops sf m h (⟨some d,op,ty,p,af,g⟩::l) fr Q:=let⟨v,ha,hk⟩:=s;WX.w hg hd ha (k v hk) hM
section
variable {α:Type} {e:J7 α} {t el:TypeId} {x:Operand} {a:Option Addr} {nn c:Nat} {xs zs ws us:List α} {a1 a2 a3:Int}
theorem Zro {lo hi:Option Operand} (so:Xv e wm wm h a c xs) (hn:nn=xs.length) (hu:X.P.underlying t=some (.slice el)) (hs:ZX X.P el=some e.sz) (hx:ZQ fr x=some (.slice a nn c))
 (hlo:evo (ZQ fr) lo=some none∧a1=0∨∃ k,evo (ZQ fr) lo=some (some (.int k a1))) (hhi:evo (ZQ fr) hi=some none∧a2=xs.length∨∃ k,evo (ZQ fr) hi=some (some (.int k a2))) (hz:slL xs a1 a2=some zs):
 HE X ⟨some d,.slice t x lo hi none,ty,p,af,g⟩ fr h (fun v=>∃ a' c',v= .slice a' zs.length c'∧Zix e a c xs a' c' zs):=
 let⟨a',c',h1,h2⟩:=ZtB (d:=d) (ty:=ty) (p:=p) (af:=af) (g:=g) so hn hu hs hx hlo hhi hz;⟨_,h1,a',c',rfl,h2⟩
theorem Zrn {lo hi mx:Operand} (so:Xv e wm wm h a c xs) (hn:nn=xs.length) (hu:X.P.underlying t=some (.slice el)) (hs:ZX X.P el=some e.sz) (hx:ZQ fr x=some (.slice a nn c))
 (hlo:ZQ fr lo=some (.int .i64 a1)) (hhi:ZQ fr hi=some (.int .i64 a2)) (hmx:ZQ fr mx=some (.int .i64 (xs.length:Nat))) (hz:slL xs a1 a2=some zs):
 HE X ⟨some d,.slice t x (some lo) (some hi) (some mx),ty,p,af,g⟩ fr h (fun _=>True):=let⟨v,hv⟩:=Zwl (d:=d) (ty:=ty) (p:=p) (af:=af) (g:=g) so hn hu hs hx hlo hhi hmx hz;⟨v,hv,trivial⟩
theorem Zrl {hi:Operand} (so:Xv e wm wm h a c xs) (hn:nn=xs.length) (hu:X.P.underlying t=some (.slice el)) (hs:ZX X.P el=some e.sz) (hx:ZQ fr x=some (.slice a nn c))
 (hhi:ZQ fr hi=some (.int .i64 a2)) (hz:slL xs 0 a2=some zs):
 HE X ⟨some d,.slice t x none (some hi) none,ty,p,af,g⟩ fr h (fun v=>∃ a' c',a'=a∧c'=c∧v= .slice a' zs.length c'∧Zix e a c xs a' c' zs):=
 let⟨a',c',h1,h2,h3,h4⟩:=Zwk (d:=d) (ty:=ty) (p:=p) (af:=af) (g:=g) so hn hu hs hx hhi hz;⟨_,h3,a',c',h1,h2,rfl,h4⟩
theorem Zrk {lo hi:Operand} {mm:Nat} (so:Xv e wm wm h a c zs) (hu:X.P.underlying t=some (.slice el)) (hs:ZX X.P el=some e.sz) (hx:ZQ fr x=some (.slice a zs.length c))
 (hlo:ZQ fr lo=some (.int .i64 (zs.length:Nat))) (hhi:ZQ fr hi=some (.int .i64 (mm:Nat))) (hm:zs.length <=mm) (hc:mm <=c / 2):
 HE X ⟨some d,.slice t x (some lo) (some hi) none,ty,p,af,g⟩ fr h (fun v=>∃ a' c',v= .slice a' (mm - zs.length) c'∧Tl e a c zs.length (mm - zs.length) a'):=
 let⟨a',c',h1,h2⟩:=Zwj (d:=d) (ty:=ty) (p:=p) (af:=af) (g:=g) so hu hs hx hlo hhi hm hc;⟨_,h1,a',c',rfl,h2⟩
theorem Zx3 {lo:Operand} {kk:IntKind} (so:Xv e wm wm h a c xs) (hn:nn=xs.length) (hu:X.P.underlying t=some (.slice el)) (hs:ZX X.P el=some e.sz) (hx:ZQ fr x=some (.slice a nn c))
 (hlo:ZQ fr lo=some (.int kk a1)) (hz:slL xs a1 xs.length=some zs):
 HE X ⟨some d,.slice t x (some lo) none none,ty,p,af,g⟩ fr h (fun v=>∃ a' c',v= .slice a' zs.length c'∧Zix e a c xs a' c' zs∧Tl e a c a1.toNat zs.length a'):=by
 obtain⟨a',c',h1,h2⟩:=ZtB (lo:=some lo) (hi:=none) (d:=d) (ty:=ty) (p:=p) (af:=af) (g:=g) so hn hu hs hx (.inr ⟨_,YB hlo⟩) (.inl ⟨rfl,rfl⟩) hz;refine⟨_,h1,a',c',rfl,h2,⟨?_⟩⟩;obtain⟨l,k,rfl,hk,hlk,hkx,rfl⟩:=UG hz;have hk:k=xs.length:=by omega
 subst hk;have hlen:((xs.take xs.length).drop l).length=xs.length - l:=by rw [List.length_drop,List.length_take];omega
 rw [hlen] at h1 ⊢;by_cases h00:xs.length - l=0
 ·exact .inl h00
 ·right;subst hn;have e1:obN (some (.int kk (l:Int))) 0=some l:=rfl;have e2:obN none xs.length=some xs.length:=rfl;rcases so.mem with⟨rfl,rfl,rfl⟩ | ⟨i,o,cs,rfl,q2,q3,q4,q5,q6⟩
  ·simp at h00
  ·refine⟨i,o,rfl,?_,by show l + _ <=_;omega⟩
   have key:∀ v,aslice X.P h t (.slice (some ⟨i,o,none⟩) xs.length c) (some (.int kk (l:Int))) none none=some v ->v= .slice a' (xs.length - l) c':=fun v hv=>by
    have:=Qe (lo:=some lo) (hi:=none) (mx:=none) (d:=d) (ty:=ty) (p:=p) (af:=af) (g:=g) hx (YB hlo) rfl rfl hv;rw [h1] at this;cases this;rfl
   unfold aslice at key;simp only [hu,hs,e1,e2] at key;rw [Nat.ble_eq_true_of_le hlk,Nat.ble_eq_true_of_le q4,q3] at key;have b2:(Nat.beq e.sz e.sz && Nat.ble 1 e.sz)=true:=by rw [Nat.beq_refl,Nat.ble_eq_true_of_le (show 1 <=e.sz from e.pos)];rfl
   simp only [b2,Bool.and_self,cond_true] at key;show a'=some ⟨i,o + l * e.sz,none⟩;cases hev:Nat.beq (c % 2) 0 with
   | true=>
     rw [hev] at key;have hcl:Nat.beq (c / 2) l=false:=by rw [Bool.eq_false_iff];intro q;have:=Nat.eq_of_beq_eq_true q;omega
     rw [hcl] at key;have:=key _ rfl;cases this;rfl
   | false=>
     rw [hev] at key;cases hl0:Nat.beq l 0 with
     | true=>
       have ZGl:=Nat.eq_of_beq_eq_true hl0;subst ZGl;rw [hl0] at key;have:=key _ rfl;cases this;simp
     | false=>
       rw [hl0] at key;have:=key _ rfl;cases this;rfl
theorem Zlg {cs vs:List Value} {q j k:Nat} (hl:q + vs.length <=cs.length) (hj:j + k <=vs.length):((splice cs q vs).drop (q + j)).take k= (vs.drop j).take k:=by
 apply List.ext_getElem?;intro t;by_cases ht:t < k
 ·rw [List.getElem?_take_of_lt ht,List.getElem?_take_of_lt ht,List.getElem?_drop,List.getElem?_drop,ZaS _ _ _ _ hl,if_pos (by omega)];congr 1;omega
 ·rw [List.getElem?_eq_none (by rw [List.length_take];omega),List.getElem?_eq_none (by rw [List.length_take];omega)]
theorem Zx5 {ts:Array TypeId} {rest:List TypeId} {k n3 c3:Nat} {z:Value} {a3':Option Addr} {q0:e.Par} {x0:α} (hS:Sp wm T h0 G h) (pk:Pk G (ow wm e a nn c xs) Gr) (tl:Tl e a c k n3 a3') (hk:k + n3=xs.length) (hts:ts.toList=t::rest) (hu:X.P.underlying t=some (.slice el)) (hz:Yt X.P el=some z) (hsh:z.cells.toList=e.sh q0 x0) (hF:∀ h',e.F wm h' q0 x0) (hx:ZQ fr x=some (.slice a3' n3 c3)):
 HW X wm ⟨none,.call {callee:= .builtin .clear,args:=#[x],argTypes:=ts},ty,p,af,g⟩ fr h (fun h'=>Sp wm T h0 (ow wm e a nn c (xs.take k ++ List.replicate n3 x0)::Gr) h'):=by
 have hzl:z.cells.toList.length=e.sz:=by rw [hsh,e.len]
 have key:∀ E,KO X.P h t (.slice a3' n3 c3)=some E ->Xc X h (ZQ fr) ⟨none,.call {callee:= .builtin .clear,args:=#[x],argTypes:=ts},ty,p,af,g⟩=some (.val (.tuple #[]),E):=fun E hE=>by
  have hev:evs (ZQ fr) (#[x]:Array Operand).toList=some [.slice a3' n3 c3]:=Zc hx Zl;rw [QE,hev];show(match ts.toList with | t::_=>(match KO X.P h t (.slice a3' n3 c3) with | some E=>some (AN.val (.tuple #[]),E) | none=>none) | []=>none)=_;rw [hts];dsimp only;rw [hE]
 obtain⟨h1,so⟩:=hS.get pk;by_cases h0':n3=0
 ·refine⟨_,.none,h,key _ ?_,rfl,?_⟩
  ·unfold KO;simp only [hu,h0',Nat.beq_refl,cond_true]
  ·have:xs.take k ++ List.replicate n3 x0=xs:=by rw [h0',List.take_of_length_le (by omega)];simp
   rw [this];exact hS.perm pk.perm
 ·rcases tl.out with q | ⟨i,o,rfl,rfl,hcap⟩
  ·exact absurd q h0'
  ·rcases so.mem with⟨q,_⟩ | ⟨i',o',cs,q,q2,q3,q4,q5,q6⟩
   ·cases q
   ·cases q;have hb:Nat.beq n3 0=false:=by rw [Bool.eq_false_iff];intro q;exact h0' (Nat.eq_of_beq_eq_true q)
    have hle:=q6.len;have hkn:k * e.sz + n3 * e.sz=xs.length * e.sz:=by rw [← Nat.add_mul,hk]
    have hfit:o + k * e.sz + n3 * e.sz <=cs.length:=by omega
    have hzr:(JU z.cells.toList n3).length=n3 * e.sz:=by rw [Zk2,hzl]
    have hl2:o + k * e.sz + (JU z.cells.toList n3).length <=cs.length:=by rw [hzr];exact hfit
    have hlen:(xs.take k ++ List.replicate n3 x0).length=xs.length:=by rw [List.length_append,List.length_take,List.length_replicate];omega
    have hu':Up wm (fun j=>j=i) h (h.put i (.row (splice cs (o + k * e.sz) (JU z.cells.toList n3)) true e.sz)):=Up.put q2 (by rw [q3];rfl);refine⟨_,.upd i (.row (splice cs (o + k * e.sz) (JU z.cells.toList n3)) true e.sz),_,key _ ?_,?_,hS.one pk hu' (fun j q=>⟨o,by rw [q]⟩) ⟨h1.trans hlen.symm,by rw [hlen];exact so.max,.inr ⟨i,o,_,rfl,q2,Z0 (Xx q3 rfl) _,by rw [hlen];exact q4,by rw [QI _ _ _ hl2];exact q5,?_⟩⟩ fun j q=>.inl q⟩
    ·unfold KO;simp only [hu,hb,cond_false,hz,q3,hzl];rw [Nat.ble_eq_true_of_le hfit];rfl
    ·show(bif Nat.ble wm i && (h.at i).own then some (h.put i _) else none)=_;rw [q3,Nat.ble_eq_true_of_le q2];rfl
    ·refine⟨by rw [hlen,QI _ _ _ hl2];exact q6.len,fun j x hj=>?_⟩;by_cases hjk:j < k
     ·rw [List.getElem?_append_left (by rw [List.length_take];omega),List.getElem?_take_of_lt hjk] at hj;obtain⟨q,g1,g2⟩:=q6.get j x hj;refine⟨q,?_,e.mono (hu'.fz (Nat.le_refl _)) g2⟩;have:(j + 1) * e.sz <=k * e.sz:=Nat.mul_le_mul_right _ hjk;rw [Nat.succ_mul] at this;rw [ZcZ hl2 (.inl (by omega)),g1]
     ·have hjl:j < xs.length:=by have:= (List.getElem?_eq_some_iff.1 hj).1;rwa [hlen] at this
      have hx0:x=x0:=by
       rw [List.getElem?_append_right (by rw [List.length_take];omega),List.getElem?_replicate] at hj;split at hj
       ·exact(Option.some.inj hj).symm
       ·cases hj
      refine⟨q0,?_,by rw [hx0];exact hF _⟩
      have e0:o + j * e.sz=o + k * e.sz + (j - k) * e.sz:=by
       have:k * e.sz + (j - k) * e.sz=j * e.sz:=by rw [← Nat.add_mul];congr 1;omega
       omega
      have e1:(j - k) * e.sz + e.sz <= (JU z.cells.toList n3).length:=by
       rw [hzr];have:(j - k + 1) * e.sz <=n3 * e.sz:=Nat.mul_le_mul_right _ (by omega);rw [Nat.succ_mul] at this;exact this
      rw [e0,Zlg hl2 e1];have:=ZiB z.cells.toList n3 (j - k) (by omega);rw [hzl] at this;rw [this,hsh,hx0]
end
theorem Zus {α:Type} {xs zs:List α} {a1:Int} (hz:slL xs a1 xs.length=some zs):a1.toNat + zs.length=xs.length:=by
 obtain⟨l,k,rfl,hk,hlk,hkx,rfl⟩:=UG hz;rw [List.length_drop,List.length_take];have:(l:Int).toNat=l:=rfl;omega
end Go.Yo
end
end
section
noncomputable section
namespace Go.Yo
open Go.Lf
variable {X:Ctx} {n wm Uz:Nat} {fr:Fr} {h:H} {ty:TypeId} {p:String} {af:Array Edge} {g:Option (Nat×Bool)} {d:Nat}
section
variable {α:Type} {e:J7 α} {t el:TypeId} {x:Operand} {a:Option Addr} {nn c:Nat} {xs zs:List α} {a2:Int}
theorem Sl.pre {k:Nat} (s:Sl e wm h a c xs) (hk:k <=xs.length):Sl e wm h a c (xs.take k):=by
 have hlen:(xs.take k).length=k:=by rw [List.length_take];omega
 refine⟨by rw [hlen];exact Nat.le_trans hk s.max,by rw [hlen];exact Nat.le_trans hk s.cap,s.nl,?_⟩;rcases s.mem with q | ⟨i,o,cs,own,z,q1,q2,q3,q4⟩
 ·left;subst q;simp
 ·refine .inr ⟨i,o,cs,own,z,q1,q2,q3,?_⟩;have:=q4.piece (Nat.zero_le k) hk
  simpa using this
theorem Xv.pre {k:Nat} (s:Xv e wm wm h a c xs) (hk:k <=xs.length):Xv e wm wm h a c (xs.take k):=by
 have hlen:(xs.take k).length=k:=by rw [List.length_take];omega
 refine⟨by rw [hlen];exact Nat.le_trans hk s.max,?_⟩;rcases s.mem with⟨q1,q2,q3⟩ | ⟨i,o,cs,q1,q2,q3,q4,q5,q6⟩
 ·left;subst q3;exact⟨q1,q2,by simp⟩
 ·refine .inr ⟨i,o,cs,q1,q2,q3,by rw [hlen];omega,q5,?_⟩;have:=q6.piece (Nat.zero_le k) hk
  simpa using this
theorem Zrm {hi:Operand} {kk:IntKind} (so:Sl e Uz h a c xs) (hn:nn=xs.length) (hu:X.P.underlying t=some (.slice el)) (hs:ZX X.P el=some e.sz) (hx:ZQ fr x=some (.slice a nn c))
 (hhi:ZQ fr hi=some (.int kk a2)) (hz:slL xs 0 a2=some zs):
 HE X ⟨some d,.slice t x none (some hi) none,ty,p,af,g⟩ fr h (fun v=>∃ a' c',v= .slice a' zs.length c'∧Zix e a c xs a' c' zs):=by
 obtain⟨l,k,hl0,rfl,hlk,hkx,rfl⟩:=UG hz;have hl0:l=0:=by omega
 subst hl0 hn;have hlen:((xs.take k).drop 0).length=k:=by rw [List.drop_zero,List.length_take];omega
 have e2:∀ q,obN (some (.int kk (k:Int))) q=some k:=fun q=>rfl
 have e1:obN none 0=some 0:=rfl
 have sub:Zix e a c xs a c ((xs.take k).drop 0):=by
  rw [List.drop_zero];exact⟨fun s=>s.pre hkx,fun s=>s.pre hkx,fun i q=>q⟩
 refine⟨.slice a k c,?_,a,c,by rw [hlen],sub⟩;have hcap:=so.cap;rcases so.nl with⟨rfl,rfl⟩ | ⟨rfl,rfl⟩ | ⟨i,o,rfl⟩
 ·have hx0:xs= []:=List.length_eq_zero_iff.1 (by omega);subst hx0;have hk0:k=0:=by simpa using hkx
  subst hk0;refine Qe hx rfl (YB hhi) rfl ?_
  have:aslice X.P h t (.slice none 0 0) none (some (.int kk ((0:Nat):Int))) none=some (.slice none 0 0):=by
   unfold aslice;simp only [hu,hs]
   rfl
  exact this
 ·have hx0:xs= []:=List.length_eq_zero_iff.1 (by omega);subst hx0;have hk0:k=0:=by simpa using hkx
  subst hk0;refine Qe hx rfl (YB hhi) rfl ?_
  have:aslice X.P h t (.slice (some ⟨0,0,some 0⟩) 0 0) none (some (.int kk ((0:Nat):Int))) none=some (.slice (some ⟨0,0,some 0⟩) 0 0):=by
   unfold aslice;simp only [hu,hs]
   rfl
  exact this
 ·refine Qe hx rfl (YB hhi) rfl ?_;unfold aslice;simp only [hu,hs,e1,e2];rw [Nat.ble_eq_true_of_le (Nat.zero_le k),Nat.ble_eq_true_of_le (Nat.le_trans hkx hcap)];simp only [Bool.and_self,cond_true];cases hev:Nat.beq (c % 2) 0 with
  | true=>
    have:=Nat.eq_of_beq_eq_true hev;simp only [cond_true,Nat.zero_mul,Nat.add_zero,Nat.sub_zero];have hc:2 * (c / 2)=c:=by omega
    rw [hc];cases Nat.beq (c / 2) 0 <;> rfl
  | false=>
    simp only [cond_false]
    rfl
end
end Go.Yo
end
end
section
noncomputable section
namespace Go.Yo
open Go.Lf
variable {X:Ctx} {n wm:Nat} {rd:Option Nat} {ops:Array Oper} {l:List Oper} {fr:Fr} {ds:List Deferred} {h h1 h2 h0:H} {ty:TypeId} {p:String} {af:Array Edge} {g:Option (Nat×Bool)} {T:Nat ->Prop} {G Gr Ga Gb:List (Ast wm)} {d:Nat}
theorem Zrx {α β:Type} {y:α} {p:Int ->Option β} {k:α ->Option β} {r:β} (h:prC (.ok y) p k=some r):k y=some r:=h
theorem Zow {α β:Type} {e:Int} {p:Int ->Option β} {k:α ->Option β} {r:β} (h:prC (.Q6 e) p k=some r):p e=some r:=h
theorem ZrC {α β:Type} {y:α} {p:Option β} {k:α ->Option β} {r:β} (h:opt (some y) p k=some r):k y=some r:=h
theorem ZrD {α β:Type} {p:Option β} {k:α ->Option β} {r:β} (h:opt none p k=some r):p=some r:=h
def pv (t:TypeId) (k:Int):Value:= .iface t (.int .i64 k)
def PQ {β:Type} {wm:Nat} (t:TypeId) (K:β ->Value ->List (Ast wm) ->Prop) (Ga:List (Ast wm)) (h:H) (r:PR β):WQ ->H ->Prop:=fun e h'=>match r with
 | .ok b=>∃ v,e= .ret v∧CP (K b) Ga h v h'
 | .Q6 k=>e= .Q6 (pv t k)∧Sp wm (Xw Ga) h [] h'
section
variable {β:Type} {t:TypeId} {K:β ->Value ->List (Ast wm) ->Prop} {f:FuncId} {args:Array Value}
theorem PQ.ok {b:β} (k:WF X f args wm h (PQ t K Ga h (.ok b))):WR X f args wm h (CP (K b) Ga h):=k
theorem PQ.Q6 {k:Int} (w:WF X f args wm h (PQ t K Ga h (.Q6 k))):∃ h',Sp wm (Xw Ga) h [] h'∧Yk X (.call f args wm h) (.fin (.Q6 (pv t k)) h'):=
 let⟨_,h',hq,hj⟩:=w;⟨h',hq.2,by have:=hq.1;subst this;exact hj⟩
theorem WO.clX {Q:XX ->Fs ->Prop} {op:Op} {k:Int} (hg:ZL ops ⟨some d,op,ty,p,af,g⟩ fr) (he:Xd X fr ⟨some d,op,ty,p,af,g⟩ f args) (hS:Sp wm T h0 G h) (pk:Sel G Ga Gr)
 (hc:∀ g':H,g'.size=h.size ->Fz wm h g' ->ZP Ga g' ->WF X f args wm g' (PQ t K Ga g' (.Q6 k))) (kk:∀ h',Sp wm T h0 Gr h' ->Q (.panic (pv t k)) ⟨fr,ds,h',none⟩):
 WO X n wm rd ops (⟨some d,op,ty,p,af,g⟩::l) ⟨fr,ds,h,none⟩ Q:=by
 obtain⟨h',hs,hj⟩:=PQ.Q6 (hc h rfl (Fz.refl _ _) (hS.Zgl pk));exact WO.ZhL hg (he h) rfl hj (kk h' (hS.call pk hs))
theorem WO.ZGF {Q:XX ->Fs ->Prop} {op:Op} {k:Int} {K:β ->Value ->List (Ast h.size) ->Prop} (hg:ZL ops ⟨some d,op,ty,p,af,g⟩ fr) (he:Xd X fr ⟨some d,op,ty,p,af,g⟩ f args) (hw:wm <=h.size) (hS:Sp wm T h0 G h)
 (hc:WF X f args h.size h (PQ t K [] h (.Q6 k))) (kk:∀ h',Sp wm T h0 G h' ->Q (.panic (pv t k)) ⟨fr,ds,h',none⟩):
 WO X n wm rd ops (⟨some d,op,ty,p,af,g⟩::l) ⟨fr,ds,h,none⟩ Q:=by
 obtain⟨h',hs,hj⟩:=PQ.Q6 hc;exact WO.ZhL hg (he h) rfl (hj.weaken hw (Nat.le_refl _)) (kk h' (Sp.clR (Gb:= []) hS hs .n))
theorem XP.ZsQ {fn:Func} {rs:List ResultVar} {vs:List Value} {v:Value} {b:β} {h0:H} (hr:fn.results.toList=rs) (hv:ZcJ X.P fr h rs=some vs) (hl:(match vs with | [v]=>v | vs=>.tuple vs.toArray)=v) (k:CP (K b) Ga h0 v h):XP X fn wm (PQ t K Ga h0 (.ok b)) .ret ⟨fr,[],h,none⟩:=
 XP.gen (R:=fun v h'=>CP (K b) Ga h0 v h') hr hv hl k
end
def ZaO (X:Ctx) (fn:Func) (wm:Nat) (Q:WQ ->H ->Prop) (pm:PM) (s:Fs):Prop:=∃ E h',Q E h'∧Yk X (.leave fn wm pm s) (.fin E h')
section
variable {fn:Func} {R:WQ ->H ->Prop} {s:Fs} {v:Value} {pm:PM}
theorem XP.ofP (k:ZaO X fn wm R .ret s):XP X fn wm R .ret s:=let⟨E,h',h1,h2⟩:=k;⟨⟨.ret,E,h',rfl,h1,h2⟩⟩
theorem XP.ofX (k:ZaO X fn wm R (.Q6 v) s):XP X fn wm R (.panic v) s:=let⟨E,h',h1,h2⟩:=k;⟨⟨.Q6 v,E,h',rfl,h1,h2⟩⟩
theorem ZaO.ofL (k:XP X fn wm R .ret s) (hp:pm= .ret):ZaO X fn wm R pm s:=by
 obtain⟨W9,E,h',e,h1,h2⟩:=k.out;cases e;subst hp;exact⟨E,h',h1,h2⟩
theorem ZaO.Q6 (k:R (.Q6 v) h):ZaO X fn wm R (.Q6 v) ⟨fr,[],h,none⟩:=by
 refine⟨.Q6 v,h,k,QY (C:=cfg X fun _=>false) (ih:=fun _=>none) (fun _ _ h=>by cases h) ?_⟩;unfold J9
 rfl
def DC (X:Ctx) (n wm:Nat) (c:Code) (pm:PM) (s:Fs) (Q:XX ->PM ->Fs ->Prop):Prop:=∃ e W9 s',Q e W9 s'∧Yk X (.Y8 c n wm pm s) (.Y8 e W9 s')
structure DSq (X:Ctx) (n wm:Nat) (b:Code) (Q:XX ->PM ->Fs ->Prop) (e:XX) (pm:PM) (s:Fs):Prop where
 Yw:e= .normal
 k:DC X n wm b pm s Q
theorem DC.seq {a b:Code} {Q:XX ->PM ->Fs ->Prop} (k:DC X n wm a pm s (DSq X n wm b Q)):DC X n wm (.seq a b) pm s Q:=by
 obtain⟨e,pm1,s1,⟨rfl,e2,pm2,s2,hq,j2⟩,j1⟩:=k;obtain⟨_,_,_,q1,ka⟩:=Xz.1 j1;cases q1;obtain⟨_,_,_,q2,kb⟩:=Xz.1 j2;cases q2;refine⟨_,_,_,hq,Xz.2 ⟨_,_,_,rfl,fun ρ a c0 cs w ZB hi hpm=>wpSIn_seq (QG (ka ρ a c0 cs w ZB hi hpm) ?_)⟩⟩;rintro e' a' cs' w' ⟨ρ',u',rfl,hp',he,hi',hst⟩;cases he;refine QG (kb ρ' a' {c0 with mode:=u'} cs w' (Nat.le_trans ZB hst.size) hi' hp') ?_;rintro e3 a3 cs3 w3 ⟨ρ3,u3,rfl,q1,q2,q3,q4⟩;exact⟨ρ3,u3,rfl,q1,q2,q3,hst.trans hi.rel.lt q4⟩
theorem DC.rgn {id:Nat} {ops:Array Oper} {dr:Bool} {Q:XX ->PM ->Fs ->Prop} (hn:(!dr && ops.toList.any isRecover)=false) (k:WC X n wm none (.region id ops dr) s (fun e s'=>Q e pm s')):DC X n wm (.region id ops dr) pm s Q:=by
 obtain⟨e,s',hq,j⟩:=k;refine⟨e,pm,s',hq,Xz.2 (QZ (C:=cfg X fun _=>false) (ih:=WT (.code (.region id ops dr) n wm none s) (.code e s')) (Qv (Y9.2 ⟨_,_,rfl,j⟩)) ?_)⟩;unfold Kg;dsimp only;rw [hn];unfold ZaD;rw [Qw];rfl
theorem DC.skip {Q:XX ->PM ->Fs ->Prop} (k:Q .normal pm s):DC X n wm .skip pm s Q:=by
 obtain⟨e,s',hq,j⟩:WC X n wm none .skip s (fun e s'=>Q e pm s'):=WC.skip k;refine⟨e,pm,s',hq,Xz.2 (QZ (C:=cfg X fun _=>false) (ih:=WT (.code .skip n wm none s) (.code e s')) (Qv (Y9.2 ⟨_,_,rfl,j⟩)) ?_)⟩;unfold Kg ZaD;dsimp only;rw [Qw];rfl
theorem DC.Ztn {c:Operand} {a b:Code} {t:Bool} {Q:XX ->PM ->Fs ->Prop} {fr:Fr} (hc:ZQ fr c=some (.bool t)) (ht:t=true) (k:DC X n wm a pm ⟨fr,ds,h,none⟩ Q):DC X n wm (.cond c a b) pm ⟨fr,ds,h,none⟩ Q:=by
 subst ht;obtain⟨e,W9,s',hq,j⟩:=k;refine⟨e,W9,s',hq,Xz.2 (QZ (C:=cfg X fun _=>false) (ih:=WT (.Y8 a n wm pm ⟨fr,ds,h,none⟩) (.Y8 e W9 s')) (Qv j) ?_)⟩;unfold Kg;dsimp only;rw [hc];exact Qw _ _
theorem DC.Zto {c:Operand} {a b:Code} {t:Bool} {Q:XX ->PM ->Fs ->Prop} {fr:Fr} (hc:ZQ fr c=some (.bool t)) (ht:t=false) (k:DC X n wm b pm ⟨fr,ds,h,none⟩ Q):DC X n wm (.cond c a b) pm ⟨fr,ds,h,none⟩ Q:=by
 subst ht;obtain⟨e,W9,s',hq,j⟩:=k;refine⟨e,W9,s',hq,Xz.2 (QZ (C:=cfg X fun _=>false) (ih:=WT (.Y8 b n wm pm ⟨fr,ds,h,none⟩) (.Y8 e W9 s')) (Qv j) ?_)⟩;unfold Kg;dsimp only;rw [hc];exact Qw _ _
theorem DC.rec {id:Nat} {ops:Array Oper} {Q:XX ->PM ->Fs ->Prop} (W9:PM) (fr':Fr) (hd:Zme X n wm ops.toList ops.toList pm ⟨fr,ds,h,none⟩=some (W9,⟨fr',ds,h,none⟩)) (hn:ops.toList.any isRecover=true) (k:Q .normal W9 ⟨fr',ds,h,none⟩):DC X n wm (.region id ops false) pm ⟨fr,ds,h,none⟩ Q:=by
 refine⟨.normal,W9,_,k,Xz.2 (QZ (C:=cfg X fun _=>false) (ih:=fun _=>none) (fun _ _ h=>by cases h) ?_)⟩;unfold Kg;dsimp only;rw [hn];have hd':Zme (cfg X fun _=>false).X n wm ops.toList ops.toList pm ⟨fr,ds,h,none⟩=some (W9,⟨fr',ds,h,none⟩):=hd;rw [hd'];rfl
structure DEn (X:Ctx) (fn:Func) (wm:Nat) (R:WQ ->H ->Prop) (fr:Fr) (ds:List Deferred) (e:XX) (pm:PM) (s:Fs):Prop where
 Yw:e= .normal
 no:s.ds= []
 k:ZaO X fn wm R (Zgc pm) ⟨fr,ds,s.h,none⟩
theorem ZaO.dfn {f:FuncId} {fn2:Func} {c:Code} {cap:List Value} {n2:Nat} (hf:X.fns.get f=some fn2) (hb:fn2.body=some c) (hnt:fn2.ntmps=n2) (hn:cap.length <=n2) (hr:fn2.results.toList= [])
 (k:DC X n2 wm c pm ⟨Xy cap 0 .nil,[],h,none⟩ (DEn X fn wm R fr ds)):ZaO X fn wm R pm ⟨fr,⟨.fn (.func f) cap.toArray,#[]⟩::ds,h,none⟩:=by
 subst hnt;obtain⟨e,W9,s',⟨rfl,hno,E,h',hR,jl⟩,jd⟩:=k;obtain⟨fr',ds',h2,wr'⟩:=s';dsimp only at hno jl;subst hno
 have jc:Yk X (.dcall f (([]:List Value) ++ cap).toArray pm wm h) (.ZcI W9 h2):=by
  refine ZcS (C:=cfg X fun _=>false) (ih:=WT (.Y8 c fn2.ntmps wm pm ⟨Xy cap 0 .nil,[],h,none⟩) (.Y8 .normal W9 ⟨fr',[],h2,wr'⟩)) (Qv jd) ?_;unfold Zd3;have hf':(cfg X fun _=>false).X.fns.get f=some fn2:=hf;rw [hf'];dsimp only;rw [hb];dsimp only;have e1:Nat.ble (([]:List Value) ++ cap).toArray.toList.length fn2.ntmps=true:=Nat.ble_eq_true_of_le hn;rw [e1,cond_true];rw [List.nil_append,Qw];unfold Ztm;dsimp only;have e3:Qr (cfg X fun _=>false).X.P fn2 fr' h2=some (.tuple #[]):=by unfold Qr;rw [hr];rfl
  rw [e3]
 refine⟨E,h',hR,?_⟩
 classical
 let ih:QS ->Option Yz:=fun j=>if j= .dcall f (([]:List Value) ++ cap).toArray pm wm h then some (.ZcI W9 h2) else if j= .leave fn wm (Zgc W9) ⟨fr,ds,h2,none⟩ then some (.fin E h') else none
 refine QY (C:=cfg X fun _=>false) (ih:=ih) ?_ ?_
 ·intro j r e;dsimp only [ih] at e;split at e
  ·rename_i hj;cases e;rw [hj];exact jc
  ·split at e
   ·rename_i hj;cases e;rw [hj];exact jl
   ·cases e
 ·unfold J9;dsimp only;have hf':(cfg X fun _=>false).X.fns.get f=some fn2:=hf;rw [hf'];dsimp only;have i1:ih (.dcall f ((#[]:Array Value).toList ++ cap.toArray.toList).toArray pm wm h)=some (.ZcI W9 h2):=by dsimp only [ih];rw [if_pos rfl]
  rw [i1];dsimp only [ih];rw [if_neg (by intro q;cases q),if_pos rfl]
end
section
theorem WO.dfr {Q:XX ->Fs ->Prop} {fo:Operand} {ts:Array TypeId} {f:FuncId} {cap:Array Value} (hg:ZL ops ⟨none,.defer {callee:= .value fo,args:=#[],argTypes:=ts},ty,p,af,g⟩ fr) (hf:ZQ fr fo=some (.func (.func f) #[] cap))
 (k:WO X n wm none ops l ⟨fr,⟨.fn (.func f) cap,#[]⟩::ds,h,none⟩ Q):WO X n wm none ops (⟨none,.defer {callee:= .value fo,args:=#[],argTypes:=ts},ty,p,af,g⟩::l) ⟨fr,ds,h,none⟩ Q:=by
 refine WO.cons (Za5 X) (s1:= ⟨fr,⟨.fn (.func f) cap,#[]⟩::ds,h,none⟩) ?_ k
 have ha:Xc X h (ZQ fr) ⟨none,.defer {callee:= .value fo,args:=#[],argTypes:=ts},ty,p,af,g⟩=some (.dfr ⟨.fn (.func f) cap,#[]⟩,.none):=by
  show(match evs (ZQ fr) [] with
   | some args=>(match ZQ fr fo with
     | some (.func (.func g) first cap)=>some (AN.dfr {target:= .fn (.func g) cap,args:=first ++ args.toArray},Eff.none)
     | _=>none)
   | none=>none)=_
  rw [hf];rfl
 unfold WN;rw [hg.1,hg.2];dsimp only [Bool.not_true,cond_false,cond_true];rw [ha]
 rfl
theorem WO.pnc {Q:XX ->Fs ->Prop} {x:Operand} {t:TypeId} {v:Value} (hg:ZL ops ⟨none,.panic x,ty,p,af,g⟩ fr) (hx:ZQ fr x=some (.iface t v)) (k:Q (.panic (.iface t v)) ⟨fr,ds,h,none⟩):WO X n wm rd ops (⟨none,.panic x,ty,p,af,g⟩::l) ⟨fr,ds,h,none⟩ Q:=by
 refine WO.panic (E:= .none) (h1:=h) hg ?_ rfl k
 show(match ZQ fr x with
  | some (.iface t v)=>some (AN.panic (.iface t v),Eff.none)
  | _=>none)=_
 rw [hx]
theorem Zfp {x:Operand} {t:TypeId} {v:Value} (hx:ZQ fr x=some v) (ht:(match X.P.underlying t with | some (.interface _)=>false | some _=>true | none=>false)=true):Xc X h (ZQ fr) ⟨some d,.makeInterface t x,ty,p,af,g⟩=some (.val (.iface t v),.none):=by
 show(match ZQ fr x,X.P.underlying t with
  | some _,some (.interface _)=>none
  | some v,some _=>some (AN.val (.iface t v),Eff.none)
  | _,_=>none)=_
 rw [hx];cases hh:X.P.underlying t with
 | none=>rw [hh] at ht;cases ht
 | some u=>
   rw [hh] at ht;cases u
   case interface=>cases ht
   all_goals rfl
end
end Go.Yo
end
end
section
noncomputable section
namespace Go.Yo
open Go.Lf
variable {X:Ctx} {n wm:Nat} {rd:Option Nat} {ops:Array Oper} {l:List Oper} {rest:Code}
theorem WO.body {s:Fs} {Q:XX ->Fs ->Prop} (k:WO X n wm rd ops l s (Qp X n wm rd rest Q)):∃ e s',Q e s'∧∀ {ρ:Ren} {F:Fence} {a:Act} {w:World},Inv ρ n s a w ->wm <=s.h.size ->FR' ρ rd F ->∀ Q':Exit ->Act ->World ->Prop,(∀ e' a' w',Xo wm n ρ s.h w e s' e' a' w' ->Q' e' a' w') ->
 wpListIn F 0 X.P ops (Exit.then (rest.wpIn F 0 X.P Q') Q') l a w:=by
 obtain⟨e1,s1,hk,ho⟩:=k.out;have hk:=hk.out;cases e1 with
 | normal=>
   obtain⟨e,s',hq,hj⟩:=hk;obtain⟨_,_,q0,kb⟩:=Y9.1 hj;cases q0;refine⟨e,s',hq,fun{ρ F a w} hi hw hF Q' hQ=>ho _ hi hw hF fun e' a' w' hp=>?_⟩;obtain⟨ρ',he,hi',hst⟩:=hp;cases he;exact wpIn_mono (kb ρ' a' w' F (Nat.le_trans hw hst.size) hi' (hF.mono hst.ext)) fun e2 a2 w2 hp2=>hQ _ _ _ (Xo.trans hi.rel.lt hst hp2)
 | exit id=>
   refine⟨_,s1,hk,fun{ρ F a w} hi hw hF Q' hQ=>ho _ hi hw hF fun e' a' w' hp=>?_⟩;obtain⟨ρ',he,hi',hst⟩:=hp;cases he;exact hQ _ _ _ ⟨ρ',.exit id,hi',hst⟩
 | goto id=>
   refine⟨_,s1,hk,fun{ρ F a w} hi hw hF Q' hQ=>ho _ hi hw hF fun e' a' w' hp=>?_⟩;obtain⟨ρ',he,hi',hst⟩:=hp;cases he;exact hQ _ _ _ ⟨ρ',.goto id,hi',hst⟩
 | ret=>
   refine⟨_,s1,hk,fun{ρ F a w} hi hw hF Q' hQ=>ho _ hi hw hF fun e' a' w' hp=>?_⟩;obtain⟨ρ',he,hi',hst⟩:=hp;cases he;exact hQ _ _ _ ⟨ρ',.ret,hi',hst⟩
 | panic v=>
   refine⟨_,s1,hk,fun{ρ F a w} hi hw hF Q' hQ=>ho _ hi hw hF fun e' a' w' hp=>?_⟩;obtain⟨ρ',he,hi',hst⟩:=hp;cases he with
   | panic hv=>exact hQ _ _ _ ⟨ρ',.panic hv,hi',hst⟩
theorem EL.mem' {ρ:Ren} {es es':List MapEntry} (e:EL ρ es es') {x:MapEntry} (hx:x ∈ es):∃ x' ∈ es',x'.born=x.born:=by
 induction e with
 | nil=>cases hx
 | cons hk hp hb hv _ ih=>
   rcases List.mem_cons.1 hx with rfl | h
   ·exact⟨_,by simp,hb⟩
   ·obtain⟨x',h1,h2⟩:=ih h;exact⟨x',List.mem_cons_of_mem _ h1,h2⟩
theorem ZrX {s:Fs} {id:Nat} {o:Oper} {t it m Y5 clock d:Nat} {es:List MapEntry} {T:List Nat} {v:Value} {e:XX} {s2:Fs} (Q6:Nat ->Bool)
 (hops:ops.toList=o::l) (hop:o.op= .next (.tmp t) false) (hgu:o.guard=none) (hfr:s.fr.at t= .pointer (some ⟨it,0,none⟩)) (hit:s.h.at it= .iter m clock Y5 none) (hm:s.h.at m= .map es clock) (hck:clock <=Y5) (hborn:Wt clock es=true) (Znj:wm <=it) (htT:t ∉ T) (hd:o.dst=some d) (hdn:d < n) (hdT:d ∈ T) (hv:plain v=true)
 (Zhe:∀ x ∈ es,∃ ex s3,(s3.ds=s.ds∧(∀ t,t ∉ T ->s3.fr.at t=s.fr.at t)∧(ex= .normal∧Q6 x.born=false∨ex= .panic v∧Q6 x.born=true))∧∀ {ρ:Ren} {F:Fence} {a:Act} {w:World},Inv ρ n {fr:=JQ (Z9 T s.fr) o.dst (.tuple #[.bool true,x.key,x.val]),ds:=s.ds,h:=s.h.put it (.iter m clock clock (some x.born)),wr:=s.wr} a w ->s.h.size <= (s.h.put it (.iter m clock clock (some x.born))).size ->FR' ρ rd F ->∀ Q':Exit ->Act ->World ->Prop,
   (∀ e' a' w',Xo s.h.size n ρ (s.h.put it (.iter m clock clock (some x.born))) w ex s3 e' a' w' ->Q' e' a' w') ->wpListIn F 0 X.P ops (Exit.then (rest.wpIn F 0 X.P Q') Q') l a w)
 (hover:(∀ x ∈ es,Q6 x.born=false) ->e ≠ .normal∧∀ {ρ:Ren} {F:Fence} {a:Act} {w:World},Inv ρ n {s with fr:=JQ (Z9 T s.fr) o.dst UZ,h:=s.h.put it .dead} a w ->wm <= (s.h.put it .dead).size ->FR' ρ rd F ->∀ Q':Exit ->Act ->World ->Prop,
   (∀ e' a' w',Xo wm n ρ (s.h.put it .dead) w e s2 e' a' w' ->Q' e' a' w') ->wpListIn F 0 X.P ops (Exit.then (rest.wpIn F 0 X.P Q') Q') l a w)
 (ZFl:(∃ x ∈ es,Q6 x.born=true) ->e= .panic v∧s2= {s with fr:=Z9 T s.fr,h:=s.h.put it .dead}):Yk X (.loop (.seq (.region id ops false) rest) n wm rd s) (.code e s2):=by
 refine ZbP.2 ⟨e,s2,rfl,fun ρ a0 w0 F ZB hi0 hF=>?_⟩;obtain⟨dd,hdr⟩:∃ d,d=it:= ⟨_,rfl⟩
 have Znk:=hi0.fr.val t (by rw [hfr];rfl);rw [hfr] at Znk;generalize hpx:a0.tmps.getD t undef=px at Znk;cases Znk with
 | @ptr _ bi di _ Zdf=>
 have hoi:=hi0.rel.obj _ _ _ Zdf;rw [hit] at hoi;obtain⟨rfl,bm,ZAU,Zg9,Zsg,_,Zdg⟩:=hoi;have Zdg:=Zdg rfl;subst Zdg;have hom:=hi0.rel.obj _ _ _ Zg9;rw [hm] at hom;obtain⟨_,es',Zse,hes⟩:=hom;have hilt:=hi0.rel.dom _ _ _ Zdf;have ZFp:=hi0.rel.dom _ _ _ Zg9;have Znp:m ≠ it:=fun z=>by rw [z,hit] at hm;cases hm
 have hold:∀ x ∈ es'.toList,x.born < clock:=by
  intro x hx;obtain⟨y,hy,_,_,hyb,_⟩:=hes.mem hx;rw [hyb];exact ZhM hborn y hy
 have ZlG:∀ j b d,ρ j=some (b,d) ->b=bi ->j ≠ it ->((s.h.at j).live=true ->False):=by
  intro j b d hj hbb hne' hl;subst hbb;exact hne' (hi0.rel.inj it j b 0 d Zdf hj (by rw [hit];rfl) hl).symm
 have hbne:bm ≠ bi:=fun z=>ZlG m bm 0 Zg9 z Znp (by rw [hm];rfl)
 have ZBJ:s.h.size= (s.h.put it .dead).size:=rfl
 have Zhb:∀ {a:Act} {w:World} {K:Act ->World ->Prop} {Q:Exit ->Act ->World ->Prop} {v:Value} {w1:World},a.tmps.getD t undef= .pointer (some ⟨bi,0,none⟩) ->(Instr.next (.pointer (some ⟨bi,0,none⟩)) false o.type).run X.P w= .ok v w1 ->
  K (a.put o.dst v) w1 ->(if Region.wanted o (yielded ops a.tmps) then o.wpIn F 0 X.P a w K Q else(∀ f,o.about X.P w a.eval=some f ->F.fn f)∧K (a.put o.dst undef) w):=by
  intro a w K Q v w1 ht hrun hK;have hw:Region.wanted o (yielded ops a.tmps)=true:=by unfold Region.wanted;rw [hgu]
  rw [if_pos hw];refine⟨fun f _=>WK hF f,?_⟩;have ZjN:o.semAt F.round a.eval=execOp a.eval o:=Oper.semAt_eq _ _ _ fun c hc=>by rw [hop] at hc;cases hc
  have he:a.eval (.tmp t)= .pointer (some ⟨bi,0,none⟩):=ht
  have hx:(execOp a.eval o).run X.P w= .ok (.value v) w1:=by
   unfold execOp;rw [hop];simp [he,hrun]
  rw [ZjN,hx];exact hK
 have ZBF:∀ t,t ∉ T ->t ≠ d:=fun t ht z=>by rw [z] at ht;exact ht hdT
 have ZlE:∀ (a:Act) (w:World),Inv ρ n {s with fr:=Z9 T s.fr,h:=s.h.put it .dead} a w ->a.tmps.getD t undef= .pointer (some ⟨bi,0,none⟩):=by
  intro a w hi;have h0:VR ρ ((Z9 T s.fr).at t) (a.tmps.getD t undef):=hi.fr.val t (by show Qx ((Z9 T s.fr).at t)=false;rw [Xb,if_neg htT,hfr];rfl);rw [Xb,if_neg htT,hfr] at h0;generalize a.tmps.getD t undef=y at h0;cases h0 with
  | ptr _ h1=>rw [Zdf] at h1;cases h1;rfl
 have Zsa:(∀ x ∈ es,Q6 x.born=false) ->∀ (a:Act) (w:World),Inv ρ n {s with fr:=Z9 T s.fr,h:=s.h.put it .dead} a w ->Stp wm ρ s.h w0 ρ (s.h.put it .dead) w ->a.tmps.getD t undef= .pointer (some ⟨bi,0,none⟩) ->
  (Instr.next (.pointer (some ⟨bi,0,none⟩)) false o.type).run X.P w= .ok UZ w ->LoopIn F 0 X.P (.seq (.region id ops false) rest) (Xo wm n ρ s.h w0 e s2) a w:=by
  intro hall a w hi hst ht hrun;obtain⟨hne,hover⟩:=hover hall;refine Xq (wpIn_seq (wpIn_region_list ?_));rw [hops];refine Zhb ht hrun ?_
  have hio:Inv ρ n {s with fr:=JQ (Z9 T s.fr) o.dst UZ,h:=s.h.put it .dead} (a.put o.dst UZ) w:=by
   refine⟨hi.rel,?_,?_⟩
   ·rw [hd];exact hi.fr.set hdn (VR.ZH rfl)
   ·rw [hd];exact hi.ds
  refine hover hio ZB hF _ fun e3 a3 w3 hp=>?_
  have hp2:=Xo.trans hi0.rel.lt hst hp;obtain⟨ρ3,hx3,hi3,Wd⟩:=hp2;cases hx3 with
  | normal=>exact(hne rfl).elim
  | exit id=>exact⟨ρ3,.exit id,hi3,Wd⟩
  | goto id=>exact⟨ρ3,.goto id,hi3,Wd⟩
  | ret=>exact⟨ρ3,.ret,hi3,Wd⟩
  | panic hv=>exact⟨ρ3,.panic hv,hi3,Wd⟩
 have Zxj:∀ seen:Array Nat,(∀ b,seen.contains b=true ->Q6 b=false) ->(leftOf es' seen).size=0 ->∀ x ∈ es,Q6 x.born=false:=by
  intro seen ZiV h00 x hx;obtain⟨y,hy,hyb⟩:=hes.mem' hx;refine ZiV _ ?_;cases hc:seen.contains x.born with
  | true=>rfl
  | false=>
    exfalso;have:y ∈ leftOf es' seen:=Array.mem_filter.2 ⟨Array.mem_toList_iff.1 hy,by rw [hyb,hc];rfl⟩;rw [Array.eq_empty_of_size_eq_zero h00] at this;simp at this
 have head:∀ (k:Nat) (seen:Array Nat) (last:Nat) (a:Act) (w:World),(∀ b,seen.contains b=true ->Q6 b=false) ->(leftOf es' seen).size <=k ->clock <=last ->w.heap[bi]? =some (.mapIter (some bm) clock seen last) ->w.heap[bm]? =some (.map es' clock) ->
  Inv ρ n {s with fr:=Z9 T s.fr,h:=s.h.put it .dead} a w ->
  Stp wm ρ s.h w0 ρ (s.h.put it .dead) w ->LoopIn F 0 X.P (.seq (.region id ops false) rest) (Xo wm n ρ s.h w0 e s2) a w:=by
  intro k
  induction k with
  | zero=>
    intro seen last a w ZiV hk hlast hblk ZdT hi hst;have ht:=ZlE a w hi;rcases Zgg (P:=X.P) o.type hblk ZdT hold (hlast) with⟨h00,hrun⟩ | ⟨e',he',_⟩
    ·exact Zsa (Zxj seen ZiV h00) a w hi hst ht hrun
    ·have:=Array.length_toList ▸ List.length_pos_of_mem he';omega
  | succ k ihk=>
    intro seen last a w ZiV hk hlast hblk ZdT hi hst;have ht:=ZlE a w hi;rcases Zgg (P:=X.P) o.type hblk ZdT hold (hlast) with⟨h00,hrun⟩ | ⟨e',he',w1,hw1,hsame,hrun⟩
    ·exact Zsa (Zxj seen ZiV h00) a w hi hst ht hrun
    ·have hmem:= (mem_left he').1;obtain⟨x,hx,hkey,hkp,hbn,hval⟩:=hes.mem hmem;obtain⟨ex,s3,⟨ZyF,hwr,hpn⟩,hbody⟩:=Zhe x hx;have Zsf:bi < w.heap.size:= (hi.rel.dom _ _ _ Zdf).2;have ZBH:bm < w.heap.size:= (hi.rel.dom _ _ _ Zg9).2;obtain⟨w2,hw2⟩:∃ w2,w2=w1.putObj bi (.mapIter (some bm) clock (seen.push e'.born) clock):= ⟨_,rfl⟩
     rw [← hw2] at hrun;have hsz2:w2.heap.size=w.heap.size:=by rw [hw2,World.putObj_size,hw1]
     have hother:∀ k,k ≠ bi ->w2.heap[k]? =w.heap[k]?:=fun k hk=>by rw [hw2,World.putObj_heap_other hk,hw1]
     have Zsh:w2.heap[bi]? =some (.mapIter (some bm) clock (seen.push e'.born) clock):=by rw [hw2];exact World.putObj_heap_same (by rw [hw1];exact Zsf)
     have Zdh:Same w w2:=by rw [hw2];exact⟨hsame.os,hsame.tape,hsame.output⟩
     have hrel:Rel ρ (s.h.put it (.iter m clock clock (some x.born))) w2:=by
      refine ZgQ hi.rel Zdf ZlG hother hsz2 ⟨rfl,bm,seen.push e'.born,Zg9,Zsh,fun z hz=>?_,fun z=>by cases z⟩;cases hz;rw [← hbn];simp
     have hie:Inv ρ n {fr:=JQ (Z9 T s.fr) o.dst (.tuple #[.bool true,x.key,x.val]),ds:=s.ds,h:=s.h.put it (.iter m clock clock (some x.born)),wr:=s.wr} (a.put o.dst (.tuple #[.bool true,e'.key,e'.val])) w2:=by
      refine⟨hrel,?_,?_⟩
      ·rw [hd];refine hi.fr.set hdn (.tuple _ _ rfl fun j y y' p q=>?_)
       match j,p,q with
       | 0,p,q=>simp at p q;subst p q;exact .bool true
       | 1,p,q=>simp at p q;subst p q;rw [hkey];exact VR.ZH hkp
       | 2,p,q=>simp at p q;subst p q;exact hval
       | j + 3,p,q=>simp at p
      ·rw [hd];exact hi.ds
     refine Xq (wpIn_seq (wpIn_region_list ?_));rw [hops];refine Zhb ht hrun ?_;refine hbody hie (Nat.le_refl _) hF _ fun e3 a3 w3 hp=>?_
     obtain⟨ρ3,hx3,hi3,Wd⟩:=hp;obtain⟨q1,q2⟩:=ZaE hrel Wd;have Znq:∀ b,b < w2.heap.size ->w3.heap[b]? =w2.heap[b]?:=fun b hb=>Wd.frame b hb fun i d hi' e _=>by have:=hrel.lt i _ e;simp at this hi';omega
     have hinv:Inv ρ n {s with fr:=Z9 T s.fr,h:=s.h.put it .dead} a3 w3:=by
      refine⟨?_,⟨hi3.fr.size,fun t hany=>?_⟩,?_⟩
      ·refine(ZbD (i:=it) q1).congr rfl fun i=>?_
       rw [H.Xm,H.Xm];by_cases hii:i=it∧i < s.h.size
       ·rw [if_pos hii,if_pos (by simpa using hii)]
       ·rw [if_neg hii,if_neg (by simpa using hii),H.Xm,if_neg hii]
      ·change Qx ((Z9 T s.fr).at t)=false at hany
       show VR ρ ((Z9 T s.fr).at t) _;rw [Xb] at hany ⊢;by_cases ZbR:t ∈ T
       ·rw [if_pos ZbR] at hany;cases hany
       ·rw [if_neg ZbR] at hany ⊢;have h0:=hi.fr.val t (by show Qx ((Z9 T s.fr).at t)=false;rw [Xb,if_neg ZbR];exact hany);have h0:VR ρ ((Z9 T s.fr).at t) _:=h0;rw [Xb,if_neg ZbR] at h0;have h1:=hi3.fr.val t (by rw [hwr t ZbR];exact hany);rw [hwr t ZbR] at h1;exact VR.back Wd.ext h0 h1
      ·have h0:DsR ρ s.ds a.defers:=hi.ds;have h1:=hi3.ds;rw [ZyF] at h1;exact DsR.back Wd.ext h0 h1
     have hstp:Stp wm ρ s.h w0 ρ (s.h.put it .dead) w3:=by
      refine⟨Ren.le_refl _,hst.size,hst.keep,hst.own,hst.live,Wd.os.trans (Zdh.os.trans hst.os),Wd.tape.trans (Zdh.tape.trans hst.tape),Wd.output.trans (Zdh.output.trans hst.output),
       Nat.le_trans hst.YT (by rw [← hsz2];exact Wd.YT),fun b hb hno=>?_,fun i b d p q=>by rw [p] at q;cases q⟩
      have hbb:b ≠ bi:=fun z=>by subst z;exact hno it 0 Znj Zdf (by rw [hit];rfl)
      have:=hst.YT;rw [Znq b (by omega),hother b hbb,hst.frame b hb hno]
     rcases hpn with⟨rfl,hpf⟩ | ⟨rfl,hpt⟩
     ·cases hx3;show LoopIn F 0 X.P _ _ a3 w3
      exact ihk (seen.push e'.born) clock a3 w3 (fun b hb=>by
       rw [contains_push] at hb;rcases Bool.or_eq_true_iff.1 hb with z | z
       ·exact ZiV b z
       ·have:b=e'.born:=by simpa using z
        rw [this,hbn];exact hpf) (by have:=left_shrinks es' seen e' he';omega) (Nat.le_refl _) (by rw [Znq bi (by omega)];exact Zsh) (by rw [Znq bm (by omega),hother bm hbne];exact ZdT) hinv hstp
     ·obtain⟨he,ZFh⟩:=ZFl ⟨x,hx,hpt⟩;cases hx3 with
      | panic hv3=>
        show Xo wm n ρ s.h w0 e s2 _ a3 w3;rw [he,ZFh];have:=VR.YA hv hv3;subst this;exact⟨ρ,.panic (VR.ZH hv),hinv,hstp⟩
 have Zyw:Stp wm ρ s.h w0 ρ (s.h.put it .dead) w0:=by
  have kk:=J3 (h:=s.h) (A:= .dead) Znj (by rw [hit];rfl);exact⟨Ren.le_refl _,Nat.le_refl _,kk.keep,kk.own,kk.live,rfl,rfl,rfl,Nat.le_refl _,fun _ _ _=>rfl,fun i b d e e'=>by rw [e] at e';cases e'⟩
 refine head _ #[] Y5 a0 w0 (fun b hb=>by simp at hb) (Nat.le_refl _) hck Zsg Zse ⟨ZbD hi0.rel,⟨hi0.fr.size,fun t hany=>?_⟩,hi0.ds⟩ Zyw
 change Qx ((Z9 T s.fr).at t)=false at hany
 show VR ρ ((Z9 T s.fr).at t) _;rw [Xb] at hany ⊢;by_cases ht:t ∈ T
 ·rw [if_pos ht] at hany;cases hany
 ·rw [if_neg ht] at hany ⊢;exact hi0.fr.val t hany
def Agr (T:List Nat) (fr fr':Fr):Prop:=∀ t v,T.contains t=false ->fr.at t=v ->fr'.at t=v
theorem Agr.at {T:List Nat} {fr fr':Fr} (a:Agr T fr fr') {t:Nat} {v:Value} (ht:T.contains t=false) (h:fr.at t=v):fr'.at t=v:=a t v ht h
def MFr (T:List Nat) (fr f:Fr):Prop:=∀ t,t ∉ T ->f.at t=fr.at t
theorem MFr.z {T:List Nat} {fr:Fr}:MFr T fr fr:=fun _ _=>rfl
theorem MFr.s {T:List Nat} {fr f:Fr} {i:Nat} {v:Value} (hi:T.contains i=true) (h:MFr T fr f):MFr T fr (Tr.set f i v):=fun t ht=>by
 have hne:t ≠ i:=fun z=>ht (by subst z;rwa [List.contains_iff_mem] at hi)
 have:=Zck (fr:=f) (d:=some i) (v:=v) (t:=t);rw [show JQ f (some i) v=Tr.set f i v from rfl] at this;rw [this,if_neg (fun z=>hne (Option.some.inj z).symm)];exact h t ht
structure Zon (T:List Nat) (fr:Fr) (ds:List Deferred) (v:Value) (p:Bool) (e:XX) (s:Fs):Prop where
 ds:s.ds=ds
 fr:MFr T fr s.fr
 e:e= .normal∧p=false∨e= .panic v∧p=true
theorem Zon.Yw {T:List Nat} {fr f:Fr} {ds:List Deferred} {v:Value} {h:H} (k:MFr T fr f):Zon T fr ds v false .normal ⟨f,ds,h,none⟩:= ⟨rfl,k,.inl ⟨rfl,rfl⟩⟩
theorem Zon.panic {T:List Nat} {fr f:Fr} {ds:List Deferred} {v:Value} {h:H} (k:MFr T fr f):Zon T fr ds v true (.panic v) ⟨f,ds,h,none⟩:= ⟨rfl,k,.inr ⟨rfl,rfl⟩⟩
structure Zwz (Q:XX ->Fs ->Prop) (e:XX) (s:Fs):Prop where
 nn:e ≠ .normal
 k:Q e s
theorem Zwz.exit {Q:XX ->Fs ->Prop} {s:Fs} {id:Nat} (k:Q (.exit id) s):Zwz Q (.exit id) s:= ⟨(fun z=>by cases z),k⟩
def ZwE {κ ν:Type} (kv:κ ->Value) (vv:ν ->Value) (h:H) (it:Nat) (x:κ×ν):Prop:=Zdw h (.pointer (some ⟨it,0,none⟩))=some (.tuple #[kv x.1,vv x.2])
section
variable {κ ν:Type} {kv:κ ->Value} {vv:ν ->Value} {ll:List (κ×ν)} {bs:List Nat}
theorem Zlv:∀ {ll:List (κ×ν)} {bs:List Nat} {x:MapEntry},x ∈ Yi kv vv ll bs ->∃ (j:Nat) (y:κ×ν) (b:Nat),ll[j]? =some y∧bs[j]? =some b∧x= ⟨kv y.1,vv y.2,b⟩:=by
 intro ll bs x hx;obtain⟨j,hj⟩:=List.mem_iff_getElem?.1 hx;unfold Yi at hj;rw [List.getElem?_zipWith] at hj;cases h1:ll[j]? with
 | none=>rw [h1] at hj;simp at hj
 | some y=>
   cases h2:bs[j]? with
   | none=>rw [h1,h2] at hj;simp at hj
   | some b=>rw [h1,h2] at hj;simp at hj;exact⟨j,y,b,h1,h2,hj.symm⟩
theorem ZuL {j:Nat} {y:κ×ν} {b:Nat} (h1:ll[j]? =some y) (h2:bs[j]? =some b):(⟨kv y.1,vv y.2,b⟩:MapEntry) ∈ Yi kv vv ll bs:=by
 refine List.mem_iff_getElem?.2 ⟨j,?_⟩;unfold Yi;rw [List.getElem?_zipWith,h1,h2]
theorem ZfG {b:Nat}:∀ {ll:List (κ×ν)} {bs:List Nat},b ∉ bs ->Zc7 b (Yi kv vv ll bs)=true
 | [],_,_=>by unfold Yi;simp [Zc7]
 | _::_,[],_=>by unfold Yi;simp [Zc7]
 | x::ll,b'::bs,h=>by
   have ih:=ZfG (ll:=ll) (bs:=bs) (b:=b) (fun z=>h (by simp [z]));unfold Yi at ih ⊢;rw [List.zipWith_cons_cons];unfold Zc7;have:Nat.beq b' b=false:=by rw [Bool.eq_false_iff];intro q;exact h (by simp [Nat.eq_of_beq_eq_true q])
   dsimp only;rw [this];exact ih
theorem Zg1 {Y5:Nat}:∀ {ll:List (κ×ν)} {bs:List Nat},bs.Nodup ->(∀ b ∈ bs,b < Y5) ->Wt Y5 (Yi kv vv ll bs)=true
 | [],_,_,_=>by unfold Yi;simp [Wt]
 | _::_,[],_,_=>by unfold Yi;simp [Wt]
 | x::ll,b::bs,hn,hl=>by
   rw [List.nodup_cons] at hn;have ih:=Zg1 (ll:=ll) (bs:=bs) hn.2 (fun b hb=>hl b (by simp [hb]));have hno:Zc7 b (Yi kv vv ll bs)=true:=ZfG (ll:=ll) hn.1;unfold Yi at ih hno ⊢;rw [List.zipWith_cons_cons];unfold Wt;dsimp only;rw [hno,ih];have:Nat.blt b Y5=true:=by rw [Nat.blt_eq];exact hl b (by simp)
   rw [this];rfl
theorem ZiN:∀ {ll:List (κ×ν)} {bs:List Nat} {j:Nat} {y:κ×ν} {b:Nat},bs.Nodup ->ll[j]? =some y ->bs[j]? =some b ->Zi9 b (Yi kv vv ll bs)=some ⟨kv y.1,vv y.2,b⟩
 | [],_,_,_,_,_,h,_=>by simp at h
 | _::_,[],_,_,_,_,_,h=>by simp at h
 | x::ll,b'::bs,j,y,b,hn,h1,h2=>by
   rw [List.nodup_cons] at hn;unfold Yi;rw [List.zipWith_cons_cons];unfold Zi9;dsimp only;cases j with
   | zero=>
     simp at h1 h2;subst h1 h2;rw [Nat.beq_refl];rfl
   | succ j=>
     simp at h1 h2
     have:Nat.beq b' b=false:=by
      rw [Bool.eq_false_iff];intro q;have:=Nat.eq_of_beq_eq_true q;subst this;exact hn.1 (List.mem_iff_getElem?.2 ⟨j,h2⟩)
     rw [this];exact ZiN hn.2 h1 h2
end
section
variable {wm:Nat} {G Gr:List (Ast wm)} {h h0:H} {T0:Nat ->Prop} {fr:Fr} {ds:List Deferred} {ty:TypeId} {p:String} {af:Array Edge} {g:Option (Nat×Bool)} {κ ν:Type} {kv:κ ->Value} {vv:ν ->Value} {ll:List (κ×ν)} {d:Nat}
theorem WO.rng {Q:XX ->Fs ->Prop} {t kt vt:TypeId} {x:Operand} {i:Nat} (hg:ZL ops ⟨some d,.range t x,ty,p,af,g⟩ fr) (hd:Nat.blt d n=true) (hS:Sp wm T0 h0 G h) (hu:X.P.underlying t=some (.map kt vt)) (hx:ZQ fr x=some (.map (some i))) (s:MapAt kv vv h (some i) ll)
 (k:∀ h' b bs Y5,Sp wm T0 h0 (ob wm b (.iter i Y5 Y5 none)::G) h' ->h'.at i= .map (Yi kv vv ll bs) Y5 ->bs.length=ll.length∧bs.Nodup∧(∀ x ∈ bs,x < Y5) ->WO X n wm rd ops l ⟨Tr.set fr d (.pointer (some ⟨b,0,none⟩)),ds,h',none⟩ Q):
 WO X n wm rd ops (⟨some d,.range t x,ty,p,af,g⟩::l) ⟨fr,ds,h,none⟩ Q:=by
 rcases s.mem with⟨q,_⟩ | ⟨i',bs,Y5,q,h1,h2,h3,h4⟩
 ·cases q
 ·cases q;refine WO.v (v:=QV h) (E:= .new (.iter i Y5 Y5 none)) (h1:=h.push (.iter i Y5 Y5 none)) hg hd ?_ (Zky h rfl) (k (h.push (.iter i Y5 Y5 none)) h.size bs Y5 (Zm2 rfl hS) ?_ ⟨h2,h3,h4⟩)
  ·show(match ZQ fr x with
    | some x=>vE (ZhQ X.P h t x)
    | none=>none)=_
   rw [hx];dsimp only;unfold ZhQ;simp only [hu,h1]
   rfl
  ·rw [K9 (Xx h1 rfl),h1]
theorem ZtE {x:Operand} {it:Nat} {y:κ×ν} (hx:ZQ fr x=some (.pointer (some ⟨it,0,none⟩))) (he:ZwE kv vv h it y):Xc X h (ZQ fr) ⟨some d,.entry x,ty,p,af,g⟩=some (.val (.tuple #[kv y.1,vv y.2]),.none):=by
 show(match ZQ fr x with
  | some it=>vN (Zdw h it)
  | none=>none)=_
 rw [hx];dsimp only;rw [show Zdw h (.pointer (some ⟨it,0,none⟩))=_ from he];rfl
theorem WL.ZEL {Q:XX ->Fs ->Prop} {id:Nat} {o:Oper} {t it m Y5:Nat} {bs:List Nat} {b:κ ->ν ->Option Bool} {q:Bool} (T:List Nat) (v:Value) (hq:ZiM b ll=some q) (hS:Sp wm T0 h0 G h) (pi:Pk G (ob wm it (.iter m Y5 Y5 none)) Gr) (hat:fr.at t= .pointer (some ⟨it,0,none⟩)) (hm:h.at m= .map (Yi kv vv ll bs) Y5) (hb:bs.length=ll.length∧bs.Nodup∧∀ x ∈ bs,x < Y5)
 (hops:ops.toList=o::l) (hop:o.op= .next (.tmp t) false) (hgu:o.guard=none) (hd:o.dst=some d) (hdn:Nat.blt d n=true) (hT:T.contains t=false) (hdT:T.contains d=true) (hv:plain v=true)
 (body:∀ (x:κ×ν) (p:Bool),b x.1 x.2=some p ->∀ h2 fr',Agr T fr fr' ->Sp h.size (Xw ([]:List (Ast h.size))) h2 [] h2 ->ZwE kv vv h2 it x ->WO X n h.size rd ops l ⟨Tr.set fr' d (.tuple #[.bool true,kv x.1,vv x.2]),ds,h2,none⟩ (Qp X n h.size rd rest (Zon T fr' ds v p)))
 (over:q=false ->∀ h' fr',Agr T fr fr' ->Sp wm T0 h0 Gr h' ->WO X n wm rd ops l ⟨Tr.set fr' d (.tuple #[.bool false]),ds,h',none⟩ (Qp X n wm rd rest (Zwz Q)))
 (Q6:q=true ->∀ h' fr',Agr T fr fr' ->Sp wm T0 h0 Gr h' ->Q (.panic v) ⟨fr',ds,h',none⟩):WL X n wm rd (.seq (.region id ops false) rest) ⟨fr,ds,h,none⟩ Q:=by
 obtain⟨hb1,hb2,hb3⟩:=hb;obtain⟨o1,o2,o3⟩:=hS.get pi;obtain⟨m1,m2⟩:=Zdc hq
 have ZyV:Agr T fr (Z9 T fr):=fun t' v' ht' hv'=>by
  rw [Xb,if_neg (fun z=>by rw [← List.contains_iff_mem] at z;rw [z] at ht';cases ht'),hv']
 have htT:t ∉ T:=fun z=>by rw [← List.contains_iff_mem] at z;rw [z] at hT;cases hT
 have ZFB:d ∈ T:=List.contains_iff_mem.1 hdT;have ZFo:m ≠ it:=fun z=>by rw [z,o1] at hm;cases hm
 classical
 let pn:Nat ->Bool:=fun bn=>decide (∃ (j:Nat) (y:κ×ν),ll[j]? =some y∧bs[j]? =some bn∧b y.1 y.2=some true)
 have Zjz:∀ (j:Nat) (y:κ×ν) (bn:Nat),ll[j]? =some y ->bs[j]? =some bn ->∀ p,b y.1 y.2=some p ->pn bn=p:=by
  intro j y bn h1 h2 p hp;cases p with
  | true=>exact decide_eq_true ⟨j,y,h1,h2,hp⟩
  | false=>
    refine decide_eq_false ?_;rintro⟨j',y',h1',h2',hp'⟩
    have hj:j'=j:=by
     obtain⟨q1,e1⟩:=List.getElem?_eq_some_iff.1 h2';obtain⟨q2,e2⟩:=List.getElem?_eq_some_iff.1 h2;exact(List.getElem_inj hb2).1 (e1.trans e2.symm)
    subst hj;rw [h1] at h1';cases h1';rw [hp] at hp';cases hp'
 have Zxa:Sp wm T0 h0 Gr (h.put it .dead):=
  Sp.step (Ga:= [ob wm it (.iter m Y5 Y5 none)]) (Gb:= []) (hS.perm pi.perm) (Up.put o2 (by rw [o1];rfl)) (fun i e=>⟨_,List.mem_singleton.2 rfl,e⟩) ZP.nil fun i ⟨A,mm,f⟩=>by simp at mm
 have Zhe:∀ x ∈ Yi kv vv ll bs,∃ ex s3,(s3.ds=ds∧(∀ t,t ∉ T ->s3.fr.at t=fr.at t)∧(ex= .normal∧pn x.born=false∨ex= .panic v∧pn x.born=true))∧∀ {ρ:Ren} {F:Fence} {a:Act} {w:World},Inv ρ n {fr:=JQ (Z9 T fr) o.dst (.tuple #[.bool true,x.key,x.val]),ds:=ds,h:=h.put it (.iter m Y5 Y5 (some x.born)),wr:=none} a w ->h.size <= (h.put it (.iter m Y5 Y5 (some x.born))).size ->FR' ρ rd F ->∀ Q':Exit ->Act ->World ->Prop,
  (∀ e' a' w',Xo h.size n ρ (h.put it (.iter m Y5 Y5 (some x.born))) w ex s3 e' a' w' ->Q' e' a' w') ->wpListIn F 0 X.P ops (Exit.then (rest.wpIn F 0 X.P Q') Q') l a w:=by
  intro x hx;obtain⟨j,y,bn,h1,h2,rfl⟩:=Zlv hx;obtain⟨p,hp⟩:=m1 y (List.mem_iff_getElem?.2 ⟨j,h1⟩);have hpn:=Zjz j y bn h1 h2 p hp;have hsz:(h.put it (.iter m Y5 Y5 (some bn))).size=h.size:=H.size_put _ _ _;have e1:(h.put it (.iter m Y5 Y5 (some bn))).at it= .iter m Y5 Y5 (some bn):=Z0 (Xx o1 rfl) _;have e2:(h.put it (.iter m Y5 Y5 (some bn))).at m= .map (Yi kv vv ll bs) Y5:=by rw [XL ZFo,hm]
  have hent:ZwE kv vv (h.put it (.iter m Y5 Y5 (some bn))) it y:=by
   unfold ZwE Zdw;simp only [e1,e2,Nat.beq_refl,cond_true,ZiN hb2 h1 h2]
  obtain⟨ex,s3,⟨q1,q2,q3⟩,q4⟩:=WO.body (body y p hp (h.put it (.iter m Y5 Y5 (some bn))) (Z9 T fr) ZyV (Sp.start (Nat.le_of_eq hsz.symm) ZP.nil) hent);refine⟨ex,s3,⟨q1,fun t' ht'=>?_,?_⟩,?_⟩
  ·rw [q2 t' ht',Xb,if_neg ht']
  ·dsimp only;rw [hpn];exact q3
  ·rw [hd];intro ρ F a w i1 i2 i3 Q' i4;exact q4 i1 i2 i3 Q' i4
 have key:=fun(e:XX) (s2:Fs)=>ZrX (X:=X) (n:=n) (wm:=wm) (rd:=rd) (rest:=rest) (id:=id) (s:= ⟨fr,ds,h,none⟩) (e:=e) (s2:=s2) (T:=T) (v:=v) pn hops hop hgu hat o1 hm (Nat.le_refl _) (Zg1 hb2 hb3) o2 htT hd (by rwa [Nat.blt_eq] at hdn) ZFB hv Zhe
 cases q with
 | true=>
   refine⟨.panic v,⟨Z9 T fr,ds,h.put it .dead,none⟩,Q6 rfl _ _ ZyV Zxa,key _ _ (fun hall=>?_) fun _=>⟨rfl,rfl⟩⟩;exfalso;obtain⟨y,hy,hyb⟩:=m2.1 rfl;obtain⟨j,hj⟩:=List.mem_iff_getElem?.1 hy;have hjl:= (List.getElem?_eq_some_iff.1 hj).1;have h2:bs[j]? =some (bs[j]'(by omega)):=List.getElem?_eq_getElem _;have:=hall _ (ZuL hj h2);rw [Zjz j y _ hj h2 true hyb] at this;cases this
 | false=>
   obtain⟨e,s2,⟨q1,q2⟩,q3⟩:=WO.body (over rfl _ _ ZyV Zxa);refine⟨e,s2,q2,key e s2 (fun _=>⟨q1,?_⟩) fun⟨x,hx,hp⟩=>?_⟩
   ·rw [hd];intro ρ F a w i1 i2 i3 Q' i4;exact q3 i1 i2 i3 Q' i4
   ·exfalso;obtain⟨j,y,bn,h1,h2,rfl⟩:=Zlv hx;obtain⟨p,hp'⟩:=m1 y (List.mem_iff_getElem?.2 ⟨j,h1⟩);have hpn:=Zjz j y bn h1 h2 p hp';rw [show pn bn=true from hp] at hpn;subst hpn;exact absurd (m2.2 ⟨y,List.mem_iff_getElem?.2 ⟨j,h1⟩,hp'⟩) (by simp)
end
end Go.Yo
end
end
section
noncomputable section
namespace Go.Yo
open Go.Lf
variable {X:Ctx} {n wm:Nat} {rd:Option Nat} {ops:Array Oper} {l:List Oper} {fr:Fr} {ds:List Deferred} {h h1 h2 h0:H} {T:Nat ->Prop} {G Gr Ga Gb:List (Ast wm)}
inductive FzS (wm:Nat):H ->H ->Prop
 | refl (h:H):FzS wm h h
 | step {h h':H} {i:Nat} {cs:List Value} {z:Nat} (hw:wm <=i) (hr:h.at i= .row cs true z) (k:FzS wm (h.put i (.row cs false 0)) h'):FzS wm h h'
theorem FzS.trans {h h1 h2:H} (a:FzS wm h h1) (b:FzS wm h1 h2):FzS wm h h2:=by
 induction a with
 | refl _=>exact b
 | step hw hr _ ih=>exact .step hw hr (ih b)
theorem WO.fzS {Q:XX ->Fs ->Prop} {h h':H} (a:FzS wm h h') (k:WO X n wm rd ops l ⟨fr,ds,h',none⟩ Q):WO X n wm rd ops l ⟨fr,ds,h,none⟩ Q:=by
 induction a with
 | refl _=>exact k
 | step hw hr _ ih=>exact WO.Zi1 hw hr (ih k)
theorem Xv.fzs {α:Type} {e:J7 α} {a:Option Addr} {c:Nat} {xs:List α} (so:Xv e wm wm h a c xs):∃ h',FzS wm h h'∧Up wm (XF a) h h'∧Sl e wm h' a c xs:=by
 rcases so.mem with⟨rfl,rfl,rfl⟩ | ⟨i,o,cs,rfl,h1,h2,h3,h4,h5⟩
 ·exact⟨h,.refl h,⟨Nat.le_refl _,fun _ _ _=>rfl,fun i hb=>by obtain⟨o,hb⟩:=hb;cases hb⟩,Sl.nil⟩
 ·have hown:(h.at i).own=true:=by rw [h2];rfl
  have hu:Up wm (XF (some ⟨i,o,none⟩)) h (h.put i (.row cs false 0)):=
   ⟨Nat.le_refl _,fun j _ hn=>XL (fun q=>hn ⟨o,by rw [q]⟩) _,fun j hb=>by obtain⟨o',hb⟩:=hb;cases hb;exact⟨h1,hown⟩⟩
  exact⟨_,.step h1 h2 (.refl _),hu,⟨so.max,so.cap,so.nl,.inr ⟨i,o,cs,false,0,rfl,Z0 (Xx h2 rfl) _,.inr rfl,h5.mono (hu.fz (Nat.le_refl _))⟩⟩⟩
theorem ZlN {α:Type} {e:J7 α} (ps:Nat ->Option Addr×Nat×Nat):∀ (xs:List (List α)) (k:Nat) (h:H) (Gr:List (Ast wm)),Sp wm T h0 (Yf (fun k x=>(Xi e).YE wm (ps k) x) k xs ++ Gr) h ->
 ∃ h',FzS wm h h'∧Fz wm h h'∧Sp wm T h0 Gr h'∧∀ j x,xs[j]? =some x ->(ps (k + j)).2.1=x.length∧Sl e wm h' (ps (k + j)).1 (ps (k + j)).2.2 x
 | [],k,h,Gr,hS=>⟨h,.refl h,Fz.refl _ _,hS,fun j x hj=>by simp at hj⟩
 | x::xs,k,h,Gr,hS=>by
   have hS:Sp wm T h0 (ow wm e (ps k).1 (ps k).2.1 (ps k).2.2 x::(Yf (fun k x=>(Xi e).YE wm (ps k) x) (k + 1) xs ++ Gr)) h:=hS;have hg:=hS.get k0;obtain⟨h1,f1,u1,s1⟩:=hg.2.fzs;have hS1:= (Zxu hS k0 u1 s1).2.drop k0;obtain⟨h2,f2,z2,hS2,hall⟩:=ZlN ps xs (k + 1) h1 Gr hS1;refine⟨h2,f1.trans f2,(u1.fz (Nat.le_refl _)).trans z2,hS2,fun j y hj=>?_⟩;cases j with
   | zero=>simp at hj;subst hj;exact⟨hg.1,s1.mono z2⟩
   | succ j=>
     have:=hall j y (by simpa using hj);have e1:k + 1 + j=k + (j + 1):=by omega
     rwa [e1] at this
theorem Zzh {α:Type} {e:J7 α} {a:Option Addr} {nn c:Nat} {ps:Nat ->Option Addr×Nat×Nat} {xs:List (List α)} (hS:Sp wm T h0 G h) (pk:Pk G (nst wm (Xi e) a nn c ps xs) Gr):∃ h',FzS wm h h'∧nn=xs.length∧Sp wm T h0 (fzA wm (rSl (rSl e)) (a,c) xs::Gr) h':=by
 obtain⟨g1,g2,g3,g4⟩:=hS.get pk
 let O:Ast wm:=ow wm (Zrt (Xi e).sz (Xi e).pos) a ((Xi e).rows ps xs).length c ((Xi e).rows ps xs)
 have hS1:Sp wm T h0 ((Xi e).parts wm ps xs ++ (O::Gr)) h:=by
  have h1:Sp wm T h0 ((O::(Xi e).parts wm ps xs) ++ Gr) h:=by
   refine Sp.say (Ga:= [nst wm (Xi e) a nn c ps xs]) (Gr:=Gr) (hS.perm pk.perm) (ZP.cons ⟨rfl,g2⟩ g3 fun i f=>g4 i f) fun i f=>?_
   rcases Xw.cons.1 f with f | f
   ·exact⟨_,List.mem_singleton.2 rfl,.inl f⟩
   ·exact⟨_,List.mem_singleton.2 rfl,.inr f⟩
  exact h1.perm (by
   rw [List.cons_append];exact(List.perm_middle).symm)
 obtain⟨h1,f1,z1,hS2,hall⟩:=ZlN ps xs 0 h (O::Gr) hS1;obtain⟨h2,f2,u2,s2⟩:= (hS2.get k0).2.fzs;refine⟨h2,f1.trans f2,g1,hS2.one k0 u2 (fun _ q=>q) ?_ fun _ z=>z.elim⟩;show Sl (rSl e) wm h2 a c xs;have hlen:((Xi e).rows ps xs).length=xs.length:=Zar _ _ _;refine⟨by rw [← hlen];exact s2.max,by rw [← hlen];exact s2.cap,s2.nl,?_⟩;rcases s2.mem with q | ⟨i,o,cs,own,z,q1,q2,q3,q4⟩
 ·left;apply List.eq_nil_of_length_eq_zero;rw [← hlen,q];rfl
 ·refine .inr ⟨i,o,cs,own,z,q1,q2,q3,⟨by have:=q4.len;rw [hlen] at this;exact this,fun k x hk=>?_⟩⟩;obtain⟨n1,n2⟩:=hall k x hk;rw [Nat.zero_add] at n1 n2
  have hrow:((Xi e).rows ps xs)[k]? =some ((Xi e).raw (ps k) x):=by
   unfold Ne.rows;rw [Uk,hk,Nat.zero_add];rfl
  obtain⟨_,w1,_⟩:=q4.get k _ hrow;refine⟨((ps k).1,(ps k).2.2),?_,n2.mono (u2.fz (Nat.le_refl _))⟩;have w2:(cs.drop (o + k * 1)).take 1= [Value.slice (ps k).1 (ps k).2.1 (ps k).2.2]:=w1;rw [n1] at w2;exact w2
theorem WO.ZGm {Q:XX ->Fs ->Prop} {α:Type} {e:J7 α} {a:Option Addr} {nn c:Nat} {ps:Nat ->Option Addr×Nat×Nat} {xs:List (List α)} (hS:Sp wm T h0 G h) (pk:Pk G (nst wm (Xi e) a nn c ps xs) Gr) (k:∀ h',nn=xs.length∧Sp wm T h0 (fzA wm (rSl (rSl e)) (a,c) xs::Gr) h' ->WO X n wm rd ops l ⟨fr,ds,h',none⟩ Q):WO X n wm rd ops l ⟨fr,ds,h,none⟩ Q:=
 let⟨h',f,hh⟩:=Zzh hS pk;WO.fzS f (k h' hh)
end Go.Yo
end
end
section
end
section
namespace Go.Proofs.Ytekpjgmhkkjhgaa
structure Za where
 name:Int
 root:Bool
 from_:Int
 has:Int
 out:Int
 use:Bool
 deriving DecidableEq,Inhabited
structure Zd where
 kind:Int
 Zv:Int
 name:Int
 via:Int
 w:Int
 deriving DecidableEq,Inhabited
structure Zb where
 cells:(List (List Za))
 notes:(List Zd)
 names:Int
 freed:(List Int)
 deriving DecidableEq,Inhabited
structure Zn where
 ZW:Int
 at_:Int
 name:Int
 Zv:Int
 deriving DecidableEq,Inhabited
structure YM where
 at_:Int
 name:Int
 deriving DecidableEq,Inhabited
structure Zao where
 ZW:Int
 at_:Int
 name:Int
 Zv:Int
 deriving DecidableEq,Inhabited
structure Ze where
 e0:Int
 e1:Int
 deriving DecidableEq,Inhabited
structure Store where
 machines:Int
 names:Int
 cells:(List (Ze×Za))
 notes:(List Zd)
 freed:(List Int)
 deriving DecidableEq,Inhabited
structure Model where
 uses:(List YM)
 ways:(List YM)
 deriving DecidableEq,Inhabited
def K7 (x y:Za):Bool:= [x.name==y.name,x.root==y.root,x.from_==y.from_,x.has==y.has,x.out==y.out,x.use==y.use].all id
def KH (x y:YM):Bool:= [x.at_==y.at_,x.name==y.name].all id
def ZzI:Option Bool:=some true
def Ztd (x:Int):Option Int:=Go.Lf.XZ x
end Go.Proofs.Ytekpjgmhkkjhgaa
end
section
set_option maxRecDepth 100000
noncomputable section
namespace Go.Proofs.Ytekpjgmhkkjhgaa
open Go.Yo Go.Lf
def ZG:J7 Za where
 sz:=6
 pos:=by decide
 Par:=Unit
 dflt:= ()
 sh:=fun _ x=>[.int .i64 x.name,.bool x.root,.int .i64 x.from_,.int .i64 x.has,.int .i64 x.out,.bool x.use]
 len:=fun _ _=>rfl
 one:=fun _ _=>rfl
 F:=fun _ _ _ _=>True
 mono:=fun _ x=>x
 up:=fun _ x=>x
def Zj:J7 Zd where
 sz:=5
 pos:=by decide
 Par:=Unit
 dflt:= ()
 sh:=fun _ x=>[.int .i64 x.kind,.int .i64 x.Zv,.int .i64 x.name,.int .i64 x.via,.int .i64 x.w]
 len:=fun _ _=>rfl
 one:=fun _ _=>rfl
 F:=fun _ _ _ _=>True
 mono:=fun _ x=>x
 up:=fun _ x=>x
def Yy:J7 YM where
 sz:=2
 pos:=by decide
 Par:=Unit
 dflt:= ()
 sh:=fun _ x=>[.int .i64 x.at_,.int .i64 x.name]
 len:=fun _ _=>rfl
 one:=fun _ _=>rfl
 F:=fun _ _ _ _=>True
 mono:=fun _ x=>x
 up:=fun _ x=>x
def Zru:J7 Zao where
 sz:=4
 pos:=by decide
 Par:=Unit
 dflt:= ()
 sh:=fun _ x=>[.int .u8 x.ZW,.int .u8 x.at_,.int .u8 x.name,.int .u8 x.Zv]
 len:=fun _ _=>rfl
 one:=fun _ _=>rfl
 F:=fun _ _ _ _=>True
 mono:=fun _ x=>x
 up:=fun _ x=>x
def Zg (x:Ze):Value:= .agg [.int .i64 x.e0,.int .i64 x.e1].toArray
def Zk (x:Za):Value:= .agg [.int .i64 x.name,.bool x.root,.int .i64 x.from_,.int .i64 x.has,.int .i64 x.out,.bool x.use].toArray
theorem ZmQ:XX.P.underlying 3=some (.int .i64):=by kernel_rfl
theorem ZEx:XX.P.underlying 4=some .bool:=by kernel_rfl
theorem Zpz:XX.P.underlying 5=some (.int .u8):=by kernel_rfl
theorem ZgE:XX.P.underlying 22=some (.slice 59):=by kernel_rfl
theorem UD:XX.P.underlying 23=some (.slice 58):=by kernel_rfl
theorem X9:XX.P.underlying 24=some (.slice 3):=by kernel_rfl
theorem ZAN:XX.P.underlying 38=some (.slice 29):=by kernel_rfl
theorem ZAM:XX.P.underlying 43=some (.slice 91):=by kernel_rfl
theorem ZiF:XX.P.underlying 59=some (.slice 61):=by kernel_rfl
theorem Zq7:XX.P.underlying 62=some (.slice 80):=by kernel_rfl
theorem Qt:XX.P.underlying 63=some (.slice 73):=by kernel_rfl
theorem ZAL:XX.P.underlying 69=some (.slice 5):=by kernel_rfl
theorem JW:XX.P.underlying 95=some (.map 113 61):=by kernel_rfl
theorem UE:XX.P.underlying 110=some (.map 113 3):=by kernel_rfl
theorem ZxT:XX.P.underlying 160=some (.int .u64):=by kernel_rfl
theorem Xj:Yg XX.P 3=some false:=by kernel_rfl
theorem ZGT:Yg XX.P 4=some false:=by kernel_rfl
theorem ZGS:Yg XX.P 5=some false:=by kernel_rfl
theorem ZxD:Yg XX.P 22=some false:=by kernel_rfl
theorem ZmC:Yg XX.P 23=some false:=by kernel_rfl
theorem ZtR:Yg XX.P 24=some false:=by kernel_rfl
theorem ZaM:Yg XX.P 26=some true:=by kernel_rfl
theorem ZtQ:Yg XX.P 27=some false:=by kernel_rfl
theorem ZhU:Yg XX.P 29=some true:=by kernel_rfl
theorem ZtP:Yg XX.P 32=some false:=by kernel_rfl
theorem ZDG:Yg XX.P 56=some false:=by kernel_rfl
theorem Zeh:Yg XX.P 58=some true:=by kernel_rfl
theorem ZmB:Yg XX.P 59=some false:=by kernel_rfl
theorem ZhT:Yg XX.P 61=some true:=by kernel_rfl
theorem ZDF:Yg XX.P 63=some false:=by kernel_rfl
theorem ZaL:Yg XX.P 65=some true:=by kernel_rfl
theorem Zeg:Yg XX.P 73=some true:=by kernel_rfl
theorem ZxC:Yg XX.P 80=some true:=by kernel_rfl
theorem ZDE:Yg XX.P 91=some true:=by kernel_rfl
theorem ZtO:Yg XX.P 94=some false:=by kernel_rfl
theorem ZfX:Yg XX.P 95=some false:=by kernel_rfl
theorem ZkT:Yg XX.P 110=some false:=by kernel_rfl
theorem Zz4:Yg XX.P 113=some true:=by kernel_rfl
theorem Y4:ZX XX.P 3=some 1:=by kernel_rfl
theorem ZwJ:ZX XX.P 4=some 1:=by kernel_rfl
theorem ZAT:ZX XX.P 5=some 1:=by kernel_rfl
theorem Zx1:ZX XX.P 22=some 1:=by kernel_rfl
theorem ZmY:ZX XX.P 23=some 1:=by kernel_rfl
theorem Zx0:ZX XX.P 24=some 1:=by kernel_rfl
theorem QJ:ZX XX.P 26=some 4:=by kernel_rfl
theorem Zc0:ZX XX.P 29=some 4:=by kernel_rfl
theorem ZxZ:ZX XX.P 32=some 1:=by kernel_rfl
theorem XB:ZX XX.P 58=some 5:=by kernel_rfl
theorem Zby:ZX XX.P 59=some 1:=by kernel_rfl
theorem Uc:ZX XX.P 61=some 6:=by kernel_rfl
theorem Zrd:ZX XX.P 63=some 1:=by kernel_rfl
theorem Q5:ZX XX.P 65=some 2:=by kernel_rfl
theorem Y1:ZX XX.P 73=some 2:=by kernel_rfl
theorem Zju:ZX XX.P 80=some 4:=by kernel_rfl
theorem ZxY:ZX XX.P 91=some 4:=by kernel_rfl
theorem ZxX:ZX XX.P 94=some 1:=by kernel_rfl
theorem Zjv:ZX XX.P 110=some 1:=by kernel_rfl
theorem Zut:ZX XX.P 113=some 2:=by kernel_rfl
theorem ZvL:Zu XX.P 26 0 0:=Zu.of (by kernel_rfl)
theorem ZvK:Zu XX.P 26 1 1:=Zu.of (by kernel_rfl)
theorem ZvJ:Zu XX.P 26 2 2:=Zu.of (by kernel_rfl)
theorem ZvI:Zu XX.P 26 3 3:=Zu.of (by kernel_rfl)
theorem Zj3:Zu XX.P 29 0 0:=Zu.of (by kernel_rfl)
theorem Zbe:Zu XX.P 29 1 1:=Zu.of (by kernel_rfl)
theorem Zct:Zu XX.P 29 2 2:=Zu.of (by kernel_rfl)
theorem Zbd:Zu XX.P 29 3 3:=Zu.of (by kernel_rfl)
theorem ZvH:Zu XX.P 58 0 0:=Zu.of (by kernel_rfl)
theorem ZvG:Zu XX.P 58 1 1:=Zu.of (by kernel_rfl)
theorem ZvF:Zu XX.P 58 2 2:=Zu.of (by kernel_rfl)
theorem ZvE:Zu XX.P 58 3 3:=Zu.of (by kernel_rfl)
theorem ZoZ:Zu XX.P 58 4 4:=Zu.of (by kernel_rfl)
theorem ZvD:Zu XX.P 61 0 0:=Zu.of (by kernel_rfl)
theorem ZvC:Zu XX.P 61 1 1:=Zu.of (by kernel_rfl)
theorem ZoY:Zu XX.P 61 2 2:=Zu.of (by kernel_rfl)
theorem Zj2:Zu XX.P 61 3 3:=Zu.of (by kernel_rfl)
theorem ZvB:Zu XX.P 61 4 4:=Zu.of (by kernel_rfl)
theorem ZvA:Zu XX.P 61 5 5:=Zu.of (by kernel_rfl)
theorem ZoX:Zu XX.P 65 0 0:=Zu.of (by kernel_rfl)
theorem Zvz:Zu XX.P 65 1 1:=Zu.of (by kernel_rfl)
theorem Zvy:Zu XX.P 73 0 0:=Zu.of (by kernel_rfl)
theorem Zvx:Zu XX.P 73 1 1:=Zu.of (by kernel_rfl)
theorem Zvw:Zu XX.P 80 0 0:=Zu.of (by kernel_rfl)
theorem Zvv:Zu XX.P 80 1 1:=Zu.of (by kernel_rfl)
theorem Zvu:Zu XX.P 80 2 2:=Zu.of (by kernel_rfl)
theorem Zvt:Zu XX.P 80 3 3:=Zu.of (by kernel_rfl)
theorem Zvs:Zu XX.P 91 2 2:=Zu.of (by kernel_rfl)
theorem Zvr:Zu XX.P 91 3 3:=Zu.of (by kernel_rfl)
theorem Zvq:Zu XX.P 97 0 0:=Zu.of (by kernel_rfl)
theorem Zvp:Zu XX.P 97 1 1:=Zu.of (by kernel_rfl)
theorem Zvo:Zu XX.P 97 2 2:=Zu.of (by kernel_rfl)
theorem Zj1:Zu XX.P 97 3 3:=Zu.of (by kernel_rfl)
theorem Zvn:Zu XX.P 97 4 4:=Zu.of (by kernel_rfl)
theorem UY:Yt XX.P 3=some (.int .i64 0):=by kernel_rfl
theorem ZxN:Yt XX.P 24=some (.slice none 0 0):=by kernel_rfl
theorem ZmI:Yt XX.P 26=some (.agg #[.slice none 0 0,.slice none 0 0,.int .i64 0,.slice none 0 0]):=by kernel_rfl
theorem Zq1:Yt XX.P 29=some (.agg #[.int .i64 0,.int .i64 0,.int .i64 0,.int .i64 0]):=by kernel_rfl
theorem ZxM:Yt XX.P 32=some (.int .i64 0):=by kernel_rfl
theorem Zep:Yt XX.P 58=some (.agg #[.int .i64 0,.int .i64 0,.int .i64 0,.int .i64 0,.int .i64 0]):=by kernel_rfl
theorem Zq0:Yt XX.P 59=some (.slice none 0 0):=by kernel_rfl
theorem Ub:Yt XX.P 61=some (.agg #[.int .i64 0,.bool false,.int .i64 0,.int .i64 0,.int .i64 0,.bool false]):=by kernel_rfl
theorem ZxL:Yt XX.P 65=some (.agg #[.slice none 0 0,.slice none 0 0]):=by kernel_rfl
theorem ZaQ:Yt XX.P 73=some (.agg #[.int .i64 0,.int .i64 0]):=by kernel_rfl
theorem ZxK:Yt XX.P 80=some (.agg #[.int .u8 0,.int .u8 0,.int .u8 0,.int .u8 0]):=by kernel_rfl
theorem ZxJ:Yt XX.P 91=some (.agg #[.int .i64 0,.int .i64 0,.int .i64 0,.int .i64 0]):=by kernel_rfl
theorem ZxI:Yt XX.P 94=some (.pointer none):=by kernel_rfl
theorem ZqZ:Yt XX.P 97=some (.agg #[.int .i64 0,.int .i64 0,.map none,.slice none 0 0,.slice none 0 0]):=by kernel_rfl
theorem Zuj:Yt XX.P 110=some (.map none):=by kernel_rfl
theorem Zoq:Yt XX.P 113=some (.agg #[.int .i64 0,.int .i64 0]):=by kernel_rfl
theorem Zmq:Zbm XX.P 26 [.slice none 0 0,.slice none 0 0,.int .i64 0,.slice none 0 0] [(0,1),(1,1),(2,1),(3,1)]:= ⟨_,_,ZmI,rfl,Try.underlying26,by kernel_rfl⟩
theorem Zjg:Zbm XX.P 29 [.int .i64 0,.int .i64 0,.int .i64 0,.int .i64 0] [(0,1),(1,1),(2,1),(3,1)]:= ⟨_,_,Zq1,rfl,Try.underlying29,by kernel_rfl⟩
theorem Zpj:Zbm XX.P 58 [.int .i64 0,.int .i64 0,.int .i64 0,.int .i64 0,.int .i64 0] [(0,1),(1,1),(2,1),(3,1),(4,1)]:= ⟨_,_,Zep,rfl,Try.underlying58,by kernel_rfl⟩
theorem Zxz:Zbm XX.P 61 [.int .i64 0,.bool false,.int .i64 0,.int .i64 0,.int .i64 0,.bool false] [(0,1),(1,1),(2,1),(3,1),(4,1),(5,1)]:= ⟨_,_,Ub,rfl,Try.underlying61,by kernel_rfl⟩
theorem Zjf:Zbm XX.P 73 [.int .i64 0,.int .i64 0] [(0,1),(1,1)]:= ⟨_,_,ZaQ,rfl,Try.underlying73,by kernel_rfl⟩
theorem Ztx:Zbm XX.P 97 [.int .i64 0,.int .i64 0,.map none,.slice none 0 0,.slice none 0 0] [(0,1),(1,1),(2,1),(3,1),(4,1)]:= ⟨_,_,ZqZ,rfl,Try.underlying97,by kernel_rfl⟩
theorem XK:Zpr XX.P 113 [.int .i64 0,.int .i64 0] 1:= ⟨_,_,_,Zoq,rfl,Try.underlying113,by kernel_rfl⟩
theorem ZhS:ZfZ XX.P #[23,23] 5 40:= ⟨58,.agg #[.int .i64 0,.int .i64 0,.int .i64 0,.int .i64 0,.int .i64 0],by kernel_rfl⟩
theorem Zec:ZfZ XX.P #[24,24] 1 8:= ⟨3,.int .i64 0,by kernel_rfl⟩
theorem ZtI:ZfZ XX.P #[59,59] 6 48:= ⟨61,.agg #[.int .i64 0,.bool false,.int .i64 0,.int .i64 0,.int .i64 0,.bool false],by kernel_rfl⟩
theorem KN:ZfZ XX.P #[63,63] 2 16:= ⟨73,.agg #[.int .i64 0,.int .i64 0],by kernel_rfl⟩
theorem ZDj (x y:Za):ZwD XX.P 61 (ZG.sh () x) (ZG.sh () y) (K7 x y):=
 ⟨by kernel_rfl,Zi8 (d:=9999) (bs:= [x.name==y.name,x.root==y.root,x.from_==y.from_,x.has==y.has,x.out==y.out,x.use==y.use]) Try.underlying61 (by kernel_rfl) ⟨⟨by decide,_,_,YD (by kernel_rfl) rfl,YD (by kernel_rfl) rfl,eq_int (by kernel_rfl)⟩,⟨by decide,_,_,YD (by kernel_rfl) rfl,YD (by kernel_rfl) rfl,Zkw (by kernel_rfl)⟩,⟨by decide,_,_,YD (by kernel_rfl) rfl,YD (by kernel_rfl) rfl,eq_int (by kernel_rfl)⟩,⟨by decide,_,_,YD (by kernel_rfl) rfl,YD (by kernel_rfl) rfl,eq_int (by kernel_rfl)⟩,⟨by decide,_,_,YD (by kernel_rfl) rfl,YD (by kernel_rfl) rfl,eq_int (by kernel_rfl)⟩,⟨by decide,_,_,YD (by kernel_rfl) rfl,YD (by kernel_rfl) rfl,Zkw (by kernel_rfl)⟩,trivial⟩⟩
theorem Zpg (x y:YM):ZwD XX.P 73 (Yy.sh () x) (Yy.sh () y) (KH x y):=
 ⟨by kernel_rfl,Zi8 (d:=9999) (bs:= [x.at_==y.at_,x.name==y.name]) Try.underlying73 (by kernel_rfl) ⟨⟨by decide,_,_,YD (by kernel_rfl) rfl,YD (by kernel_rfl) rfl,eq_int (by kernel_rfl)⟩,⟨by decide,_,_,YD (by kernel_rfl) rfl,YD (by kernel_rfl) rfl,eq_int (by kernel_rfl)⟩,trivial⟩⟩
theorem YI:Zbr XX.P 113 Zg:=Zbr.ZGR (et:=3) (by kernel_rfl) (by kernel_rfl) (by kernel_rfl) (fun x=>x.e0) (fun x=>x.e1) (fun _=>rfl) (fun x y=>by cases x;cases y;simp)
theorem ZzV:Zdq XX.P 59=some 24:=by kernel_rfl
theorem ZB8:(XX.fns.get 14).isSome=true:=by kernel_rfl
theorem ZB7:(XX.fns.get 15).isSome=true:=by kernel_rfl
theorem ZB6:(XX.fns.get 17).isSome=true:=by kernel_rfl
theorem ZB5:(XX.fns.get 38).isSome=true:=by kernel_rfl
theorem ZB4:(XX.fns.get 41).isSome=true:=by kernel_rfl
theorem ZB3:(XX.fns.get 42).isSome=true:=by kernel_rfl
theorem Zsm:(XX.fns.get 43).isSome=true:=by kernel_rfl
theorem ZB2:(XX.fns.get 44).isSome=true:=by kernel_rfl
theorem ZB1:(XX.fns.get 45).isSome=true:=by kernel_rfl
theorem Zsl:(XX.fns.get 52).isSome=true:=by kernel_rfl
theorem ZB0:(XX.fns.get 54).isSome=true:=by kernel_rfl
theorem ZBZ:(XX.fns.get 55).isSome=true:=by kernel_rfl
theorem Zsk:(XX.fns.get 56).isSome=true:=by kernel_rfl
theorem Zxh:(XX.fns.get 57).isSome=true:=by kernel_rfl
theorem ZBY:(XX.fns.get 66).isSome=true:=by kernel_rfl
theorem Zxg:(XX.fns.get 68).isSome=true:=by kernel_rfl
theorem Zsj:(XX.fns.get 71).isSome=true:=by kernel_rfl
theorem ZoO:(XX.fns.get 75).isSome=true:=by kernel_rfl
theorem ZBX:(XX.fns.get 76).isSome=true:=by kernel_rfl
theorem Zxf:(XX.fns.get 77).isSome=true:=by kernel_rfl
theorem ZBW:(XX.fns.get 78).isSome=true:=by kernel_rfl
theorem ZBV:(XX.fns.get 79).isSome=true:=by kernel_rfl
theorem ZBU:(XX.fns.get 80).isSome=true:=by kernel_rfl
theorem Zxe:(XX.fns.get 86).isSome=true:=by kernel_rfl
theorem Zxd:(XX.fns.get 87).isSome=true:=by kernel_rfl
theorem ZBT:(XX.fns.get 88).isSome=true:=by kernel_rfl
theorem Zsi:(XX.fns.get 89).isSome=true:=by kernel_rfl
theorem ZBS:(XX.fns.get 90).isSome=true:=by kernel_rfl
theorem ZBR:(XX.fns.get 91).isSome=true:=by kernel_rfl
theorem ZoN:(XX.fns.get 92).isSome=true:=by kernel_rfl
theorem ZBQ:(XX.fns.get 94).isSome=true:=by kernel_rfl
theorem Zxc:(XX.fns.get 95).isSome=true:=by kernel_rfl
theorem ZjV:(XX.fns.get 103).isSome=true:=by kernel_rfl
theorem Zhg:(XX.fns.get 104).isSome=true:=by kernel_rfl
theorem Zsr:(XX.fns.get 105).isSome=true:=by kernel_rfl
theorem Znx:(XX.fns.get 106).isSome=true:=by kernel_rfl
theorem Znw:(XX.fns.get 110).isSome=true:=by kernel_rfl
theorem ZyU:(XX.fns.get 111).isSome=true:=by kernel_rfl
theorem ZyT:(XX.fns.get 112).isSome=true:=by kernel_rfl
theorem ZyS:(XX.fns.get 113).isSome=true:=by kernel_rfl
theorem ZyR:(XX.fns.get 114).isSome=true:=by kernel_rfl
theorem Zsq:(XX.fns.get 115).isSome=true:=by kernel_rfl
theorem ZyQ:(XX.fns.get 116).isSome=true:=by kernel_rfl
theorem ZjU:(XX.fns.get 117).isSome=true:=by kernel_rfl
theorem ZyP:(XX.fns.get 118).isSome=true:=by kernel_rfl
theorem Zsp:(XX.fns.get 119).isSome=true:=by kernel_rfl
theorem ZyO:(XX.fns.get 120).isSome=true:=by kernel_rfl
theorem Znv:(XX.fns.get 124).isSome=true:=by kernel_rfl
theorem ZyN:(XX.fns.get 125).isSome=true:=by kernel_rfl
theorem ZyM:(XX.fns.get 126).isSome=true:=by kernel_rfl
theorem ZyL:(XX.fns.get 127).isSome=true:=by kernel_rfl
theorem ZyK:(XX.fns.get 128).isSome=true:=by kernel_rfl
theorem Znu:(XX.fns.get 133).isSome=true:=by kernel_rfl
theorem Zso:(XX.fns.get 138).isSome=true:=by kernel_rfl
theorem Zsn:(XX.fns.get 143).isSome=true:=by kernel_rfl
end Go.Proofs.Ytekpjgmhkkjhgaa
end
end
section
noncomputable section
namespace Go.Yo
open Go.Lf
class ZdA (P:Program) (t:TypeId):Prop where
 out:Yg P t=some false
class ZiA (P:Program) (t:TypeId):Prop where
 out:Yg P t=some true
class SzF (P:Program) (t:TypeId) (n:outParam Nat):Prop where
 out:ZX P t=some n
class JD (P:Program) (t:TypeId) (f:Nat) (o:outParam Nat):Prop where
 out:Zu P t f o
class Ziy (P:Program) (t:TypeId) (e:outParam TypeId):Prop where
 out:P.underlying t=some (.slice e)
class ZAd (P:Program) (t:TypeId):Prop where
 out:P.underlying t=some .bool
class Zce (P:Program) (t:TypeId) (v:outParam Value):Prop where
 out:Yt P t=some v
theorem ia {v:Value} (h:Qx v=false):Qx v=false:=h
theorem KQ {fr:Fr} {t:Nat} {c:Bool} {v:Value} (h:fr.at t=cond c v undef) (ha:Qx v=false) (hc:c=true):ZQ fr (.tmp t)=some v:=XJ h ha hc
section
variable {X:Ctx} {h:H} {fr:Fr} {ty:TypeId} {p':String} {af:Array Edge} {g:Option (Nat×Bool)} {d:Option Tmp} {wm:Nat} {T:Nat ->Prop} {h0:H} {G Gr:List (Ast wm)}
theorem ZDv {x:Operand} {t:TypeId} {f off b o:Nat} [hf:JD X.P t f off] (hx:ZQ fr x=some (.pointer (some ⟨b,o,none⟩))):Xc X h (ZQ fr) ⟨d,.fieldAddr t x f,ty,p',af,g⟩=some (.val (.pointer (some ⟨b,o + off,none⟩)),.none):=Xl hf.out hx
theorem ZGQ {x:Operand} {t:TypeId} {b oo:Nat} {vs:List Value} {v:Value} [ht:ZdA X.P t] (hx:ZQ fr x=some (.pointer (some ⟨b,oo,none⟩))) (hS:Sp wm T h0 G h) (pp:Pk G (bx wm b vs) Gr) (hv:vs[oo]? =some v):
 Xc X h (ZQ fr) ⟨d,.load t x,ty,p',af,g⟩=some (.val v,.none):=ZU ht.out hx (hS.Qo pp) (Nat.zero_add _).symm hv
theorem ZDu {x:Operand} {t:TypeId} {b oo sz:Nat} {vs ws:List Value} [ht:ZiA X.P t] [hs:SzF X.P t sz] (hx:ZQ fr x=some (.pointer (some ⟨b,oo,none⟩))) (hS:Sp wm T h0 G h) (pp:Pk G (bx wm b vs) Gr) (hj:Nat.ble (oo + sz) vs.length=true) (hv:(vs.drop oo).take sz=ws):
 Xc X h (ZQ fr) ⟨d,.load t x,ty,p',af,g⟩=some (.val (.agg ws.toArray),.none):=Xr ht.out hs.out hx (hS.Qo pp) (Nat.zero_add _).symm hj hv
theorem ZDw {dd:Tmp} {x:Operand} {t:TypeId} {v:Value} {vs:List Value} (hx:ZQ fr x=some v) (hS:Sp wm T h0 G h) (hv:v.cells.toList=vs):
 HN X wm ⟨some dd,.box t x,ty,p',af,g⟩ fr h (fun v h'=>∃ b,h.size=b∧v= .pointer (some ⟨b,0,none⟩)∧Sp wm T h0 (bx wm b vs::G) h'):=Zou hS hx hv
theorem ZDx {dd:Tmp} {t:TypeId} {v:Value} {vs:List Value} [hz:Zce X.P t v] (hS:Sp wm T h0 G h) (hv:v.cells.toList=vs):
 HN X wm ⟨some dd,.alloc t,ty,p',af,g⟩ fr h (fun v h'=>∃ b,h.size=b∧v= .pointer (some ⟨b,0,none⟩)∧Sp wm T h0 (bx wm b vs::G) h'):=ZiI hS hz.out hv
theorem ZGP {x y:Operand} {t:TypeId} {b o sz:Nat} {cs cs' vs:List Value} {v:Value} [hs:SzF X.P t sz] (hx:ZQ fr x=some (.pointer (some ⟨b,o,none⟩))) (hS:Sp wm T h0 G h) (pk:Pk G (bx wm b cs) Gr) (hy:ZQ fr y=some v)
 (hvs:v.cells.toList=vs) (hn:Nat.beq vs.length sz=true) (hl:Nat.ble (o + sz) cs.length=true) (hc:vs.all Value.oneCell'=true) (hv:splice cs o vs=cs'):
 HU X wm ⟨none,.store t x y,ty,p',af,g⟩ fr h (fun i=>i=b) (fun h'=>Sp wm T h0 (bx wm b cs'::Gr) h'):=UW hS pk hs.out hx hy hvs hn hl hc hv
theorem ZDt {x:Operand} {t e':TypeId} {a:Option Addr} {mm cc dd:Nat} [hu:Ziy X.P t e'] (hx:ZQ fr x=some (.slice a mm cc)):
 Xc X h (ZQ fr) ⟨some dd,.call {callee:= .builtin .len,args:=#[x],argTypes:=#[t]},ty,p',af,g⟩=some (.val (.int .i64 (mm:Int)),.none):=ZkN hu.out hx rfl
end
section
variable {X:Ctx} {n wm:Nat} {rd:Option Nat} {ops:Array Oper} {l:List Oper} {fr:Fr} {ds:List Deferred} {h:H} {ty:TypeId} {p:String} {af:Array Edge} {g:Option (Nat×Bool)} {sf:ST} {m:Nat}
theorem WX.w2 {Q:Fr ->H ->Prop} {d:Nat} {op:Op} {v:Value} (hg:ZL ops ⟨some d,op,ty,p,af,g⟩ fr) (hd:Nat.blt d n=true) (hM:okM ops sf m ⟨some d,op,ty,p,af,g⟩=true) (ha:Xc X h (ZQ fr) ⟨some d,op,ty,p,af,g⟩=some (.val v,.none)) (k:WX X n wm rd ops sf (m + 1) h l (Tr.set fr d v) Q):
 WX X n wm rd ops sf m h (⟨some d,op,ty,p,af,g⟩::l) fr Q:=WX.w hg hd ha k hM
theorem WX.gv2 {Q:Fr ->H ->Prop} {d:Nat} {op:Op} {c:Bool} {v:Value} (hg:Zi ops ⟨some d,op,ty,p,af,g⟩ fr c) (hd:Nat.blt d n=true) (hM:okM ops sf m ⟨some d,op,ty,p,af,g⟩=true) (ha:c=true ->Xc X h (ZQ fr) ⟨some d,op,ty,p,af,g⟩=some (.val v,.none)) (k:WX X n wm rd ops sf (m + 1) h l (Tr.set fr d (cond c v undef)) Q):
 WX X n wm rd ops sf m h (⟨some d,op,ty,p,af,g⟩::l) fr Q:=WX.gv hg hd ha k hM
end
structure Kp (q:Prop):Prop where
 out:q
section
variable {X:Ctx} {n wm:Nat} {rd:Option Nat} {Q:XX ->Fs ->Prop}
theorem E0 {p:Prop}(h:p:=by(focus (repeat (first | with_reducible exact fh | ((with_reducible apply ZM);exact rfl) | ((with_reducible apply Ye);exact rfl) | ((with_reducible apply ZN);exact rfl) | ((with_reducible apply Zf);exact rfl) | with_reducible assumption));first|done|fail)):p:=h
theorem cn {c:Operand} {a b:Code} {t:Bool} {fr:Fr} {ds:List Deferred} {h:H} {α:Type} {x y r:α} (hL:(bif t then x else y)=r) (h1:t=true ->x=r ->WC X n wm rd a ⟨fr,ds,h,none⟩ Q) (h2:t=false ->y=r ->WC X n wm rd b ⟨fr,ds,h,none⟩ Q) (hc:ZQ fr c=some (.bool t):=by(first | exact Jf rfl | (apply Zt;exact E0;(first | exact ia rfl | assumption)) | (apply KQ;exact E0;(first | exact ia rfl | assumption);assumption) | fail)):WC X n wm rd (.cond c a b) ⟨fr,ds,h,none⟩ Q:=
 WC.Zmj hc (fun e=>h1 e (Wq e hL)) (fun e=>h2 e (Ws e hL))
theorem rt {fn:Func} {fr:Fr} {h h0:H} {T:Nat ->Prop} {G G':List (Ast wm)} {wr:Option Nat} {t:Tmp} {β:Type} {x r:β} {g:β ->Value} (hL:some x=some r) (hT:T=Xw G) (hS:Sp wm T h0 G' h) (hr:fn.results.toList= [.tmp t]:=by exact rfl) (hv:ZQ fr (.tmp t)=some (g x):=by(first | exact Jf rfl | (apply Zt;exact E0;(first | exact ia rfl | assumption)) | (apply KQ;exact E0;(first | exact ia rfl | assumption);assumption) | fail)):
 ZT X fn (fun e h'=>∃ v,e= .ret v∧CP (fun v Gb=>v=g r∧Gb= []) G h0 v h') .ret ⟨fr,[],h,wr⟩:=by
 cases hL;exact ZT.Je hr (ZE hv Zm) ⟨_,⟨rfl,rfl⟩,hT ▸ hS.only .n⟩
theorem bg {f:FuncId} {fn:Func} {c:Code} {args:List Value} {n:Nat} {K:Value ->List (Ast wm) ->Prop} {G:List (Ast wm)} {h:H} {fr:Fr} (hnt:fn.ntmps=n) (ZB:wm <=h.size) (hO:ZP G h)
 (k:∀ T,T=Xw (wm:=wm) G ->Sp wm T h G h ->WC X n wm none c ⟨fr,[],h,none⟩ (ZT X fn (fun e h'=>∃ v,e= .ret v∧CP K G h v h'))) (hf:X.fns.get f=some fn:=by kernel_rfl) (hb:fn.body=some c:=by exact rfl) (hn:args.length <=n:=by simp)
 (hfr:Xy args 0 .nil=fr:=by(simp only [ZC,ZJ,Nat.reduceAdd];exact rfl)):WR X f args.toArray wm h (CP K G h):=by
 subst hfr;exact WF.begin hf hb hnt hn (k _ rfl (Sp.start ZB hO))
end
theorem lk {p:Prop} (h:p:=by(first | exact Jf rfl | (apply Zt;exact E0;(first | exact ia rfl | assumption)) | (apply KQ;exact E0;(first | exact ia rfl | assumption);assumption) | fail)):p:=h
theorem lks {p:Prop} (h:p:=by
 repeat (first | exact Zl | (apply Zc;(focus (first | exact Jf rfl | (apply Zt;exact E0;(first | exact ia rfl | assumption)) | (apply KQ;exact E0;(first | exact ia rfl | assumption);assumption) | fail);done)))
 done):p:=h
theorem Y3 {p:Prop} (h:p:=by
 repeat (first | with_reducible exact fh | ((with_reducible apply ZM);exact rfl) | ((with_reducible apply Ye);exact rfl) | ((with_reducible apply ZN);exact rfl) | ((with_reducible apply Zf);exact rfl) | with_reducible assumption | refine⟨?_,?_⟩)
 done):p:=h
theorem r1 {p q:Prop} (k:q) (h:Kp q ->p:=by
 intro k
 first
 | refine WO.nil ?_
 | refine Qp.Yw ?_
 | refine WC.seq ?_
 | refine WC.region ?_
 | ((first | apply WO.w gN rfl | (apply WO.gv;(focus (first | (apply Zi.yes rfl rfl rfl;exact E0) | (apply Zi.no rfl rfl rfl;exact E0) | (apply Zi.Zpt rfl rfl rfl;exact E0) | (apply Zi.no2 rfl rfl rfl;exact E0) | fail);done);rfl;intro hg) | (apply WX.w2 gN;rfl;rfl) | (apply WX.gv2;(focus (first | (apply Zi.yes rfl rfl rfl;exact E0) | (apply Zi.no rfl rfl rfl;exact E0) | (apply Zi.Zpt rfl rfl rfl;exact E0) | (apply Zi.no2 rfl rfl rfl;exact E0) | fail);done);rfl;rfl;intro hg));(focus (first
   | ((with_reducible apply Yv);(first | exact Jf rfl | (apply Zt;exact E0;(first | exact ia rfl | assumption)) | (apply KQ;exact E0;(first | exact ia rfl | assumption);assumption) | fail))
   | ((with_reducible apply ZGQ);(focus (first | exact Jf rfl | (apply Zt;exact E0;(first | exact ia rfl | assumption)) | (apply KQ;exact E0;(first | exact ia rfl | assumption);assumption) | fail);done);assumption;(focus (first | exact k0 | exact k1 | exact k2 | exact k3 | exact k4 | exact k5 | exact k6 | exact k7 | (repeat (first | exact k7 | apply Pk.s)));done);rfl)
   | ((with_reducible apply ZDv);(first | exact Jf rfl | (apply Zt;exact E0;(first | exact ia rfl | assumption)) | (apply KQ;exact E0;(first | exact ia rfl | assumption);assumption) | fail))
   | ((with_reducible apply Z6);(first | exact Jf rfl | (apply Zt;exact E0;(first | exact ia rfl | assumption)) | (apply KQ;exact E0;(first | exact ia rfl | assumption);assumption) | fail))
   | ((with_reducible apply Yc);(focus (first | exact Jf rfl | (apply Zt;exact E0;(first | exact ia rfl | assumption)) | (apply KQ;exact E0;(first | exact ia rfl | assumption);assumption) | fail);done);(focus (first | exact Jf rfl | (apply Zt;exact E0;(first | exact ia rfl | assumption)) | (apply KQ;exact E0;(first | exact ia rfl | assumption);assumption) | fail);done);(first | with_reducible exact ZqN | with_reducible exact JB | with_reducible exact Zcd | with_reducible exact ZhW | with_reducible exact ZqJ | with_reducible exact ZtX | with_reducible exact UR | with_reducible exact ZtW | with_reducible exact ZqL | with_reducible exact ZqM ZAd.out | with_reducible exact ZqK ZAd.out))
   | ((with_reducible apply ZDu);(focus (first | exact Jf rfl | (apply Zt;exact E0;(first | exact ia rfl | assumption)) | (apply KQ;exact E0;(first | exact ia rfl | assumption);assumption) | fail);done);assumption;(focus (first | exact k0 | exact k1 | exact k2 | exact k3 | exact k4 | exact k5 | exact k6 | exact k7 | (repeat (first | exact k7 | apply Pk.s)));done);rfl;(focus simp only [Nat.zero_add,Nat.reduceAdd,List.drop_succ_cons,List.drop_zero,List.take_succ_cons,List.take_zero,List.take_nil];rfl))
   | ((with_reducible apply ZDt);(first | exact Jf rfl | (apply Zt;exact E0;(first | exact ia rfl | assumption)) | (apply KQ;exact E0;(first | exact ia rfl | assumption);assumption) | fail))
   | ((with_reducible apply Wi);(focus (first | exact Jf rfl | (apply Zt;exact E0;(first | exact ia rfl | assumption)) | (apply KQ;exact E0;(first | exact ia rfl | assumption);assumption) | fail);done);rfl)
   | ((with_reducible apply ZkM);(first | exact Jf rfl | (apply Zt;exact E0;(first | exact ia rfl | assumption)) | (apply KQ;exact E0;(first | exact ia rfl | assumption);assumption) | fail))
   | ((with_reducible apply Zn6);(first | exact Jf rfl | (apply Zt;exact E0;(first | exact ia rfl | assumption)) | (apply KQ;exact E0;(first | exact ia rfl | assumption);assumption) | fail))
   | ((with_reducible apply Qz);(focus (first | exact Jf rfl | (apply Zt;exact E0;(first | exact ia rfl | assumption)) | (apply KQ;exact E0;(first | exact ia rfl | assumption);assumption) | fail);done);(focus (apply Zb1;exact E0);done);(first | exact Jf rfl | (apply Zt;exact E0;(first | exact ia rfl | assumption)) | (apply KQ;exact E0;(first | exact ia rfl | assumption);assumption) | fail))
   | ((with_reducible apply ZxA);(focus (first | exact Jf rfl | (apply Zt;exact E0;(first | exact ia rfl | assumption)) | (apply KQ;exact E0;(first | exact ia rfl | assumption);assumption) | fail);done);(focus (first | exact Jf rfl | (apply Zt;exact E0;(first | exact ia rfl | assumption)) | (apply KQ;exact E0;(first | exact ia rfl | assumption);assumption) | fail);done);(apply Zb1;exact E0))
   | fail)))
 | (apply WO.hu gN;(focus (first | (((with_reducible apply ZGP));(focus (first | exact Jf rfl | (apply Zt;exact E0;(first | exact ia rfl | assumption)) | (apply KQ;exact E0;(first | exact ia rfl | assumption);assumption) | fail);done);assumption;(focus (first | exact k0 | exact k1 | exact k2 | exact k3 | exact k4 | exact k5 | exact k6 | exact k7 | (repeat (first | exact k7 | apply Pk.s)));done);(focus (first | exact Jf rfl | (apply Zt;exact E0;(first | exact ia rfl | assumption)) | (apply KQ;exact E0;(first | exact ia rfl | assumption);assumption) | fail);done);(focus (first | (simp only [Zfk,Zdp,Zb4,Zfi,Zfj,Zfm,Zbj,cells_func,Zan,KI,Zb5];exact rfl) | exact rfl));exact rfl;exact rfl;exact rfl;(focus simp only [splice,List.take_succ_cons,List.take_zero,List.drop_succ_cons,List.drop_zero,List.cons_append,List.nil_append,List.append_nil,List.length_cons,List.length_nil,Nat.reduceAdd,Nat.zero_add,List.take_nil,List.drop_nil];exact rfl)) | fail)))
 | (apply WO.hn gN rfl;(focus (first | (((with_reducible apply ZDw));(focus (first | exact Jf rfl | (apply Zt;exact E0;(first | exact ia rfl | assumption)) | (apply KQ;exact E0;(first | exact ia rfl | assumption);assumption) | fail);done);assumption;(focus (first | (simp only [Zfk,Zdp,Zb4,Zfi,Zfj,Zfm,Zbj,cells_func,Zan,KI,Zb5];exact rfl) | exact rfl))) | (((with_reducible apply ZDx));assumption;(focus (first | (simp only [Zfk,Zdp,Zb4,Zfi,Zfj,Zfm,Zbj,cells_func,Zan,KI,Zb5];exact rfl) | exact rfl))) | fail)))
 | refine WC.skip ?_
 | refine WC.ret ?_
 | refine WC.block ?_
 | refine WC.exit ?_
 | refine Qp.ret ?_
 | refine Qp.exit ?_
 | refine UX.ret ?_
 | refine UX.Yw ?_
 | refine UX.here ?_
 | refine YC.exit ?_
 | refine YC.ret ?_
 | refine WX.nil ?_
 | fail
 exact k.out):p:=h ⟨k⟩
theorem r2 {p q:Prop} (k:q) (h:Kp q ->p:=by
 intro k
 iterate 2 (refine r1 ?_)
 exact k.out):p:=h ⟨k⟩
theorem r3 {p q:Prop} (k:q) (h:Kp q ->p:=by
 intro k
 iterate 3 (refine r1 ?_)
 exact k.out):p:=h ⟨k⟩
theorem r4 {p q:Prop} (k:q) (h:Kp q ->p:=by
 intro k
 iterate 4 (refine r1 ?_)
 exact k.out):p:=h ⟨k⟩
theorem r6 {p q:Prop} (k:q) (h:Kp q ->p:=by
 intro k
 iterate 6 (refine r1 ?_)
 exact k.out):p:=h ⟨k⟩
theorem r8 {p q:Prop} (k:q) (h:Kp q ->p:=by
 intro k
 iterate 8 (refine r1 ?_)
 exact k.out):p:=h ⟨k⟩
theorem J8 {p q:Prop} (k:q) (h:Kp q ->p:=by
 intro k
 iterate 12 (refine r1 ?_)
 exact k.out):p:=h ⟨k⟩
theorem r16 {p q:Prop} (k:q) (h:Kp q ->p:=by
 intro k
 iterate 16 (refine r1 ?_)
 exact k.out):p:=h ⟨k⟩
end Go.Yo
end
end
section
noncomputable section
namespace Go.Proofs.Ytekpjgmhkkjhgaa
open Go.Yo Go.Lf
instance:ZdA XX.P 3:= ⟨Xj⟩
instance:ZdA XX.P 4:= ⟨ZGT⟩
instance:ZdA XX.P 5:= ⟨ZGS⟩
instance:ZdA XX.P 22:= ⟨ZxD⟩
instance:ZdA XX.P 23:= ⟨ZmC⟩
instance:ZdA XX.P 24:= ⟨ZtR⟩
instance:ZiA XX.P 26:= ⟨ZaM⟩
instance:ZdA XX.P 27:= ⟨ZtQ⟩
instance:ZiA XX.P 29:= ⟨ZhU⟩
instance:ZdA XX.P 32:= ⟨ZtP⟩
instance:ZdA XX.P 56:= ⟨ZDG⟩
instance:ZiA XX.P 58:= ⟨Zeh⟩
instance:ZdA XX.P 59:= ⟨ZmB⟩
instance:ZiA XX.P 61:= ⟨ZhT⟩
instance:ZdA XX.P 63:= ⟨ZDF⟩
instance:ZiA XX.P 65:= ⟨ZaL⟩
instance:ZiA XX.P 73:= ⟨Zeg⟩
instance:ZiA XX.P 80:= ⟨ZxC⟩
instance:ZiA XX.P 91:= ⟨ZDE⟩
instance:ZdA XX.P 94:= ⟨ZtO⟩
instance:ZdA XX.P 95:= ⟨ZfX⟩
instance:ZdA XX.P 110:= ⟨ZkT⟩
instance:ZiA XX.P 113:= ⟨Zz4⟩
instance:SzF XX.P 3 1:= ⟨Y4⟩
instance:SzF XX.P 4 1:= ⟨ZwJ⟩
instance:SzF XX.P 5 1:= ⟨ZAT⟩
instance:SzF XX.P 22 1:= ⟨Zx1⟩
instance:SzF XX.P 23 1:= ⟨ZmY⟩
instance:SzF XX.P 24 1:= ⟨Zx0⟩
instance:SzF XX.P 26 4:= ⟨QJ⟩
instance:SzF XX.P 29 4:= ⟨Zc0⟩
instance:SzF XX.P 32 1:= ⟨ZxZ⟩
instance:SzF XX.P 58 5:= ⟨XB⟩
instance:SzF XX.P 59 1:= ⟨Zby⟩
instance:SzF XX.P 61 6:= ⟨Uc⟩
instance:SzF XX.P 63 1:= ⟨Zrd⟩
instance:SzF XX.P 65 2:= ⟨Q5⟩
instance:SzF XX.P 73 2:= ⟨Y1⟩
instance:SzF XX.P 80 4:= ⟨Zju⟩
instance:SzF XX.P 91 4:= ⟨ZxY⟩
instance:SzF XX.P 94 1:= ⟨ZxX⟩
instance:SzF XX.P 110 1:= ⟨Zjv⟩
instance:SzF XX.P 113 2:= ⟨Zut⟩
instance:JD XX.P 26 0 0:= ⟨ZvL⟩
instance:JD XX.P 26 1 1:= ⟨ZvK⟩
instance:JD XX.P 26 2 2:= ⟨ZvJ⟩
instance:JD XX.P 26 3 3:= ⟨ZvI⟩
instance:JD XX.P 29 0 0:= ⟨Zj3⟩
instance:JD XX.P 29 1 1:= ⟨Zbe⟩
instance:JD XX.P 29 2 2:= ⟨Zct⟩
instance:JD XX.P 29 3 3:= ⟨Zbd⟩
instance:JD XX.P 58 0 0:= ⟨ZvH⟩
instance:JD XX.P 58 1 1:= ⟨ZvG⟩
instance:JD XX.P 58 2 2:= ⟨ZvF⟩
instance:JD XX.P 58 3 3:= ⟨ZvE⟩
instance:JD XX.P 58 4 4:= ⟨ZoZ⟩
instance:JD XX.P 61 0 0:= ⟨ZvD⟩
instance:JD XX.P 61 1 1:= ⟨ZvC⟩
instance:JD XX.P 61 2 2:= ⟨ZoY⟩
instance:JD XX.P 61 3 3:= ⟨Zj2⟩
instance:JD XX.P 61 4 4:= ⟨ZvB⟩
instance:JD XX.P 61 5 5:= ⟨ZvA⟩
instance:JD XX.P 65 0 0:= ⟨ZoX⟩
instance:JD XX.P 65 1 1:= ⟨Zvz⟩
instance:JD XX.P 73 0 0:= ⟨Zvy⟩
instance:JD XX.P 73 1 1:= ⟨Zvx⟩
instance:JD XX.P 80 0 0:= ⟨Zvw⟩
instance:JD XX.P 80 1 1:= ⟨Zvv⟩
instance:JD XX.P 80 2 2:= ⟨Zvu⟩
instance:JD XX.P 80 3 3:= ⟨Zvt⟩
instance:JD XX.P 91 2 2:= ⟨Zvs⟩
instance:JD XX.P 91 3 3:= ⟨Zvr⟩
instance:JD XX.P 97 0 0:= ⟨Zvq⟩
instance:JD XX.P 97 1 1:= ⟨Zvp⟩
instance:JD XX.P 97 2 2:= ⟨Zvo⟩
instance:JD XX.P 97 3 3:= ⟨Zj1⟩
instance:JD XX.P 97 4 4:= ⟨Zvn⟩
instance:Ziy XX.P 22 59:= ⟨ZgE⟩
instance:Ziy XX.P 23 58:= ⟨UD⟩
instance:Ziy XX.P 24 3:= ⟨X9⟩
instance:Ziy XX.P 38 29:= ⟨ZAN⟩
instance:Ziy XX.P 43 91:= ⟨ZAM⟩
instance:Ziy XX.P 59 61:= ⟨ZiF⟩
instance:Ziy XX.P 62 80:= ⟨Zq7⟩
instance:Ziy XX.P 63 73:= ⟨Qt⟩
instance:Ziy XX.P 69 5:= ⟨ZAL⟩
instance:ZAd XX.P 4:= ⟨ZEx⟩
instance:Zce XX.P 3 (.int .i64 0):= ⟨UY⟩
instance:Zce XX.P 24 (.slice none 0 0):= ⟨ZxN⟩
instance:Zce XX.P 26 (.agg #[.slice none 0 0,.slice none 0 0,.int .i64 0,.slice none 0 0]):= ⟨ZmI⟩
instance:Zce XX.P 29 (.agg #[.int .i64 0,.int .i64 0,.int .i64 0,.int .i64 0]):= ⟨Zq1⟩
instance:Zce XX.P 32 (.int .i64 0):= ⟨ZxM⟩
instance:Zce XX.P 58 (.agg #[.int .i64 0,.int .i64 0,.int .i64 0,.int .i64 0,.int .i64 0]):= ⟨Zep⟩
instance:Zce XX.P 59 (.slice none 0 0):= ⟨Zq0⟩
instance:Zce XX.P 61 (.agg #[.int .i64 0,.bool false,.int .i64 0,.int .i64 0,.int .i64 0,.bool false]):= ⟨Ub⟩
instance:Zce XX.P 65 (.agg #[.slice none 0 0,.slice none 0 0]):= ⟨ZxL⟩
instance:Zce XX.P 73 (.agg #[.int .i64 0,.int .i64 0]):= ⟨ZaQ⟩
instance:Zce XX.P 80 (.agg #[.int .u8 0,.int .u8 0,.int .u8 0,.int .u8 0]):= ⟨ZxK⟩
instance:Zce XX.P 91 (.agg #[.int .i64 0,.int .i64 0,.int .i64 0,.int .i64 0]):= ⟨ZxJ⟩
instance:Zce XX.P 94 (.pointer none):= ⟨ZxI⟩
instance:Zce XX.P 97 (.agg #[.int .i64 0,.int .i64 0,.map none,.slice none 0 0,.slice none 0 0]):= ⟨ZqZ⟩
instance:Zce XX.P 110 (.map none):= ⟨Zuj⟩
instance:Zce XX.P 113 (.agg #[.int .i64 0,.int .i64 0]):= ⟨Zoq⟩
end Go.Proofs.Ytekpjgmhkkjhgaa
end
end
section
namespace Go.Proofs.Ytekpjgmhkkjhgaa
open Go.Lf
end Go.Proofs.Ytekpjgmhkkjhgaa
end
section
set_option maxRecDepth 20000
noncomputable section
namespace Go.Proofs.Ytekpjgmhkkjhgaa
open Go.Yo Go.Lf
end Go.Proofs.Ytekpjgmhkkjhgaa
end
end
section
namespace Go.Proofs.Ytekpjgmhkkjhgaa
open Go.Lf
def ZvR (p0:(List YM)):Option (List YM):=
 (app 16 ([]:List YM) p0).bind fun z3=>some z3
def Ze3 (p0:Zao) (p1:Int) (p2:Int) (p3:Int) (x5:Int) (v14:Int) (v26:Int) (x28:Int):Bool ->Option (Zn×Bool):=fun v41=>
 (bif v41 then some ((Zn.mk 2 x5 v14 v26),((decide (p2 > 0)) && (decide (p1 > 1)))) else(bif(x28==3) then some ((Zn.mk 3 x5 v14 0),decide (p2 > 0)) else(bif(x28==4) then some ((Zn.mk 4 x5 v14 v26),((decide (p2 > 0)) && (decide (p1 > 1)))) else(bif(p3==0) then some ((Zn.mk 0 0 0 0),false) else(Zez (ZK p0.at_) p3).bind fun x47=>some ((Zn.mk 5 x47 0 0),true)))))
def Ze4 (p0:Zao) (p1:Int) (p2:Int) (p3:Int) (x5:Int) (v14:Int):Int ->Option (Zn×Bool):=fun v26=>
 (Zez p0.ZW 9).bind fun x28=>(bif(x28==0) then some ((Zn.mk 1 x5 0 0),decide (p2 < 12)) else(bif(x28==1) then(Ze3 p0 p1 p2 p3 x5 v14 v26 x28) (x28==1) else(Ze3 p0 p1 p2 p3 x5 v14 v26 x28) (x28==2)))
def Ze5 (p0:Zao) (p1:Int) (p2:Int) (p3:Int) (x5:Int):Int ->Option (Zn×Bool):=fun v14=>
 (bif decide (p1 > 1) then(Zez (ZK p0.Zv) (ZK (p1 - 1))).bind fun x49=>(Zez (ZK ((ZK (x5 + 1)) + x49)) p1).bind fun x50=>(Ze4 p0 p1 p2 p3 x5 v14) x50 else(Ze4 p0 p1 p2 p3 x5 v14) 0)
def Zs8 (p0:Zao) (p1:Int) (p2:Int) (p3:Int):Option (Zn×Bool):=
 (Zez (ZK p0.at_) p1).bind fun x5=>(bif decide (p2 > 0) then(Zez (ZK p0.name) p2).bind fun x51=>(Ze5 p0 p1 p2 p3 x5) x51 else(Ze5 p0 p1 p2 p3 x5) 0)
def Zhs (p0:Zn) (p1:Int):Bool ->Option Bool:=fun v10=>
 (bif v10 then(bif((decide (p0.at_ >=0)) && (decide (p0.at_ < p1))) then some ((((decide (p0.Zv >=0)) && (decide (p0.Zv < p1))) && (p0.at_ !=p0.Zv)) && (decide (p0.name >=0))) else some ((false && (p0.at_ !=p0.Zv)) && (decide (p0.name >=0)))) else(bif(p0.ZW==3) then some ((((decide (p0.at_ >=0)) && (decide (p0.at_ < p1))) && (decide (p0.name >=0))) && (p0.Zv==0)) else some ((((p0.ZW==5) && (decide (p0.at_ >=0))) && (p0.name==0)) && (p0.Zv==0))))
def Zqj (p0:Zn) (p1:Int):Option Bool:=
 (bif(p0.ZW==1) then some ((((decide (p0.at_ >=0)) && (decide (p0.at_ < p1))) && (p0.name==0)) && (p0.Zv==0)) else(bif(p0.ZW==2) then(Zhs p0 p1) (p0.ZW==2) else(Zhs p0 p1) (p0.ZW==4)))
end Go.Proofs.Ytekpjgmhkkjhgaa
end
section
set_option maxRecDepth 20000
noncomputable section
namespace Go.Proofs.Ytekpjgmhkkjhgaa
open Go.Yo Go.Lf
theorem ZzC {wm:Nat} {h:H} {p0:(List YM)} {Zr:Option Addr} {Zq:Nat} {r:(List YM)} (ZB:wm <=h.size) (ZI:Sl Yy wm h Zr Zq p0) (hL:ZvR p0=some r):
 WR XX 42 #[.slice Zr p0.length Zq] wm h (CP (fun(v:Value) (Gb:List (Ast wm))=>∃ (XT:Option Addr) (XQ:Nat) (XR:Nat),v= .slice XT XQ XR∧Gb= [ow wm Yy XT XQ XR r]) [] h):=by
 refine bg Try.ntmps42 ZB ZP.nil ?_;intro T hT hS;unfold ZvR at hL;refine r8 ?_;rcases Sl.cases ZI with⟨rfl,rfl,rfl⟩ | ⟨qa,rfl⟩
 ·
  refine r1 ?_;refine WO.w gN rfl (Yc (Zt fh rfl) (Jf rfl) (Zfv Qt)) ?_;refine r2 ?_;refine WC.ZkD lk rfl ?_;rw [Zn9 _ (by decide)] at hL;replace hL:some []=some r:=hL;refine r6 ?_;refine r1 ?_;have hS:=hS.nil (e:=Yy);have hr:=Option.some.inj hL;subst hr;exact ZT.Je rfl (ZE lk Zm) ⟨_,⟨none,0,0,rfl,rfl⟩,hT ▸ hS.only (.c k0 .n)⟩
 ·
  refine r1 ?_;refine WO.w gN rfl (Yc (Zt fh rfl) (Jf rfl) (Zfw Qt)) ?_;refine r2 ?_;refine WC.Zdo lk rfl ?_;refine r4 ?_;refine WO.hn gN rfl (Zf2 (e:=Yy) hS Qt Y1 ZaQ rfl rfl rfl ZA rfl [] rfl (xs:= ([]:List YM)) rfl (by intro q hq;cases hq) rfl) ?_;rintro _ h2 ⟨b1,eb1,rfl,hS⟩;refine r1 ?_;obtain⟨z3,hz3,hL⟩:=bind_some hL;refine WO.hv gN rfl (ZdJ (e:=Yy) hS k0 KN lk lk (Sl.src (hS.sl ZI)) rfl hz3) ?_;rintro _ h6 ⟨a4,c5,rfl,hS⟩;refine r4 ?_;have hr:=Option.some.inj hL;subst hr;exact ZT.Je rfl (ZE lk Zm) ⟨_,⟨a4,z3.length,c5,rfl,rfl⟩,hT ▸ hS.only (.c k0 .n)⟩
theorem Zzz {wm:Nat} {h:H} {p0:Zao} {p1 p2 p3:Int} {r:(Zn×Bool)} (ZB:wm <=h.size) (hL:Zs8 p0 p1 p2 p3=some r):
 WR XX 45 #[.agg [.int .u8 p0.ZW,.int .u8 p0.at_,.int .u8 p0.name,.int .u8 p0.Zv].toArray,.int .i64 p1,.int .i64 p2,.int .i64 p3] wm h (CP (fun(v:Value) (Gb:List (Ast wm))=>v= .tuple [.agg [.int .i64 r.1.ZW,.int .i64 r.1.at_,.int .i64 r.1.name,.int .i64 r.1.Zv].toArray,.bool r.2].toArray∧Gb= []) [] h):=by
 refine bg Try.ntmps45 ZB ZP.nil ?_;intro T hT hS;unfold Zs8 at hL;refine r3 ?_;rintro _ h2 ⟨b1,eb1,rfl,hS⟩;refine r1 ?_;rintro _ h4 ⟨b3,eb3,rfl,hS⟩;refine r6 ?_;refine r1 ?_;refine WO.w gN rfl (Zds Zpz ZmQ lk) ?_;refine r1 ?_;obtain⟨x5,hx5,hL⟩:=bind_some hL;refine WO.w gN rfl (Yc (Zt (Zf rfl fh) rfl) (Zt fh rfl) (Uy hx5)) ?_;refine r4 ?_;refine r1 ?_;refine WC.ZaT (r:=r) (fun(v14:Int) (s:Fs)=>∃ (fr7:Fr) (h6:H),s= ⟨fr7,[],h6,none⟩∧Sp wm T h [bx wm b1 [.int .u8 p0.ZW,.int .u8 p0.at_,.int .u8 p0.name,.int .u8 p0.Zv],bx wm b3 [.int .i64 0,.int .i64 0,.int .i64 0,.int .i64 0]] h6∧fr7.at 1= .int .i64 p1∧fr7.at 2= .int .i64 p2∧fr7.at 3= .int .i64 p3∧fr7.at 4= .pointer (some ⟨b1,0,none⟩)∧fr7.at 8= .pointer (some ⟨b3,0,none⟩)∧fr7.at 10= .int .i64 x5∧fr7.at 11= .int .i64 v14∧fr7.at 12= .int .i64 0) (Ze5 p0 p1 p2 p3 x5) ?_ ?_
 ·clear hL hS;rintro v14 s hL ⟨fr7,h6,rfl,hS,e8,e9,e10,e11,e12,e13,e15,e16⟩;dsimp only [Ze5] at hL;refine WC.ZaT (r:=r) (fun(v26:Int) (s:Fs)=>∃ (KE:Fr) (h17:H),s= ⟨KE,[],h17,none⟩∧Sp wm T h [bx wm b1 [.int .u8 p0.ZW,.int .u8 p0.at_,.int .u8 p0.name,.int .u8 p0.Zv],bx wm b3 [.int .i64 0,.int .i64 0,.int .i64 0,.int .i64 0]] h17∧KE.at 1= .int .i64 p1∧KE.at 2= .int .i64 p2∧KE.at 3= .int .i64 p3∧KE.at 4= .pointer (some ⟨b1,0,none⟩)∧KE.at 8= .pointer (some ⟨b3,0,none⟩)∧KE.at 10= .int .i64 x5∧KE.at 11= .int .i64 v14∧KE.at 12= .int .i64 v26) (Ze4 p0 p1 p2 p3 x5 v14) ?_ ?_
  ·clear hL hS;rintro v26 s hL ⟨KE,h17,rfl,hS,e19,e20,e21,e22,e23,e24,e25,e27⟩;dsimp only [Ze4] at hL;refine r4 ?_;refine r1 ?_;obtain⟨x28,hx28,hL⟩:=bind_some hL;refine WO.w gN rfl (Yc (Zt fh rfl) (Jf rfl) (Uy hx28)) ?_;refine r8 ?_;refine r1 ?_;refine cn hL ?_ ?_
   ·intro hc hL;refine r3 ?_;refine WO.w gN rfl (Xt Zjg (Zh lk (Zh lk ZA)) rfl (cs':= [.int .i64 1,.int .i64 x5,.int .i64 0,.int .i64 0]) rfl) ?_;refine r3 ?_;rintro h29 hS;refine r6 ?_;have hr:=Option.some.inj hL;subst hr;exact ZT.gen (vs:= [.agg [.int .i64 1,.int .i64 x5,.int .i64 0,.int .i64 0].toArray,.bool (decide (p2 < 12))]) rfl (ZO (ZM rfl (ZN rfl e23)) (Z7 ZhU Zc0 (hS.Qo k0) (j:=0) rfl rfl (ws:= [.int .i64 1,.int .i64 x5,.int .i64 0,.int .i64 0]) rfl) (ZE lk Zm)) rfl ⟨_,⟨rfl,rfl⟩,hT ▸ hS.only .n⟩
   ·intro hc hL;refine WC.ZaT (r:=r) (fun(v41:Bool) (s:Fs)=>∃ (Zf7:Fr) (h30:H),s= ⟨Zf7,[],h30,none⟩∧Sp wm T h [bx wm b1 [.int .u8 p0.ZW,.int .u8 p0.at_,.int .u8 p0.name,.int .u8 p0.Zv],bx wm b3 [.int .i64 0,.int .i64 0,.int .i64 0,.int .i64 0]] h30∧Zf7.at 1= .int .i64 p1∧Zf7.at 2= .int .i64 p2∧Zf7.at 3= .int .i64 p3∧Zf7.at 4= .pointer (some ⟨b1,0,none⟩)∧Zf7.at 8= .pointer (some ⟨b3,0,none⟩)∧Zf7.at 10= .int .i64 x5∧Zf7.at 11= .int .i64 v14∧Zf7.at 12= .int .i64 v26∧Zf7.at 40= .int .u8 x28∧Zf7.at 47= .bool v41) (Ze3 p0 p1 p2 p3 x5 v14 v26 x28) ?_ ?_
    ·clear hL hS;rintro v41 s hL ⟨Zf7,h30,rfl,hS,e32,e33,e34,e35,e36,e37,e38,e39,e40,e42⟩;dsimp only [Ze3] at hL;refine cn hL ?_ ?_
     ·intro hc hL;refine r4 ?_;refine r1 ?_;refine WO.w gN rfl (Xt Zjg (Zh lk (Zh lk (Zh lk (Zh lk ZA)))) rfl (cs':= [.int .i64 2,.int .i64 x5,.int .i64 v14,.int .i64 v26]) rfl) ?_;refine r6 ?_;refine r1 ?_;rintro h43 hS;refine r6 ?_;have hr:=Option.some.inj hL;subst hr;exact ZT.gen (vs:= [.agg [.int .i64 2,.int .i64 x5,.int .i64 v14,.int .i64 v26].toArray,.bool ((decide (p2 > 0)) && (decide (p1 > 1)))]) rfl (ZO (ZM rfl (ZN rfl (Zf rfl e36))) (Z7 ZhU Zc0 (hS.Qo k0) (j:=0) rfl rfl (ws:= [.int .i64 2,.int .i64 x5,.int .i64 v14,.int .i64 v26]) rfl) (ZE lk Zm)) rfl ⟨_,⟨rfl,rfl⟩,hT ▸ hS.only .n⟩
     ·intro hc hL;refine r6 ?_;refine cn hL ?_ ?_
      ·intro hc hL;refine r4 ?_;refine WO.w gN rfl (Xt Zjg (Zh lk (Zh lk (Zh lk ZA))) rfl (cs':= [.int .i64 3,.int .i64 x5,.int .i64 v14,.int .i64 0]) rfl) ?_;refine r3 ?_;rintro h44 hS;refine r6 ?_;have hr:=Option.some.inj hL;subst hr;exact ZT.gen (vs:= [.agg [.int .i64 3,.int .i64 x5,.int .i64 v14,.int .i64 0].toArray,.bool (decide (p2 > 0))]) rfl (ZO (ZM rfl e36) (Z7 ZhU Zc0 (hS.Qo k0) (j:=0) rfl rfl (ws:= [.int .i64 3,.int .i64 x5,.int .i64 v14,.int .i64 0]) rfl) (ZE lk Zm)) rfl ⟨_,⟨rfl,rfl⟩,hT ▸ hS.only .n⟩
      ·intro hc hL;refine r6 ?_;refine cn hL ?_ ?_
       ·intro hc hL;refine r4 ?_;refine r1 ?_;refine WO.w gN rfl (Xt Zjg (Zh lk (Zh lk (Zh lk (Zh lk ZA)))) rfl (cs':= [.int .i64 4,.int .i64 x5,.int .i64 v14,.int .i64 v26]) rfl) ?_;refine r6 ?_;refine r1 ?_;rintro h45 hS;refine r6 ?_;have hr:=Option.some.inj hL;subst hr;exact ZT.gen (vs:= [.agg [.int .i64 4,.int .i64 x5,.int .i64 v14,.int .i64 v26].toArray,.bool ((decide (p2 > 0)) && (decide (p1 > 1)))]) rfl (ZO (ZM rfl (Ye rfl (ZN rfl (Zf rfl e36)))) (Z7 ZhU Zc0 (hS.Qo k0) (j:=0) rfl rfl (ws:= [.int .i64 4,.int .i64 x5,.int .i64 v14,.int .i64 v26]) rfl) (ZE lk Zm)) rfl ⟨_,⟨rfl,rfl⟩,hT ▸ hS.only .n⟩
       ·intro hc hL;refine r8 ?_;refine r2 ?_;refine cn hL ?_ ?_
        ·intro hc hL;refine r2 ?_;refine WO.w gN rfl (Xt Zjg ZA rfl (cs':= [.int .i64 0,.int .i64 0,.int .i64 0,.int .i64 0]) rfl) ?_;refine r1 ?_;rintro h46 hS;refine r4 ?_;refine r1 ?_;have hr:=Option.some.inj hL;subst hr;exact ZT.gen (vs:= [.agg [.int .i64 0,.int .i64 0,.int .i64 0,.int .i64 0].toArray,.bool false]) rfl (ZO (ZM rfl e36) (Z7 ZhU Zc0 (hS.Qo k0) (j:=0) rfl rfl (ws:= [.int .i64 0,.int .i64 0,.int .i64 0,.int .i64 0]) rfl) (ZE lk Zm)) rfl ⟨_,⟨rfl,rfl⟩,hT ▸ hS.only .n⟩
        ·intro hc hL;refine r6 ?_;refine WO.w gN rfl (Zds Zpz ZmQ lk) ?_;refine r1 ?_;obtain⟨x47,Zym,hL⟩:=bind_some hL;refine WO.w gN rfl (Yc (Zt (Zf rfl fh) rfl) (Zt fh rfl) (Uy Zym)) ?_;refine WO.w gN rfl (Xt Zjg (Zh lk (Zh lk ZA)) rfl (cs':= [.int .i64 5,.int .i64 x47,.int .i64 0,.int .i64 0]) rfl) ?_;refine r1 ?_;rintro h48 hS;refine r4 ?_;have hr:=Option.some.inj hL;subst hr;exact ZT.gen (vs:= [.agg [.int .i64 5,.int .i64 x47,.int .i64 0,.int .i64 0].toArray,.bool true]) rfl (ZO (ZM rfl (Ye rfl (Zf rfl e36))) (Z7 ZhU Zc0 (hS.Qo k0) (j:=0) rfl rfl (ws:= [.int .i64 5,.int .i64 x47,.int .i64 0,.int .i64 0]) rfl) (ZE lk Zm)) rfl ⟨_,⟨rfl,rfl⟩,hT ▸ hS.only .n⟩
    ·skip;refine r6 ?_;refine cn hL ?_ ?_
     ·intro hc hL;refine r1 ?_;exact YS.Yw _ hL ⟨_,_,rfl,hS.only (.c k0 (.c k0 .n)),Y3⟩
     ·intro hc hL;refine r4 ?_;exact YS.Yw _ hL ⟨_,_,rfl,hS.only (.c k0 (.c k0 .n)),Y3⟩
  ·skip;refine r6 ?_;refine cn hL ?_ ?_
   ·intro hc hL;refine r4 ?_;refine r1 ?_;refine WO.w gN rfl (Zds Zpz ZmQ lk) ?_;refine r2 ?_;obtain⟨x49,ZpX,hL⟩:=bind_some hL;refine WO.w gN rfl (Yc (Zt (ZN rfl fh) rfl) (Zt fh rfl) (Uy ZpX)) ?_;refine r2 ?_;obtain⟨x50,ZFa,hL⟩:=bind_some hL;refine WO.w gN rfl (Yc (Zt (Zf rfl fh) rfl) (Zt fh rfl) (Uy ZFa)) ?_;refine r2 ?_;exact YS.Yw _ hL ⟨_,_,rfl,hS.only (.c k0 (.c k0 .n)),Y3⟩
   ·intro hc hL;refine r1 ?_;exact YS.Yw _ hL ⟨_,_,rfl,hS.only (.c k0 (.c k0 .n)),Y3⟩
 ·skip;refine r6 ?_;refine cn hL ?_ ?_
  ·intro hc hL;refine r3 ?_;refine WO.w gN rfl (Zds Zpz ZmQ lk) ?_;refine r1 ?_;obtain⟨x51,ZE9,hL⟩:=bind_some hL;refine WO.w gN rfl (Yc (Zt (Zf rfl fh) rfl) (Zt fh rfl) (Uy ZE9)) ?_;refine r2 ?_;exact YS.Yw _ hL ⟨_,_,rfl,hS.only (.c k1 (.c k0 .n)),Y3⟩
  ·intro hc hL;refine r1 ?_;exact YS.Yw _ hL ⟨_,_,rfl,hS.only (.c k1 (.c k0 .n)),Y3⟩
theorem Zzw {wm:Nat} {h:H} {p0:Zn} {p1:Int} {r:Bool} (ZB:wm <=h.size) (hL:Zqj p0 p1=some r):
 WR XX 55 #[.agg [.int .i64 p0.ZW,.int .i64 p0.at_,.int .i64 p0.name,.int .i64 p0.Zv].toArray,.int .i64 p1] wm h (CP (fun(v:Value) (Gb:List (Ast wm))=>v= .bool r∧Gb= []) [] h):=by
 refine WF.begin (args:= [_,_]) (fn:=Try.f55) (by kernel_rfl) (by exact rfl) Try.ntmps55 (by simp) ?_;simp only [ZC,ZJ,Nat.reduceAdd];obtain⟨T,hT,hS⟩:∃ T,T=Xw (wm:=wm) []∧Sp wm T h [] h:= ⟨_,rfl,Sp.start ZB ZP.nil⟩
 unfold Zqj at hL;refine WC.seq ?_;refine WC.region ?_;refine WO.hn gN rfl (Zou hS (Zt (Zf rfl fh) rfl) (vs:= [.int .i64 p0.ZW,.int .i64 p0.at_,.int .i64 p0.name,.int .i64 p0.Zv]) rfl) ?_;rintro _ h2 ⟨b1,eb1,rfl,hS⟩;refine WO.hn gN rfl (Zou hS (Zt (Zf rfl fh) rfl) (vs:= [.int .i64 p1]) rfl) ?_;rintro _ h4 ⟨b3,eb3,rfl,hS⟩;refine WO.w gN rfl (Z6 (Jf rfl)) ?_;refine WO.nil ?_;refine Qp.Yw ?_;refine WC.seq ?_;refine WC.region ?_;refine WO.w gN rfl (Zdr (Zc (Zt (Zf rfl fh) rfl) Zl)) ?_;refine WO.w gN rfl (Z6 (Zt fh rfl)) ?_;refine WO.nil ?_;refine Qp.Yw ?_;refine WC.seq ?_;refine WC.seq ?_;refine WC.region ?_;refine WO.w gN rfl (Xl Zj3 (Zt (Ye rfl fh) rfl)) ?_;refine WO.w gN rfl (ZU ZtQ (Zt fh rfl) (hS.Qo k1) (j:=0) rfl (v:= .int .i64 p0.ZW) rfl) ?_;refine WO.nil ?_;refine Qp.Yw ?_;refine WC.block ?_;refine WC.seq ?_;refine WC.region ?_;refine WO.w gN rfl (Yc (Zt fh rfl) (Jf rfl) JB) ?_;refine WO.w gN rfl (Z6 (Zt fh rfl)) ?_;refine WO.nil ?_;refine Qp.Yw ?_;refine WC.Zmj (Zt fh rfl) (fun hc=>?_) (fun hc=>?_)
 ·replace hL:=Wq hc hL;refine WC.seq ?_;refine WC.region ?_;refine WO.w gN rfl (Yv (Zt (Ye rfl fh) rfl)) ?_;refine WO.w gN rfl (Xl Zbe (Zt (ZM rfl (Zf rfl fh)) rfl)) ?_;refine WO.w gN rfl (ZU Xj (Zt fh rfl) (hS.Qo k1) (j:=1) rfl (v:= .int .i64 p0.at_) rfl) ?_;refine WO.inl gN rfl (Xd.clo (first:= []) (cap:= [.pointer (some ⟨b3,0,none⟩)]) (Zt (ZN rfl fh) rfl) ZoN (Zc (Zt fh rfl) Zl) rfl) (WF.begin (args:= [_,_]) (fn:=Try.f92) (by kernel_rfl) (by exact rfl) Try.ntmps92 (by simp) ?_);simp only [ZC,ZJ,Nat.reduceAdd];refine WC.seq ?_;refine WC.region ?_;refine WO.w gN rfl (Z6 (Jf rfl)) ?_;refine WO.nil ?_;refine Qp.Yw ?_;refine WC.seq ?_;refine WC.region ?_;refine WO.w gN rfl (Yv (Zt (ZN rfl fh) rfl)) ?_;refine WO.w gN rfl (Yc (Zt fh rfl) (Jf rfl) UR) ?_;refine WO.w gN rfl (Yv (Zt fh rfl)) ?_;refine WO.gv (Zi.yes rfl rfl rfl fh) rfl (fun hg=>(Yv (Zt (Ye rfl (Zf rfl fh)) rfl))) ?_;refine WO.gv (Zi.yes rfl rfl rfl (Zf rfl fh)) rfl (fun hg=>(ZU Xj (Zt (Ye rfl (Zf rfl fh)) rfl) (hS.Qo k0) (j:=0) rfl (v:= .int .i64 p1) rfl)) ?_;refine WO.gv (Zi.yes rfl rfl rfl (ZN rfl fh)) rfl (fun hg=>(Yc (XJ (Zf rfl fh) rfl hg) (XJ fh rfl hg) Zcd)) ?_;refine WO.w gN rfl (Qz (Zt (ZN rfl (Zf rfl fh)) rfl) (Zb1 fh) (Jf rfl)) ?_;refine WO.w gN rfl (Z6 (Zt fh rfl)) ?_;refine WO.nil ?_;refine Qp.Yw ?_;refine WC.ret ?_;refine ZT.Je rfl (ZE (Zt fh rfl) Zm) ?_;refine WO.w gN rfl (Yv (Zt fh rfl)) ?_;refine WO.gv (Zi.yes rfl rfl rfl fh) rfl (fun hg=>(Xl Zct (Zt (ZM rfl (Ye rfl (Zf rfl fh))) rfl))) ?_;refine WO.gv (Zi.yes rfl rfl rfl (Zf rfl fh)) rfl (fun hg=>(ZU Xj (XJ fh rfl hg) (hS.Qo k1) (j:=2) rfl (v:= .int .i64 p0.name) rfl)) ?_;refine WO.gv (Zi.yes rfl rfl rfl (ZN rfl fh)) rfl (fun hg=>(Yc (XJ fh rfl hg) (Jf rfl) JB)) ?_;refine WO.w gN rfl (Qz (Zt (ZN rfl (Zf rfl fh)) rfl) (Zb1 fh) (Jf rfl)) ?_;refine WO.w gN rfl (Yv (Zt fh rfl)) ?_;refine WO.gv (Zi.yes rfl rfl rfl fh) rfl (fun hg=>(Xl Zbd (Zt (ZM rfl (ZM rfl (ZN rfl fh))) rfl))) ?_;refine WO.gv (Zi.yes rfl rfl rfl (Zf rfl fh)) rfl (fun hg=>(ZU Xj (XJ fh rfl hg) (hS.Qo k1) (j:=3) rfl (v:= .int .i64 p0.Zv) rfl)) ?_;refine WO.gv (Zi.yes rfl rfl rfl (ZN rfl fh)) rfl (fun hg=>(Yc (XJ fh rfl hg) (Jf rfl) JB)) ?_;refine WO.w gN rfl (Qz (Zt (ZN rfl (Zf rfl fh)) rfl) (Zb1 fh) (Jf rfl)) ?_;refine WO.w gN rfl (Z6 (Zt fh rfl)) ?_;refine WO.nil ?_;refine Qp.Yw ?_;refine WC.ret ?_;refine UX.ret ?_;refine Qp.ret ?_;have hr:=Option.some.inj hL;subst hr;exact ZT.Je rfl (ZE (Zt fh rfl) Zm) ⟨_,⟨rfl,rfl⟩,hT ▸ hS.only .n⟩
 ·replace hL:=Ws hc hL;refine WC.ZaT (r:=r) (fun(v10:Bool) (s:Fs)=>∃ (fr6:Fr) (h5:H),s= ⟨fr6,[],h5,none⟩∧Sp wm T h [bx wm b1 [.int .i64 p0.ZW,.int .i64 p0.at_,.int .i64 p0.name,.int .i64 p0.Zv],bx wm b3 [.int .i64 p1]] h5∧fr6.at 2= .pointer (some ⟨b1,0,none⟩)∧fr6.at 5= .func (.func 92) #[] [.pointer (some ⟨b3,0,none⟩)].toArray∧fr6.at 8= .int .i64 p0.ZW∧fr6.at 25= .bool v10) (Zhs p0 p1) ?_ ?_
  ·clear hL hS;rintro v10 s hL ⟨fr6,h5,rfl,hS,e7,e8,e9,e11⟩;dsimp only [Zhs] at hL;refine WC.Zmj (Zt e11 rfl) (fun hc=>?_) (fun hc=>?_)
   ·replace hL:=Wq hc hL;refine WC.seq ?_;refine WC.region ?_;refine WO.w gN rfl (Yv (Zt e8 rfl)) ?_;refine WO.w gN rfl (Xl Zbe (Zt (Zf rfl e7) rfl)) ?_;refine WO.w gN rfl (ZU Xj (Zt fh rfl) (hS.Qo k0) (j:=1) rfl (v:= .int .i64 p0.at_) rfl) ?_;refine WO.inl gN rfl (Xd.clo (first:= []) (cap:= [.pointer (some ⟨b3,0,none⟩)]) (Zt (ZN rfl fh) rfl) ZoN (Zc (Zt fh rfl) Zl) rfl) (WF.begin (args:= [_,_]) (fn:=Try.f92) (by kernel_rfl) (by exact rfl) Try.ntmps92 (by simp) ?_);simp only [ZC,ZJ,Nat.reduceAdd];refine WC.seq ?_;refine WC.region ?_;refine WO.w gN rfl (Z6 (Jf rfl)) ?_;refine WO.nil ?_;refine Qp.Yw ?_;refine WC.seq ?_;refine WC.region ?_;refine WO.w gN rfl (Yv (Zt (ZN rfl fh) rfl)) ?_;refine WO.w gN rfl (Yc (Zt fh rfl) (Jf rfl) UR) ?_;refine WO.w gN rfl (Yv (Zt fh rfl)) ?_;refine WO.gv (Zi.yes rfl rfl rfl fh) rfl (fun hg=>(Yv (Zt (Ye rfl (Zf rfl fh)) rfl))) ?_;refine WO.gv (Zi.yes rfl rfl rfl (Zf rfl fh)) rfl (fun hg=>(ZU Xj (Zt (Ye rfl (Zf rfl fh)) rfl) (hS.Qo k1) (j:=0) rfl (v:= .int .i64 p1) rfl)) ?_;refine WO.gv (Zi.yes rfl rfl rfl (ZN rfl fh)) rfl (fun hg=>(Yc (XJ (Zf rfl fh) rfl hg) (XJ fh rfl hg) Zcd)) ?_;refine WO.w gN rfl (Qz (Zt (ZN rfl (Zf rfl fh)) rfl) (Zb1 fh) (Jf rfl)) ?_;refine WO.w gN rfl (Z6 (Zt fh rfl)) ?_;refine WO.nil ?_;refine Qp.Yw ?_;refine WC.ret ?_;refine ZT.Je rfl (ZE (Zt fh rfl) Zm) ?_;refine WO.w gN rfl (Yv (Zt fh rfl)) ?_;refine WO.gv (Zi.yes rfl rfl rfl fh) rfl (fun hg=>(Yv (Zt (Ye rfl (Zf rfl e8)) rfl))) ?_;refine WO.gv (Zi.yes rfl rfl rfl (Zf rfl fh)) rfl (fun hg=>(Xl Zbd (Zt (Ye rfl (ZN rfl e7)) rfl))) ?_;refine WO.gv (Zi.yes rfl rfl rfl (ZN rfl fh)) rfl (fun hg=>(ZU Xj (XJ fh rfl hg) (hS.Qo k0) (j:=3) rfl (v:= .int .i64 p0.Zv) rfl)) ?_;refine WO.ZjW (Zi.yes rfl rfl rfl (ZN rfl (Zf rfl fh))) (fun ZjT=>?_) (fun ZjT=>?_)
    ·replace hL:=Wq ZjT hL;refine WO.inl (Zi.on (Zi.yes rfl rfl rfl (ZN rfl (Zf rfl fh))) ZjT) rfl (Xd.clo (first:= []) (cap:= [.pointer (some ⟨b3,0,none⟩)]) (XJ (ZN rfl fh) rfl ZjT) ZoN (Zc (XJ fh rfl ZjT) Zl) rfl) (WF.begin (args:= [_,_]) (fn:=Try.f92) (by kernel_rfl) (by exact rfl) Try.ntmps92 (by simp) ?_);simp only [ZC,ZJ,Nat.reduceAdd];refine WC.seq ?_;refine WC.region ?_;refine WO.w gN rfl (Z6 (Jf rfl)) ?_;refine WO.nil ?_;refine Qp.Yw ?_;refine WC.seq ?_;refine WC.region ?_;refine WO.w gN rfl (Yv (Zt (ZN rfl fh) rfl)) ?_;refine WO.w gN rfl (Yc (Zt fh rfl) (Jf rfl) UR) ?_;refine WO.w gN rfl (Yv (Zt fh rfl)) ?_;refine WO.gv (Zi.yes rfl rfl rfl fh) rfl (fun hg=>(Yv (Zt (Ye rfl (Zf rfl fh)) rfl))) ?_;refine WO.gv (Zi.yes rfl rfl rfl (Zf rfl fh)) rfl (fun hg=>(ZU Xj (Zt (Ye rfl (Zf rfl fh)) rfl) (hS.Qo k1) (j:=0) rfl (v:= .int .i64 p1) rfl)) ?_;refine WO.gv (Zi.yes rfl rfl rfl (ZN rfl fh)) rfl (fun hg=>(Yc (XJ (Zf rfl fh) rfl hg) (XJ fh rfl hg) Zcd)) ?_;refine WO.w gN rfl (Qz (Zt (ZN rfl (Zf rfl fh)) rfl) (Zb1 fh) (Jf rfl)) ?_;refine WO.w gN rfl (Z6 (Zt fh rfl)) ?_;refine WO.nil ?_;refine Qp.Yw ?_;refine WC.ret ?_;refine ZT.Je rfl (ZE (Zt fh rfl) Zm) ?_;refine WO.w gN rfl (ZkK (Zt (Ye rfl fh) rfl) ZjT (Zt fh rfl)) ?_;refine WO.w gN rfl (Yv (Zt fh rfl)) ?_;refine WO.gv (Zi.yes rfl rfl rfl fh) rfl (fun hg=>(Xl Zbe (Zt (ZM rfl (ZN rfl (Zf rfl e7))) rfl))) ?_;refine WO.gv (Zi.yes rfl rfl rfl (Zf rfl fh)) rfl (fun hg=>(ZU Xj (XJ fh rfl hg) (hS.Qo k0) (j:=1) rfl (v:= .int .i64 p0.at_) rfl)) ?_;refine WO.gv (Zi.yes rfl rfl rfl (ZN rfl fh)) rfl (fun hg=>(Xl Zbd (Zt (ZM rfl (Ye rfl (Zf rfl e7))) rfl))) ?_;refine WO.gv (Zi.yes rfl rfl rfl (ZN rfl (Zf rfl fh))) rfl (fun hg=>(ZU Xj (XJ fh rfl hg) (hS.Qo k0) (j:=3) rfl (v:= .int .i64 p0.Zv) rfl)) ?_;refine WO.gv (Zi.yes rfl rfl rfl (Ye rfl fh)) rfl (fun hg=>(Yc (XJ (ZN rfl fh) rfl hg) (XJ fh rfl hg) ZhW)) ?_;refine WO.w gN rfl (Qz (Zt (Ye rfl (Zf rfl fh)) rfl) (Zb1 fh) (Jf rfl)) ?_;refine WO.w gN rfl (Yv (Zt fh rfl)) ?_;refine WO.gv (Zi.yes rfl rfl rfl fh) rfl (fun hg=>(Xl Zct (Zt (ZM rfl (ZM rfl (ZN rfl e7))) rfl))) ?_;refine WO.gv (Zi.yes rfl rfl rfl (Zf rfl fh)) rfl (fun hg=>(ZU Xj (XJ fh rfl hg) (hS.Qo k0) (j:=2) rfl (v:= .int .i64 p0.name) rfl)) ?_;refine WO.gv (Zi.yes rfl rfl rfl (ZN rfl fh)) rfl (fun hg=>(Yc (XJ fh rfl hg) (Jf rfl) UR)) ?_;refine WO.w gN rfl (Qz (Zt (ZN rfl (Zf rfl fh)) rfl) (Zb1 fh) (Jf rfl)) ?_;refine WO.w gN rfl (Z6 (Zt fh rfl)) ?_;refine WO.nil ?_;refine Qp.Yw ?_;refine WC.ret ?_;refine UX.ret ?_;refine Qp.ret ?_;have hr:=Option.some.inj hL;subst hr;exact ZT.Je rfl (ZE (Zt fh rfl) Zm) ⟨_,⟨rfl,rfl⟩,hT ▸ hS.only .n⟩
    ·replace hL:=Ws ZjT hL;refine WO.Zlt (Zi.yes rfl rfl rfl (ZN rfl (Zf rfl fh))) ZjT rfl ?_;refine WO.w gN rfl (ZkL (Zt (Ye rfl fh) rfl) ZjT (Jf rfl)) ?_;refine WO.w gN rfl (Yv (Zt fh rfl)) ?_;refine WO.gv (Zi.yes rfl rfl rfl fh) rfl (fun hg=>(Xl Zbe (Zt (ZM rfl (ZN rfl (Zf rfl e7))) rfl))) ?_;refine WO.gv (Zi.yes rfl rfl rfl (Zf rfl fh)) rfl (fun hg=>(ZU Xj (XJ fh rfl hg) (hS.Qo k0) (j:=1) rfl (v:= .int .i64 p0.at_) rfl)) ?_;refine WO.gv (Zi.yes rfl rfl rfl (ZN rfl fh)) rfl (fun hg=>(Xl Zbd (Zt (ZM rfl (Ye rfl (Zf rfl e7))) rfl))) ?_;refine WO.gv (Zi.yes rfl rfl rfl (ZN rfl (Zf rfl fh))) rfl (fun hg=>(ZU Xj (XJ fh rfl hg) (hS.Qo k0) (j:=3) rfl (v:= .int .i64 p0.Zv) rfl)) ?_;refine WO.gv (Zi.yes rfl rfl rfl (Ye rfl fh)) rfl (fun hg=>(Yc (XJ (ZN rfl fh) rfl hg) (XJ fh rfl hg) ZhW)) ?_;refine WO.w gN rfl (Qz (Zt (Ye rfl (Zf rfl fh)) rfl) (Zb1 fh) (Jf rfl)) ?_;refine WO.w gN rfl (Yv (Zt fh rfl)) ?_;refine WO.gv (Zi.yes rfl rfl rfl fh) rfl (fun hg=>(Xl Zct (Zt (ZM rfl (ZM rfl (ZN rfl e7))) rfl))) ?_;refine WO.gv (Zi.yes rfl rfl rfl (Zf rfl fh)) rfl (fun hg=>(ZU Xj (XJ fh rfl hg) (hS.Qo k0) (j:=2) rfl (v:= .int .i64 p0.name) rfl)) ?_;refine WO.gv (Zi.yes rfl rfl rfl (ZN rfl fh)) rfl (fun hg=>(Yc (XJ fh rfl hg) (Jf rfl) UR)) ?_;refine WO.w gN rfl (Qz (Zt (ZN rfl (Zf rfl fh)) rfl) (Zb1 fh) (Jf rfl)) ?_;refine WO.w gN rfl (Z6 (Zt fh rfl)) ?_;refine WO.nil ?_;refine Qp.Yw ?_;refine WC.ret ?_;refine UX.ret ?_;refine Qp.ret ?_;have hr:=Option.some.inj hL;subst hr;exact ZT.Je rfl (ZE (Zt fh rfl) Zm) ⟨_,⟨rfl,rfl⟩,hT ▸ hS.only .n⟩
   ·replace hL:=Ws hc hL;refine WC.seq ?_;refine WC.region ?_;refine WO.w gN rfl (Yc (Zt e9 rfl) (Jf rfl) JB) ?_;refine WO.w gN rfl (Z6 (Zt fh rfl)) ?_;refine WO.nil ?_;refine Qp.Yw ?_;refine WC.Zmj (Zt fh rfl) (fun hc=>?_) (fun hc=>?_)
    ·replace hL:=Wq hc hL;refine WC.seq ?_;refine WC.region ?_;refine WO.w gN rfl (Yv (Zt (ZN rfl e8) rfl)) ?_;refine WO.w gN rfl (Xl Zbe (Zt (ZN rfl (Zf rfl e7)) rfl)) ?_;refine WO.w gN rfl (ZU Xj (Zt fh rfl) (hS.Qo k0) (j:=1) rfl (v:= .int .i64 p0.at_) rfl) ?_;refine WO.inl gN rfl (Xd.clo (first:= []) (cap:= [.pointer (some ⟨b3,0,none⟩)]) (Zt (ZN rfl fh) rfl) ZoN (Zc (Zt fh rfl) Zl) rfl) (WF.begin (args:= [_,_]) (fn:=Try.f92) (by kernel_rfl) (by exact rfl) Try.ntmps92 (by simp) ?_);simp only [ZC,ZJ,Nat.reduceAdd];refine WC.seq ?_;refine WC.region ?_;refine WO.w gN rfl (Z6 (Jf rfl)) ?_;refine WO.nil ?_;refine Qp.Yw ?_;refine WC.seq ?_;refine WC.region ?_;refine WO.w gN rfl (Yv (Zt (ZN rfl fh) rfl)) ?_;refine WO.w gN rfl (Yc (Zt fh rfl) (Jf rfl) UR) ?_;refine WO.w gN rfl (Yv (Zt fh rfl)) ?_;refine WO.gv (Zi.yes rfl rfl rfl fh) rfl (fun hg=>(Yv (Zt (Ye rfl (Zf rfl fh)) rfl))) ?_;refine WO.gv (Zi.yes rfl rfl rfl (Zf rfl fh)) rfl (fun hg=>(ZU Xj (Zt (Ye rfl (Zf rfl fh)) rfl) (hS.Qo k1) (j:=0) rfl (v:= .int .i64 p1) rfl)) ?_;refine WO.gv (Zi.yes rfl rfl rfl (ZN rfl fh)) rfl (fun hg=>(Yc (XJ (Zf rfl fh) rfl hg) (XJ fh rfl hg) Zcd)) ?_;refine WO.w gN rfl (Qz (Zt (ZN rfl (Zf rfl fh)) rfl) (Zb1 fh) (Jf rfl)) ?_;refine WO.w gN rfl (Z6 (Zt fh rfl)) ?_;refine WO.nil ?_;refine Qp.Yw ?_;refine WC.ret ?_;refine ZT.Je rfl (ZE (Zt fh rfl) Zm) ?_;refine WO.w gN rfl (Yv (Zt fh rfl)) ?_;refine WO.gv (Zi.yes rfl rfl rfl fh) rfl (fun hg=>(Xl Zct (Zt (Ye rfl (ZN rfl (Zf rfl e7))) rfl))) ?_;refine WO.gv (Zi.yes rfl rfl rfl (Zf rfl fh)) rfl (fun hg=>(ZU Xj (XJ fh rfl hg) (hS.Qo k0) (j:=2) rfl (v:= .int .i64 p0.name) rfl)) ?_;refine WO.gv (Zi.yes rfl rfl rfl (ZN rfl fh)) rfl (fun hg=>(Yc (XJ fh rfl hg) (Jf rfl) UR)) ?_;refine WO.w gN rfl (Qz (Zt (ZN rfl (Zf rfl fh)) rfl) (Zb1 fh) (Jf rfl)) ?_;refine WO.w gN rfl (Yv (Zt fh rfl)) ?_;refine WO.gv (Zi.yes rfl rfl rfl fh) rfl (fun hg=>(Xl Zbd (Zt (ZM rfl (Ye rfl e7)) rfl))) ?_;refine WO.gv (Zi.yes rfl rfl rfl (Zf rfl fh)) rfl (fun hg=>(ZU Xj (XJ fh rfl hg) (hS.Qo k0) (j:=3) rfl (v:= .int .i64 p0.Zv) rfl)) ?_;refine WO.gv (Zi.yes rfl rfl rfl (ZN rfl fh)) rfl (fun hg=>(Yc (XJ fh rfl hg) (Jf rfl) JB)) ?_;refine WO.w gN rfl (Qz (Zt (ZN rfl (Zf rfl fh)) rfl) (Zb1 fh) (Jf rfl)) ?_;refine WO.w gN rfl (Z6 (Zt fh rfl)) ?_;refine WO.nil ?_;refine Qp.Yw ?_;refine WC.ret ?_;refine UX.ret ?_;refine Qp.ret ?_;have hr:=Option.some.inj hL;subst hr;exact ZT.Je rfl (ZE (Zt fh rfl) Zm) ⟨_,⟨rfl,rfl⟩,hT ▸ hS.only .n⟩
    ·replace hL:=Ws hc hL;refine WC.skip ?_;refine UX.Yw ?_;refine Qp.Yw ?_;refine WC.seq ?_;refine WC.region ?_;refine WO.w gN rfl (Xl Zj3 (Zt (ZN rfl e7) rfl)) ?_;refine WO.w gN rfl (ZU ZtQ (Zt fh rfl) (hS.Qo k0) (j:=0) rfl (v:= .int .i64 p0.ZW) rfl) ?_;refine WO.w gN rfl (Yc (Zt fh rfl) (Jf rfl) JB) ?_;refine WO.w gN rfl (Yv (Zt fh rfl)) ?_;refine WO.gv (Zi.yes rfl rfl rfl fh) rfl (fun hg=>(Xl Zbe (Zt (Ye rfl (ZN rfl e7)) rfl))) ?_;refine WO.gv (Zi.yes rfl rfl rfl (Zf rfl fh)) rfl (fun hg=>(ZU Xj (XJ fh rfl hg) (hS.Qo k0) (j:=1) rfl (v:= .int .i64 p0.at_) rfl)) ?_;refine WO.gv (Zi.yes rfl rfl rfl (ZN rfl fh)) rfl (fun hg=>(Yc (XJ fh rfl hg) (Jf rfl) UR)) ?_;refine WO.w gN rfl (Qz (Zt (ZN rfl (Zf rfl fh)) rfl) (Zb1 fh) (Jf rfl)) ?_;refine WO.w gN rfl (Yv (Zt fh rfl)) ?_;refine WO.gv (Zi.yes rfl rfl rfl fh) rfl (fun hg=>(Xl Zct (Zt (ZM rfl (ZN rfl (Zf rfl e7))) rfl))) ?_;refine WO.gv (Zi.yes rfl rfl rfl (Zf rfl fh)) rfl (fun hg=>(ZU Xj (XJ fh rfl hg) (hS.Qo k0) (j:=2) rfl (v:= .int .i64 p0.name) rfl)) ?_;refine WO.gv (Zi.yes rfl rfl rfl (ZN rfl fh)) rfl (fun hg=>(Yc (XJ fh rfl hg) (Jf rfl) JB)) ?_;refine WO.w gN rfl (Qz (Zt (ZN rfl (Zf rfl fh)) rfl) (Zb1 fh) (Jf rfl)) ?_;refine WO.w gN rfl (Yv (Zt fh rfl)) ?_;refine WO.gv (Zi.yes rfl rfl rfl fh) rfl (fun hg=>(Xl Zbd (Zt (ZM rfl (ZM rfl e7)) rfl))) ?_;refine WO.gv (Zi.yes rfl rfl rfl (Zf rfl fh)) rfl (fun hg=>(ZU Xj (XJ fh rfl hg) (hS.Qo k0) (j:=3) rfl (v:= .int .i64 p0.Zv) rfl)) ?_;refine WO.gv (Zi.yes rfl rfl rfl (ZN rfl fh)) rfl (fun hg=>(Yc (XJ fh rfl hg) (Jf rfl) JB)) ?_;refine WO.w gN rfl (Qz (Zt (ZN rfl (Zf rfl fh)) rfl) (Zb1 fh) (Jf rfl)) ?_;refine WO.w gN rfl (Z6 (Zt fh rfl)) ?_;refine WO.nil ?_;refine Qp.Yw ?_;refine WC.ret ?_;have hr:=Option.some.inj hL;subst hr;exact ZT.Je rfl (ZE (Zt fh rfl) Zm) ⟨_,⟨rfl,rfl⟩,hT ▸ hS.only .n⟩
  ·skip;refine WC.seq ?_;refine WC.region ?_;refine WO.w gN rfl (Yc (Zt (ZN rfl fh) rfl) (Jf rfl) JB) ?_;refine WO.w gN rfl (Z6 (Zt fh rfl)) ?_;refine WO.nil ?_;refine Qp.Yw ?_;refine WC.Zmj (Zt fh rfl) (fun hc=>?_) (fun hc=>?_)
   ·replace hL:=Wq hc hL;refine WC.skip ?_;exact YS.Yw _ hL ⟨_,_,rfl,hS.only (.c k1 (.c k0 .n)),(ZM rfl (ZN rfl fh)),(Ye rfl (ZN rfl fh)),(Ye rfl fh),fh⟩
   ·replace hL:=Ws hc hL;refine WC.region ?_;refine WO.w gN rfl (Yc (Zt (Ye rfl fh) rfl) (Jf rfl) JB) ?_;refine WO.w gN rfl (Z6 (Zt fh rfl)) ?_;refine WO.nil ?_;exact YS.Yw _ hL ⟨_,_,rfl,hS.only (.c k1 (.c k0 .n)),(ZM rfl (Ye rfl fh)),(ZM rfl fh),(Ye rfl (ZN rfl fh)),fh⟩
theorem Zzx {h:H} {p0:Zn} {p1:Int} {r:Bool} (hL:Zqj p0 p1=some r):Pure XX 55 #[.agg [.int .i64 p0.ZW,.int .i64 p0.at_,.int .i64 p0.name,.int .i64 p0.Zv].toArray,.int .i64 p1] h (.bool r):=
 WR.QU rfl (Zzw (Nat.le_refl _) hL)
end Go.Proofs.Ytekpjgmhkkjhgaa
end
end
section
namespace Go.Proofs.Ytekpjgmhkkjhgaa
open Go.Lf
def ZeZ (v29:Int) (Zai:(Int×(List (Ze×Int))×(List (Ze×Int)) ->Option ((List (Ze×Int))×(List (Ze×Int))))):(List (Ze×Int))×(List (Ze×Int)) ->Option ((List (Ze×Int))×(List (Ze×Int))):=fun(v41,v42)=>
 Zai (ZK (v29 + 1),v41,v42)
def Zhr (p0:Store):Int×(List (Ze×Int))×(List (Ze×Int)) ->(Int×(List (Ze×Int))×(List (Ze×Int)) ->Option ((List (Ze×Int))×(List (Ze×Int)))) ->Option ((List (Ze×Int))×(List (Ze×Int))):=fun(v29,v31,v32) Zai=>
 (bif decide (v29 < (p0.notes.length:Int)) then(Yh p0.notes v29).bind fun x43=>(bif(x43.kind==1) then(Zag v32 (Ze.mk x43.via x43.name) 0).bind fun x49=>(ZeZ v29 Zai) (v31,YV (WG v32 (Ze.mk x43.via x43.name) 0) (Ze.mk x43.via x43.name) (ZK (x49 + x43.w))) else(bif(x43.kind==2) then(Zag v32 (Ze.mk x43.Zv x43.name) 0).bind fun x53=>(ZeZ v29 Zai) (v31,YV (WG v32 (Ze.mk x43.Zv x43.name) 0) (Ze.mk x43.Zv x43.name) (ZK (x53 + x43.w))) else(Zag v31 (Ze.mk x43.Zv x43.name) 0).bind fun x57=>(ZeZ v29 Zai) (YV (WG v31 (Ze.mk x43.Zv x43.name) 0) (Ze.mk x43.Zv x43.name) (ZK (x57 + 16)),v32))) else some (v31,v32))
def Ze0 (F:Nat) (p0:Store):(List (Ze×Int))×(List (Ze×Int)) ->Option ((List (Ze×Int))×(List (Ze×Int))):=fun(v20,v21)=>
 loop F (Zhr p0) (0,v20,v21)
def Zkc (F:Nat) (p0:Store) (v80:Int) (Zc8:(Int×(List (Ze×Int))×(List (Ze×Int)) ->Option ((List (Ze×Int))×(List (Ze×Int))))):(List (Ze×Int))×(List (Ze×Int)) ->Option ((List (Ze×Int))×(List (Ze×Int))):=fun(v96,v97)=>
 (bif(!true) then(Ze0 F p0) (v96,v97) else Zc8 (ZK (v80 + 1),v96,v97))
def ZnM (F:Nat) (p0:Store) (v70:Int) (Zda:(Int×(List (Ze×Int))×(List (Ze×Int)) ->Option ((List (Ze×Int))×(List (Ze×Int))))):Int×(List (Ze×Int))×(List (Ze×Int)) ->(Int×(List (Ze×Int))×(List (Ze×Int)) ->Option ((List (Ze×Int))×(List (Ze×Int)))) ->Option ((List (Ze×Int))×(List (Ze×Int))):=fun(v80,v82,v83) Zc8=>
 (bif decide (v80 < p0.names) then(KW p0.cells (Ze.mk v70 v80) (Za.mk 0 false 0 0 0 false)).bind fun x85=>(bif x85.2 then(Zag v82 (Ze.mk v70 x85.1.name) 0).bind fun x99=>(bif decide (x85.1.from_ >=0) then(Zag v83 (Ze.mk x85.1.from_ x85.1.name) 0).bind fun x103=>(Zkc F p0 v80 Zc8) (YV (WG v82 (Ze.mk v70 x85.1.name) 0) (Ze.mk v70 x85.1.name) (ZK (x99 + x85.1.out)),YV (WG v83 (Ze.mk x85.1.from_ x85.1.name) 0) (Ze.mk x85.1.from_ x85.1.name) (ZK (x103 + x85.1.has))) else(Zkc F p0 v80 Zc8) (YV (WG v82 (Ze.mk v70 x85.1.name) 0) (Ze.mk v70 x85.1.name) (ZK (x99 + x85.1.out)),v83)) else Zc8 (ZK (v80 + 1),v82,v83)) else Zda (ZK (v70 + 1),v82,v83))
def ZnN (F:Nat) (p0:Store):Int×(List (Ze×Int))×(List (Ze×Int)) ->(Int×(List (Ze×Int))×(List (Ze×Int)) ->Option ((List (Ze×Int))×(List (Ze×Int)))) ->Option ((List (Ze×Int))×(List (Ze×Int))):=fun(v70,v72,v73) Zda=>
 (bif decide (v70 < p0.machines) then loop F (ZnM F p0 v70 Zda) (0,v72,v73) else(Ze0 F p0) (v72,v73))
def Zqh (F:Nat) (p0:Store):Option ((List (Ze×Int))×(List (Ze×Int))):=
 loop F (ZnN F p0) (0,[],[])
def Zs3 (p0:(List YM)) (p1:Int) (p2:Int):Option (List YM):=
 (slL p0 p1 p2).bind fun z1=>(bif(p1==p2) then some p0 else(slL p0 0 p1).bind fun z4=>(slL p0 p2 (p0.length:Int)).bind fun z13=>(app 16 z4 z13).bind fun z17=>some z17)
def ZeY (p0:(List YM)) (p1:YM):Int ->(Int ->Option Int) ->Option Int:=fun v8 ZgY=>
 (bif decide (v8 < (p0.length:Int)) then(Yh p0 v8).bind fun x11=>(bif KH p1 x11 then some v8 else ZgY (ZK (v8 + 1))) else some (-1))
def ZvQ (F:Nat) (p0:(List YM)) (p1:YM):Option Int:=
 loop F (ZeY p0 p1) 0
end Go.Proofs.Ytekpjgmhkkjhgaa
end
section
set_option maxRecDepth 20000
noncomputable section
namespace Go.Proofs.Ytekpjgmhkkjhgaa
open Go.Yo Go.Lf
theorem Zs4 {F wm:Nat} {h:H} {p0:Store} {ZF:Option Nat} {Zp:Option Addr} {Zo:Nat} {Zz:Option Addr} {Zy Xf UA:Nat} {r:((List (Ze×Int))×(List (Ze×Int)))} (ZB:wm <=h.size) (YR:At h Xf UA [.int .i64 p0.machines,.int .i64 p0.names,.map ZF,.slice Zp p0.notes.length Zo,.slice Zz p0.freed.length Zy]) (YQ:Stb wm h Xf) (ZI:Ui Zg Zk wm h ZF p0.cells) (Yr:Sl Zj wm h Zp Zo p0.notes) (Yu:Sl (ZR .i64) wm h Zz Zy p0.freed) (hL:Zqh F p0=some r):
 WR XX 68 #[.pointer (some ⟨Xf,UA,none⟩)] wm h (CP (fun(v:Value) (Gb:List (Ast wm))=>∃ (ZbB:Nat) (ZwO:Nat),v= .tuple [.map (some ZbB),.map (some ZwO)].toArray∧Gb= [mp wm Zg (Value.int .i64) (some ZbB) r.1,mp wm Zg (Value.int .i64) (some ZwO) r.2]) [] h):=by
 refine WF.Zfo (args:= [_]) (fn:=Try.f68) (by kernel_rfl) (by exact rfl) Try.ntmps68 (by simp) ?_;simp only [ZC,ZJ,Nat.reduceAdd];obtain⟨T,hT,hS⟩:∃ T,T=Xw (wm:=wm) []∧Sp wm T h [] h:= ⟨_,rfl,Sp.start ZB ZP.nil⟩
 unfold Zqh at hL;refine r3 ?_;rintro _ h2 ⟨b1,eb1,rfl,hS⟩;refine r1 ?_;rintro _ h4 ⟨b3,eb3,rfl,hS⟩;refine r4 ?_;refine WO.hn gN rfl (Zrp Zg (Value.int .i64) hS) ?_;rintro _ h5 ⟨b6,eb6,rfl,hS⟩;refine WO.hn gN rfl (Zrp Zg (Value.int .i64) hS) ?_;rintro _ h7 ⟨b8,eb8,rfl,hS⟩;refine r1 ?_;rintro h9 hS;refine r1 ?_;rintro h10 hS;refine r6 ?_;refine WO.inl gN rfl (Xd.fn Zsj (Zc lk Zl)) (WF.begin (args:= [_]) (fn:=Try.f71) (by kernel_rfl) (by exact rfl) Try.ntmps71 (by simp) ?_);simp only [ZC,ZJ,Nat.reduceAdd];refine r3 ?_;rintro _ h12 ⟨b11,ZKv,rfl,hS⟩;refine r4 ?_;refine r1 ?_;refine WO.w gN rfl (Zdr (Zc lk Zl)) ?_;refine r4 ?_;refine ZT.Je rfl (ZE lk Zm) ?_;refine r3 ?_;refine WC.Zm0 (first:= []) (cap:= [.pointer (some ⟨b11,0,none⟩)]) hS lk Znw ?_;intro h13 l14 Zmg ZwA ZoS hS;refine WR.ZpV (r:=r) (fun(p:(List (Ze×Int))×(List (Ze×Int))) (v:Value) (h18:H)=>match p with | (v20,v21)=>v= .tuple [].toArray∧Sp wm T h [bx wm b1 [.map (some b6)],bx wm b3 [.map (some b8)],bx wm b11 [.pointer (some ⟨Xf,UA,none⟩)],mp wm Zg (Value.int .i64) (some b6) v20,mp wm Zg (Value.int .i64) (some b8) v21,ob wm l14 ZwA,ob wm Zmg .deferred] h18) (Ze0 F p0) ?_ (WF.begin (args:= [_,_]) (fn:=Try.f110) (by kernel_rfl) (by exact rfl) Try.ntmps110 (by simp) ?_)
 ·clear hL hS;rintro⟨v20,v21⟩ v h18 hL ⟨rfl,hS⟩;dsimp only [Ze0] at hL;refine RgE.sp ZoS hS k5 ?_;rintro h22 hS;refine r8 ?_;refine WO.w gN rfl (ZU ZmC (Zt fh rfl) (At.fz hS.fz YQ YR) (j:=3) rfl (v:= .slice Zp p0.notes.length Zo) rfl) ?_;refine r4 ?_;refine r1 ?_;refine WC.loop (WL.lift hL (fun(p:Int×(List (Ze×Int))×(List (Ze×Int))) (s:Fs)=>match p with | (v29,v31,v32)=>∃ (ZnD:Fr) (h23:H),s= ⟨ZnD,[⟨.collected Zmg,#[]⟩],h23,none⟩∧Sp wm T h [bx wm b1 [.map (some b6)],bx wm b3 [.map (some b8)],mp wm Zg (Value.int .i64) (some b6) v31,mp wm Zg (Value.int .i64) (some b8) v32,ob wm Zmg .deferred] h23∧ZnD.at 2= .pointer (some ⟨b1,0,none⟩)∧ZnD.at 3= .pointer (some ⟨b3,0,none⟩)∧ZnD.at 43= .slice Zp p0.notes.length Zo∧ZnD.at 44= .int .i64 (p0.notes.length:Int)∧ZnD.at 45= .int .i64 v29) ⟨_,_,rfl,hS.only (.c k0 (.c k0 (.c k1 (.c k1 (.c k1 .n))))),Y3⟩ ?_);clear hL hS;rintro Zai ⟨v29,v31,v32⟩ s ZjQ hL ⟨ZnD,h23,rfl,hS,e25,e26,e27,e28,e30⟩;dsimp only [Zhr] at hL;refine r6 ?_;refine cn hL ?_ ?_
  ·intro hc hL;refine r2 ?_;refine WC.ZaT (r:=r) (fun(p:(List (Ze×Int))×(List (Ze×Int))) (s:Fs)=>match p with | (v41,v42)=>∃ (ZnB:Fr) (h34:H),s= ⟨ZnB,[⟨.collected Zmg,#[]⟩],h34,none⟩∧Sp wm T h [bx wm b1 [.map (some b6)],bx wm b3 [.map (some b8)],mp wm Zg (Value.int .i64) (some b6) v41,mp wm Zg (Value.int .i64) (some b8) v42,ob wm Zmg .deferred] h34∧ZnB.at 2= .pointer (some ⟨b1,0,none⟩)∧ZnB.at 3= .pointer (some ⟨b3,0,none⟩)∧ZnB.at 43= .slice Zp p0.notes.length Zo∧ZnB.at 44= .int .i64 (p0.notes.length:Int)∧ZnB.at 45= .int .i64 v29) (ZeZ v29 Zai) ?_ ?_
   ·clear hL hS;rintro⟨v41,v42⟩ s hL ⟨ZnB,h34,rfl,hS,e36,e37,e38,e39,e40⟩;dsimp only [ZeZ] at hL;refine r4 ?_;exact YC.Yw (ZjQ _ _ hL ⟨_,_,rfl,hS.only (.c k0 (.c k0 (.c k0 (.c k0 (.c k0 .n))))),Y3⟩)
   ·skip;refine r3 ?_;obtain⟨x43,Znf,hL⟩:=bind_some hL;obtain⟨b44,o45,_,Zst,ZsE,Zsz,ZCv⟩:=Sl.at_ Yr Znf;refine WO.w gN rfl (Z5 UD XB lk lk rfl Zst Znf) ?_;refine WO.w gN rfl (Xr Zeh XB (Zt fh rfl) (At.fz hS.fz Zsz ZsE) (j:=0) rfl rfl (ws:= [.int .i64 x43.kind,.int .i64 x43.Zv,.int .i64 x43.name,.int .i64 x43.via,.int .i64 x43.w]) rfl) ?_;refine r1 ?_;rintro _ h47 ⟨b46,ZGu,rfl,hS⟩;refine r1 ?_;rintro h48 hS;refine J8 ?_;refine r3 ?_;refine cn hL ?_ ?_
    ·intro hc hL;refine WC.Yp mixed (by kernel_rfl) ?_;refine r4 ?_;refine r1 ?_;refine WX.w gN rfl (Y0 XK (Zh lk (Zh lk ZA)) rfl (cs':= [.int .i64 x43.via,.int .i64 x43.name]) rfl) ?_ rfl;obtain⟨x49,ZpX,hL⟩:=bind_some hL;refine WX.Zr0 (kv:=Zg) (vv:= (Value.int .i64)) (k:= (Ze.mk x43.via x43.name)) (z:=0) gN rfl YI UE UY (Zt (Ye rfl (Zf rfl fh)) rfl) (Zt fh rfl) (hS.get k4).at_ ZpX 10 (w:= .int .i64 x49) rfl (fun _=>rfl) ?_ rfl;refine r3 ?_;refine WX.Zth (kv:=Zg) (vv:= (Value.int .i64)) (k:= (Ze.mk x43.via x43.name)) (z:=0) gN rfl hS k4 YI UE UY (Zt (ZM rfl (Zf rfl fh)) rfl) (Zt (Ye rfl fh) rfl) ?_ rfl 6 (by kernel_rfl) (by kernel_rfl) (by simp);rintro _ h50 ⟨b51,rfl,hS⟩;refine WX.w gN rfl (Wi lk (v:= .int .i64 (b51:Nat)) rfl) ?_ (by kernel_rfl);refine WX.hu gN (Zll (kv:=Zg) (vv:= (Value.int .i64)) (v:=ZK (x49 + x43.w)) hS k0 (Zt (ZM rfl (ZN rfl (Zf rfl fh))) rfl) (Zt fh rfl) (Zt (ZN rfl fh) rfl)) ?_ rfl (by kernel_rfl) [] (by kernel_rfl) Z8.e;rintro h52 hS;refine r3 ?_;exact YS.Yw _ hL ⟨_,_,rfl,hS.only (.c k2 (.c k2 (.c k2 (.c k0 (.c k1 .n))))),Y3⟩
    ·intro hc hL;refine r6 ?_;refine cn hL ?_ ?_
     ·intro hc hL;refine WC.Yp mixed (by kernel_rfl) ?_;refine r4 ?_;refine r1 ?_;refine WX.w gN rfl (Y0 XK (Zh lk (Zh lk ZA)) rfl (cs':= [.int .i64 x43.Zv,.int .i64 x43.name]) rfl) ?_ rfl;obtain⟨x53,Zyl,hL⟩:=bind_some hL;refine WX.Zr0 (kv:=Zg) (vv:= (Value.int .i64)) (k:= (Ze.mk x43.Zv x43.name)) (z:=0) gN rfl YI UE UY (Zt (Ye rfl (Zf rfl fh)) rfl) (Zt fh rfl) (hS.get k4).at_ Zyl 10 (w:= .int .i64 x53) rfl (fun _=>rfl) ?_ rfl;refine r3 ?_;refine WX.Zth (kv:=Zg) (vv:= (Value.int .i64)) (k:= (Ze.mk x43.Zv x43.name)) (z:=0) gN rfl hS k4 YI UE UY (Zt (ZM rfl (Zf rfl fh)) rfl) (Zt (Ye rfl fh) rfl) ?_ rfl 6 (by kernel_rfl) (by kernel_rfl) (by simp);rintro _ h54 ⟨b55,rfl,hS⟩;refine WX.w gN rfl (Wi lk (v:= .int .i64 (b55:Nat)) rfl) ?_ (by kernel_rfl);refine WX.hu gN (Zll (kv:=Zg) (vv:= (Value.int .i64)) (v:=ZK (x53 + x43.w)) hS k0 (Zt (ZM rfl (ZN rfl (Zf rfl fh))) rfl) (Zt fh rfl) (Zt (ZN rfl fh) rfl)) ?_ rfl (by kernel_rfl) [] (by kernel_rfl) Z8.e;rintro h56 hS;refine r3 ?_;exact YS.Yw _ hL ⟨_,_,rfl,hS.only (.c k2 (.c k2 (.c k2 (.c k0 (.c k1 .n))))),Y3⟩
     ·intro hc hL;refine WC.Yp mixed (by kernel_rfl) ?_;refine r4 ?_;refine r1 ?_;refine WX.w gN rfl (Y0 XK (Zh lk (Zh lk ZA)) rfl (cs':= [.int .i64 x43.Zv,.int .i64 x43.name]) rfl) ?_ rfl;obtain⟨x57,ZE7,hL⟩:=bind_some hL;refine WX.Zr0 (kv:=Zg) (vv:= (Value.int .i64)) (k:= (Ze.mk x43.Zv x43.name)) (z:=0) gN rfl YI UE UY (Zt (Ye rfl (Zf rfl fh)) rfl) (Zt fh rfl) (hS.get k3).at_ ZE7 8 (w:= .int .i64 x57) rfl (fun _=>rfl) ?_ rfl;refine r1 ?_;refine WX.Zth (kv:=Zg) (vv:= (Value.int .i64)) (k:= (Ze.mk x43.Zv x43.name)) (z:=0) gN rfl hS k3 YI UE UY (Zt (Ye rfl (ZN rfl (Zf rfl fh))) rfl) (Zt (ZN rfl fh) rfl) ?_ rfl 6 (by kernel_rfl) (by kernel_rfl) (by simp);rintro _ h58 ⟨b59,rfl,hS⟩;refine WX.w gN rfl (Wi lk (v:= .int .i64 (b59:Nat)) rfl) ?_ (by kernel_rfl);refine WX.hu gN (Zll (kv:=Zg) (vv:= (Value.int .i64)) (v:=ZK (x57 + 16)) hS k0 (Zt (ZM rfl (Zf rfl fh)) rfl) (Zt fh rfl) (Zt (ZN rfl fh) rfl)) ?_ rfl (by kernel_rfl) [] (by kernel_rfl) Z8.e;rintro h60 hS;refine r3 ?_;exact YS.Yw _ hL ⟨_,_,rfl,hS.only (.c k2 (.c k2 (.c k0 (.c k1 (.c k1 .n))))),Y3⟩
  ·intro hc hL;refine r6 ?_;refine WC.Yp mixed (by kernel_rfl) ?_;refine r1 ?_;refine WX.wr (fun x=>x=b3) hS gN rfl (fun _ _ hR=>ZU ZkT (Zt (ZN rfl e26) rfl) (At.eqv (hR b3 rfl) (hS.Qo k1)) (j:=0) rfl (v:= .map (some b8)) rfl) ?_ rfl rfl;rintro h61 e62 hS;refine WX.hu gN (UW hS k0 Zjv lk lk (vs:= [.map (some b6)]) rfl rfl rfl rfl (cs':= [.map (some b6)]) rfl) ?_ rfl rfl [1] (by kernel_rfl) (.c .z (hS.dj (.c k0 (.c k0 .n))) Z8.e);rintro h63 hS;refine WX.hu gN (UW hS k1 Zjv lk lk (vs:= [.map (some b8)]) rfl rfl rfl rfl (cs':= [.map (some b8)]) rfl) ?_ rfl (by kernel_rfl) [] (by kernel_rfl) Z8.e;rintro h64 hS;refine r3 ?_;refine XP.ZzO hS k4 ?_;rintro h65 hS;have hr:=Option.some.inj hL;subst hr;exact XP.gen rfl (ZO (ZN rfl (Zf rfl e25)) (Kn ZkT (hS.Qo k1) (j:=0) rfl (v:= .map (some b6)) rfl) (ZO (ZN rfl (Zf rfl e26)) (Kn ZkT (hS.Qo k0) (j:=0) rfl (v:= .map (some b8)) rfl) Zm)) rfl ⟨_,⟨b6,b8,rfl,rfl⟩,hT ▸ hS.only (.c k2 (.c k2 .n))⟩
 ·skip;simp only [ZC,ZJ,Nat.reduceAdd];refine r6 ?_;refine WC.loop (WL.lift hL (fun(p:Int×(List (Ze×Int))×(List (Ze×Int))) (s:Fs)=>match p with | (v70,v72,v73)=>∃ (ZsS:Fr) (h66:H),s= ⟨ZsS,[],h66,none⟩∧Sp wm T h [bx wm b11 [.pointer (some ⟨Xf,UA,none⟩)],bx wm b1 [.map (some b6)],bx wm b3 [.map (some b8)],mp wm Zg (Value.int .i64) (some b6) v72,mp wm Zg (Value.int .i64) (some b8) v73,ob wm l14 ZwA,ob wm Zmg .deferred] h66∧ZsS.at 0= .func (.yield l14) #[] #[]∧ZsS.at 1= .pointer (some ⟨b11,0,none⟩)∧ZsS.at 3= .int .i64 v70) ⟨_,_,rfl,hS.only (.c k2 (.c k3 (.c k2 (.c k3 (.c k2 (.c k0 (.c k0 .n))))))),Y3⟩ ?_);clear hL hS;rintro Zda ⟨v70,v72,v73⟩ s ZjO hL ⟨ZsS,h66,rfl,hS,e68,e69,e71⟩;dsimp only [ZnN] at hL;refine r6 ?_;refine r1 ?_;refine WO.w gN rfl (ZU Xj (Zt fh rfl) (At.fz hS.fz YQ YR) (j:=0) rfl (v:= .int .i64 p0.machines) rfl) ?_;refine r3 ?_;refine cn hL ?_ ?_
  ·intro hc hL;refine r8 ?_;refine r2 ?_;refine WC.loop (WL.lift hL (fun(p:Int×(List (Ze×Int))×(List (Ze×Int))) (s:Fs)=>match p with | (v80,v82,v83)=>∃ (Zp7:Fr) (h75:H),s= ⟨Zp7,[],h75,none⟩∧Sp wm T h [bx wm b11 [.pointer (some ⟨Xf,UA,none⟩)],bx wm b1 [.map (some b6)],bx wm b3 [.map (some b8)],mp wm Zg (Value.int .i64) (some b6) v82,mp wm Zg (Value.int .i64) (some b8) v83,ob wm l14 ZwA,ob wm Zmg .deferred] h75∧Zp7.at 0= .func (.yield l14) #[] #[]∧Zp7.at 1= .pointer (some ⟨b11,0,none⟩)∧Zp7.at 3= .int .i64 v70∧Zp7.at 4= .int .i64 v80) ⟨_,_,rfl,hS.only (.c k0 (.c k0 (.c k0 (.c k0 (.c k0 (.c k0 (.c k0 .n))))))),Y3⟩ ?_);clear hL hS;rintro Zc8 ⟨v80,v82,v83⟩ s ZoL hL ⟨Zp7,h75,rfl,hS,e77,e78,e79,e81⟩;dsimp only [ZnM] at hL;refine r6 ?_;refine r1 ?_;refine WO.w gN rfl (ZU Xj (Zt fh rfl) (At.fz hS.fz YQ YR) (j:=1) rfl (v:= .int .i64 p0.names) rfl) ?_;refine r3 ?_;refine cn hL ?_ ?_
   ·intro hc hL;refine r8 ?_;refine r1 ?_;refine WO.w gN rfl (ZU ZfX (Zt fh rfl) (At.fz hS.fz YQ YR) (j:=2) rfl (v:= .map ZF) rfl) ?_;refine r2 ?_;refine WO.w gN rfl (Y0 XK (Zh lk (Zh lk ZA)) rfl (cs':= [.int .i64 v70,.int .i64 v80]) rfl) ?_;obtain⟨x85,ZE1,hL⟩:=bind_some hL;refine WO.w gN rfl (KM (kv:=Zg) (vv:=Zk) (k:= (Ze.mk v70 v80)) (z:= (Za.mk 0 false 0 0 0 false)) YI JW Ub (Zt (ZN rfl (Zf rfl fh)) rfl) (Zt fh rfl) (hS.ms ZI).at_ ZE1 (w:= .agg [.int .i64 x85.1.name,.bool x85.1.root,.int .i64 x85.1.from_,.int .i64 x85.1.has,.int .i64 x85.1.out,.bool x85.1.use].toArray) rfl) ?_;refine r4 ?_;rintro _ h87 ⟨b86,ZKb,rfl,hS⟩;refine r1 ?_;rintro h88 hS;refine r8 ?_;refine r2 ?_;refine WO.ZjW (Zi.yes rfl rfl rfl (ZN rfl (Zf rfl fh))) (fun Zf3=>?_) (fun Zf3=>?_)
    ·replace hL:=Wq Zf3 hL;refine WO.ZxO (Zi.on (Zi.yes rfl rfl rfl (ZN rfl (Zf rfl fh))) Zf3) rfl (XJ (ZN rfl fh) rfl Zf3) (Zc (XJ (Zf rfl fh) rfl Zf3) (Zc (XJ fh rfl Zf3) Zl)) hS k6 ZoS rfl rfl ?_;refine r6 ?_;refine r1 ?_;rintro _ h91 ⟨b90,ZKa,rfl,hS⟩;refine r1 ?_;rintro h92 hS;refine r1 ?_;refine AsK.sp ZoS hS k7 ?_;rintro h93 hS;refine WC.jn (r:=r) (fun(p:(List (Ze×Int))×(List (Ze×Int))) (s:Fs)=>match p with | (v96,v97)=>∃ (ZDa:Fr) (h94:H),s= ⟨ZDa,[],h94,none⟩∧Sp wm T h [bx wm b1 [.map (some b6)],bx wm b3 [.map (some b8)],bx wm b11 [.pointer (some ⟨Xf,UA,none⟩)],bx wm b86 [.int .i64 x85.1.name,.bool x85.1.root,.int .i64 x85.1.from_,.int .i64 x85.1.has,.int .i64 x85.1.out,.bool x85.1.use],mp wm Zg (Value.int .i64) (some b6) v96,mp wm Zg (Value.int .i64) (some b8) v97,ob wm l14 (bsy ZwA),ob wm Zmg .deferred] h94) (Zkc F p0 v80 Zc8) ?_ ?_
     ·clear hL hS;rintro⟨v96,v97⟩ s hL ⟨ZDa,h94,rfl,hS⟩;dsimp only [Zkc] at hL;refine BdK.sp ZoS hS k6 ?_;rintro h98 hS;refine WO.w (Zi.on (Zi.yes rfl rfl rfl (Ye rfl fh)) Zf3) rfl (ZkM lk) ?_;refine WO.w gN rfl (ZkK lk Zf3 lk) ?_;refine r2 ?_;refine cn hL ?_ ?_
      ·intro hc hL;refine r8 ?_;refine r1 ?_;exact ZT.gen (vs:= []) rfl Zm rfl ⟨_,hL,⟨rfl,hS.only (.c k1 (.c k1 (.c k1 (.c k2 (.c k2 (.c k0 (.c k1 .n)))))))⟩⟩
      ·intro hc hL;refine r8 ?_;exact YC.Yw (ZoL _ _ hL ⟨_,_,rfl,hS.only (.c k3 (.c k1 (.c k1 (.c k2 (.c k2 (.c k0 (.c k1 .n))))))),Y3⟩)
     ·skip;refine r2 ?_;refine WC.Yp mixed (by kernel_rfl) ?_;refine r4 ?_;refine WX.w gN rfl (Y0 XK (Zh lk (Zh lk ZA)) rfl (cs':= [.int .i64 v70,.int .i64 x85.1.name]) rfl) ?_ rfl;obtain⟨x99,hx99,hL⟩:=bind_some hL;refine WX.Zr0 (kv:=Zg) (vv:= (Value.int .i64)) (k:= (Ze.mk v70 x85.1.name)) (z:=0) gN rfl YI UE UY (Zt (Ye rfl fh) rfl) (Zt fh rfl) (hS.get k6).at_ hx99 9 (w:= .int .i64 x99) rfl (fun _=>rfl) ?_ rfl;refine r3 ?_;refine WX.Zth (kv:=Zg) (vv:= (Value.int .i64)) (k:= (Ze.mk v70 x85.1.name)) (z:=0) gN rfl hS k6 YI UE UY (Zt (ZM rfl fh) rfl) (Zt (Ye rfl fh) rfl) ?_ rfl 5 (by kernel_rfl) (by kernel_rfl) (by simp);rintro _ ZGk ⟨ZDz,rfl,hS⟩;refine WX.w gN rfl (Wi lk (v:= .int .i64 (ZDz:Nat)) rfl) ?_ (by kernel_rfl);refine WX.hu gN (Zll (kv:=Zg) (vv:= (Value.int .i64)) (v:=ZK (x99 + x85.1.out)) hS k0 (Zt (ZM rfl (ZN rfl fh)) rfl) (Zt fh rfl) (Zt (ZN rfl fh) rfl)) ?_ rfl (by kernel_rfl) [] (by kernel_rfl) Z8.e;rintro Zzg hS;refine r8 ?_;refine r1 ?_;refine cn hL ?_ ?_
      ·intro hc hL;refine WC.Yp mixed (by kernel_rfl) ?_;refine r4 ?_;refine r1 ?_;refine WX.w gN rfl (Y0 XK (Zh lk (Zh lk ZA)) rfl (cs':= [.int .i64 x85.1.from_,.int .i64 x85.1.name]) rfl) ?_ rfl;obtain⟨x103,ZiU,hL⟩:=bind_some hL;refine WX.Zr0 (kv:=Zg) (vv:= (Value.int .i64)) (k:= (Ze.mk x85.1.from_ x85.1.name)) (z:=0) gN rfl YI UE UY (Zt (Ye rfl (Zf rfl fh)) rfl) (Zt fh rfl) (hS.get k7).at_ ZiU 10 (w:= .int .i64 x103) rfl (fun _=>rfl) ?_ rfl;refine r3 ?_;refine WX.Zth (kv:=Zg) (vv:= (Value.int .i64)) (k:= (Ze.mk x85.1.from_ x85.1.name)) (z:=0) gN rfl hS k7 YI UE UY (Zt (ZM rfl (Zf rfl fh)) rfl) (Zt (Ye rfl fh) rfl) ?_ rfl 6 (by kernel_rfl) (by kernel_rfl) (by simp);rintro _ ZJZ ⟨ZDy,rfl,hS⟩;refine WX.w gN rfl (Wi lk (v:= .int .i64 (ZDy:Nat)) rfl) ?_ (by kernel_rfl);refine WX.hu gN (Zll (kv:=Zg) (vv:= (Value.int .i64)) (v:=ZK (x103 + x85.1.has)) hS k0 (Zt (ZM rfl (ZN rfl (Zf rfl fh))) rfl) (Zt fh rfl) (Zt (ZN rfl fh) rfl)) ?_ rfl (by kernel_rfl) [] (by kernel_rfl) Z8.e;rintro ZGj hS;refine r2 ?_;exact JnK.Yw _ hL ⟨_,_,rfl,hS.only (.c k6 (.c k6 (.c k5 (.c k4 (.c k1 (.c k0 (.c k0 (.c k1 .n))))))))⟩
      ·intro hc hL;refine r2 ?_;exact JnK.Yw _ hL ⟨_,_,rfl,hS.only (.c k5 (.c k5 (.c k4 (.c k3 (.c k0 (.c k2 (.c k0 (.c k1 .n))))))))⟩
    ·replace hL:=Ws Zf3 hL;refine WO.Zlt (Zi.yes rfl rfl rfl (ZN rfl (Zf rfl fh))) Zf3 rfl ?_;refine WO.Zlt (Zi.yes rfl rfl rfl (Ye rfl fh)) Zf3 rfl ?_;refine WO.w gN rfl (ZkL lk Zf3 lk) ?_;refine r2 ?_;refine WC.Zdo lk rfl ?_;refine r8 ?_;exact YC.Yw (ZoL _ _ hL ⟨_,_,rfl,hS.only (.c k1 (.c k1 (.c k1 (.c k1 (.c k1 (.c k1 (.c k1 .n))))))),Y3⟩)
   ·intro hc hL;refine r8 ?_;refine r3 ?_;exact YC.Yw (ZjO _ _ hL ⟨_,_,rfl,hS.only (.c k0 (.c k0 (.c k0 (.c k0 (.c k0 (.c k0 (.c k0 .n))))))),Y3⟩)
  ·intro hc hL;refine r4 ?_;refine ZT.Yw ?_;exact ZT.gen (vs:= []) rfl Zm rfl ⟨_,hL,⟨rfl,hS.only (.c k1 (.c k1 (.c k0 (.c k0 (.c k0 (.c k0 (.c k0 .n)))))))⟩⟩
theorem Zzt {wm:Nat} {h:H} {p0:(List YM)} {p1 p2:Int} {Zr:Option Addr} {Zq Xn:Nat} {r:(List YM)} (ZB:wm <=h.size) (hO:ZP (wm:=wm) [ow wm Yy Zr Xn Zq p0] h) (hL:Zs3 p0 p1 p2=some r):
 WR XX 78 #[.slice Zr Xn Zq,.int .i64 p1,.int .i64 p2] wm h (CP (fun(v:Value) (Gb:List (Ast wm))=>∃ (XT:Option Addr) (XQ:Nat) (XR:Nat),v= .slice XT XQ XR∧Gb= [ow wm Yy XT XQ XR r]) [ow wm Yy Zr Xn Zq p0] h):=by
 refine bg Try.ntmps78 ZB hO ?_;intro T hT hS;unfold Zs3 at hL;obtain rfl:=hS.on k0;refine J8 ?_;obtain⟨z1,hz1,hL⟩:=bind_some hL;refine WO.he gN rfl (Zrn (hS.get k0).2 rfl Qt Y1 (Zt (Ye rfl fh) rfl) (Zt (ZN rfl (Zf rfl fh)) rfl) (Zt (ZN rfl fh) rfl) (Zt fh rfl) hz1) ?_;rintro v2 hv3;refine r8 ?_;refine r2 ?_;refine cn hL ?_ ?_
 ·intro hc hL;refine r8 ?_;have hr:=Option.some.inj hL;subst hr;exact ZT.Je rfl (ZE lk Zm) ⟨_,⟨Zr,p0.length,Zq,rfl,rfl⟩,hT ▸ hS.only (.c k0 .n)⟩
 ·intro hc hL;refine r8 ?_;refine r2 ?_;refine WC.Yp mixed (by kernel_rfl) ?_;refine r2 ?_;obtain⟨z4,hz4,hL⟩:=bind_some hL;have Zhf:= (hS.get k0).2.cap;refine WX.he gN rfl (Zrl (hS.get k0).2 rfl Qt Y1 (Zt (Zf rfl fh) rfl) (Zt fh rfl) hz4) ?_ rfl;rintro _ ⟨a5,c6,ea7,ec8,rfl,Zyt⟩;have Zti:=ec8.symm;refine r2 ?_;obtain⟨z13,Znd,hL⟩:=bind_some hL;refine WX.he gN rfl (Zro (hS.get k0).2 rfl Qt Y1 (Zt (Zf rfl fh) rfl) (.inr ⟨_,YB (Zt fh rfl)⟩) (.inl ⟨rfl,rfl⟩) Znd) ?_ rfl;rintro _ ⟨a14,c15,rfl,Zys⟩;obtain⟨z17,Znc,hL⟩:=bind_some hL;have Zyh:= (Zys.own (hS.get k0).2).src;have hS:=hS.sub k0 Zyt;refine WX.hv gN rfl (ZwL (e:=Yy) hS k0 KN lk lk Zyh rfl Znc (Zti ▸ Nat.le_trans (Zgt hz1 hz4 Znd Znc) Zhf)) ?_ rfl rfl [] (by kernel_rfl) Z8.e;rintro _ h19 ⟨rfl,hS⟩;refine WX.w gN rfl (Z6 lk) ?_ (by kernel_rfl);refine r8 ?_;refine WO.he gN rfl (Zrk (hS.get k0).2 Qt Y1 (Zt (ZN rfl (Zf rfl fh)) rfl) (Zt (Zf rfl fh) rfl) (Zt fh rfl) (Zgt hz1 hz4 Znd Znc) (Zti ▸ Zhf)) ?_;rintro _ ⟨a20,c21,rfl,Zyv⟩;refine WO.hw gN (ZwK hS k0 Zyv rfl Qt ZaQ rfl (Zt fh rfl)) ?_;rintro h24 hS;refine r8 ?_;refine r1 ?_;have hr:=Option.some.inj hL;subst hr;exact ZT.Je rfl (ZE lk Zm) ⟨_,⟨a5,z17.length,c6,rfl,rfl⟩,hT ▸ hS.only (.c k0 .n)⟩
theorem Zzs {F wm:Nat} {h:H} {p0:(List YM)} {p1:YM} {Zr:Option Addr} {Zq:Nat} {r:Int} (ZB:wm <=h.size) (ZI:Sl Yy wm h Zr Zq p0) (hL:ZvQ F p0 p1=some r):
 WR XX 79 #[.slice Zr p0.length Zq,.agg [.int .i64 p1.at_,.int .i64 p1.name].toArray] wm h (CP (fun(v:Value) (Gb:List (Ast wm))=>v= .int .i64 r∧Gb= []) [] h):=by
 refine bg Try.ntmps79 ZB ZP.nil ?_;intro T hT hS;unfold ZvQ at hL;refine r3 ?_;rintro _ h2 ⟨b1,eb1,rfl,hS⟩;refine J8 ?_;refine WC.loop (WL.lift hL (fun(v8:Int) (s:Fs)=>∃ (fr4:Fr) (h3:H),s= ⟨fr4,[],h3,none⟩∧Sp wm T h [bx wm b1 [.int .i64 p1.at_,.int .i64 p1.name]] h3∧fr4.at 0= .slice Zr p0.length Zq∧fr4.at 3= .pointer (some ⟨b1,0,none⟩)∧fr4.at 7= .int .i64 (p0.length:Int)∧fr4.at 8= .int .i64 v8) ⟨_,_,rfl,hS.only (.c k0 .n),Y3⟩ ?_);clear hL hS;rintro ZgY v8 s ZjS hL ⟨fr4,h3,rfl,hS,e5,e6,e7,e9⟩;dsimp only [ZeY] at hL;refine r6 ?_;refine cn hL ?_ ?_
 ·intro hc hL;refine r8 ?_;refine r3 ?_;refine WC.Yp mixed (by kernel_rfl) ?_;refine r3 ?_;obtain⟨x11,ZjM,hL⟩:=bind_some hL;obtain⟨b12,o13,_,Zsx,ZsK,ZsC,ZCz⟩:=Sl.at_ ZI ZjM;refine WX.w gN rfl (Z5 Qt Y1 lk lk rfl Zsx ZjM) ?_ rfl;refine WX.w gN rfl (Xr Zeg Y1 (Zt fh rfl) (At.fz hS.fz ZsC ZsK) (j:=0) rfl rfl (ws:= [.int .i64 x11.at_,.int .i64 x11.name]) rfl) ?_ rfl;refine WX.w gN rfl (Yc (Zt (Ye rfl fh) rfl) (Zt fh rfl) (ZhX (xs:= [.int .i64 p1.at_,.int .i64 p1.name]) (ys:= [.int .i64 x11.at_,.int .i64 x11.name]) (Zpg p1 x11) rfl rfl)) ?_ rfl;refine r2 ?_;refine cn hL ?_ ?_
  ·intro hc hL;refine J8 ?_;exact rt hL hT hS
  ·intro hc hL;refine r6 ?_;refine r1 ?_;exact YC.Yw (ZjS _ _ hL ⟨_,_,rfl,hS.only (.c k0 .n),Y3⟩)
 ·intro hc hL;refine r8 ?_;refine r3 ?_;exact rt hL hT hS
end Go.Proofs.Ytekpjgmhkkjhgaa
end
end
section
namespace Go.Proofs.Ytekpjgmhkkjhgaa
open Go.Lf
def Zj9 (p0:(List YM)) (p1:(List YM)):Int ->(Int ->Option Bool) ->Option Bool:=fun v6 Zlu=>
 (bif decide (v6 < (p0.length:Int)) then(Yh p0 v6).bind fun x9=>(Yh p1 v6).bind fun x12=>(bif(!(KH x9 x12)) then some false else Zlu (ZK (v6 + 1))) else some true)
def Zqg (F:Nat) (p0:(List YM)) (p1:(List YM)):Option Bool:=
 (bif((p0.length:Int) != (p1.length:Int)) then some false else loop F (Zj9 p0 p1) 0)
def ZnL (p0:(List Zd)):Option (List Zd):=
 (app 40 ([]:List Zd) p0).bind fun z3=>some z3
def ZnK (p0:(List Int)):Option (List Int):=
 (app 8 ([]:List Int) p0).bind fun z3=>some z3
def Zho (v25:Int) (ZeF:(Int×(List Int) ->Option (List Int))):(List Int) ->Option (List Int):=fun v39=>
 ZeF (ZK (v25 + 1),v39)
def Zhp (p0:Store) (p1:Int):Int×(List Int) ->(Int×(List Int) ->Option (List Int)) ->Option (List Int):=fun(v25,v27) ZeF=>
 (bif decide (v25 < (p0.notes.length:Int)) then(Yh p0.notes v25).bind fun x43=>(bif((x43.kind==3) && (x43.name==p1)) then(app 8 v27 [x43.Zv]).bind fun z51=>(Zho v25 ZeF) z51 else(Zho v25 ZeF) v27) else some v27)
def ZeV (F:Nat) (p0:Store) (p1:Int):(List Int) ->Option (List Int):=fun v14=>
 loop F (Zhp p0 p1) (0,v14)
def Zj8 (F:Nat) (p0:Store) (p1:Int) (v73:Int) (Zc9:(Int×(List Int) ->Option (List Int))):(List Int) ->Option (List Int):=fun v91=>
 (bif(!true) then(ZeV F p0 p1) v91 else Zc9 (ZK (v73 + 1),v91))
def ZnH (F:Nat) (p0:Store) (p1:Int) (v61:Int) (ZjE:(Int×(List Int) ->Option (List Int))):Int×(List Int) ->(Int×(List Int) ->Option (List Int)) ->Option (List Int):=fun(v73,v75) Zc9=>
 (bif decide (v73 < p0.names) then(KW p0.cells (Ze.mk v61 v73) (Za.mk 0 false 0 0 0 false)).bind fun x80=>(bif x80.2 then(bif((x80.1.name==p1) && x80.1.root) then(app 8 v75 [v61]).bind fun z98=>(Zj8 F p0 p1 v73 Zc9) z98 else(Zj8 F p0 p1 v73 Zc9) v75) else Zc9 (ZK (v73 + 1),v75)) else ZjE (ZK (v61 + 1),v75))
def ZnI (F:Nat) (p0:Store) (p1:Int):Int×(List Int) ->(Int×(List Int) ->Option (List Int)) ->Option (List Int):=fun(v61,v63) ZjE=>
 (bif decide (v61 < p0.machines) then loop F (ZnH F p0 p1 v61 ZjE) (0,v63) else(ZeV F p0 p1) v63)
def ZsZ (F:Nat) (p0:Store) (p1:Int):Option (List Int):=
 loop F (ZnI F p0 p1) (0,[])
def Zhl (v7:Int) (JZ:(Int ->Option Bool)):Unit ->Option Bool:=fun _=>
 JZ (ZK (v7 + 1))
def Zhm (p0:Store) (p1:Int) (p2:Int) (v7:Int) (JZ:(Int ->Option Bool)):Int×Bool×Int×Int×Bool×Int×Int×Int×Bool ->(Int×Bool×Int×Int×Bool×Int×Int×Int×Bool ->Option Bool) ->Option Bool:=fun(v26,v29,v34,v36,v37,v38,v39,v40,v41) ZrN=>
 (bif decide (v34 < p0.machines) then(bif(v26==p2) then(Zhl v7 JZ) () else(bif((!v29) || (decide (v38 < 0))) then some false else(KW p0.cells (Ze.mk v38 p1) (Za.mk 0 false 0 0 0 false)).bind fun x43=>ZrN (v38,x43.2,ZK (v34 + 1),x43.1.name,x43.1.root,x43.1.from_,x43.1.has,x43.1.out,x43.1.use))) else(bif(v26 !=p2) then some false else(Zhl v7 JZ) ()))
def Zhn (F:Nat) (p0:Store) (p1:Int) (p2:Int):Int ->(Int ->Option Bool) ->Option Bool:=fun v7 JZ=>
 (bif decide (v7 < p0.machines) then(KW p0.cells (Ze.mk v7 p1) (Za.mk 0 false 0 0 0 false)).bind fun x17=>(bif(!x17.2) then(Zhl v7 JZ) () else loop F (Zhm p0 p1 p2 v7 JZ) (v7,x17.2,0,x17.1.name,x17.1.root,x17.1.from_,x17.1.has,x17.1.out,x17.1.use)) else some true)
def Zqf (F:Nat) (p0:Store) (p1:Int) (p2:Int):Option Bool:=
 loop F (Zhn F p0 p1 p2) 0
end Go.Proofs.Ytekpjgmhkkjhgaa
end
section
set_option maxRecDepth 20000
noncomputable section
namespace Go.Proofs.Ytekpjgmhkkjhgaa
open Go.Yo Go.Lf
theorem Zzq {F wm:Nat} {h:H} {p0 p1:(List YM)} {Zr:Option Addr} {Zq:Nat} {YP:Option Addr} {YO:Nat} {r:Bool} (ZB:wm <=h.size) (ZI:Sl Yy wm h Zr Zq p0) (Uf:Sl Yy wm h YP YO p1) (hL:Zqg F p0 p1=some r):
 WR XX 80 #[.slice Zr p0.length Zq,.slice YP p1.length YO] wm h (CP (fun(v:Value) (Gb:List (Ast wm))=>v= .bool r∧Gb= []) [] h):=by
 refine bg Try.ntmps80 ZB ZP.nil ?_;intro T hT hS;unfold Zqg at hL;refine J8 ?_;refine r3 ?_;refine cn hL ?_ ?_
 ·intro hc hL;refine r6 ?_;refine r1 ?_;exact rt hL hT hS
 ·intro hc hL;refine r8 ?_;refine r3 ?_;refine WC.loop (WL.lift hL (fun(v6:Int) (s:Fs)=>∃ (JS:Fr) (h1:H),s= ⟨JS,[],h1,none⟩∧Sp wm T h [] h1∧JS.at 0= .slice Zr p0.length Zq∧JS.at 1= .slice YP p1.length YO∧JS.at 12= .int .i64 (p0.length:Int)∧JS.at 13= .int .i64 v6) ⟨_,_,rfl,hS.only .n,Y3⟩ ?_);clear hL hS;rintro Zlu v6 s Zno hL ⟨JS,h1,rfl,hS,e3,e4,e5,e7⟩;dsimp only [Zj9] at hL;refine r6 ?_;refine cn hL ?_ ?_
  ·intro hc hL;refine r8 ?_;refine r3 ?_;refine WC.Yp mixed (by kernel_rfl) ?_;refine r2 ?_;obtain⟨x9,hx9,hL⟩:=bind_some hL;obtain⟨b10,o11,_,Zsy,ZsL,ZsD,ZCA⟩:=Sl.at_ ZI hx9;refine WX.w gN rfl (Z5 Qt Y1 lk lk rfl Zsy hx9) ?_ rfl;refine WX.w gN rfl (Xr Zeg Y1 (Zt fh rfl) (At.fz hS.fz ZsD ZsL) (j:=0) rfl rfl (ws:= [.int .i64 x9.at_,.int .i64 x9.name]) rfl) ?_ rfl;refine r2 ?_;obtain⟨x12,Znh,hL⟩:=bind_some hL;obtain⟨b13,o14,_,Zsw,ZsJ,ZsB,Zxq⟩:=Sl.at_ Uf Znh;refine WX.w gN rfl (Z5 Qt Y1 lk lk rfl Zsw Znh) ?_ rfl;refine WX.w gN rfl (Xr Zeg Y1 (Zt fh rfl) (At.fz hS.fz ZsB ZsJ) (j:=0) rfl rfl (ws:= [.int .i64 x12.at_,.int .i64 x12.name]) rfl) ?_ rfl;refine WX.w gN rfl (Yc (Zt (Ye rfl fh) rfl) (Zt fh rfl) (ZmE (xs:= [.int .i64 x9.at_,.int .i64 x9.name]) (ys:= [.int .i64 x12.at_,.int .i64 x12.name]) (Zpg x9 x12) rfl rfl)) ?_ rfl;refine r2 ?_;refine cn hL ?_ ?_
   ·intro hc hL;refine r8 ?_;refine r3 ?_;exact rt hL hT hS
   ·intro hc hL;refine r6 ?_;refine r1 ?_;exact YC.Yw (Zno _ _ hL ⟨_,_,rfl,hS.only .n,Y3⟩)
  ·intro hc hL;refine r8 ?_;refine r3 ?_;exact rt hL hT hS
theorem Zzr {F:Nat} {h:H} {p0 p1:(List YM)} {Zr:Option Addr} {Zq:Nat} {YP:Option Addr} {YO:Nat} {r:Bool} (ZI:Sl Yy h.size h Zr Zq p0) (Uf:Sl Yy h.size h YP YO p1) (hL:Zqg F p0 p1=some r):Pure XX 80 #[.slice Zr p0.length Zq,.slice YP p1.length YO] h (.bool r):=
 WR.QU rfl (Zzq (Nat.le_refl _) ZI Uf hL)
theorem Zs2 {wm:Nat} {h:H} {p0:(List Zd)} {Zr:Option Addr} {Zq:Nat} {r:(List Zd)} (ZB:wm <=h.size) (ZI:Sl Zj wm h Zr Zq p0) (hL:ZnL p0=some r):
 WR XX 86 #[.slice Zr p0.length Zq] wm h (CP (fun(v:Value) (Gb:List (Ast wm))=>∃ (XT:Option Addr) (XQ:Nat) (XR:Nat),v= .slice XT XQ XR∧Gb= [ow wm Zj XT XQ XR r]) [] h):=by
 refine bg Try.ntmps86 ZB ZP.nil ?_;intro T hT hS;unfold ZnL at hL;refine r8 ?_;rcases Sl.cases ZI with⟨rfl,rfl,rfl⟩ | ⟨qa,rfl⟩
 ·
  refine r1 ?_;refine WO.w gN rfl (Yc (Zt fh rfl) (Jf rfl) (Zfv UD)) ?_;refine r2 ?_;refine WC.ZkD lk rfl ?_;rw [Zn9 _ (by decide)] at hL;replace hL:some []=some r:=hL;refine r6 ?_;refine r1 ?_;have hS:=hS.nil (e:=Zj);have hr:=Option.some.inj hL;subst hr;exact ZT.Je rfl (ZE lk Zm) ⟨_,⟨none,0,0,rfl,rfl⟩,hT ▸ hS.only (.c k0 .n)⟩
 ·
  refine r1 ?_;refine WO.w gN rfl (Yc (Zt fh rfl) (Jf rfl) (Zfw UD)) ?_;refine r2 ?_;refine WC.Zdo lk rfl ?_;refine r4 ?_;refine WO.hn gN rfl (Zf2 (e:=Zj) hS UD XB Zep rfl rfl rfl ZA rfl [] rfl (xs:= ([]:List Zd)) rfl (by intro q hq;cases hq) rfl) ?_;rintro _ h2 ⟨b1,eb1,rfl,hS⟩;refine r1 ?_;obtain⟨z3,hz3,hL⟩:=bind_some hL;refine WO.hv gN rfl (ZdJ (e:=Zj) hS k0 ZhS lk lk (Sl.src (hS.sl ZI)) rfl hz3) ?_;rintro _ h6 ⟨a4,c5,rfl,hS⟩;refine r4 ?_;have hr:=Option.some.inj hL;subst hr;exact ZT.Je rfl (ZE lk Zm) ⟨_,⟨a4,z3.length,c5,rfl,rfl⟩,hT ▸ hS.only (.c k0 .n)⟩
theorem Zs1 {wm:Nat} {h:H} {p0:(List Int)} {Zr:Option Addr} {Zq:Nat} {r:(List Int)} (ZB:wm <=h.size) (ZI:Sl (ZR .i64) wm h Zr Zq p0) (hL:ZnK p0=some r):
 WR XX 87 #[.slice Zr p0.length Zq] wm h (CP (fun(v:Value) (Gb:List (Ast wm))=>∃ (XT:Option Addr) (XQ:Nat) (XR:Nat),v= .slice XT XQ XR∧Gb= [ow wm (ZR .i64) XT XQ XR r]) [] h):=by
 refine bg Try.ntmps87 ZB ZP.nil ?_;intro T hT hS;unfold ZnK at hL;refine r8 ?_;rcases Sl.cases ZI with⟨rfl,rfl,rfl⟩ | ⟨qa,rfl⟩
 ·
  refine r1 ?_;refine WO.w gN rfl (Yc (Zt fh rfl) (Jf rfl) (Zfv X9)) ?_;refine r2 ?_;refine WC.ZkD lk rfl ?_;rw [Zn9 _ (by decide)] at hL;replace hL:some []=some r:=hL;refine r6 ?_;refine r1 ?_;have hS:=hS.nil (e:= (ZR .i64));have hr:=Option.some.inj hL;subst hr;exact ZT.Je rfl (ZE lk Zm) ⟨_,⟨none,0,0,rfl,rfl⟩,hT ▸ hS.only (.c k0 .n)⟩
 ·
  refine r1 ?_;refine WO.w gN rfl (Yc (Zt fh rfl) (Jf rfl) (Zfw X9)) ?_;refine r2 ?_;refine WC.Zdo lk rfl ?_;refine r4 ?_;refine WO.hn gN rfl (Zf2 (e:= (ZR .i64)) hS X9 Y4 UY rfl rfl rfl ZA rfl [] rfl (xs:= ([]:List Int)) rfl (by intro q hq;cases hq) rfl) ?_;rintro _ h2 ⟨b1,eb1,rfl,hS⟩;refine r1 ?_;obtain⟨z3,hz3,hL⟩:=bind_some hL;refine WO.hv gN rfl (ZdJ (e:= (ZR .i64)) hS k0 Zec lk lk (Sl.src (hS.sl ZI)) rfl hz3) ?_;rintro _ h6 ⟨a4,c5,rfl,hS⟩;refine r4 ?_;have hr:=Option.some.inj hL;subst hr;exact ZT.Je rfl (ZE lk Zm) ⟨_,⟨a4,z3.length,c5,rfl,rfl⟩,hT ▸ hS.only (.c k0 .n)⟩
theorem Zzn {F wm:Nat} {h:H} {p0:Store} {p1:Int} {ZF:Option Nat} {Zp:Option Addr} {Zo:Nat} {Zz:Option Addr} {Zy Xf UA:Nat} {r:(List Int)} (ZB:wm <=h.size) (YR:At h Xf UA [.int .i64 p0.machines,.int .i64 p0.names,.map ZF,.slice Zp p0.notes.length Zo,.slice Zz p0.freed.length Zy]) (YQ:Stb wm h Xf) (ZI:Ui Zg Zk wm h ZF p0.cells) (Yr:Sl Zj wm h Zp Zo p0.notes) (Yu:Sl (ZR .i64) wm h Zz Zy p0.freed) (hL:ZsZ F p0 p1=some r):
 WR XX 90 #[.pointer (some ⟨Xf,UA,none⟩),.int .i64 p1] wm h (CP (fun(v:Value) (Gb:List (Ast wm))=>∃ (XT:Option Addr) (XQ:Nat) (XR:Nat),v= .slice XT XQ XR∧Gb= [ow wm (ZR .i64) XT XQ XR r]) [] h):=by
 refine WF.Zfo (args:= [_,_]) (fn:=Try.f90) (by kernel_rfl) (by exact rfl) Try.ntmps90 (by simp) ?_;simp only [ZC,ZJ,Nat.reduceAdd];obtain⟨T,hT,hS⟩:∃ T,T=Xw (wm:=wm) []∧Sp wm T h [] h:= ⟨_,rfl,Sp.start ZB ZP.nil⟩
 unfold ZsZ at hL;refine r3 ?_;rintro _ h2 ⟨b1,eb1,rfl,hS⟩;refine r6 ?_;rintro _ h4 ⟨b3,eb3,rfl,hS⟩;refine r6 ?_;refine WO.inl gN rfl (Xd.fn Zsj (Zc lk Zl)) (WF.begin (args:= [_]) (fn:=Try.f71) (by kernel_rfl) (by exact rfl) Try.ntmps71 (by simp) ?_);simp only [ZC,ZJ,Nat.reduceAdd];refine r3 ?_;rintro _ h6 ⟨b5,eb5,rfl,hS⟩;refine r4 ?_;refine r1 ?_;refine WO.w gN rfl (Zdr (Zc lk Zl)) ?_;refine r4 ?_;refine ZT.Je rfl (ZE lk Zm) ?_;refine r3 ?_;refine WC.Zm0 (first:= []) (cap:= [.pointer (some ⟨b5,0,none⟩)]) hS lk Znw ?_;intro h7 l8 df9 ZwB ZoT hS;refine WR.ZpV (r:=r) (fun(v14:(List Int)) (v:Value) (h12:H)=>∃ (a15:Option Addr) (c16:Nat) (n17:Nat),v= .tuple [].toArray∧Sp wm T h [bx wm b1 [.int .i64 p1],ow wm (ZR .i64) a15 n17 c16 v14,bx wm b3 [.slice a15 n17 c16],bx wm b5 [.pointer (some ⟨Xf,UA,none⟩)],ob wm l8 ZwB,ob wm df9 .deferred] h12) (ZeV F p0 p1) ?_ (WF.begin (args:= [_,_]) (fn:=Try.f110) (by kernel_rfl) (by exact rfl) Try.ntmps110 (by simp) ?_)
 ·clear hL hS;rintro v14 v h12 hL ⟨a15,c16,n17,rfl,hS⟩;obtain rfl:=hS.on k1;dsimp only [ZeV] at hL;refine RgE.sp ZoT hS k4 ?_;rintro h18 hS;refine r8 ?_;refine WO.w gN rfl (ZU ZmC (Zt fh rfl) (At.fz hS.fz YQ YR) (j:=3) rfl (v:= .slice Zp p0.notes.length Zo) rfl) ?_;refine r4 ?_;refine r1 ?_;refine WC.loop (WL.lift hL (fun(p:Int×(List Int)) (s:Fs)=>match p with | (v25,v27)=>∃ (KD:Fr) (h19:H) (a28:Option Addr) (c29:Nat) (n30:Nat),s= ⟨KD,[⟨.collected df9,#[]⟩],h19,none⟩∧Sp wm T h [bx wm b1 [.int .i64 p1],ow wm (ZR .i64) a28 n30 c29 v27,bx wm b3 [.slice a28 n30 c29],ob wm df9 .deferred] h19∧KD.at 3= .pointer (some ⟨b1,0,none⟩)∧KD.at 5= .pointer (some ⟨b3,0,none⟩)∧KD.at 29= .slice Zp p0.notes.length Zo∧KD.at 30= .int .i64 (p0.notes.length:Int)∧KD.at 31= .int .i64 v25) ⟨_,_,a15,c16,v14.length,rfl,hS.only (.c k0 (.c k0 (.c k0 (.c k1 .n)))),Y3⟩ ?_);clear hL hS;rintro ZeF ⟨v25,v27⟩ s Zu7 hL ⟨KD,h19,a28,c29,n30,rfl,hS,e21,e22,e23,e24,e26⟩;obtain rfl:=hS.on k1;dsimp only [Zhp] at hL;refine r6 ?_;refine cn hL ?_ ?_
  ·intro hc hL;refine r2 ?_;refine WC.ZaT (r:=r) (fun(v39:(List Int)) (s:Fs)=>∃ (ZbW:Fr) (h32:H) (a40:Option Addr) (c41:Nat) (n42:Nat),s= ⟨ZbW,[⟨.collected df9,#[]⟩],h32,none⟩∧Sp wm T h [bx wm b1 [.int .i64 p1],ow wm (ZR .i64) a40 n42 c41 v39,bx wm b3 [.slice a40 n42 c41],ob wm df9 .deferred] h32∧ZbW.at 3= .pointer (some ⟨b1,0,none⟩)∧ZbW.at 5= .pointer (some ⟨b3,0,none⟩)∧ZbW.at 29= .slice Zp p0.notes.length Zo∧ZbW.at 30= .int .i64 (p0.notes.length:Int)∧ZbW.at 31= .int .i64 v25) (Zho v25 ZeF) ?_ ?_
   ·clear hL hS;rintro v39 s hL ⟨ZbW,h32,a40,c41,n42,rfl,hS,e34,e35,e36,e37,e38⟩;obtain rfl:=hS.on k1;dsimp only [Zho] at hL;refine r4 ?_;exact YC.Yw (Zu7 _ _ hL ⟨_,_,a40,c41,v39.length,rfl,hS.only (.c k0 (.c k0 (.c k0 (.c k0 .n)))),Y3⟩)
   ·skip;refine r3 ?_;obtain⟨x43,Znf,hL⟩:=bind_some hL;obtain⟨b44,o45,_,Zst,ZsE,Zsz,ZCv⟩:=Sl.at_ Yr Znf;refine WO.w gN rfl (Z5 UD XB lk lk rfl Zst Znf) ?_;refine WO.w gN rfl (Xr Zeh XB (Zt fh rfl) (At.fz hS.fz Zsz ZsE) (j:=0) rfl rfl (ws:= [.int .i64 x43.kind,.int .i64 x43.Zv,.int .i64 x43.name,.int .i64 x43.via,.int .i64 x43.w]) rfl) ?_;refine r1 ?_;rintro _ h47 ⟨b46,ZGu,rfl,hS⟩;refine r1 ?_;rintro h48 hS;refine J8 ?_;refine r3 ?_;refine cn hL ?_ ?_
    ·intro hc hL;refine r4 ?_;refine WO.hn gN rfl (Zf2 (e:= (ZR .i64)) hS X9 Y4 UY rfl rfl rfl (Zh lk ZA) rfl [((),x43.Zv)] rfl (xs:= [x43.Zv]) rfl (by intro q hq;simp only [List.mem_cons,List.not_mem_nil,or_false] at hq;subst hq;exact trivial) rfl) ?_;rintro _ h50 ⟨b49,ZGt,rfl,hS⟩;obtain⟨z51,ZEU,hL⟩:=bind_some hL;refine WO.hv gN rfl (ZdJ (e:= (ZR .i64)) hS k3 Zec lk lk (hS.Q7 k0) (hS.on k0) ZEU) ?_;rintro _ h54 ⟨a52,c53,rfl,hS⟩;refine r1 ?_;rintro h55 hS;refine r2 ?_;exact YS.Yw _ hL ⟨_,_,a52,c53,z51.length,rfl,hS.only (.c k4 (.c k1 (.c k0 (.c k2 .n)))),Y3⟩
    ·intro hc hL;refine r2 ?_;exact YS.Yw _ hL ⟨_,_,a28,c29,v27.length,rfl,hS.only (.c k1 (.c k1 (.c k1 (.c k1 .n)))),Y3⟩
  ·intro hc hL;refine J8 ?_;refine XP.ZzO hS k3 ?_;rintro h56 hS;have hr:=Option.some.inj hL;subst hr;exact XP.gen rfl (ZE lk Zm) rfl ⟨_,⟨a28,v27.length,c29,rfl,rfl⟩,hT ▸ hS.only (.c k1 .n)⟩
 ·skip;simp only [ZC,ZJ,Nat.reduceAdd];refine r6 ?_;have hS:=hS.nil (e:= (ZR .i64));refine WC.loop (WL.lift hL (fun(p:Int×(List Int)) (s:Fs)=>match p with | (v61,v63)=>∃ (ZsT:Fr) (h57:H) (a64:Option Addr) (c65:Nat) (n66:Nat),s= ⟨ZsT,[],h57,none⟩∧Sp wm T h [bx wm b5 [.pointer (some ⟨Xf,UA,none⟩)],bx wm b1 [.int .i64 p1],ow wm (ZR .i64) a64 n66 c65 v63,bx wm b3 [.slice a64 n66 c65],ob wm l8 ZwB,ob wm df9 .deferred] h57∧ZsT.at 0= .func (.yield l8) #[] #[]∧ZsT.at 1= .pointer (some ⟨b5,0,none⟩)∧ZsT.at 3= .int .i64 v61) ⟨_,_,none,0,0,rfl,hS.only (.c k3 (.c k4 (.c k0 (.c k2 (.c k0 (.c k0 .n)))))),Y3⟩ ?_);clear hL hS;rintro ZjE ⟨v61,v63⟩ s Zu1 hL ⟨ZsT,h57,a64,c65,n66,rfl,hS,e59,e60,e62⟩;obtain rfl:=hS.on k2;dsimp only [ZnI] at hL;refine r6 ?_;refine r1 ?_;refine WO.w gN rfl (ZU Xj (Zt fh rfl) (At.fz hS.fz YQ YR) (j:=0) rfl (v:= .int .i64 p0.machines) rfl) ?_;refine r3 ?_;refine cn hL ?_ ?_
  ·intro hc hL;refine r8 ?_;refine r2 ?_;refine WC.loop (WL.lift hL (fun(p:Int×(List Int)) (s:Fs)=>match p with | (v73,v75)=>∃ (Zp8:Fr) (h68:H) (a76:Option Addr) (c77:Nat) (n78:Nat),s= ⟨Zp8,[],h68,none⟩∧Sp wm T h [bx wm b5 [.pointer (some ⟨Xf,UA,none⟩)],bx wm b1 [.int .i64 p1],ow wm (ZR .i64) a76 n78 c77 v75,bx wm b3 [.slice a76 n78 c77],ob wm l8 ZwB,ob wm df9 .deferred] h68∧Zp8.at 0= .func (.yield l8) #[] #[]∧Zp8.at 1= .pointer (some ⟨b5,0,none⟩)∧Zp8.at 3= .int .i64 v61∧Zp8.at 4= .int .i64 v73) ⟨_,_,a64,c65,v63.length,rfl,hS.only (.c k0 (.c k0 (.c k0 (.c k0 (.c k0 (.c k0 .n)))))),Y3⟩ ?_);clear hL hS;rintro Zc9 ⟨v73,v75⟩ s ZoM hL ⟨Zp8,h68,a76,c77,n78,rfl,hS,e70,e71,e72,e74⟩;obtain rfl:=hS.on k2;dsimp only [ZnH] at hL;refine r6 ?_;refine r1 ?_;refine WO.w gN rfl (ZU Xj (Zt fh rfl) (At.fz hS.fz YQ YR) (j:=1) rfl (v:= .int .i64 p0.names) rfl) ?_;refine r3 ?_;refine cn hL ?_ ?_
   ·intro hc hL;refine r8 ?_;refine r1 ?_;refine WO.w gN rfl (ZU ZfX (Zt fh rfl) (At.fz hS.fz YQ YR) (j:=2) rfl (v:= .map ZF) rfl) ?_;refine r2 ?_;refine WO.w gN rfl (Y0 XK (Zh lk (Zh lk ZA)) rfl (cs':= [.int .i64 v61,.int .i64 v73]) rfl) ?_;obtain⟨x80,Zyi,hL⟩:=bind_some hL;refine WO.w gN rfl (KM (kv:=Zg) (vv:=Zk) (k:= (Ze.mk v61 v73)) (z:= (Za.mk 0 false 0 0 0 false)) YI JW Ub (Zt (ZN rfl (Zf rfl fh)) rfl) (Zt fh rfl) (hS.ms ZI).at_ Zyi (w:= .agg [.int .i64 x80.1.name,.bool x80.1.root,.int .i64 x80.1.from_,.int .i64 x80.1.has,.int .i64 x80.1.out,.bool x80.1.use].toArray) rfl) ?_;refine r4 ?_;rintro _ h82 ⟨b81,ZKd,rfl,hS⟩;refine r1 ?_;rintro h83 hS;refine r8 ?_;refine r2 ?_;refine WO.ZjW (Zi.yes rfl rfl rfl (ZN rfl (Zf rfl fh))) (fun Zf4=>?_) (fun Zf4=>?_)
    ·replace hL:=Wq Zf4 hL;refine WO.ZxO (Zi.on (Zi.yes rfl rfl rfl (ZN rfl (Zf rfl fh))) Zf4) rfl (XJ (ZN rfl fh) rfl Zf4) (Zc (XJ (Zf rfl fh) rfl Zf4) (Zc (XJ fh rfl Zf4) Zl)) hS k5 ZoT rfl rfl ?_;refine r6 ?_;refine r1 ?_;rintro _ h86 ⟨b85,ZKc,rfl,hS⟩;refine r1 ?_;rintro h87 hS;refine r1 ?_;refine AsK.sp ZoT hS k6 ?_;rintro h88 hS;refine WC.jn (r:=r) (fun(v91:(List Int)) (s:Fs)=>∃ (ZDb:Fr) (h89:H) (a92:Option Addr) (c93:Nat) (n94:Nat),s= ⟨ZDb,[],h89,none⟩∧Sp wm T h [bx wm b1 [.int .i64 p1],ow wm (ZR .i64) a92 n94 c93 v91,bx wm b3 [.slice a92 n94 c93],bx wm b5 [.pointer (some ⟨Xf,UA,none⟩)],bx wm b81 [.int .i64 x80.1.name,.bool x80.1.root,.int .i64 x80.1.from_,.int .i64 x80.1.has,.int .i64 x80.1.out,.bool x80.1.use],ob wm l8 (bsy ZwB),ob wm df9 .deferred] h89) (Zj8 F p0 p1 v73 Zc9) ?_ ?_
     ·clear hL hS;rintro v91 s hL ⟨ZDb,h89,a92,c93,n94,rfl,hS⟩;obtain rfl:=hS.on k1;dsimp only [Zj8] at hL;refine BdK.sp ZoT hS k5 ?_;rintro h95 hS;refine WO.w (Zi.on (Zi.yes rfl rfl rfl (Ye rfl fh)) Zf4) rfl (ZkM lk) ?_;refine WO.w gN rfl (ZkK lk Zf4 lk) ?_;refine r2 ?_;refine cn hL ?_ ?_
      ·intro hc hL;refine r8 ?_;refine r1 ?_;exact ZT.gen (vs:= []) rfl Zm rfl ⟨_,hL,⟨a92,c93,v91.length,rfl,hS.only (.c k1 (.c k1 (.c k1 (.c k1 (.c k0 (.c k1 .n))))))⟩⟩
      ·intro hc hL;refine r8 ?_;exact YC.Yw (ZoM _ _ hL ⟨_,_,a92,c93,v91.length,rfl,hS.only (.c k4 (.c k1 (.c k1 (.c k1 (.c k0 (.c k1 .n)))))),Y3⟩)
     ·skip;refine J8 ?_;refine r1 ?_;refine cn hL ?_ ?_
      ·intro hc hL;refine r3 ?_;refine WO.hn gN rfl (Zf2 (e:= (ZR .i64)) hS X9 Y4 UY rfl rfl rfl (Zh lk ZA) rfl [((),v61)] rfl (xs:= [v61]) rfl (by intro q hq;simp only [List.mem_cons,List.not_mem_nil,or_false] at hq;subst hq;exact trivial) rfl) ?_;rintro _ h97 ⟨b96,ZJ8,rfl,hS⟩;obtain⟨z98,ZER,hL⟩:=bind_some hL;refine WO.hv gN rfl (ZdJ (e:= (ZR .i64)) hS k6 Zec lk lk (hS.Q7 k0) (hS.on k0) ZER) ?_;rintro _ ZC7 ⟨a99,ZGO,rfl,hS⟩;refine r1 ?_;rintro Zzg hS;refine r2 ?_;exact JnK.Yw _ hL ⟨_,_,a99,ZGO,z98.length,rfl,hS.only (.c k7 (.c k1 (.c k0 (.c k4 (.c k3 (.c k1 (.c k2 .n)))))))⟩
      ·intro hc hL;refine r2 ?_;exact JnK.Yw _ hL ⟨_,_,a76,c77,v75.length,rfl,hS.only (.c k4 (.c k4 (.c k4 (.c k3 (.c k2 (.c k0 (.c k1 .n)))))))⟩
    ·replace hL:=Ws Zf4 hL;refine WO.Zlt (Zi.yes rfl rfl rfl (ZN rfl (Zf rfl fh))) Zf4 rfl ?_;refine WO.Zlt (Zi.yes rfl rfl rfl (Ye rfl fh)) Zf4 rfl ?_;refine WO.w gN rfl (ZkL lk Zf4 lk) ?_;refine r2 ?_;refine WC.Zdo lk rfl ?_;refine r8 ?_;exact YC.Yw (ZoM _ _ hL ⟨_,_,a76,c77,v75.length,rfl,hS.only (.c k1 (.c k1 (.c k1 (.c k1 (.c k1 (.c k1 .n)))))),Y3⟩)
   ·intro hc hL;refine r8 ?_;refine r3 ?_;exact YC.Yw (Zu1 _ _ hL ⟨_,_,a76,c77,v75.length,rfl,hS.only (.c k0 (.c k0 (.c k0 (.c k0 (.c k0 (.c k0 .n)))))),Y3⟩)
  ·intro hc hL;refine r4 ?_;refine ZT.Yw ?_;exact ZT.gen (vs:= []) rfl Zm rfl ⟨_,hL,⟨a64,c65,v63.length,rfl,hS.only (.c k1 (.c k1 (.c k1 (.c k0 (.c k0 (.c k0 .n))))))⟩⟩
theorem Zzl {F wm:Nat} {h:H} {p0:Store} {p1 p2:Int} {ZF:Option Nat} {Zp:Option Addr} {Zo:Nat} {Zz:Option Addr} {Zy Xf UA:Nat} {r:Bool} (ZB:wm <=h.size) (YR:At h Xf UA [.int .i64 p0.machines,.int .i64 p0.names,.map ZF,.slice Zp p0.notes.length Zo,.slice Zz p0.freed.length Zy]) (YQ:Stb wm h Xf) (ZI:Ui Zg Zk wm h ZF p0.cells) (Yr:Sl Zj wm h Zp Zo p0.notes) (Yu:Sl (ZR .i64) wm h Zz Zy p0.freed) (hL:Zqf F p0 p1 p2=some r):
 WR XX 91 #[.pointer (some ⟨Xf,UA,none⟩),.int .i64 p1,.int .i64 p2] wm h (CP (fun(v:Value) (Gb:List (Ast wm))=>v= .bool r∧Gb= []) [] h):=by
 refine bg Try.ntmps91 ZB ZP.nil ?_;intro T hT hS;unfold Zqf at hL;refine r4 ?_;refine r1 ?_;refine WC.scope ?_;refine r1 ?_;refine WC.label ?_;refine r6 ?_;refine r1 ?_;refine WO.w gN rfl (ZU Xj (Zt fh rfl) (At.fz hS.fz YQ YR) (j:=0) rfl (v:= .int .i64 p0.machines) rfl) ?_;refine r4 ?_;refine WC.loop (WL.lift hL (fun(v7:Int) (s:Fs)=>∃ (JS:Fr) (h1:H),s= ⟨JS,[],h1,none⟩∧Sp wm T h [] h1∧JS.at 0= .pointer (some ⟨Xf,UA,none⟩)∧JS.at 1= .int .i64 p1∧JS.at 2= .int .i64 p2∧JS.at 13= .int .i64 p0.machines∧JS.at 14= .int .i64 v7) ⟨_,_,rfl,hS.only .n,Y3⟩ ?_);clear hL hS;rintro JZ v7 s Zhc hL ⟨JS,h1,rfl,hS,e3,e4,e5,e6,e8⟩;dsimp only [Zhn] at hL;refine r6 ?_;refine cn hL ?_ ?_
 ·intro hc hL;refine r2 ?_;refine WC.ZaT (r:=r) (fun(_:Unit) (s:Fs)=>∃ (UB:Fr) (h10:H),s= ⟨UB,[],h10,none⟩∧Sp wm T h [] h10∧UB.at 0= .pointer (some ⟨Xf,UA,none⟩)∧UB.at 1= .int .i64 p1∧UB.at 2= .int .i64 p2∧UB.at 13= .int .i64 p0.machines∧UB.at 14= .int .i64 v7) (Zhl v7 JZ) ?_ ?_
  ·clear hL hS;rintro _ s hL ⟨UB,h10,rfl,hS,e12,e13,e14,e15,e16⟩;dsimp only [Zhl] at hL;refine r4 ?_;exact YC.Yw (Zhc _ _ hL ⟨_,_,rfl,hS.only .n,Y3⟩)
  ·skip;refine J8 ?_;refine WO.w gN rfl (ZU ZfX (Zt fh rfl) (At.fz hS.fz YQ YR) (j:=2) rfl (v:= .map ZF) rfl) ?_;refine r2 ?_;refine WO.w gN rfl (Y0 XK (Zh lk (Zh lk ZA)) rfl (cs':= [.int .i64 v7,.int .i64 p1]) rfl) ?_;obtain⟨x17,Zyr,hL⟩:=bind_some hL;refine WO.w gN rfl (KM (kv:=Zg) (vv:=Zk) (k:= (Ze.mk v7 p1)) (z:= (Za.mk 0 false 0 0 0 false)) YI JW Ub (Zt (ZN rfl (Zf rfl fh)) rfl) (Zt fh rfl) (hS.ms ZI).at_ Zyr (w:= .agg [.int .i64 x17.1.name,.bool x17.1.root,.int .i64 x17.1.from_,.int .i64 x17.1.has,.int .i64 x17.1.out,.bool x17.1.use].toArray) rfl) ?_;refine r4 ?_;rintro _ h19 ⟨b18,ZKt,rfl,hS⟩;refine r1 ?_;rintro h20 hS;refine r8 ?_;refine r2 ?_;refine cn hL ?_ ?_
   ·intro hc hL;refine r3 ?_;exact YS.Yw _ hL ⟨_,_,rfl,hS.only .n,Y3⟩
   ·intro hc hL;refine r8 ?_;refine WO.w gN rfl (ZU Xj (Zt fh rfl) (At.fz hS.fz YQ YR) (j:=0) rfl (v:= .int .i64 p0.machines) rfl) ?_;refine r4 ?_;refine WC.loop (WL.lift hL (fun(p:Int×Bool×Int×Int×Bool×Int×Int×Int×Bool) (s:Fs)=>match p with | (v26,v29,v34,v36,v37,v38,v39,v40,v41)=>∃ (Zf8:Fr) (h21:H),s= ⟨Zf8,[],h21,none⟩∧Sp wm T h [bx wm b18 [.int .i64 v36,.bool v37,.int .i64 v38,.int .i64 v39,.int .i64 v40,.bool v41]] h21∧Zf8.at 0= .pointer (some ⟨Xf,UA,none⟩)∧Zf8.at 1= .int .i64 p1∧Zf8.at 2= .int .i64 p2∧Zf8.at 7= .int .i64 v26∧Zf8.at 8= .pointer (some ⟨b18,0,none⟩)∧Zf8.at 9= .bool v29∧Zf8.at 13= .int .i64 p0.machines∧Zf8.at 14= .int .i64 v7∧Zf8.at 33= .int .i64 p0.machines∧Zf8.at 34= .int .i64 v34) ⟨_,_,rfl,hS.only (.c k0 .n),Y3⟩ ?_);clear hL hS;rintro ZrN ⟨v26,v29,v34,v36,v37,v38,v39,v40,v41⟩ s Zu6 hL ⟨Zf8,h21,rfl,hS,e23,e24,e25,e27,e28,e30,e31,e32,e33,e35⟩;dsimp only [Zhm] at hL;refine r6 ?_;refine cn hL ?_ ?_
    ·intro hc hL;refine J8 ?_;refine cn hL ?_ ?_
     ·intro hc hL;refine r2 ?_;refine UX.other rfl ?_;refine r2 ?_;refine UX.other rfl ?_;refine r2 ?_;exact YS.Yw _ hL ⟨_,_,rfl,hS.only .n,Y3⟩
     ·intro hc hL;refine J8 ?_;refine r2 ?_;refine cn hL ?_ ?_
      ·intro hc hL;refine J8 ?_;refine r1 ?_;refine YS.ret ?_;refine r3 ?_;refine ZqQ.ret ?_;exact rt hL hT hS
      ·intro hc hL;refine J8 ?_;refine r1 ?_;refine WO.w gN rfl (ZU ZfX (Zt fh rfl) (At.fz hS.fz YQ YR) (j:=2) rfl (v:= .map ZF) rfl) ?_;refine r2 ?_;refine WO.w gN rfl (Y0 XK (Zh lk (Zh lk ZA)) rfl (cs':= [.int .i64 v38,.int .i64 p1]) rfl) ?_;obtain⟨x43,Znf,hL⟩:=bind_some hL;refine WO.w gN rfl (KM (kv:=Zg) (vv:=Zk) (k:= (Ze.mk v38 p1)) (z:= (Za.mk 0 false 0 0 0 false)) YI JW Ub (Zt (ZN rfl (Zf rfl fh)) rfl) (Zt fh rfl) (hS.ms ZI).at_ Znf (w:= .agg [.int .i64 x43.1.name,.bool x43.1.root,.int .i64 x43.1.from_,.int .i64 x43.1.has,.int .i64 x43.1.out,.bool x43.1.use].toArray) rfl) ?_;refine r4 ?_;rintro h44 hS;refine r8 ?_;exact YC.Yw (Zu6 _ _ hL ⟨_,_,rfl,hS.only (.c k0 .n),Y3⟩)
    ·intro hc hL;refine J8 ?_;refine cn hL ?_ ?_
     ·intro hc hL;refine r6 ?_;refine r1 ?_;refine YS.ret ?_;refine r3 ?_;refine ZqQ.ret ?_;exact rt hL hT hS
     ·intro hc hL;refine r2 ?_;exact YS.Yw _ hL ⟨_,_,rfl,hS.only .n,Y3⟩
 ·intro hc hL;refine r8 ?_;refine r3 ?_;refine ZqQ.ret ?_;exact rt hL hT hS
theorem Zzm {F:Nat} {h:H} {p0:Store} {p1 p2:Int} {ZF:Option Nat} {Zp:Option Addr} {Zo:Nat} {Zz:Option Addr} {Zy Xf UA:Nat} {r:Bool} (YR:At h Xf UA [.int .i64 p0.machines,.int .i64 p0.names,.map ZF,.slice Zp p0.notes.length Zo,.slice Zz p0.freed.length Zy]) (YQ:Stb h.size h Xf) (ZI:Ui Zg Zk h.size h ZF p0.cells) (Yr:Sl Zj h.size h Zp Zo p0.notes) (Yu:Sl (ZR .i64) h.size h Zz Zy p0.freed) (hL:Zqf F p0 p1 p2=some r):Pure XX 91 #[.pointer (some ⟨Xf,UA,none⟩),.int .i64 p1,.int .i64 p2] h (.bool r):=
 WR.QU rfl (Zzl (Nat.le_refl _) YR YQ ZI Yr Yu hL)
end Go.Proofs.Ytekpjgmhkkjhgaa
end
end
section
namespace Go.Proofs.Ytekpjgmhkkjhgaa
open Go.Lf
def Zcw (p0:(List Int)) (p1:Int):Int ->(Int ->Option Int) ->Option Int:=fun v6 Zlu=>
 (bif decide (v6 < (p0.length:Int)) then(Yh p0 v6).bind fun x9=>(bif(p1==x9) then some v6 else Zlu (ZK (v6 + 1))) else some (-1))
def Zpb (F:Nat) (p0:(List Int)) (p1:Int):Option Int:=
 loop F (Zcw p0 p1) 0
end Go.Proofs.Ytekpjgmhkkjhgaa
end
section
set_option maxRecDepth 20000
noncomputable section
namespace Go.Proofs.Ytekpjgmhkkjhgaa
open Go.Yo Go.Lf
theorem Zv3 {F wm:Nat} {h:H} {p0:(List Int)} {p1:Int} {Zr:Option Addr} {Zq:Nat} {r:Int} (ZB:wm <=h.size) (ZI:Sl (ZR .i64) wm h Zr Zq p0) (hL:Zpb F p0 p1=some r):
 WR XX 112 #[.slice Zr p0.length Zq,.int .i64 p1] wm h (CP (fun(v:Value) (Gb:List (Ast wm))=>v= .int .i64 r∧Gb= []) [] h):=by
 refine bg Try.ntmps112 ZB ZP.nil ?_;intro T hT hS;unfold Zpb at hL;refine J8 ?_;refine r2 ?_;refine WC.loop (WL.lift hL (fun(v6:Int) (s:Fs)=>∃ (JS:Fr) (h1:H),s= ⟨JS,[],h1,none⟩∧Sp wm T h [] h1∧JS.at 0= .slice Zr p0.length Zq∧JS.at 1= .int .i64 p1∧JS.at 7= .int .i64 (p0.length:Int)∧JS.at 8= .int .i64 v6) ⟨_,_,rfl,hS.only .n,Y3⟩ ?_);clear hL hS;rintro Zlu v6 s Zno hL ⟨JS,h1,rfl,hS,e3,e4,e5,e7⟩;dsimp only [Zcw] at hL;refine r6 ?_;refine cn hL ?_ ?_
 ·intro hc hL;refine J8 ?_;refine r3 ?_;obtain⟨x9,hx9,hL⟩:=bind_some hL;obtain⟨b10,o11,_,Zsy,ZsL,ZsD,ZCA⟩:=Sl.at_ ZI hx9;refine WO.w gN rfl (Z5 X9 Y4 lk lk rfl Zsy hx9) ?_;refine WO.w gN rfl (ZU Xj (Zt fh rfl) (At.fz hS.fz ZsD ZsL) (j:=0) rfl (v:= .int .i64 x9) rfl) ?_;refine r3 ?_;refine cn hL ?_ ?_
  ·intro hc hL;refine J8 ?_;exact rt hL hT hS
  ·intro hc hL;refine r6 ?_;refine r1 ?_;exact YC.Yw (Zno _ _ hL ⟨_,_,rfl,hS.only .n,Y3⟩)
 ·intro hc hL;refine r8 ?_;refine r3 ?_;exact rt hL hT hS
end Go.Proofs.Ytekpjgmhkkjhgaa
end
end
section
namespace Go.Proofs.Ytekpjgmhkkjhgaa
open Go.Lf
def Zl0 (p0:Store) (p1:Zn):Option (PR Unit):=
 (KW p0.cells (Ze.mk p1.at_ p1.name) (Za.mk 0 false 0 0 0 false)).bind fun x3=>(bif(p1.ZW==1) then(bif decide (p0.names >=12) then some (.Q6 3) else some (.ok ())) else(bif(p1.ZW==5) then(bif decide (p1.at_ >= (p0.notes.length:Int)) then some (.Q6 5) else some (.ok ())) else(bif(p1.ZW==4) then(bif((!x3.2) || (!x3.1.root)) then some (.Q6 7) else some (.ok ())) else(bif((!x3.2) || (!x3.1.use)) then some (.Q6 7) else some (.ok ())))))
def K6 (p0:Store) (p1:Zd):Option Store:=
 (app 40 p0.notes [p1]).bind fun z5=>some (Store.mk p0.machines p0.names p0.cells z5 p0.freed)
def ZlY (p0:(List Zd)) (p1:Int) (p2:Int):Option (List Zd):=
 (slL p0 p1 p2).bind fun z1=>(bif(p1==p2) then some p0 else(slL p0 0 p1).bind fun z4=>(slL p0 p2 (p0.length:Int)).bind fun z13=>(app 40 z4 z13).bind fun z17=>some z17)
def ZlX (p0:Int):Option Za:=
 some (Za.mk p0 false (-1) 0 0 false)
end Go.Proofs.Ytekpjgmhkkjhgaa
end
section
set_option maxRecDepth 20000
noncomputable section
namespace Go.Proofs.Ytekpjgmhkkjhgaa
open Go.Yo Go.Lf
theorem Zpa {wm:Nat} {h:H} {p0:Store} {p1:Zn} {ZF:Option Nat} {Zp:Option Addr} {Zo:Nat} {Zz:Option Addr} {Zy Xf UA:Nat} {r:(PR Unit)} (ZB:wm <=h.size) (YR:At h Xf UA [.int .i64 p0.machines,.int .i64 p0.names,.map ZF,.slice Zp p0.notes.length Zo,.slice Zz p0.freed.length Zy]) (YQ:Stb wm h Xf) (ZI:Ui Zg Zk wm h ZF p0.cells) (Yr:Sl Zj wm h Zp Zo p0.notes) (Yu:Sl (ZR .i64) wm h Zz Zy p0.freed) (hL:Zl0 p0 p1=some r):
 WF XX 115 #[.pointer (some ⟨Xf,UA,none⟩),.agg [.int .i64 p1.ZW,.int .i64 p1.at_,.int .i64 p1.name,.int .i64 p1.Zv].toArray] wm h (PQ 32 (fun(r:Unit) (v:Value) (Gb:List (Ast wm))=>v= .tuple [].toArray∧Gb= []) [] h r):=by
 refine WF.Zfo (args:= [_,_]) (fn:=Try.f115) (by kernel_rfl) (by exact rfl) Try.ntmps115 (by simp) ?_;simp only [ZC,ZJ,Nat.reduceAdd];obtain⟨T,hT,hS⟩:∃ T,T=Xw (wm:=wm) []∧Sp wm T h [] h:= ⟨_,rfl,Sp.start ZB ZP.nil⟩
 unfold Zl0 at hL;refine r3 ?_;rintro _ h2 ⟨b1,eb1,rfl,hS⟩;refine r3 ?_;refine WC.Yp mixed (by kernel_rfl) ?_;refine r3 ?_;refine WX.w gN rfl (ZU ZfX (Zt fh rfl) (At.fz hS.fz YQ YR) (j:=2) rfl (v:= .map ZF) rfl) ?_ rfl;refine r4 ?_;refine WX.w gN rfl (Y0 XK (Zh lk (Zh lk ZA)) rfl (cs':= [.int .i64 p1.at_,.int .i64 p1.name]) rfl) ?_ rfl;obtain⟨x3,hx3,hL⟩:=bind_some hL;refine WX.w gN rfl (KM (kv:=Zg) (vv:=Zk) (k:= (Ze.mk p1.at_ p1.name)) (z:= (Za.mk 0 false 0 0 0 false)) YI JW Ub (Zt (Ye rfl (Zf rfl fh)) rfl) (Zt fh rfl) (hS.ms ZI).at_ hx3 (w:= .agg [.int .i64 x3.1.name,.bool x3.1.root,.int .i64 x3.1.from_,.int .i64 x3.1.has,.int .i64 x3.1.out,.bool x3.1.use].toArray) rfl) ?_ rfl;refine r3 ?_;refine WX.hn gN rfl (ZiI hS Ub (vs:= [.int .i64 0,.bool false,.int .i64 0,.int .i64 0,.int .i64 0,.bool false]) rfl) ?_ rfl;rintro _ h5 ⟨b4,eb4,rfl,hS⟩;refine WX.hu gN (UW hS k0 Uc lk lk (vs:= [.int .i64 x3.1.name,.bool x3.1.root,.int .i64 x3.1.from_,.int .i64 x3.1.has,.int .i64 x3.1.out,.bool x3.1.use]) rfl rfl rfl rfl (cs':= [.int .i64 x3.1.name,.bool x3.1.root,.int .i64 x3.1.from_,.int .i64 x3.1.has,.int .i64 x3.1.out,.bool x3.1.use]) rfl) ?_ rfl rfl [] (by kernel_rfl) Z8.e;rintro h6 hS;refine WX.w gN rfl (Z6 lk) ?_ (by kernel_rfl);refine J8 ?_;refine r3 ?_;refine cn hL ?_ ?_
 ·intro hc hL;refine r4 ?_;refine r1 ?_;refine WO.w gN rfl (ZU Xj (Zt fh rfl) (At.fz hS.fz YQ YR) (j:=1) rfl (v:= .int .i64 p0.names) rfl) ?_;refine r3 ?_;refine cn hL ?_ ?_
  ·intro hc hL;refine r1 ?_;refine WO.w gN rfl (Zfp lk (by kernel_rfl)) ?_;refine WO.pnc gN lk ?_;refine UX.panic ?_;refine XP.ofX ?_;refine ZaO.Q6 ?_;have hr:=Option.some.inj hL;subst hr;exact⟨rfl,hT ▸ hS.only .n⟩
  ·intro hc hL;refine r2 ?_;refine XP.Yw ?_;have hr:=Option.some.inj hL;subst hr;exact XP.ZsQ rfl Zm rfl ⟨_,⟨rfl,rfl⟩,hT ▸ hS.only .n⟩
 ·intro hc hL;refine r6 ?_;refine cn hL ?_ ?_
  ·intro hc hL;refine r1 ?_;refine WC.Yp mixed (by kernel_rfl) ?_;refine r4 ?_;refine r1 ?_;refine WX.w gN rfl (ZU ZmC (Zt fh rfl) (At.fz hS.fz YQ YR) (j:=3) rfl (v:= .slice Zp p0.notes.length Zo) rfl) ?_ rfl;refine r4 ?_;refine cn hL ?_ ?_
   ·intro hc hL;refine r1 ?_;refine WO.w gN rfl (Zfp lk (by kernel_rfl)) ?_;refine WO.pnc gN lk ?_;refine UX.panic ?_;refine XP.ofX ?_;refine ZaO.Q6 ?_;have hr:=Option.some.inj hL;subst hr;exact⟨rfl,hT ▸ hS.only .n⟩
   ·intro hc hL;refine r2 ?_;refine XP.Yw ?_;have hr:=Option.some.inj hL;subst hr;exact XP.ZsQ rfl Zm rfl ⟨_,⟨rfl,rfl⟩,hT ▸ hS.only .n⟩
  ·intro hc hL;refine r6 ?_;refine cn hL ?_ ?_
   ·intro hc hL;refine r8 ?_;refine r3 ?_;refine cn hL ?_ ?_
    ·intro hc hL;refine r1 ?_;refine WO.w gN rfl (Zfp lk (by kernel_rfl)) ?_;refine WO.pnc gN lk ?_;refine UX.panic ?_;refine XP.ofX ?_;refine ZaO.Q6 ?_;have hr:=Option.some.inj hL;subst hr;exact⟨rfl,hT ▸ hS.only .n⟩
    ·intro hc hL;refine r2 ?_;refine XP.Yw ?_;have hr:=Option.some.inj hL;subst hr;exact XP.ZsQ rfl Zm rfl ⟨_,⟨rfl,rfl⟩,hT ▸ hS.only .n⟩
   ·intro hc hL;refine r8 ?_;refine r3 ?_;refine cn hL ?_ ?_
    ·intro hc hL;refine r1 ?_;refine WO.w gN rfl (Zfp lk (by kernel_rfl)) ?_;refine WO.pnc gN lk ?_;refine UX.panic ?_;refine XP.ofX ?_;refine ZaO.Q6 ?_;have hr:=Option.some.inj hL;subst hr;exact⟨rfl,hT ▸ hS.only .n⟩
    ·intro hc hL;refine r2 ?_;refine XP.Yw ?_;have hr:=Option.some.inj hL;subst hr;exact XP.ZsQ rfl Zm rfl ⟨_,⟨rfl,rfl⟩,hT ▸ hS.only .n⟩
theorem Zgq {wm:Nat} {h:H} {p0:Store} {p1:Zd} {ZF:Nat} {Zp:Option Addr} {Zo Xh:Nat} {Zz:Option Addr} {Zy XE Xf:Nat} {r:Store} (ZB:wm <=h.size) (hO:ZP (wm:=wm) [bx wm Xf [.int .i64 p0.machines,.int .i64 p0.names,.map (some ZF),.slice Zp Xh Zo,.slice Zz XE Zy],mp wm Zg Zk (some ZF) p0.cells,ow wm Zj Zp Xh Zo p0.notes,ow wm (ZR .i64) Zz XE Zy p0.freed] h) (hL:K6 p0 p1=some r):
 WR XX 117 #[.pointer (some ⟨Xf,0,none⟩),.agg [.int .i64 p1.kind,.int .i64 p1.Zv,.int .i64 p1.name,.int .i64 p1.via,.int .i64 p1.w].toArray] wm h (CP (fun(v:Value) (Gb:List (Ast wm))=>∃ (Jm:Nat) (Js:Option Addr) (Jk:Nat) (Jp:Nat) (Jr:Option Addr) (Jj:Nat) (Jo:Nat),v= .tuple [].toArray∧Gb= [bx wm Xf [.int .i64 r.machines,.int .i64 r.names,.map (some Jm),.slice Js Jk Jp,.slice Jr Jj Jo],mp wm Zg Zk (some Jm) r.cells,ow wm Zj Js Jk Jp r.notes,ow wm (ZR .i64) Jr Jj Jo r.freed]) [bx wm Xf [.int .i64 p0.machines,.int .i64 p0.names,.map (some ZF),.slice Zp Xh Zo,.slice Zz XE Zy],mp wm Zg Zk (some ZF) p0.cells,ow wm Zj Zp Xh Zo p0.notes,ow wm (ZR .i64) Zz XE Zy p0.freed] h):=by
 refine bg Try.ntmps117 ZB hO ?_;intro T hT hS;unfold K6 at hL;obtain rfl:=hS.on k2;obtain rfl:=hS.on k3;refine r3 ?_;rintro _ h2 ⟨b1,eb1,rfl,hS⟩;refine r2 ?_;refine WC.Yp mixed (by kernel_rfl) ?_;refine r6 ?_;refine WX.hn gN rfl (Zf2 (e:=Zj) hS UD XB Zep rfl rfl rfl (Zh lk ZA) rfl [((),p1)] rfl (xs:= [p1]) rfl (by intro q hq;simp only [List.mem_cons,List.not_mem_nil,or_false] at hq;subst hq;exact trivial) rfl) ?_ rfl;rintro _ h4 ⟨b3,eb3,rfl,hS⟩;obtain⟨z5,hz5,hL⟩:=bind_some hL;refine WX.hv gN rfl (ZdJ (e:=Zj) hS k4 ZhS lk lk (hS.Q7 k0) (hS.on k0) hz5) ?_ rfl rfl [] (by kernel_rfl) Z8.e;rintro _ h8 ⟨a6,c7,rfl,hS⟩;refine WX.w gN rfl (Zn6 lk) ?_ (by kernel_rfl);refine WX.w gN rfl (Xl Zj1 lk) ?_ (by kernel_rfl);refine WX.hu gN (UW hS k3 ZmY lk lk (vs:= [.slice a6 z5.length c7]) rfl rfl rfl rfl (cs':= [.int .i64 p0.machines,.int .i64 p0.names,.map (some ZF),.slice a6 z5.length c7,.slice Zz p0.freed.length Zy]) rfl) ?_ rfl (by kernel_rfl) [] (by kernel_rfl) Z8.e;rintro h9 hS;refine r1 ?_;refine ZT.Yw ?_;have hr:=Option.some.inj hL;subst hr;exact ZT.gen (vs:= []) rfl Zm rfl ⟨_,⟨ZF,a6,z5.length,c7,Zz,p0.freed.length,Zy,rfl,rfl⟩,hT ▸ hS.only (.c k0 (.c k3 (.c k0 (.c k2 .n))))⟩
theorem ZvZ {wm:Nat} {h:H} {p0:(List Zd)} {p1 p2:Int} {Zr:Option Addr} {Zq Xn:Nat} {r:(List Zd)} (ZB:wm <=h.size) (hO:ZP (wm:=wm) [ow wm Zj Zr Xn Zq p0] h) (hL:ZlY p0 p1 p2=some r):
 WR XX 118 #[.slice Zr Xn Zq,.int .i64 p1,.int .i64 p2] wm h (CP (fun(v:Value) (Gb:List (Ast wm))=>∃ (XT:Option Addr) (XQ:Nat) (XR:Nat),v= .slice XT XQ XR∧Gb= [ow wm Zj XT XQ XR r]) [ow wm Zj Zr Xn Zq p0] h):=by
 refine bg Try.ntmps118 ZB hO ?_;intro T hT hS;unfold ZlY at hL;obtain rfl:=hS.on k0;refine J8 ?_;obtain⟨z1,hz1,hL⟩:=bind_some hL;refine WO.he gN rfl (Zrn (hS.get k0).2 rfl UD XB (Zt (Ye rfl fh) rfl) (Zt (ZN rfl (Zf rfl fh)) rfl) (Zt (ZN rfl fh) rfl) (Zt fh rfl) hz1) ?_;rintro v2 hv3;refine r8 ?_;refine r2 ?_;refine cn hL ?_ ?_
 ·intro hc hL;refine r8 ?_;have hr:=Option.some.inj hL;subst hr;exact ZT.Je rfl (ZE lk Zm) ⟨_,⟨Zr,p0.length,Zq,rfl,rfl⟩,hT ▸ hS.only (.c k0 .n)⟩
 ·intro hc hL;refine r8 ?_;refine r2 ?_;refine WC.Yp mixed (by kernel_rfl) ?_;refine r2 ?_;obtain⟨z4,hz4,hL⟩:=bind_some hL;have Zhf:= (hS.get k0).2.cap;refine WX.he gN rfl (Zrl (hS.get k0).2 rfl UD XB (Zt (Zf rfl fh) rfl) (Zt fh rfl) hz4) ?_ rfl;rintro _ ⟨a5,c6,ea7,ec8,rfl,Zyt⟩;have Zti:=ec8.symm;refine r2 ?_;obtain⟨z13,Znd,hL⟩:=bind_some hL;refine WX.he gN rfl (Zro (hS.get k0).2 rfl UD XB (Zt (Zf rfl fh) rfl) (.inr ⟨_,YB (Zt fh rfl)⟩) (.inl ⟨rfl,rfl⟩) Znd) ?_ rfl;rintro _ ⟨a14,c15,rfl,Zys⟩;obtain⟨z17,Znc,hL⟩:=bind_some hL;have Zyh:= (Zys.own (hS.get k0).2).src;have hS:=hS.sub k0 Zyt;refine WX.hv gN rfl (ZwL (e:=Zj) hS k0 ZhS lk lk Zyh rfl Znc (Zti ▸ Nat.le_trans (Zgt hz1 hz4 Znd Znc) Zhf)) ?_ rfl rfl [] (by kernel_rfl) Z8.e;rintro _ h19 ⟨rfl,hS⟩;refine WX.w gN rfl (Z6 lk) ?_ (by kernel_rfl);refine r8 ?_;refine WO.he gN rfl (Zrk (hS.get k0).2 UD XB (Zt (ZN rfl (Zf rfl fh)) rfl) (Zt (Zf rfl fh) rfl) (Zt fh rfl) (Zgt hz1 hz4 Znd Znc) (Zti ▸ Zhf)) ?_;rintro _ ⟨a20,c21,rfl,Zyv⟩;refine WO.hw gN (ZwK hS k0 Zyv rfl UD Zep rfl (Zt fh rfl)) ?_;rintro h24 hS;refine r8 ?_;refine r1 ?_;have hr:=Option.some.inj hL;subst hr;exact ZT.Je rfl (ZE lk Zm) ⟨_,⟨a5,z17.length,c6,rfl,rfl⟩,hT ▸ hS.only (.c k0 .n)⟩
theorem Zo9 {wm:Nat} {h:H} {p0:Int} {r:Za} (ZB:wm <=h.size) (hL:ZlX p0=some r):
 WR XX 119 #[.int .i64 p0] wm h (CP (fun(v:Value) (Gb:List (Ast wm))=>v= .agg [.int .i64 r.name,.bool r.root,.int .i64 r.from_,.int .i64 r.has,.int .i64 r.out,.bool r.use].toArray∧Gb= []) [] h):=by
 refine bg Try.ntmps119 ZB ZP.nil ?_;intro T hT hS;unfold ZlX at hL;refine r3 ?_;rintro _ h2 ⟨b1,eb1,rfl,hS⟩;refine r4 ?_;refine r1 ?_;refine WO.w gN rfl (Xt Zxz (Zh lk (Zh lk ZA)) rfl (cs':= [.int .i64 p0,.bool false,.int .i64 (-1),.int .i64 0,.int .i64 0,.bool false]) rfl) ?_;refine r1 ?_;rintro h3 hS;refine r3 ?_;have hr:=Option.some.inj hL;subst hr;exact ZT.Je rfl (ZO (ZN rfl fh) (Z7 ZhT Uc (hS.Qo k0) (j:=0) rfl rfl (ws:= [.int .i64 p0,.bool false,.int .i64 (-1),.int .i64 0,.int .i64 0,.bool false]) rfl) Zm) ⟨_,⟨rfl,rfl⟩,hT ▸ hS.only .n⟩
end Go.Proofs.Ytekpjgmhkkjhgaa
end
end
section
namespace Go.Proofs.Ytekpjgmhkkjhgaa
open Go.Lf
def ZhB (p0:Store) (p1:Int):Option Bool:=
 some ((decide (p1 >=0)) && (decide (p1 < p0.machines)))
def Zi5 (p0:Int):Option Bool:=
 some (p0 !=p0)
end Go.Proofs.Ytekpjgmhkkjhgaa
end
section
set_option maxRecDepth 20000
noncomputable section
namespace Go.Proofs.Ytekpjgmhkkjhgaa
open Go.Yo Go.Lf
theorem Zkm {wm:Nat} {h:H} {p0:Store} {p1:Int} {ZF:Option Nat} {Zp:Option Addr} {Zo:Nat} {Zz:Option Addr} {Zy Xf UA:Nat} {r:Bool} (ZB:wm <=h.size) (YR:At h Xf UA [.int .i64 p0.machines,.int .i64 p0.names,.map ZF,.slice Zp p0.notes.length Zo,.slice Zz p0.freed.length Zy]) (YQ:Stb wm h Xf) (ZI:Ui Zg Zk wm h ZF p0.cells) (Yr:Sl Zj wm h Zp Zo p0.notes) (Yu:Sl (ZR .i64) wm h Zz Zy p0.freed) (hL:ZhB p0 p1=some r):
 WR XX 124 #[.pointer (some ⟨Xf,UA,none⟩),.int .i64 p1] wm h (CP (fun(v:Value) (Gb:List (Ast wm))=>v= .bool r∧Gb= []) [] h):=by
 refine bg Try.ntmps124 ZB ZP.nil ?_;intro T hT hS;unfold ZhB at hL;refine J8 ?_;refine r2 ?_;refine WO.gv (Zi.yes rfl rfl rfl (Ye rfl fh)) rfl (fun hg=>(ZU Xj (XJ fh rfl hg) (At.fz hS.fz YQ YR) (j:=0) rfl (v:= .int .i64 p0.machines) rfl)) ?_;refine r6 ?_;exact rt hL hT hS
theorem ZvS {wm:Nat} {h:H} {p0:Int} {r:Bool} (ZB:wm <=h.size) (hL:Zi5 p0=some r):
 WR XX 143 #[.int .i64 p0] wm h (CP (fun(v:Value) (Gb:List (Ast wm))=>v= .bool r∧Gb= []) [] h):=by
 refine bg Try.ntmps143 ZB ZP.nil ?_;intro T hT hS;unfold Zi5 at hL;refine J8 ?_;refine r2 ?_;exact rt hL hT hS
theorem Zo1 {h:H} {p0:Int} {r:Bool} (hL:Zi5 p0=some r):Pure XX 143 #[.int .i64 p0] h (.bool r):=
 WR.QU rfl (ZvS (Nat.le_refl _) hL)
end Go.Proofs.Ytekpjgmhkkjhgaa
end
end
section
namespace Go.Proofs.Ytekpjgmhkkjhgaa
open Go.Lf
def Zkh (F:Nat) (p0:(List YM)) (p1:YM):Option Bool:=
 (ZvQ F p0 p1).bind fun x3=>some (decide (x3 >=0))
def Ze2 (p0:Store) (x7:(List Zd)) (x13:(List Int)):(List (List Za)) ->Option Zb:=fun v31=>
 some (Zb.mk v31 x7 p0.names x13)
def Zkd (p0:Store) (x7:(List Zd)) (x13:(List Int)) (v40:Int) (U7:(Int×(List (List Za)) ->Option Zb)):Int×(List (List Za)) ->(Int×(List (List Za)) ->Option Zb) ->Option Zb:=fun(v50,v52) ZbL=>
 (bif decide (v50 < p0.names) then(KW p0.cells (Ze.mk v40 v50) (Za.mk 0 false 0 0 0 false)).bind fun x55=>(bif x55.2 then(Yh v52 v40).bind fun x66=>(app 48 x66 [x55.1]).bind fun z74=>(Yh v52 v40).bind fun x78=>(bif(!true) then(Ze2 p0 x7 x13) (Jh v52 v40 z74) else ZbL (ZK (v50 + 1),Jh v52 v40 z74)) else ZbL (ZK (v50 + 1),v52)) else U7 (ZK (v40 + 1),v52))
def Zke (F:Nat) (p0:Store) (x7:(List Zd)) (x13:(List Int)):Int×(List (List Za)) ->(Int×(List (List Za)) ->Option Zb) ->Option Zb:=fun(v40,v42) U7=>
 (bif decide (v40 < p0.machines) then loop F (Zkd p0 x7 x13 v40 U7) (0,v42) else(Ze2 p0 x7 x13) v42)
def ZlV (F:Nat) (p0:Store):Option Zb:=
 (mkL ([]:(List Za)) 24 p0.machines p0.machines).bind fun z3=>(ZnL p0.notes).bind fun x7=>(ZnK p0.freed).bind fun x13=>loop F (Zke F p0 x7 x13) (0,z3)
def Zak (v24:Int) (ZjF:(Int×(List (Ze×Za)) ->Option Store)) (x28:(List Za)):Int×(List (Ze×Za)) ->(Int×(List (Ze×Za)) ->Option Store) ->Option Store:=fun(v42,v44) ZrM=>
 (bif decide (v42 < (x28.length:Int)) then(Yh x28 v42).bind fun x46=>ZrM (ZK (v42 + 1),YV v44 (Ze.mk v24 x46.name) x46) else ZjF (ZK (v24 + 1),v44))
def Zal (F:Nat) (p0:Zb) (x5:(List Zd)) (x11:(List Int)):Int×(List (Ze×Za)) ->(Int×(List (Ze×Za)) ->Option Store) ->Option Store:=fun(v24,v26) ZjF=>
 (bif decide (v24 < (p0.cells.length:Int)) then(Yh p0.cells v24).bind fun x28=>loop F (Zak v24 ZjF x28) (0,v26) else some (Store.mk (p0.cells.length:Int) p0.names v26 x5 x11))
def Zig (F:Nat) (p0:Zb):Option Store:=
 (ZnL p0.notes).bind fun x5=>(ZnK p0.freed).bind fun x11=>loop F (Zal F p0 x5 x11) (0,[])
end Go.Proofs.Ytekpjgmhkkjhgaa
end
section
set_option maxRecDepth 20000
noncomputable section
namespace Go.Proofs.Ytekpjgmhkkjhgaa
open Go.Yo Go.Lf
theorem ZzB {F wm:Nat} {h:H} {p0:(List YM)} {p1:YM} {Zr:Option Addr} {Zq:Nat} {r:Bool} (ZB:wm <=h.size) (ZI:Sl Yy wm h Zr Zq p0) (hL:Zkh F p0 p1=some r):
 WR XX 43 #[.slice Zr p0.length Zq,.agg [.int .i64 p1.at_,.int .i64 p1.name].toArray] wm h (CP (fun(v:Value) (Gb:List (Ast wm))=>v= .bool r∧Gb= []) [] h):=by
 refine bg Try.ntmps43 ZB ZP.nil ?_;intro T hT hS;unfold Zkh at hL;refine r3 ?_;rintro _ h2 ⟨b1,eb1,rfl,hS⟩;refine r6 ?_;refine r1 ?_;obtain⟨x3,hx3,hL⟩:=bind_some hL;refine WO.cp gN rfl (Xd.fn ZBV (Zc lk (Zc lk Zl))) (WR.QU rfl (Zzs (Nat.le_refl _) (hS.slu ZI) hx3)) ?_;refine r4 ?_;refine r1 ?_;exact rt hL hT hS
theorem ZnQ {F:Nat} {h:H} {p0:(List YM)} {p1:YM} {Zr:Option Addr} {Zq:Nat} {r:Bool} (ZI:Sl Yy h.size h Zr Zq p0) (hL:Zkh F p0 p1=some r):Pure XX 43 #[.slice Zr p0.length Zq,.agg [.int .i64 p1.at_,.int .i64 p1.name].toArray] h (.bool r):=
 WR.QU rfl (ZzB (Nat.le_refl _) ZI hL)
theorem ZnP {F wm:Nat} {h:H} {p0:Store} {ZF:Option Nat} {Zp:Option Addr} {Zo:Nat} {Zz:Option Addr} {Zy Xf UA:Nat} {r:Zb} (ZB:wm <=h.size) (YR:At h Xf UA [.int .i64 p0.machines,.int .i64 p0.names,.map ZF,.slice Zp p0.notes.length Zo,.slice Zz p0.freed.length Zy]) (YQ:Stb wm h Xf) (ZI:Ui Zg Zk wm h ZF p0.cells) (Yr:Sl Zj wm h Zp Zo p0.notes) (Yu:Sl (ZR .i64) wm h Zz Zy p0.freed) (hL:ZlV F p0=some r):
 WR XX 52 #[.pointer (some ⟨Xf,UA,none⟩)] wm h (CP (fun(v:Value) (Gb:List (Ast wm))=>∃ (XT:Option Addr) (XQ:Nat) (XR:Nat) (Za0:Nat ->Option Addr×Nat×Nat) (Jt:Option Addr) (Jl:Nat) (Jq:Nat) (Un:Option Addr) (Ul:Nat) (Um:Nat),v= .agg [.slice XT XQ XR,.slice Jt Jl Jq,.int .i64 r.names,.slice Un Ul Um].toArray∧Gb= [nst wm (Xi ZG) XT XQ XR Za0 r.cells,ow wm Zj Jt Jl Jq r.notes,ow wm (ZR .i64) Un Ul Um r.freed]) [] h):=by
 refine WF.Zfo (args:= [_]) (fn:=Try.f52) (by kernel_rfl) (by exact rfl) Try.ntmps52 (by simp) ?_;simp only [ZC,ZJ,Nat.reduceAdd];obtain⟨T,hT,hS⟩:∃ T,T=Xw (wm:=wm) []∧Sp wm T h [] h:= ⟨_,rfl,Sp.start ZB ZP.nil⟩
 unfold ZlV at hL;refine r3 ?_;rintro _ h2 ⟨b1,eb1,rfl,hS⟩;refine r3 ?_;refine WC.Yp mixed (by kernel_rfl) ?_;refine r3 ?_;refine WX.w gN rfl (ZU Xj (Zt fh rfl) (At.fz hS.fz YQ YR) (j:=0) rfl (v:= .int .i64 p0.machines) rfl) ?_ rfl;obtain⟨z3,hz3,hL⟩:=bind_some hL;refine WX.hn gN rfl (ZAW (e:= (Xi ZG)) (x0:= ([]:(List Za))) (none,0,0) hS ZgE Zby (ZzV) Zq0 rfl rfl (Zt fh rfl) (Zt fh rfl) rfl ZrS.1 ZrS.2 hz3) ?_ rfl;rintro _ h5 ⟨b4,c6,eb4,rfl,hS⟩;refine r3 ?_;refine WX.w gN rfl (ZU ZmC (Zt fh rfl) (At.fz hS.fz YQ YR) (j:=3) rfl (v:= .slice Zp p0.notes.length Zo) rfl) ?_ rfl;obtain⟨x7,hx7,hL⟩:=bind_some hL;refine WX.cl0 gN rfl (Xd.fn Zxe (Zc lk Zl)) hS .n (fun g' hz hf hO=>Zs2 (by rw [hz];exact hS.hw) ((hS.sl Yr).mono hf) hx7) ?_ rfl rfl;rintro _ h11 _ ⟨a8,n9,c10,rfl,rfl⟩ hS;obtain rfl:=hS.on k0;refine r3 ?_;refine WX.w gN rfl (ZU Xj (Zt fh rfl) (At.fz hS.fz YQ YR) (j:=1) rfl (v:= .int .i64 p0.names) rfl) ?_ rfl;refine r3 ?_;refine WX.w gN rfl (ZU ZtR (Zt fh rfl) (At.fz hS.fz YQ YR) (j:=4) rfl (v:= .slice Zz p0.freed.length Zy) rfl) ?_ rfl;obtain⟨x13,Zr7,hL⟩:=bind_some hL;refine WX.cl0 gN rfl (Xd.fn Zxd (Zc lk Zl)) hS .n (fun g' hz hf hO=>Zs1 (by rw [hz];exact hS.hw) ((hS.sl Yu).mono hf) Zr7) ?_ rfl rfl;rintro _ h17 _ ⟨a14,n15,c16,rfl,rfl⟩ hS;obtain rfl:=hS.on k0;refine WX.w gN rfl (Xt Zmq (Zh lk (Zh lk (Zh lk (Zh lk ZA)))) rfl (cs':= [.slice (some ⟨b4,0,none⟩) z3.length c6,.slice a8 x7.length c10,.int .i64 p0.names,.slice a14 x13.length c16]) rfl) ?_ rfl;refine WX.hn gN rfl (ZiI hS ZmI (vs:= [.slice none 0 0,.slice none 0 0,.int .i64 0,.slice none 0 0]) rfl) ?_ rfl;rintro _ h20 ⟨b19,ZGw,rfl,hS⟩;refine WX.hu gN (UW hS k0 QJ lk lk (vs:= [.slice (some ⟨b4,0,none⟩) z3.length c6,.slice a8 x7.length c10,.int .i64 p0.names,.slice a14 x13.length c16]) rfl rfl rfl rfl (cs':= [.slice (some ⟨b4,0,none⟩) z3.length c6,.slice a8 x7.length c10,.int .i64 p0.names,.slice a14 x13.length c16]) rfl) ?_ rfl rfl [] (by kernel_rfl) Z8.e;rintro h21 hS;refine r6 ?_;refine WO.inl gN rfl (Xd.fn Zsj (Zc lk Zl)) (WF.begin (args:= [_]) (fn:=Try.f71) (by kernel_rfl) (by exact rfl) Try.ntmps71 (by simp) ?_);simp only [ZC,ZJ,Nat.reduceAdd];refine r3 ?_;rintro _ h23 ⟨b22,ZKq,rfl,hS⟩;refine r4 ?_;refine r1 ?_;refine WO.w gN rfl (Zdr (Zc lk Zl)) ?_;refine r4 ?_;refine ZT.Je rfl (ZE lk Zm) ?_;refine r3 ?_;refine WC.Zm0 (first:= []) (cap:= [.pointer (some ⟨b22,0,none⟩)]) hS lk Znw ?_;intro h24 l25 ZzM Zz9 ZoR hS;refine WR.ZpV (r:=r) (fun(v31:(List (List Za))) (v:Value) (h29:H)=>∃ (Zx8:Nat ->Option Addr×Nat×Nat),v= .tuple [].toArray∧Sp wm T h [bx wm b1 [.slice none 0 0,.slice none 0 0,.int .i64 0,.slice none 0 0],bx wm b19 [.slice (some ⟨b4,0,none⟩) z3.length c6,.slice a8 x7.length c10,.int .i64 p0.names,.slice a14 x13.length c16],bx wm b22 [.pointer (some ⟨Xf,UA,none⟩)],nst wm (Xi ZG) (some ⟨b4,0,none⟩) z3.length c6 Zx8 v31,ow wm Zj a8 x7.length c10 x7,ow wm (ZR .i64) a14 x13.length c16 x13,ob wm l25 Zz9,ob wm ZzM .deferred] h29) (Ze2 p0 x7 x13) ?_ (WF.begin (args:= [_,_]) (fn:=Try.f110) (by kernel_rfl) (by exact rfl) Try.ntmps110 (by simp) ?_)
 ·clear hL hS;rintro v31 v h29 hL ⟨Zx8,rfl,hS⟩;dsimp only [Ze2] at hL;refine RgE.sp ZoR hS k6 ?_;rintro h33 hS;refine r6 ?_;rintro h34 hS;refine r3 ?_;refine XP.ZzO hS k6 ?_;rintro h35 hS;have hr:=Option.some.inj hL;subst hr;exact XP.gen rfl (ZO (ZM rfl (ZM rfl (ZM rfl fh))) (Z7 ZaM QJ (hS.Qo k0) (j:=0) rfl rfl (ws:= [.slice (some ⟨b4,0,none⟩) z3.length c6,.slice a8 x7.length c10,.int .i64 p0.names,.slice a14 x13.length c16]) rfl) Zm) rfl ⟨_,⟨(some ⟨b4,0,none⟩),z3.length,c6,Zx8,a8,x7.length,c10,a14,x13.length,c16,rfl,rfl⟩,hT ▸ hS.only (.c k3 (.c k3 (.c k3 .n)))⟩
 ·skip;simp only [ZC,ZJ,Nat.reduceAdd];refine r6 ?_;refine WC.loop (WL.lift hL (fun(p:Int×(List (List Za))) (s:Fs)=>match p with | (v40,v42)=>∃ (ZeR:Fr) (h36:H) (ZuE:Nat ->Option Addr×Nat×Nat),s= ⟨ZeR,[],h36,none⟩∧Sp wm T h [bx wm b22 [.pointer (some ⟨Xf,UA,none⟩)],bx wm b1 [.slice none 0 0,.slice none 0 0,.int .i64 0,.slice none 0 0],bx wm b19 [.slice (some ⟨b4,0,none⟩) z3.length c6,.slice a8 x7.length c10,.int .i64 p0.names,.slice a14 x13.length c16],nst wm (Xi ZG) (some ⟨b4,0,none⟩) z3.length c6 ZuE v42,ow wm Zj a8 x7.length c10 x7,ow wm (ZR .i64) a14 x13.length c16 x13,ob wm l25 Zz9,ob wm ZzM .deferred] h36∧ZeR.at 0= .func (.yield l25) #[] #[]∧ZeR.at 1= .pointer (some ⟨b22,0,none⟩)∧ZeR.at 3= .int .i64 v40) ⟨_,_,(fun _=>(none,0,0)),rfl,hS.only (.c k2 (.c k6 (.c k2 (.c k4 (.c k3 (.c k2 (.c k0 (.c k0 .n)))))))),Y3⟩ ?_);clear hL hS;rintro U7 ⟨v40,v42⟩ s ZjP hL ⟨ZeR,h36,ZuE,rfl,hS,e38,e39,e41⟩;dsimp only [Zke] at hL;refine r6 ?_;refine r1 ?_;refine WO.w gN rfl (ZU Xj (Zt fh rfl) (At.fz hS.fz YQ YR) (j:=0) rfl (v:= .int .i64 p0.machines) rfl) ?_;refine r3 ?_;refine cn hL ?_ ?_
  ·intro hc hL;refine r8 ?_;refine r2 ?_;refine WC.loop (WL.lift hL (fun(p:Int×(List (List Za))) (s:Fs)=>match p with | (v50,v52)=>∃ (Zbb:Fr) (h45:H) (ZuD:Nat ->Option Addr×Nat×Nat),s= ⟨Zbb,[],h45,none⟩∧Sp wm T h [bx wm b22 [.pointer (some ⟨Xf,UA,none⟩)],bx wm b1 [.slice none 0 0,.slice none 0 0,.int .i64 0,.slice none 0 0],bx wm b19 [.slice (some ⟨b4,0,none⟩) z3.length c6,.slice a8 x7.length c10,.int .i64 p0.names,.slice a14 x13.length c16],nst wm (Xi ZG) (some ⟨b4,0,none⟩) z3.length c6 ZuD v52,ow wm Zj a8 x7.length c10 x7,ow wm (ZR .i64) a14 x13.length c16 x13,ob wm l25 Zz9,ob wm ZzM .deferred] h45∧Zbb.at 0= .func (.yield l25) #[] #[]∧Zbb.at 1= .pointer (some ⟨b22,0,none⟩)∧Zbb.at 3= .int .i64 v40∧Zbb.at 4= .int .i64 v50) ⟨_,_,ZuE,rfl,hS.only (.c k0 (.c k0 (.c k0 (.c k0 (.c k0 (.c k0 (.c k0 (.c k0 .n)))))))),Y3⟩ ?_);clear hL hS;rintro ZbL ⟨v50,v52⟩ s Zgm hL ⟨Zbb,h45,ZuD,rfl,hS,e47,e48,e49,e51⟩;dsimp only [Zkd] at hL;refine r6 ?_;refine r1 ?_;refine WO.w gN rfl (ZU Xj (Zt fh rfl) (At.fz hS.fz YQ YR) (j:=1) rfl (v:= .int .i64 p0.names) rfl) ?_;refine r3 ?_;refine cn hL ?_ ?_
   ·intro hc hL;refine r8 ?_;refine r1 ?_;refine WO.w gN rfl (ZU ZfX (Zt fh rfl) (At.fz hS.fz YQ YR) (j:=2) rfl (v:= .map ZF) rfl) ?_;refine r2 ?_;refine WO.w gN rfl (Y0 XK (Zh lk (Zh lk ZA)) rfl (cs':= [.int .i64 v40,.int .i64 v50]) rfl) ?_;obtain⟨x55,ZpW,hL⟩:=bind_some hL;refine WO.w gN rfl (KM (kv:=Zg) (vv:=Zk) (k:= (Ze.mk v40 v50)) (z:= (Za.mk 0 false 0 0 0 false)) YI JW Ub (Zt (ZN rfl (Zf rfl fh)) rfl) (Zt fh rfl) (hS.ms ZI).at_ ZpW (w:= .agg [.int .i64 x55.1.name,.bool x55.1.root,.int .i64 x55.1.from_,.int .i64 x55.1.has,.int .i64 x55.1.out,.bool x55.1.use].toArray) rfl) ?_;refine r4 ?_;rintro _ h57 ⟨b56,ZKl,rfl,hS⟩;refine r1 ?_;rintro h58 hS;refine r8 ?_;refine r2 ?_;refine WO.ZjW (Zi.yes rfl rfl rfl (ZN rfl (Zf rfl fh))) (fun Zf5=>?_) (fun Zf5=>?_)
    ·replace hL:=Wq Zf5 hL;refine WO.ZxO (Zi.on (Zi.yes rfl rfl rfl (ZN rfl (Zf rfl fh))) Zf5) rfl (XJ (ZN rfl fh) rfl Zf5) (Zc (XJ (Zf rfl fh) rfl Zf5) (Zc (XJ fh rfl Zf5) Zl)) hS k7 ZoR rfl rfl ?_;refine r6 ?_;refine r1 ?_;rintro _ h61 ⟨b60,ZKk,rfl,hS⟩;refine r1 ?_;rintro h62 hS;refine r1 ?_;refine AsK.sp ZoR hS k8 ?_;rintro h63 hS;refine r1 ?_;refine WC.Yp mixed (by kernel_rfl) ?_;refine r1 ?_;refine WX.wr (fun x=>x=b19) hS gN rfl (fun _ _ hR=>ZU ZxD (Zt fh rfl) (At.eqv (hR b19 rfl) (hS.Qo k5)) (j:=0) rfl (v:= .slice (some ⟨b4,0,none⟩) z3.length c6) rfl) ?_ rfl rfl;rintro h64 e65 hS;refine r4 ?_;obtain⟨x66,Zr5,hL⟩:=bind_some hL;obtain⟨b67,o68,a69,n70,c71,ZBE,Zss,ZCO⟩:=hS.atS k6 Zr5;refine WX.w gN rfl (Z5 ZgE Zby lk lk (hS.ZjD k6) Zss Zr5) ?_ rfl;refine WX.w gN rfl (ZU ZmB (Zt fh rfl) ZCO (j:=0) rfl (v:= .slice a69 n70 c71) rfl) ?_ rfl;refine r1 ?_;refine WX.hn gN rfl (Zf2 (e:=ZG) hS ZiF Uc Ub rfl rfl rfl (Zh lk ZA) rfl [((),x55.1)] rfl (xs:= [x55.1]) rfl (by intro q hq;simp only [List.mem_cons,List.not_mem_nil,or_false] at hq;subst hq;exact trivial) rfl) ?_ rfl;rintro _ h73 ⟨b72,ZKh,rfl,hS⟩;obtain⟨z74,ZET,hL⟩:=bind_some hL;have hS:=hS.ZAR k7 Zr5 ZBE;refine WX.hv gN rfl (ZdJ (e:=ZG) hS k1 ZtI lk lk (hS.Q7 k2) (hS.on k2) ZET) ?_ rfl rfl [1] (by kernel_rfl) (.c (.s .z) (hS.dj (.c k1 (.c k7 .n))) Z8.e);rintro _ h77 ⟨a75,c76,rfl,hS⟩;obtain⟨x78,Zyj,hL⟩:=bind_some hL;refine WX.w gN rfl (Z5 ZgE Zby lk lk (hS.hlen k1) Zss Zyj) ?_ (by kernel_rfl);refine WX.hu gN (ZAV hS k1 Zby (Zt fh rfl) (Zt (Zf rfl fh) rfl) Zss Zr5 (j:=0) rfl (vs:= [.slice a75 z74.length c76]) rfl rfl rfl rfl rfl (cs':= [.slice a75 z74.length c76]) rfl rfl rfl) ?_ rfl (by kernel_rfl) [] (by kernel_rfl) Z8.e;rintro h80 hS;obtain⟨ZA2,ZI9,hS⟩:=hS.ZDf (.c k0 (.c k0 .n)) Zr5;refine r2 ?_;refine BdK.sp ZoR hS k2 ?_;rintro h83 hS;refine WO.w (Zi.on (Zi.yes rfl rfl rfl (Ye rfl fh)) Zf5) rfl (ZkM lk) ?_;refine WO.w gN rfl (ZkK lk Zf5 lk) ?_;refine r2 ?_;refine cn hL ?_ ?_
     ·intro hc hL;refine r8 ?_;refine r1 ?_;exact ZT.gen (vs:= []) rfl Zm rfl ⟨_,hL,⟨ZA2,rfl,hS.only (.c k6 (.c k6 (.c k5 (.c k1 (.c k4 (.c k4 (.c k0 (.c k3 .n))))))))⟩⟩
     ·intro hc hL;refine r8 ?_;exact YC.Yw (Zgm _ _ hL ⟨_,_,ZA2,rfl,hS.only (.c k5 (.c k5 (.c k5 (.c k1 (.c k4 (.c k4 (.c k0 (.c k3 .n)))))))),Y3⟩)
    ·replace hL:=Ws Zf5 hL;refine WO.Zlt (Zi.yes rfl rfl rfl (ZN rfl (Zf rfl fh))) Zf5 rfl ?_;refine WO.Zlt (Zi.yes rfl rfl rfl (Ye rfl fh)) Zf5 rfl ?_;refine WO.w gN rfl (ZkL lk Zf5 lk) ?_;refine r2 ?_;refine WC.Zdo lk rfl ?_;refine r8 ?_;exact YC.Yw (Zgm _ _ hL ⟨_,_,ZuD,rfl,hS.only (.c k1 (.c k1 (.c k1 (.c k1 (.c k1 (.c k1 (.c k1 (.c k1 .n)))))))),Y3⟩)
   ·intro hc hL;refine r8 ?_;refine r3 ?_;exact YC.Yw (ZjP _ _ hL ⟨_,_,ZuD,rfl,hS.only (.c k0 (.c k0 (.c k0 (.c k0 (.c k0 (.c k0 (.c k0 (.c k0 .n)))))))),Y3⟩)
  ·intro hc hL;refine r4 ?_;refine ZT.Yw ?_;exact ZT.gen (vs:= []) rfl Zm rfl ⟨_,hL,⟨ZuE,rfl,hS.only (.c k1 (.c k1 (.c k0 (.c k0 (.c k0 (.c k0 (.c k0 (.c k0 .n))))))))⟩⟩
theorem ZnO {F wm:Nat} {h:H} {p0:Zb} {Zr:Option Addr} {Zq:Nat} {Zp:Option Addr} {Zo:Nat} {Zz:Option Addr} {Zy:Nat} {r:Store} (ZB:wm <=h.size) (ZI:Sl (rSl ZG) wm h Zr Zq p0.cells) (Yr:Sl Zj wm h Zp Zo p0.notes) (Yu:Sl (ZR .i64) wm h Zz Zy p0.freed) (hL:Zig F p0=some r):
 WR XX 56 #[.agg [.slice Zr p0.cells.length Zq,.slice Zp p0.notes.length Zo,.int .i64 p0.names,.slice Zz p0.freed.length Zy].toArray] wm h (CP (fun(v:Value) (Gb:List (Ast wm))=>∃ (rb0:Nat) (ZbB:Nat) (Jt:Option Addr) (Jl:Nat) (Jq:Nat) (Un:Option Addr) (Ul:Nat) (Um:Nat),v= .pointer (some ⟨rb0,0,none⟩)∧Gb= [bx wm rb0 [.int .i64 r.machines,.int .i64 r.names,.map (some ZbB),.slice Jt Jl Jq,.slice Un Ul Um],mp wm Zg Zk (some ZbB) r.cells,ow wm Zj Jt Jl Jq r.notes,ow wm (ZR .i64) Un Ul Um r.freed]) [] h):=by
 refine bg Try.ntmps56 ZB ZP.nil ?_;intro T hT hS;unfold Zig at hL;refine r3 ?_;rintro _ h2 ⟨b1,eb1,rfl,hS⟩;refine r4 ?_;refine WC.Yp mixed (by kernel_rfl) ?_;refine r4 ?_;refine r1 ?_;refine WX.hn gN rfl (Zrp Zg Zk hS) ?_ rfl;rintro _ h3 ⟨b4,eb4,rfl,hS⟩;refine r2 ?_;obtain⟨x5,hx5,hL⟩:=bind_some hL;refine WX.cl0 gN rfl (Xd.fn Zxe (Zc lk Zl)) hS .n (fun g' hz hf hO=>Zs2 (by rw [hz];exact hS.hw) ((hS.sl Yr).mono hf) hx5) ?_ rfl rfl;rintro _ h9 _ ⟨a6,n7,c8,rfl,rfl⟩ hS;obtain rfl:=hS.on k0;refine r2 ?_;obtain⟨x11,ZjM,hL⟩:=bind_some hL;refine WX.cl0 gN rfl (Xd.fn Zxd (Zc lk Zl)) hS .n (fun g' hz hf hO=>Zs1 (by rw [hz];exact hS.hw) ((hS.sl Yu).mono hf) ZjM) ?_ rfl rfl;rintro _ h15 _ ⟨a12,n13,c14,rfl,rfl⟩ hS;obtain rfl:=hS.on k0;refine WX.w gN rfl (Xt Ztx (Zh lk (Zh lk (Zh lk (Zh lk (Zh lk ZA))))) rfl (cs':= [.int .i64 (p0.cells.length:Int),.int .i64 p0.names,.map (some b4),.slice a6 x5.length c8,.slice a12 x11.length c14]) rfl) ?_ rfl;refine WX.hn gN rfl (Zou hS lk (vs:= [.int .i64 (p0.cells.length:Int),.int .i64 p0.names,.map (some b4),.slice a6 x5.length c8,.slice a12 x11.length c14]) rfl) ?_ rfl;rintro _ h18 ⟨b17,ZGx,rfl,hS⟩;refine J8 ?_;refine r1 ?_;refine WC.loop (WL.lift hL (fun(p:Int×(List (Ze×Za))) (s:Fs)=>match p with | (v24,v26)=>∃ (KD:Fr) (h19:H),s= ⟨KD,[],h19,none⟩∧Sp wm T h [bx wm b17 [.int .i64 (p0.cells.length:Int),.int .i64 p0.names,.map (some b4),.slice a6 x5.length c8,.slice a12 x11.length c14],mp wm Zg Zk (some b4) v26,ow wm Zj a6 x5.length c8 x5,ow wm (ZR .i64) a12 x11.length c14 x11] h19∧KD.at 3= .pointer (some ⟨b17,0,none⟩)∧KD.at 23= .slice Zr p0.cells.length Zq∧KD.at 24= .int .i64 (p0.cells.length:Int)∧KD.at 25= .int .i64 v24) ⟨_,_,rfl,hS.only (.c k0 (.c k2 (.c k1 (.c k0 .n)))),Y3⟩ ?_);clear hL hS;rintro ZjF ⟨v24,v26⟩ s Zu9 hL ⟨KD,h19,rfl,hS,e21,e22,e23,e25⟩;dsimp only [Zal] at hL;refine r6 ?_;refine cn hL ?_ ?_
 ·intro hc hL;refine r6 ?_;refine r1 ?_;obtain⟨x28,hx28,hL⟩:=bind_some hL;obtain⟨b29,o30,⟨a31,c32⟩,Zsu,ZsH,ZCH,Zxp⟩:=Sl.at_ ZI hx28;refine WO.w gN rfl (Z5 ZgE Zby lk lk rfl Zsu hx28) ?_;have ZBB:Sl ZG wm h a31 c32 x28:=Zxp;refine WO.w gN rfl (ZU ZmB (Zt fh rfl) (At.fz hS.fz ZCH ZsH) (j:=0) rfl (v:= .slice a31 x28.length c32) rfl) ?_;refine J8 ?_;refine WC.loop (WL.lift hL (fun(p:Int×(List (Ze×Za))) (s:Fs)=>match p with | (v42,v44)=>∃ (Zid:Fr) (h33:H),s= ⟨Zid,[],h33,none⟩∧Sp wm T h [bx wm b17 [.int .i64 (p0.cells.length:Int),.int .i64 p0.names,.map (some b4),.slice a6 x5.length c8,.slice a12 x11.length c14],mp wm Zg Zk (some b4) v44,ow wm Zj a6 x5.length c8 x5,ow wm (ZR .i64) a12 x11.length c14 x11] h33∧Zid.at 3= .pointer (some ⟨b17,0,none⟩)∧Zid.at 4= .int .i64 v24∧Zid.at 23= .slice Zr p0.cells.length Zq∧Zid.at 24= .int .i64 (p0.cells.length:Int)∧Zid.at 25= .int .i64 v24∧Zid.at 30= .slice a31 x28.length c32∧Zid.at 31= .int .i64 (x28.length:Int)∧Zid.at 32= .int .i64 v42) ⟨_,_,rfl,hS.only (.c k0 (.c k0 (.c k0 (.c k0 .n)))),Y3⟩ ?_);clear hL hS;rintro ZrM ⟨v42,v44⟩ s Zu5 hL ⟨Zid,h33,rfl,hS,e35,e36,e37,e38,e39,e40,e41,e43⟩;dsimp only [Zak] at hL;refine r6 ?_;refine cn hL ?_ ?_
  ·intro hc hL;refine r6 ?_;obtain⟨x46,ZBk,hL⟩:=bind_some hL;obtain⟨b47,o48,_,ZCg,ZCS,ZCF,ZHy⟩:=Sl.at_ ZBB ZBk;refine WO.w gN rfl (Z5 ZiF Uc lk lk rfl ZCg ZBk) ?_;refine WO.w gN rfl (Xr ZhT Uc (Zt fh rfl) (At.fz hS.fz ZCF ZCS) (j:=0) rfl rfl (ws:= [.int .i64 x46.name,.bool x46.root,.int .i64 x46.from_,.int .i64 x46.has,.int .i64 x46.out,.bool x46.use]) rfl) ?_;refine r1 ?_;rintro _ h50 ⟨b49,ZGt,rfl,hS⟩;refine r1 ?_;rintro h51 hS;refine r2 ?_;refine WC.Yp mixed (by kernel_rfl) ?_;refine r6 ?_;refine r1 ?_;refine WX.w gN rfl (Y0 XK (Zh lk (Zh lk ZA)) rfl (cs':= [.int .i64 v24,.int .i64 x46.name]) rfl) ?_ rfl;refine r1 ?_;refine WX.hu gN (ZbA (kv:=Zg) (vv:=Zk) (k:= (Ze.mk v24 x46.name)) (v:=x46) hS k2 YI JW (Zt (Ye rfl (Zf rfl fh)) rfl) (Zt (Zf rfl fh) rfl) (Zt fh rfl)) ?_ rfl rfl [] (by kernel_rfl) Z8.e;rintro h52 hS;refine r6 ?_;refine r1 ?_;exact YC.Yw (Zu5 _ _ hL ⟨_,_,rfl,hS.only (.c k2 (.c k0 (.c k1 (.c k1 .n)))),Y3⟩)
  ·intro hc hL;refine r8 ?_;refine r2 ?_;exact YC.Yw (Zu9 _ _ hL ⟨_,_,rfl,hS.only (.c k0 (.c k0 (.c k0 (.c k0 .n)))),Y3⟩)
 ·intro hc hL;refine J8 ?_;have hr:=Option.some.inj hL;subst hr;exact ZT.Je rfl (ZE lk Zm) ⟨_,⟨b17,b4,a6,x5.length,c8,a12,x11.length,c14,rfl,rfl⟩,hT ▸ hS.only (.c k0 (.c k0 (.c k0 (.c k0 .n))))⟩
end Go.Proofs.Ytekpjgmhkkjhgaa
end
end
