/- Part 1. -/
import Derived.RangeFuncLeaves
import Derived.RangeFuncCalls
import Derived.Laws.Cells
import Derived.Laws.CopyRow
import Derived.Laws.Entries
import Derived.Laws.World
import Derived.OrdersIn
import Derived.DefersIn
import Derived.RecoverIn
import Derived.KernelRfl
import Derived.Below
set_option linter.all false
set_option maxHeartbeats 2000000
abbrev Go.U:=@List
abbrev Go.O:=@Option
abbrev Go.Y:=@ByteArray
abbrev Go.N:=@Value
abbrev Go.Z:=@Bool
abbrev Go.J:=@TypeId
abbrev Go.V6:=@Operand
abbrev Go.V7:=@Program
abbrev Go.V8:=@FuncId
abbrev Go.V9:=@World
abbrev Go.Va:=@Array
abbrev Go.Vb:=@MapEntry
abbrev Go.Vc:=@Deferred
abbrev Go.Vd:Value:=.slice none 0 0
abbrev Go.Ve(n:Int):Value:=.int .i64 n
abbrev Go.Vf(b:Nat):Value:=.pointer (some ⟨b,0,none⟩)
def Go.Vg{p:Prop}(h:p:=by omega):p:=h
def Go.Vh{n:Nat}:n<=n:=Nat.le_refl n
def Go.K1:=@Nat.le_refl
def Go.K2:=@List.length_append
def Go.Kd:=@List.mem_cons
def Go.Kf:=@List.mem_cons_of_mem
def Go.Ks:=@List.flatMap_cons
def Go.Kx:=@List.all_eq_true
def Go.KB:=@Nat.le_trans
def Go.KK:=@List.length_cons
def Go.Q1:=@List.mem_append
def Go.Q2:=@List.mem_singleton
def Go.Q3:=@List.mem_flatMap
def Go.Q4:=@Array.getD_eq_getD_getElem?
def Go.QP:=@Bool.not_true
def Go.J0:=@List.getElem?_eq_getElem
def Go.J1:=@Option.some.injEq
def Go.Jn:=@Array.getElem?_eq_some_iff
def Go.Jx:=@List.getElem?_eq_none
def Go.JT:=@Bool.or_eq_false_iff
def Go.G0:=@Nat.lt_of_lt_of_le
def Go.G3:=@Array.length_toList
def Go.G4:=@Nat.zero_add
def Go.G5:=@List.mem_map
def Go.G6:=@Nat.blt_eq
def Go.G7:=@List.eq_nil_of_length_eq_zero
def Go.G8:=@Array.getElem?_toList
def Go.G9:=@List.not_mem_nil
def Go.Gc:=@List.append_assoc
def Go.Gd:=@List.map_cons
def Go.Ge:=@List.nil_append
def Go.Gf:=@List.length_map
def Go.Gg:=@List.mem_append_right
def Go.Gh:=@Bool.eq_false_iff
def Go.Gi:=@List.getD_eq_getElem?_getD
def Go.Gj:=@List.length_take
def Go.Gk:=@Nat.lt_or_ge
def Go.Gl:=@List.mem_map_of_mem
def Go.Gm:=@List.mem_cons_self
def Go.Gn:=@List.append_nil
def Go.Gp:=@List.mem_iff_getElem?
def Go.Gq:=@List.foldl_cons
def Go.Gs:=@List.contains_iff_mem
def Go.Gt:=@List.map_map
def Go.Gu:=@List.mem_append_left
def Go.Gv:=@Nat.zero_le
def Go.Gx:=@Result.andThen_ok
def Go.Gy:=@List.flatMap_append
def Go.Gz:=@Nat.mul_le_mul_right
def Go.GA:=@Bool.not_false
def Go.GB:=@List.getElem?_drop
def Go.GC:=@List.nodup_cons
def Go.GD:=@List.getElem?_take_of_lt
def Go.GE:=@List.length_drop
def Go.GF:=@List.any_eq_true
def Go.GG:=@Bool.true_and
def Go.GH:=@Array.getElem?_eq_getElem
def Go.GI:=@List.getElem?_of_mem
def Go.GJ:=@Option.isSome_iff_exists
def Go.GK:=@List.getElem_mem
def Go.GL:=@Bool.or_eq_true
def Go.GM:=@Bool.eq_iff_iff
def Go.GN:=@List.getElem?_map
def Go.GO:=@List.ext_getElem?
def Go.GP:=@List.mem_filter
def Go.GQ:=@List.length_nil
def Go.GR:=@Nat.le_of_lt
def Go.GS:=@List.mem_range
def Go.GT:=@Array.eq_empty_of_size_eq_zero
def Go.GU:=@Nat.add_assoc
def Go.GV:=@List.getElem?_append_left
def Go.GW:=@List.pairwise_cons
def Go.GX:=@Array.toList_inj
def Go.GY:=@List.zip_cons_cons
def Go.GZ:=@List.mem_of_getElem?
def Go.V0:=@List.getElem?_append_right
def Go.V2:=@Option.map_some
def Go.V3:=@Nat.succ_mul
def Go.V4:=@Nat.beq_refl
def Go.V5:=@Array.getElem?_eq_none
def Go.Ba0(a b:Z):((a&&b)=true)=(a=true/\b=true):=Bool.and_eq_true a b
def Go.Nm0{n m:Nat}(h:n≤m):Nat.ble n m=true:=Nat.ble_eq_true_of_le h
def Go.Nl0{n m:Nat}(h:Nat.ble n m=true):n≤m:=Nat.le_of_ble_eq_true h
def Go.Nb0{n m:Nat}(h:Nat.beq n m=true):n=m:=Nat.eq_of_beq_eq_true h
def Go.Oi0{α:Type _}{a b:α}(h:some a=some b):a=b:=Option.some.inj h
def Go.Bq0{α:Type _}{β:Type _}{a:α}{f:α->O β}:(some a).bind f=f a:=rfl
def Go.Cq1{α:Sort _}{a b:α}:(bif true then a else b)=a:=rfl
def Go.Cq0{α:Sort _}{a b:α}:(bif false then a else b)=b:=rfl
section
noncomputable section
namespace Go.ZF
section
inductive Tr(α:Type) where
 | nil
 | node (v:Option α) (l r:Tr α)
def Tr.get{α:Type}(t:Tr α):Nat->O α:=
 Tr.rec (motive:=fun _=>Nat->O α) (fun _=>none) (fun v _ _ gl gr n=>Bool.rec (motive:=fun _=>O α) (Bool.rec (motive:=fun _=>O α) (gr (Nat.sub (Nat.div n 2) 1)) (gl (Nat.div n 2)) (Nat.beq (Nat.mod n 2) 1)) v (Nat.beq n 0)) t
def Tr.val{α:Type}:Tr α->O α
 | .nil=>none
 | .node v _ _=>v
def Tr.left{α:Type}:Tr α->Tr α
 | .nil=>.nil
 | .node _ l _=>l
def Tr.right{α:Type}:Tr α->Tr α
 | .nil=>.nil
 | .node _ _ r=>r
def Tr.ZhZ{α:Type}(x:α)(f:Nat):Tr α->Nat->Tr α:=
 Nat.rec (motive:=fun _=>Tr α->Nat->Tr α) (fun t _=>t)
  (fun _ ih t n=>Tr.rec (motive:=fun _=>Tr α)
    (Bool.rec (motive:=fun _=>Tr α) (Bool.rec (motive:=fun _=>Tr α) (.node none .nil (ih .nil (Nat.sub (Nat.div n 2) 1))) (.node none (ih .nil (Nat.div n 2)) .nil) (Nat.beq (Nat.mod n 2) 1)) (.node (some x) .nil .nil) (Nat.beq n 0))
    (fun v l r _ _=>Bool.rec (motive:=fun _=>Tr α) (Bool.rec (motive:=fun _=>Tr α) (.node v l (ih r (Nat.sub (Nat.div n 2) 1))) (.node v (ih l (Nat.div n 2)) r) (Nat.beq (Nat.mod n 2) 1)) (.node (some x) l r) (Nat.beq n 0)) t) f
def Tr.Zgv{α:Type}(x:α)(f:Nat)(t:Tr α)(n:Nat):Tr.ZhZ x (f+1) t n=bif Nat.beq n 0 then .node (some x) t.left t.right else bif Nat.beq (n % 2) 1 then .node t.val (Tr.ZhZ x f t.left (n / 2)) t.right else .node t.val t.left (Tr.ZhZ x f t.right (n / 2-1)):=by
 cases t with
 | nil=>cases h:Nat.beq n 0<;>cases h2:Nat.beq (n % 2) 1<;>simp only[Tr.ZhZ,h,Cq1,Cq0,Tr.left,Tr.right,Tr.val]<;>(have h2':Nat.beq (Nat.mod n 2) 1=_:=h2;rw[h2'];rfl)
 | node v l r=>cases h:Nat.beq n 0<;>cases h2:Nat.beq (n % 2) 1<;>simp only[Tr.ZhZ,h,Cq1,Cq0,Tr.left,Tr.right,Tr.val]<;>(have h2':Nat.beq (Nat.mod n 2) 1=_:=h2;rw[h2'];rfl)
def Tr.set{α:Type}(t:Tr α)(n:Nat)(x:α):Tr α:=Tr.ZhZ x (n+1) t n
def QG(a b:Nat):Nat.beq a b=decide (a=b):=by
 rw[GM,decide_eq_true_iff];exact Nat.beq_eq▸Iff.rfl
def Tr.Zz5{α:Type}(v:O α)(l r:Tr α)(n:Nat):(Tr.node v l r).get n=bif Nat.beq n 0 then v else bif Nat.beq (n % 2) 1 then l.get (n / 2) else r.get (n / 2-1):=by
 have e:(Tr.node v l r).get n=Bool.rec (motive:=fun _=>O α) (Bool.rec (motive:=fun _=>O α) (r.get (Nat.sub (Nat.div n 2) 1)) (l.get (Nat.div n 2)) (Nat.beq (Nat.mod n 2) 1)) v (Nat.beq n 0):=rfl;have e1:Nat.mod n 2=n % 2:=rfl;have e2:Nat.div n 2=n / 2:=rfl;have e3:Nat.sub (n / 2) 1=n / 2-1:=rfl;rw[e,e1,e2,e3];cases Nat.beq n 0<;>cases Nat.beq (n % 2) 1<;>rfl
def Tr.get_eq{α:Type}(t:Tr α)(n:Nat):t.get n=if n=0 then t.val else if n % 2=1 then t.left.get (n / 2) else t.right.get (n / 2-1):=by
 cases t with
 | nil=>simp[Tr.get,Tr.val,Tr.left,Tr.right]
 | node v l r=>
   rw[Tr.Zz5];by_cases h:n=0
   ·subst h;rfl
   ·by_cases h2:n % 2=1<;>simp[Tr.left,Tr.right,QG,h,h2]
def Tr.Zfu{α:Type}(v:O α)(l r:Tr α)(n:Nat):(Tr.node v l r).get n=if n=0 then v else if n % 2=1 then l.get (n / 2) else r.get (n / 2-1):=
 Tr.get_eq (.node v l r) n
def Tr.Zz4{α:Type}(x:α):∀(f:Nat)(t:Tr α)(n m:Nat),n<f->(Tr.ZhZ x f t n).get m=if m=n then some x else t.get m:=by
 intro f
 induction f with
 | zero=>intro t n m h;omega
 | succ f ih=>
   intro t n m h;rw[Tr.get_eq t m];by_cases hn:n=0
   ·subst hn;have e:ZhZ x (f+1) t 0=.node (some x) t.left t.right:=by rw[Tr.Zgv];rfl
    rw[e,Tr.Zfu];by_cases hm:m=0
    ·rw[if_pos hm,if_pos hm]
    ·rw[if_neg hm,if_neg hm,if_neg hm]
   ·by_cases h2:n % 2=1
    ·have e:ZhZ x (f+1) t n=.node t.val (ZhZ x f t.left (n / 2)) t.right:=by simp[Tr.Zgv,QG,hn,h2]
     rw[e,Tr.Zfu,ih t.left (n / 2) (m / 2) Vg];by_cases hm:m=0
     ·rw[if_pos hm,if_pos hm,if_neg Vg]
     ·rw[if_neg hm,if_neg hm];by_cases hm2:m % 2=1
      ·rw[if_pos hm2,if_pos hm2];by_cases hmn:m=n
       ·rw[if_pos hmn,if_pos Vg]
       ·rw[if_neg hmn,if_neg Vg]
      ·rw[if_neg hm2,if_neg hm2,if_neg Vg]
    ·have e:ZhZ x (f+1) t n=.node t.val t.left (ZhZ x f t.right (n / 2-1)):=by simp[Tr.Zgv,QG,hn,h2]
     rw[e,Tr.Zfu,ih t.right (n / 2-1) (m / 2-1) Vg];by_cases hm:m=0
     ·rw[if_pos hm,if_pos hm,if_neg Vg]
     ·rw[if_neg hm,if_neg hm];by_cases hm2:m % 2=1
      ·rw[if_pos hm2,if_pos hm2,if_neg Vg]
      ·rw[if_neg hm2,if_neg hm2];by_cases hmn:m=n
       ·rw[if_pos hmn,if_pos Vg]
       ·rw[if_neg hmn,if_neg Vg]
def Tr.XE{α:Type}(t:Tr α)(n m:Nat)(x:α):(t.set n x).get m=if m=n then some x else t.get m:=
 Tr.Zz4 x (n+1) t n m Vg
def scalar:Value->Bool
 | .bool _ | .int _ _ | .float _ _ | .complex _ _ _ | .string _ | .pointer none | .slice none 0 0 | .map none | .chan none | .nilFunc | .nilIface=>true
 | _=>false
def plain:N->Z
 | .agg cs=>cs.toList.all scalar
 | .tuple cs=>cs.toList.all scalar
 | .iface _ (.agg cs)=>cs.toList.all scalar
 | .iface _ v=>scalar v
 | v=>scalar v
structure Ren where
 loc:Nat->Option (Nat×Nat)
 lim:Nat->Nat×Nat
instance:CoeFun Ren (fun _=>Nat->Option (Nat×Nat)):=⟨Ren.loc⟩
def ZO6(c c' x:Nat)(l:Nat×Nat):Prop:=c'<=9223372036854775807/\if c % 2=0 then c'=c / 2 else c / 2<=c'/\x+c'*l.2<=l.1
inductive VR(ρ:Ren):Value->Value->Prop
 | bool (b:Bool):VR ρ (.bool b) (.bool b)
 | int (k:IntKind) (n:Int):VR ρ (.int k n) (.int k n)
 | float (k:FloatKind) (b:Nat):VR ρ (.float k b) (.float k b)
 | complex (k:FloatKind) (a b:Nat):VR ρ (.complex k a b) (.complex k a b)
 | string (s:ByteArray):VR ρ (.string s) (.string s)
 | Zv8:VR ρ (.pointer none) (.pointer none)
 | ptr {i b d:Nat} (o:Nat) (h:ρ i=some (b,d)):VR ρ (.pointer (some ⟨i,o,none⟩)) (.pointer (some ⟨b,d+o,none⟩))
 | KV:VR ρ (.slice none 0 0) (.slice none 0 0)
 | slice {i b d:Nat} (o n c c':Nat) (h:ρ i=some (b,d)) (hc:ZO6 c c' (d+o) (ρ.lim i)):VR ρ (.slice (some ⟨i,o,none⟩) n c) (.slice (some ⟨b,d+o,none⟩) n c')
 | X7 {i b d:Nat} (o o' c:Nat) (h:ρ i=some (b,d)) (hc:c<=1):VR ρ (.slice (some ⟨i,o,none⟩) 0 c) (.slice (some ⟨b,o',none⟩) 0 0)
 | UE (a:Addr):VR ρ (.slice (some ⟨0,0,some 0⟩) 0 0) (.slice (some a) 0 0)
 | Zwg:VR ρ (.map none) (.map none)
 | map {i b:Nat} (h:ρ i=some (b,0)):VR ρ (.map (some i)) (.map (some b))
 | ZmD:VR ρ (.chan none) (.chan none)
 | nilFunc:VR ρ .nilFunc .nilFunc
 | nilIface:VR ρ .nilIface .nilIface
 | func (fn:Fn) (xs ys xs' ys':Array Value) (hf:∀l,fn≠.yield l) (hx:xs.size=xs'.size) (hy:ys.size=ys'.size)
    (h1:∀(i:Nat)(v v':Value),xs[i]? =some v->xs'[i]? =some v'->VR ρ v v') (h2:∀(i:Nat)(v v':Value),ys[i]? =some v->ys'[i]? =some v'->VR ρ v v'):
    VR ρ (.func fn xs ys) (.func fn xs' ys')
 | yield {i b:Nat} (h:ρ i=some (b,0)):VR ρ (.func (.yield i) #[] #[]) (.func (.yield b) #[] #[])
 | iface (t:TypeId) (v v':Value) (h:VR ρ v v'):VR ρ (.iface t v) (.iface t v')
 | agg (xs xs':Array Value) (hx:xs.size=xs'.size) (h:∀(i:Nat)(v v':Value),xs[i]? =some v->xs'[i]? =some v'->VR ρ v v'):VR ρ (.agg xs) (.agg xs')
 | tuple (xs xs':Array Value) (hx:xs.size=xs'.size) (h:∀(i:Nat)(v v':Value),xs[i]? =some v->xs'[i]? =some v'->VR ρ v v'):VR ρ (.tuple xs) (.tuple xs')
def Jy(ρ:Ren)(xs xs':Va N):Prop:=xs.size=xs'.size/\∀(i:Nat)(v v':N),xs[i]? =some v->xs'[i]? =some v'->VR ρ v v'
def Ren.le(ρ ρ':Ren):Prop:=∀i p,ρ i=some p->ρ' i=some p/\ρ'.lim i=ρ.lim i
def Ren.le_refl(ρ:Ren):ρ.le ρ:=fun _ _ h=>⟨h,rfl⟩
def Ren.le_trans{a b c:Ren}(h:a.le b)(k:b.le c):a.le c:=fun i p e=>⟨(k i p (h i p e).1).1,(k i p (h i p e).1).2.trans (h i p e).2⟩
def VR.mono{ρ ρ':Ren}(hr:ρ.le ρ'){v v':N}(h:VR ρ v v'):VR ρ' v v':=by
 induction h with
 | bool b=>exact .bool b
 | int k n=>exact .int k n
 | float k b=>exact .float k b
 | complex k a b=>exact .complex k a b
 | string s=>exact .string s
 | Zv8=>exact .Zv8
 | ptr o h=>exact .ptr o (hr _ _ h).1
 | KV=>exact .KV
 | slice o n c c' h hc=>exact .slice o n c c' (hr _ _ h).1 (by rw[(hr _ _ h).2];exact hc)
 | X7 o o' c h hc=>exact .X7 o o' c (hr _ _ h).1 hc
 | UE a=>exact .UE a
 | Zwg=>exact .Zwg
 | map h=>exact .map (hr _ _ h).1
 | ZmD=>exact .ZmD
 | nilFunc=>exact .nilFunc
 | nilIface=>exact .nilIface
 | func fn xs ys xs' ys' hf hx hy _ _ i1 i2=>exact .func fn xs ys xs' ys' hf hx hy i1 i2
 | yield h=>exact .yield (hr _ _ h).1
 | iface t v v' _ ih=>exact .iface t v v' ih
 | agg xs xs' hx _ ih=>exact .agg xs xs' hx ih
 | tuple xs xs' hx _ ih=>exact .tuple xs xs' hx ih
def Jy.mono{ρ ρ':Ren}(hr:ρ.le ρ'){xs xs':Va N}(h:Jy ρ xs xs'):Jy ρ' xs xs':=
 ⟨h.1,fun i v v' a b=>(h.2 i v v' a b).mono hr⟩
def VR.Qs{ρ:Ren}{v:Value}(h:scalar v=true):VR ρ v v:=by
 unfold scalar at h;split at h<;>first | (simp at h;done) | constructor
def VR.Wd{ρ:Ren}{v v':Value}(h:scalar v=true)(hv:VR ρ v v'):v'=v:=by
 cases hv<;>first|rfl | (simp[scalar]at h)
def Jy.Qs{ρ:Ren}{xs:Va N}(h:xs.toList.all scalar=true):Jy ρ xs xs:=by
 refine⟨rfl,fun i v v' a b=>?_⟩;rw[a]at b;cases b;refine VR.Qs ?_;rw[Kx]at h;exact h v (Array.mem_toList_iff.2 (Array.mem_of_getElem? a))
def Jy.Wd{ρ:Ren}{xs xs':Va N}(h:xs.toList.all scalar=true)(hv:Jy ρ xs xs'):xs'=xs:=by
 rw[Kx]at h;apply Array.ext hv.1.symm;intro i h1 h2;exact VR.Wd (h _ (Array.mem_toList_iff.2 (Array.getElem_mem h2))) (hv.2 i _ _ (GH h2) (GH h1))
def VR.ZC{ρ:Ren}{v:N}(h:plain v=true):VR ρ v v:=by
 unfold plain at h;split at h
 ·exact .agg _ _ rfl (Jy.Qs h).2
 ·exact .tuple _ _ rfl (Jy.Qs h).2
 ·exact .iface _ _ _ (.agg _ _ rfl (Jy.Qs h).2)
 ·exact .iface _ _ _ (VR.Qs h)
 ·exact VR.Qs h
def VR.YS{ρ:Ren}{v v':N}(h:plain v=true)(hv:VR ρ v v'):v'=v:=by
 unfold plain at h;split at h
 ·cases hv with|agg _ xs' hx hh=>rw[Jy.Wd h ⟨hx,hh⟩]
 ·cases hv with|tuple _ xs' hx hh=>rw[Jy.Wd h ⟨hx,hh⟩]
 ·cases hv with|iface _ _ v' hh=>cases hh with|agg _ xs' hx hh=>rw[Jy.Wd h ⟨hx,hh⟩]
 ·cases hv with|iface _ _ v' hh=>rw[VR.Wd h hh]
 ·exact VR.Wd h hv
def Jy.one{ρ:Ren}{v v':N}(h:VR ρ v v'):Jy ρ #[v] #[v']:=by
 refine⟨rfl,fun i a b e e'=>?_⟩;cases i with
 | zero=>simp at e e';subst e e';exact h
 | succ i=>simp at e
def VR.cells{ρ:Ren}{v v':N}(h:VR ρ v v'):Jy ρ v.cells v'.cells:=by
 cases h with
 | agg xs xs' hx hh=>exact⟨hx,hh⟩
 | bool b=>exact Jy.one (.bool b)
 | int k n=>exact Jy.one (.int k n)
 | float k b=>exact Jy.one (.float k b)
 | complex k a b=>exact Jy.one (.complex k a b)
 | string s=>exact Jy.one (.string s)
 | Zv8=>exact Jy.one .Zv8
 | ptr o h=>exact Jy.one (.ptr o h)
 | KV=>exact Jy.one .KV
 | slice o n c c' h hc=>exact Jy.one (.slice o n c c' h hc)
 | X7 o o' c h hc=>exact Jy.one (.X7 o o' c h hc)
 | UE a=>exact Jy.one (.UE a)
 | Zwg=>exact Jy.one .Zwg
 | map h=>exact Jy.one (.map h)
 | ZmD=>exact Jy.one .ZmD
 | nilFunc=>exact Jy.one .nilFunc
 | nilIface=>exact Jy.one .nilIface
 | func fn xs ys xs' ys' hf hx hy h1 h2=>exact Jy.one (.func fn xs ys xs' ys' hf hx hy h1 h2)
 | yield h=>exact Jy.one (.yield h)
 | iface t v v' h=>exact Jy.one (.iface t v v' h)
 | tuple xs xs' hx h=>exact Jy.one (.tuple xs xs' hx h)
def VR.undef(ρ:Ren):VR ρ undef undef:=VR.ZC (by rfl)
abbrev Fr:=Tr N
def Fr.at(fr:Fr)(t:Nat):N:=(Tr.get fr t).getD undef
def Xt(v:N):Z:=
 match v with
 | .chan (some _)=>true
 | _=>false
def ZoI:N:=.chan (some 0)
structure FrR(ρ:Ren)(fr:Fr)(n:Nat)(tmps:Array Value):Prop where
 size:tmps.size=n
 val:∀t,Xt (fr.at t)=false->VR ρ (fr.at t) (tmps.getD t undef)
def FrR.mono{ρ ρ':Ren}(hr:ρ.le ρ'){fr:Fr}{n:Nat}{tmps:Va N}(h:FrR ρ fr n tmps):FrR ρ' fr n tmps:=
 ⟨h.size,fun t ht=>(h.val t ht).mono hr⟩
def FrR.set{ρ:Ren}{fr:Fr}{n:Nat}{tmps:Va N}(h:FrR ρ fr n tmps){d:Nat}{v v':N}(hd:d<n)(hv:VR ρ v v'):
 FrR ρ (Tr.set fr d v) n (tmps.setIfInBounds d v'):=by
 refine⟨by simp[h.size],fun t=>?_⟩;unfold Fr.at;rw[Tr.XE];by_cases ht:t=d
 ·subst ht;have hlt:t<tmps.size:=by rw[h.size];exact hd
  intro _
  simpa[Q4,hlt]using hv
 ·have:=h.val t;unfold Fr.at at this;have hne:d≠t:=fun e=>ht e.symm
  simpa[ht,Q4,Array.getElem?_setIfInBounds,hne]using this
inductive YD where
 | row (cs:List Value) (own:Bool) (sz:Nat)
 | map (es:List MapEntry) (clock:Nat)
 | loop (state:LoopState) (pending:Option Code) (fr:Fr) (n:Nat) (params:Array Tmp) (assign body:Code) (defers:Nat)
 | deferred
 | ZeZ (s:ByteArray) (pos:Nat)
 | iter (m since Y6:Nat) (at_:Option Nat)
 | Zim
 | box (m:Nat)
 | Xr (f:ByteArray->Option Bool)
 | UL (m since Y6 s:Nat)
 | dead
def YD.own:YD->Z
 | .row _ o _=>o
 | .dead=>false
 | .box _=>false
 | .UL .. =>false
 | _=>true
def YD.live:YD->Z
 | .dead=>false
 | _=>true
inductive EL(ρ:Ren):List MapEntry->List MapEntry->Prop
 | nil:EL ρ [] []
 | cons {e e':MapEntry} {es es':List MapEntry} (hk:e'.key=e.key) (hp:plain e.key=true) (hb:e'.born=e.born) (hv:VR ρ e.val e'.val) (t:EL ρ es es'):EL ρ (e::es) (e'::es')
def EL.mono{ρ ρ':Ren}(hr:ρ.le ρ'){es es':U Vb}(h:EL ρ es es'):EL ρ' es es':=by
 induction h with
 | nil=>exact .nil
 | cons hk hp hb hv _ ih=>exact .cons hk hp hb (hv.mono hr) ih
def EsR(ρ:Ren)(es:U Vb)(es':Va Vb):Prop:=EL ρ es es'.toList
def nfs:Nat:=203
def base:Fence:= {fn:=fun f=>f<nfs,depth:=none,alive:=false}
def Zgy(n:Nat):base.room n:=fun _ h=>by cases h
def fnd(s:Y):U Vb->O Z
 | []=>none
 | e::l=>match e.key,e.val with
   | .string t,.bool b=>bif s==t then some b else fnd s l
   | _,_=>none
def KS(f:Y->O Z)(l:U Vb):Prop:=(∀e∈l,∃s b,e.key=.string s/\e.val=.bool b)/\∀s,fnd s l=f s
def Qd(ρ:Ren)(w:V9)(b d:Nat)(l:Nat×Nat):YD->Prop
 | .row cs own sz=>∃cc el fz,w.heap[b]? =some (.cells cc el fz)/\(own=true->fz=(0,0)/\(0<sz->l=(cc.size,sz)))/\d+cs.length<=cc.size/\∀(k:Nat)(v v':N),cs[k]? =some v->cc[d+k]? =some v'->VR ρ v v'
 | .map es clock=>d=0/\∃es',w.heap[b]? =some (.map es' clock)/\EsR ρ es es'
 | .loop st pd fr n ps Yf bd df=>d=0/\∃fn tmps df',w.heap[b]? =some (.loop {state:=st,pending:=pd,fn:=fn,tmps:=tmps,params:=ps,assign:=Yf,body:=bd,defers:=df'})/\FrR ρ fr n tmps/\ρ df=some (df',0)/\fn<nfs
 | .deferred=>d=0/\w.heap[b]? =some (.deferred (some []))
 | .ZeZ s p=>d=0/\w.heap[b]? =some (.stringIter s p)
 | .iter m since Y6 at_=>d=0/\∃m' seen,ρ m=some (m',0)/\w.heap[b]? =some (.mapIter (some m') since seen Y6)/\(∀s,at_=some s->seen.back? =some s)/\(at_=none->seen=#[])
 | .Zim=>d=0/\w.heap[b]? =some (.mapIter none 0 #[] 0)
 | .box m=>d=0/\∃m' el,ρ m=some (m',0)/\w.heap[b]? =some (.cells #[.map (some m')] el (0,0))
 | .UL m since Y6 s=>d=0/\∃m' seen,ρ m=some (m',0)/\w.heap[b]? =some (.mapIter (some m') since seen Y6)/\seen.back? =some s
 | .Xr f=>d=0/\∃es' c,w.heap[b]? =some (.map es' c)/\KS f es'.toList
 | .dead=>True
def Qd.mono{ρ ρ':Ren}(hr:ρ.le ρ'){w:V9}{b d:Nat}{l:Nat×Nat}{A:YD}(h:Qd ρ w b d l A):Qd ρ' w b d l A:=by
 cases A with
 | row cs own sz=>
   obtain⟨cc,el,fz,a,b,c,e⟩:=h;exact⟨cc,el,fz,a,b,c,fun k v v' x y=>(e k v v' x y).mono hr⟩
 | map es clock=>
   obtain⟨a,es',b,c⟩:=h;exact⟨a,es',b,EL.mono hr c⟩
 | loop st pd fr n ps Yf bd df=>
   obtain⟨a,f,t,d',b,c,e,nf⟩:=h;exact⟨a,f,t,d',b,c.mono hr,(hr _ _ e).1,nf⟩
 | deferred=>exact h
 | ZeZ s p=>exact h
 | iter m since Y6 at_=>
   obtain⟨a,m',seen,b,c⟩:=h;exact⟨a,m',seen,(hr _ _ b).1,c⟩
 | Zim=>exact h
 | box m=>
   obtain⟨a,m',el,b,c⟩:=h;exact⟨a,m',el,(hr _ _ b).1,c⟩
 | Xr f=>exact h
 | UL m since Y6 s=>
   obtain⟨a,m',seen,b,c⟩:=h;exact⟨a,m',seen,(hr _ _ b).1,c⟩
 | dead=>trivial
def Qd.world{ρ:Ren}{w w':V9}{b d:Nat}{l:Nat×Nat}{A:YD}(h:Qd ρ w b d l A)(hb:w'.heap[b]? =w.heap[b]?):Qd ρ w' b d l A:=by
 cases A<;>simp only[Qd,hb]at h ⊢ <;> exact h
structure H where
 tr:Tr YD
 size:Nat
def H.at(h:H)(i:Nat):YD:=bif Nat.blt i h.size then(h.tr.get i).getD .dead else .dead
def H.put(h:H)(i:Nat)(A:YD):H:= {h with tr:=h.tr.set i A}
def H.push(h:H)(A:YD):H:= {tr:=h.tr.set h.size A,size:=h.size+1}
@[simp] def H.size_put(h:H)(i:Nat)(A:YD):(h.put i A).size=h.size:=rfl
@[simp] def H.size_push(h:H)(A:YD):(h.push A).size=h.size+1:=rfl
def H.Za8{h:H}{i:Nat}(hi:h.size<=i):h.at i=.dead:=by
 have:Nat.blt i h.size=false:=by
  rw[Gh];intro e;rw[G6]at e;omega
 simp[H.at,this]
def H.XM(h:H)(i j:Nat)(A:YD):(h.put i A).at j=if j=i/\j<h.size then A else h.at j:=by
 by_cases hj:j<h.size
 ·have hb:Nat.blt j h.size=true:=by rw[G6];exact hj
  by_cases e:j=i
  ·subst e;simp[H.at,H.put,Tr.XE,hb,hj]
  ·simp[H.at,H.put,Tr.XE,hb,e]
 ·rw[if_neg (fun x=>hj x.2),H.Za8 (Nat.le_of_not_lt hj),H.Za8 (h:=h.put i A) (Nat.le_of_not_lt hj)]
def H.Qc(h:H)(j:Nat)(A:YD):(h.push A).at j=if j=h.size then A else h.at j:=by
 by_cases hj:j<h.size
 ·have hb:Nat.blt j h.size=true:=by rw[G6];exact hj
  have hb':Nat.blt j (h.size+1)=true:=by rw[G6];omega
  have hne:j≠h.size:=Vg
  simp[H.at,H.push,Tr.XE,hb,hb',hne]
 ·by_cases e:j=h.size
  ·subst e;have hb':Nat.blt h.size (h.size+1)=true:=by rw[G6];omega
   simp[H.at,H.push,Tr.XE,hb']
  ·rw[if_neg e,H.Za8 (Nat.le_of_not_lt hj),H.Za8 (h:=h.push A) (by rw[H.size_push];omega)]
structure Rel(ρ:Ren)(h:H)(w:World):Prop where
 dom:∀i b d,ρ i=some (b,d)->i<h.size/\b<w.heap.size
 obj:∀i b d,ρ i=some (b,d)->Qd ρ w b d (ρ.lim i) (h.at i)
 inj:∀i j b d d',ρ i=some (b,d)->ρ j=some (b,d')->(h.at i).own=true->(h.at j).live=true->i=j
structure Stp(wm:Nat)(ρ:Ren)(h:H)(w:World)(ρ':Ren)(h':H)(w':World):Prop where
 ext:ρ.le ρ'
 size:h.size<=h'.size
 keep:∀i,i<wm->h'.at i=h.at i
 own:∀i,i<h.size->(h'.at i).own=true->(h.at i).own=true
 live:∀i,i<h.size->(h'.at i).live=true->(h.at i).live=true
 os:w'.os=w.os
 tape:w'.tape=w.tape
 output:w'.output=w.output
 Y8:w.heap.size<=w'.heap.size
 frame:∀b,b<w.heap.size->(∀i d,wm<=i->ρ i=some (b,d)->(h.at i).own=true->False)->w'.heap[b]? =w.heap[b]?
 Jv:∀i b d,ρ i=none->ρ' i=some (b,d)->h.size<=i/\(w.heap.size<=b\/∃j d',wm<=j/\ρ j=some (b,d')/\(h.at j).own=true)
def Stp.refl(wm:Nat)(ρ:Ren)(h:H)(w:V9):Stp wm ρ h w ρ h w:=
 ⟨Ren.le_refl ρ,K1 _,fun _ _=>rfl,fun _ _ x=>x,fun _ _ x=>x,rfl,rfl,rfl,K1 _,fun _ _ _=>rfl,fun i b d e e'=>by rw[e]at e';cases e'⟩
def Stp.trans{wm:Nat}{ρ ρ' ZxC:Ren}{h h' h'':H}{w w' w'':V9}(hd:∀i p,ρ i=some p->i<h.size)
 (a:Stp wm ρ h w ρ' h' w') (b:Stp wm ρ' h' w' ZxC h'' w''):Stp wm ρ h w ZxC h'' w'' where
 ext:=Ren.le_trans a.ext b.ext
 size:=KB a.size b.size
 keep i hi:=(b.keep i hi).trans (a.keep i hi)
 own i hi x:=a.own i hi (b.own i (G0 hi a.size) x)
 live i hi x:=a.live i hi (b.live i (G0 hi a.size) x)
 os:=b.os.trans a.os
 tape:=b.tape.trans a.tape
 output:=b.output.trans a.output
 Y8:=KB a.Y8 b.Y8
 frame k hk hno:=by
  rw[b.frame k (G0 hk a.Y8) ?_,a.frame k hk hno];intro i d hi hr ho;cases e:ρ i with
  | some p=>
    have e':=(a.ext _ _ e).1;rw[hr]at e';cases e';exact hno i d hi e (a.own i (hd _ _ e) ho)
  | none=>
    rcases(a.Jv i k d e hr).2 with h1|⟨j,d',h1,h2,h3⟩
    ·omega
    ·exact hno j d' h1 h2 h3
 Jv i k d e e'':=by
  cases e':ρ' i with
  | some p=>
    have e2:=(b.ext _ _ e').1;rw[e'']at e2;cases e2;exact a.Jv i k d e e'
  | none=>
    obtain⟨h1,h2⟩:=b.Jv i k d e' e'';refine⟨KB a.size h1,?_⟩;rcases h2 with h2|⟨j,d',j1,j2,j3⟩
    ·exact .inl (KB a.Y8 h2)
    ·cases ej:ρ j with
     | some p=>
       have e2:=(a.ext _ _ ej).1;rw[j2]at e2;cases e2;exact .inr ⟨j,d',j1,ej,a.own j (hd _ _ ej) j3⟩
     | none=>exact(a.Jv j k d' ej j2).2
def Stp.below{wm:Nat}{ρ ρ':Ren}{h h':H}{w w':V9}(a:Stp wm ρ h w ρ' h' w')(hno:∀i b d,wm<=i->ρ i=some (b,d)->(h.at i).own=true->False):
 RowKit.Below w.heap.size w w':=
 ⟨a.os,a.tape,a.output,a.Y8,fun k hk=>a.frame k hk (fun i d hi hr ho=>hno i k d hi hr ho)⟩
inductive Eff where
 | none
 | new (A:YD)
 | upd (i:Nat) (A:YD)
 | grow (i:Nat) (A:YD)
def Eff.apply(wm:Nat)(h:H):Eff->O H
 | .none=>some h
 | .new A=>bif A.own then some (h.push A) else Option.none
 | .upd i A=>bif Nat.ble wm i&&(h.at i).own then some (h.put i A) else Option.none
 | .grow i A=>bif Nat.ble wm i&&(h.at i).own&&A.own then some ((h.put i .dead).push A) else Option.none
def Ren.add(ρ:Ren)(i:Nat)(p l:Nat×Nat):Ren:=⟨fun j=>if j=i then some p else ρ j,fun j=>if j=i then l else ρ.lim j⟩
def Ren.ZaH{ρ:Ren}{i:Nat}{p l:Nat×Nat}(h:ρ i=none):ρ.le (ρ.add i p l):=fun j q e=>by
 unfold Ren.add;by_cases hj:j=i
 ·subst hj;rw[h]at e;cases e
 ·exact⟨by simpa[if_neg hj]using e,by simp[if_neg hj]⟩
def Ren.add_same(ρ:Ren)(i:Nat)(p l:Nat×Nat):ρ.add i p l i=some p:=by simp[Ren.add]
def Ren.ZaF(ρ:Ren)(i:Nat)(p l:Nat×Nat):(ρ.add i p l).lim i=l:=by simp[Ren.add]
def Ren.Uc{ρ:Ren}{i j:Nat}{p l:Nat×Nat}(h:j≠i):ρ.add i p l j=ρ j/\(ρ.add i p l).lim j=ρ.lim j:=by simp[Ren.add,h]
structure Same(w w':World):Prop where
 os:w'.os=w.os
 tape:w'.tape=w.tape
 output:w'.output=w.output
def Eff.real(ρ:Ren)(h:H)(w:V9)(ρ':Ren)(w':V9):Eff->Prop
 | .none=>ρ'=ρ/\w'.heap=w.heap
 | .new A=>∃l,ρ'=ρ.add h.size (w.heap.size,0) l/\(∃o,w'.heap=w.heap.push o)/\Qd ρ' w' w.heap.size 0 l A
 | .upd i A=>ρ'=ρ/\∃b d,ρ i=some (b,d)/\w'.heap.size=w.heap.size/\(∀k,k≠b->w'.heap[k]? =w.heap[k]?)/\Qd ρ' w' b d (ρ.lim i) A
 | .grow i A=>∃b d,ρ i=some (b,d)/\
     ((∃d' l,ρ'=ρ.add h.size (b,d') l/\w'.heap.size=w.heap.size/\(∀k,k≠b->w'.heap[k]? =w.heap[k]?)/\Qd ρ' w' b d' l A)\/
      (∃l,ρ'=ρ.add h.size (w.heap.size,0) l/\(∃o,w'.heap=w.heap.push o)/\Qd ρ' w' w.heap.size 0 l A))
def J4{A:YD}(h:A.own=true):A.live=true:=by cases A<;>simp_all[YD.own,YD.live]
def Ur{A:YD}(h:¬ A.live=true):A=.dead:=by cases A<;>simp_all[YD.live]
def Zca{w w':V9}{o:Obj}(h:w'.heap=w.heap.push o){k:Nat}(hk:k<w.heap.size):w'.heap[k]? =w.heap[k]?:=by
 rw[h,Array.getElem?_push,if_neg Vg]
def Rel.fresh{ρ:Ren}{h:H}{w:V9}(r:Rel ρ h w):ρ h.size=none:=by
 cases e:ρ h.size with
 | none=>rfl
 | some p=>have:=(r.dom _ p.1 p.2 e).1;omega
def Zb7{wm:Nat}{ρ:Ren}{h:H}{w w':V9}{A:YD}{o:Obj}{l:Nat×Nat}(r:Rel ρ h w)(Zt:wm<=h.size)(s:Same w w')(hw:w'.heap=w.heap.push o)
 (hA:Qd (ρ.add h.size (w.heap.size,0) l) w' w.heap.size 0 l A):
 Rel (ρ.add h.size (w.heap.size,0) l) (h.push A) w'/\Stp wm ρ h w (ρ.add h.size (w.heap.size,0) l) (h.push A) w':=by
 have hle:=Ren.ZaH (p:=(w.heap.size,0)) (l:=l) r.fresh;have hsz:w'.heap.size=w.heap.size+1:=by rw[hw];simp
 have hold:∀i b d,i≠h.size->(ρ.add h.size (w.heap.size,0) l) i=some (b,d)->ρ i=some (b,d):=fun i b d hi e=>by
  rwa[(Ren.Uc hi).1]at e
 have hnew:∀b d,(ρ.add h.size (w.heap.size,0) l) h.size=some (b,d)->b=w.heap.size/\d=0:=fun b d e=>by
  rw[Ren.add_same]at e;cases e;exact⟨rfl,rfl⟩
 have hat:∀i,i≠h.size->(h.push A).at i=h.at i:=fun i hi=>by rw[H.Qc,if_neg hi]
 have ZzE:(h.push A).at h.size=A:=by rw[H.Qc,if_pos rfl]
 refine⟨⟨?_,?_,?_⟩,⟨hle,by simp,?_,?_,?_,s.os,s.tape,s.output,by omega,?_,?_⟩⟩
 ·intro i b d e;rw[H.size_push,hsz];by_cases hi:i=h.size
  ·subst hi;have:=hnew b d e;omega
  ·have:=r.dom i b d (hold i b d hi e);omega
 ·intro i b d e;by_cases hi:i=h.size
  ·subst hi;obtain⟨rfl,rfl⟩:=hnew b d e;rw[ZzE,Ren.ZaF];exact hA
  ·have e0:=hold i b d hi e;rw[hat i hi,(Ren.Uc hi).2];exact((r.obj i b d e0).mono hle).world (Zca hw (r.dom i b d e0).2)
 ·intro i j b d d' e e' ho hl;by_cases hi:i=h.size
  ·by_cases hj:j=h.size
   ·omega
   ·subst hi;have h1:=hnew b d e;have h2:=r.dom j b d' (hold j b d' hj e');omega
  ·by_cases hj:j=h.size
   ·subst hj;have h1:=hnew b d' e';have h2:=r.dom i b d (hold i b d hi e);omega
   ·rw[hat i hi]at ho;rw[hat j hj]at hl;exact r.inj i j b d d' (hold i b d hi e) (hold j b d' hj e') ho hl
 ·intro i hi;exact hat i Vg
 ·intro i hi ho;rwa[hat i Vg]at ho
 ·intro i hi ho;rwa[hat i Vg]at ho
 ·intro b hb _;exact Zca hw hb
 ·intro i b d e e';by_cases hi:i=h.size
  ·subst hi;exact⟨K1 _,.inl (by have:=hnew b d e';omega)⟩
  ·rw[hold i b d hi e']at e;cases e
def Znm{wm:Nat}{ρ:Ren}{h:H}{w w':V9}{i b d:Nat}{A:YD}(r:Rel ρ h w)(Zt:wm<=i)(ho:(h.at i).own=true)(s:Same w w')(hi:ρ i=some (b,d))
 (hsz:w'.heap.size=w.heap.size) (hk:∀k,k≠b->w'.heap[k]? =w.heap[k]?) (hA:Qd ρ w' b d (ρ.lim i) A):
 Rel ρ (h.put i A) w'/\Stp wm ρ h w ρ (h.put i A) w':=by
 have hlt:=(r.dom i b d hi).1;have hat:∀j,j≠i->(h.put i A).at j=h.at j:=fun j hj=>by rw[H.XM,if_neg (fun x=>hj x.1)]
 have ZsK:(h.put i A).at i=A:=by rw[H.XM,if_pos ⟨rfl,hlt⟩]
 refine⟨⟨?_,?_,?_⟩,⟨Ren.le_refl ρ,by simp,?_,?_,?_,s.os,s.tape,s.output,by omega,?_,?_⟩⟩
 ·intro j b' d' e;have:=r.dom j b' d' e;rw[H.size_put,hsz];exact this
 ·intro j b' d' e;by_cases hj:j=i
  ·subst hj;rw[hi]at e;cases e;rw[ZsK];exact hA
  ·rw[hat j hj];by_cases hb:b'=b
   ·subst hb;by_cases hl:(h.at j).live=true
    ·exact absurd (r.inj i j b' d d' hi e ho hl).symm hj
    ·rw[Ur hl];trivial
   ·exact(r.obj j b' d' e).world (hk b' hb)
 ·intro j k b' d1 d2 e1 e2 h1 h2
  have h1':(h.at j).own=true:=by
   by_cases hj:j=i
   ·subst hj;exact ho
   ·rwa[hat j hj]at h1
  have h2':(h.at k).live=true:=by
   by_cases hj:k=i
   ·subst hj;exact J4 ho
   ·rwa[hat k hj]at h2
  exact r.inj j k b' d1 d2 e1 e2 h1' h2'
 ·intro j hj;exact hat j Vg
 ·intro j _ hj;by_cases hji:j=i
  ·subst hji;exact ho
  ·rwa[hat j hji]at hj
 ·intro j _ hj;by_cases hji:j=i
  ·subst hji;exact J4 ho
  ·rwa[hat j hji]at hj
 ·intro k _ hno;refine hk k fun e=>?_
  subst e;exact hno i d Zt hi ho
 ·intro j b' d' e e';rw[e]at e';cases e'
def KY{ρ:Ren}{h:H}{w:V9}{i:Nat}(r:Rel ρ h w):Rel ρ (h.put i .dead) w:=by
 have hd:∀j,(h.put i .dead).at j=h.at j\/(h.put i .dead).at j=.dead:=fun j=>by
  rw[H.XM];split
  ·exact .inr rfl
  ·exact .inl rfl
 refine⟨fun j b d e=>r.dom j b d e,fun j b d e=>?_,fun j k b d d' e e' h1 h2=>?_⟩
 ·rcases hd j with hx|hx
  ·rw[hx];exact r.obj j b d e
  ·rw[hx];trivial
 ·rcases hd j with hx|hx
  ·rcases hd k with hy|hy
   ·rw[hx]at h1;rw[hy]at h2;exact r.inj j k b d d' e e' h1 h2
   ·rw[hy]at h2;cases h2
  ·rw[hx]at h1;cases h1
def Zyj{wm:Nat}{ρ:Ren}{h:H}{w w':V9}{i b d d':Nat}{l:Nat×Nat}{A:YD}(r:Rel ρ h w)(Zt:wm<=i)(ho:(h.at i).own=true)(s:Same w w')(hi:ρ i=some (b,d))
 (hsz:w'.heap.size=w.heap.size) (hk:∀k,k≠b->w'.heap[k]? =w.heap[k]?) (hA:Qd (ρ.add h.size (b,d') l) w' b d' l A):
 Rel (ρ.add h.size (b,d') l) ((h.put i .dead).push A) w'/\Stp wm ρ h w (ρ.add h.size (b,d') l) ((h.put i .dead).push A) w':=by
 have hlt:=r.dom i b d hi;have hle:=Ren.ZaH (p:=(b,d')) (l:=l) r.fresh
 have hold:∀j b' e',j≠h.size->(ρ.add h.size (b,d') l) j=some (b',e')->ρ j=some (b',e'):=fun j b' e' hj e=>by
  rwa[(Ren.Uc hj).1]at e
 have hnew:∀b' e',(ρ.add h.size (b,d') l) h.size=some (b',e')->b'=b/\e'=d':=fun b' e' e=>by
  rw[Ren.add_same]at e;cases e;exact⟨rfl,rfl⟩
 have hat:∀j,j≠h.size->j≠i->((h.put i .dead).push A).at j=h.at j:=fun j hj hji=>by
  rw[H.Qc,H.size_put,if_neg hj,H.XM,if_neg (fun x=>hji x.1)]
 have ZsK:((h.put i .dead).push A).at i=.dead:=by
  rw[H.Qc,H.size_put,if_neg Vg,H.XM,if_pos ⟨rfl,hlt.1⟩]
 have ZzE:((h.put i .dead).push A).at h.size=A:=by rw[H.Qc,H.size_put,if_pos rfl]
 refine⟨⟨?_,?_,?_⟩,⟨hle,by simp,?_,?_,?_,s.os,s.tape,s.output,by omega,?_,?_⟩⟩
 ·intro j b' e' e;rw[H.size_push,H.size_put,hsz];by_cases hj:j=h.size
  ·subst hj;have:=hnew b' e' e;omega
  ·have:=r.dom j b' e' (hold j b' e' hj e);omega
 ·intro j b' e' e;by_cases hj:j=h.size
  ·subst hj;obtain⟨rfl,rfl⟩:=hnew b' e' e;rw[ZzE,Ren.ZaF];exact hA
  ·have e0:=hold j b' e' hj e;rw[(Ren.Uc hj).2];by_cases hji:j=i
   ·subst hji;rw[ZsK];trivial
   ·rw[hat j hj hji];by_cases hb:b'=b
    ·subst hb;by_cases hl:(h.at j).live=true
     ·exact absurd (r.inj i j b' d e' hi e0 ho hl).symm hji
     ·rw[Ur hl];trivial
    ·exact((r.obj j b' e' e0).mono hle).world (hk b' hb)
 ·intro j k b' d1 d2 e1 e2 h1 h2;have hjd:j≠i:=fun e=>by subst e;rw[ZsK]at h1;cases h1
  have hkd:k≠i:=fun e=>by subst e;rw[ZsK]at h2;cases h2
  by_cases hj:j=h.size
  ·by_cases hkk:k=h.size
   ·omega
   ·subst hj;obtain⟨rfl,rfl⟩:=hnew b' d1 e1;rw[hat k hkk hkd]at h2;exact absurd (r.inj i k b' d d2 hi (hold k b' d2 hkk e2) ho h2).symm hkd
  ·rw[hat j hj hjd]at h1;by_cases hkk:k=h.size
   ·subst hkk;obtain⟨rfl,rfl⟩:=hnew b' d2 e2;exact absurd (r.inj j i b' d1 d (hold j b' d1 hj e1) hi h1 (J4 ho)) hjd
   ·rw[hat k hkk hkd]at h2;exact r.inj j k b' d1 d2 (hold j b' d1 hj e1) (hold k b' d2 hkk e2) h1 h2
 ·intro j hj;exact hat j Vg Vg
 ·intro j hj hjo;by_cases hji:j=i
  ·subst hji;exact ho
  ·rwa[hat j Vg hji]at hjo
 ·intro j hj hjo;by_cases hji:j=i
  ·subst hji;exact J4 ho
  ·rwa[hat j Vg hji]at hjo
 ·intro k _ hno;refine hk k fun e=>?_
  subst e;exact hno i d Zt hi ho
 ·intro j b' e' e e2;by_cases hj:j=h.size
  ·subst hj;obtain⟨rfl,rfl⟩:=hnew b' e' e2;exact⟨K1 _,.inr ⟨i,d,Zt,hi,ho⟩⟩
  ·rw[hold j b' e' hj e2]at e;cases e
def Eff.sound{wm:Nat}{ρ ρ':Ren}{h h':H}{w w':V9}{E:Eff}(r:Rel ρ h w)(Zt:wm<=h.size)(s:Same w w')(ha:E.apply wm h=some h')(hr:E.real ρ h w ρ' w'):
 Rel ρ' h' w'/\Stp wm ρ h w ρ' h' w':=by
 cases E with
 | none=>
   simp only[Eff.apply,J1]at ha;subst ha;obtain⟨rfl,hw⟩:=hr;have hb:∀k:Nat,w'.heap[k]? =w.heap[k]?:=fun k=>by rw[hw]
   refine⟨⟨fun i b d e=>by rw[hw];exact r.dom i b d e,fun i b d e=>(r.obj i b d e).world (hb b),r.inj⟩,?_⟩;exact⟨Ren.le_refl _,K1 _,fun _ _=>rfl,fun _ _ x=>x,fun _ _ x=>x,s.os,s.tape,s.output,by rw[hw];exact K1 _,fun b _ _=>hb b,fun i b d e e'=>by rw[e]at e';cases e'⟩
 | new A=>
   simp only[Eff.apply]at ha;cases hA:A.own<;>rw[hA]at ha<;>simp at ha
   subst ha;obtain⟨l,rfl,⟨o,hw⟩,hA⟩:=hr;exact Zb7 r Zt s hw hA
 | upd i A=>
   simp only[Eff.apply]at ha;cases hc:(Nat.ble wm i&&(h.at i).own)<;>rw[hc]at ha<;>simp at ha
   subst ha;rw[Ba0]at hc;obtain⟨rfl,b,d,hi,hsz,hk,hA⟩:=hr;exact Znm r (Nl0 hc.1) hc.2 s hi hsz hk hA
 | grow i A=>
   simp only[Eff.apply]at ha;cases hc:(Nat.ble wm i&&(h.at i).own&&A.own)<;>rw[hc]at ha<;>simp at ha
   subst ha;rw[Ba0,Ba0]at hc;obtain⟨b,d,hi,⟨d',l,rfl,hsz,hk,hA⟩|⟨l,rfl,⟨o,hw⟩,hA⟩⟩:=hr
   ·exact Zyj r (Nl0 hc.1.1) hc.1.2 s hi hsz hk hA
   ·have r':=KY (i:=i) r;have hsz:(h.put i .dead).size=h.size:=rfl;obtain⟨a1,a2⟩:=Zb7 (wm:=wm) (A:=A) r' Zt s hw hA;refine⟨a1,⟨a2.ext,a2.size,fun j hj=>?_,fun j hj ho=>?_,fun j hj ho=>?_,a2.os,a2.tape,a2.output,a2.Y8,fun b hb hno=>Zca hw hb,fun j b e e1 e2=>?_⟩⟩
    ·rw[a2.keep j hj,H.XM,if_neg (fun x=>by have:=Nl0 hc.1.1;omega)]
    ·have:=a2.own j hj ho;rw[H.XM]at this;split at this
     ·cases this
     ·exact this
    ·have:=a2.live j hj ho;rw[H.XM]at this;split at this
     ·cases this
     ·exact this
    ·obtain⟨p,q⟩:=a2.Jv j b e e1 e2;refine⟨p,q.imp id fun⟨j',d',q1,q2,q3⟩=>⟨j',d',q1,q2,?_⟩⟩;rw[H.XM]at q3;split at q3
     ·cases q3
     ·exact q3
inductive AN where
 | val (v:Value)
 | skip
 | enter (f:FuncId) (args:Array Value)
 | round (l:Nat) (args:Array Value)
 | dfr (d:Deferred)
 | ZlT
 | panic (v:Value)
structure ZoV(ρ:Ren)(d d':Deferred):Prop where
 target:∃f cap cap',d.target=.fn (.func f) cap/\d'.target=.fn (.func f) cap'/\Jy ρ cap cap'
 args:Jy ρ d.args d'.args
def ZBS(ρ:Ren)(w:V9):AN->Result Next->Prop
 | .val v,r=>∃v',VR ρ v v'/\r=.ok (.value v') w
 | .skip,r=>r=.ok .skip w
 | .enter f args,r=>∃args',Jy ρ args args'/\r=.ok (.enter f args') w
 | .round l args,r=>∃l' k args',ρ l=some (l',0)/\w.heap[l']? =some (.loop k)/\Jy ρ args args'/\r=.ok (.round l' k.fn ((k.params.zip args').foldl (fun tmps (t,a)=>tmps.setIfInBounds t a) k.tmps) k.assign k.body) w
 | .dfr d,r=>∃d',ZoV ρ d d'/\r=.ok (.defer d') w
 | .ZlT,r=>r=.ok .recover w
 | .panic v,r=>∃v',VR ρ v v'/\r=.halt (.panic v') w
def XH(P:V7)(ρ:Ren)(h:H)(w:V9)(s:Sem Next)(nx:AN)(E:Eff):Prop:=
 ∃ρ' w',Same w w'/\E.real ρ h w ρ' w'/\ZBS ρ' w' nx (s.run P w)
def Same.refl(w:V9):Same w w:=⟨rfl,rfl,rfl⟩
variable{P:V7}{ρ:Ren}{h:H}{w:V9}
def XH.val{s:Sem Next}{v v':N}(hv:VR ρ v v')(hs:s.run P w=.ok (.value v') w):XH P ρ h w s (.val v) .none:=
 ⟨ρ,w,Same.refl w,⟨rfl,rfl⟩,v',hv,hs⟩
def XH.JA{s:Sem N}{v v':N}(hv:VR ρ v v')(hs:s.run P w=.ok v' w):XH P ρ h w (do pure (.value (<-s))) (.val v) .none:=
 XH.val hv (by simp[hs])
def Zr{α:Type}(P:V7):Sem α->O (Except N α)
 | .pure a=>some (.ok a)
 | .program k=>Zr P (k P)
 | .halt (.panic v)=>some (.error v)
 | _=>none
def Zbk{α:Type}:∀(s:Sem α)(a:α),Zr P s=some (.ok a)->∀w,s.run P w=.ok a w:=by
 intro s
 induction s with
 | pure a=>intro b hb w;simp only[Zr,J1,Except.ok.injEq]at hb;subst hb;rfl
 | program k ih=>intro a hs w;exact ih P a hs w
 | halt x=>intro a hs w;cases x<;>simp[Zr]at hs
 | load|store|new|shape|freeze|frozen|getObj|setObj|choose|sys|mark=>intro a hs;simp[Zr]at hs
def Zk7{α:Type}:∀(s:Sem α)(v:N),Zr P s=some (.error v)->∀w,s.run P w=.halt (.panic v) w:=by
 intro s
 induction s with
 | pure a=>intro b hb;simp[Zr]at hb
 | program k ih=>intro a hs w;exact ih P a hs w
 | halt x=>intro a hs w;cases x<;>simp[Zr]at hs;subst hs;rfl
 | load|store|new|shape|freeze|frozen|getObj|setObj|choose|sys|mark=>intro a hs;simp[Zr]at hs
def U0(P:V7)(s:Sem N):O AN:=
 match Zr P s with
 | some (.ok v)=>bif plain v then some (.val v) else none
 | some (.error v)=>bif plain v then some (.panic v) else none
 | none=>none
def Ue{s:Sem N}{nx:AN}(hp:U0 P s=some nx):XH P ρ h w (do pure (.value (<-s))) nx .none:=by
 unfold U0 at hp;split at hp
 ·rename_i v e;cases hpl:plain v<;>rw[hpl]at hp<;>simp at hp
  subst hp;exact XH.JA (VR.ZC hpl) (Zbk _ _ e w)
 ·rename_i v e;cases hpl:plain v<;>rw[hpl]at hp<;>simp at hp
  subst hp;exact⟨ρ,w,Same.refl w,⟨rfl,rfl⟩,v,VR.ZC hpl,by simp[Zk7 _ _ e w]⟩
 ·cases hp
def Yw(P:V7)(t:J):O Z:=
 match P.underlying t with
 | some (.struct _) | some (.array _ _)=>some true
 | some _=>some false
 | none=>none
def Yu(P:V7)(t:J):O Nat:=(P.info? t).map (·.size)
def Zc6{t:J}{b:Z}(hb:Yw P t=some b):(isAgg t).run P w=.ok b w:=by
 unfold Yw at hb;unfold isAgg;split at hb
 all_goals first
  | (cases hb;done)
  | (rename_i e;cases hb;simp[run_underlying e])
  | (rename_i d h1 h2 e;cases hb;cases d<;>simp_all[run_underlying e])
def run_sizeOf{t:J}{n:Nat}(hb:Yu P t=some n):(sizeOf t).run P w=.ok n w:=by
 unfold Yu at hb;cases e:P.info? t with
 | none=>rw[e]at hb;cases hb
 | some i=>rw[e]at hb;simp at hb;simp[sizeOf,typeInfo,e,hb]
def addr_add(b o n:Nat):(⟨b,o,none⟩:Addr).add n=⟨b,o+n,none⟩:=by
 unfold Addr.add;split<;>simp_all
def Ko(P:V7)(h:H)(t:J)(v:N):O N:=
 match v with
 | .pointer (some ⟨i,o,none⟩)=>
   match h.at i with
   | .row cs _ _=>
     match Yw P t,Yu P t with
     | some true,some n=>bif Nat.ble (o+n) cs.length then some (.agg ((cs.drop o).take n).toArray) else none
     | some false,_=>cs[o]?
     | _,_=>none
   | _=>none
 | _=>none
def Zej(t:J)(a:Addr):(Instr.loadAt t (.pointer (some a))).run P w=(loadVar t a).run P w:=by
 simp[Instr.loadAt,Instr.sureAddr]
def Zc7{cs:U N}{own:Z}{b d o n sz:Nat}{l:Nat×Nat}(hr:Qd ρ w b d l (.row cs own sz))(hn:o+n<=cs.length):
 ∃vs':U N,vs'.length=n/\(∀j,j<n->w.cell? ⟨b,d+o+j,none⟩=some (vs'.getD j undef))/\Jy ρ ((cs.drop o).take n).toArray vs'.toArray:=by
 obtain⟨cc,el,fz,hw,_,hlen,hv⟩:=hr;refine⟨(cc.toList.drop (d+o)).take n,by simp;omega,fun j hj=>?_,?_,?_⟩
 ·have h1:d+o+j<cc.size:=Vg
  simp[World.cell?,hw,h1,hj,Gi]
 ·simp;omega
 ·intro j v v' e e';simp[List.getElem?_take]at e e';exact hv (o+j) v v' (by simpa using e.2) (by rw[<-GU];simpa using e'.2)
def Zjz{t:J}{v v' x:N}(r:Rel ρ h w)(hv:VR ρ v v')(ha:Ko P h t v=some x):
 ∃x',VR ρ x x'/\(Instr.loadAt t v').run P w=.ok x' w:=by
 unfold Ko at ha;split at ha
 ·rename_i i o;cases hv with
  | ptr o hi=>
    rename_i b d;have ho:=r.obj _ _ _ hi;split at ha
    ·rename_i cs own sz hat;rw[hat]at ho;split at ha
     ·rename_i n h1 h2;cases hc:Nat.ble (o+n) cs.length<;>rw[hc]at ha<;>simp at ha
      subst ha;obtain⟨vs',hl,hcell,hvs⟩:=Zc7 (o:=o) (n:=n) ho (Nl0 hc);refine⟨.agg vs'.toArray,.agg _ _ hvs.1 hvs.2,?_⟩;have hlc:=run_loadCellsFrom (P:=P) (w:=w) ⟨b,d+o,none⟩ (fun j=>vs'.getD j undef) n 0 #[] (fun j hj=>by rw[addr_add];simpa using hcell j hj)
      have e:(List.range n).map (fun j=>vs'.getD (0+j) undef)=vs':=by
       apply List.ext_getElem (by simp[hl]);intro j h1 h2;simp at h1;simp[h2]
      rw[e]at hlc;rw[Zej];simp[loadVar,Zc6 h1,run_sizeOf h2,loadCells,hlc]
     ·rename_i h1;obtain⟨cc,el,fz,hw,_,hlen,hvv⟩:=ho
      have hlt:o<cs.length:=by
       rcases Gk o cs.length with hh|hh
       ·exact hh
       ·rw[Jx hh]at ha;cases ha
      have hcc:cc[d+o]? =some cc[d+o]:=GH Vg;refine⟨cc[d+o],hvv o x _ ha hcc,?_⟩;rw[Zej];have hcell:w.cell? ⟨b,d+o,none⟩=some cc[d+o]:=by simp[World.cell?,hw]
      simp[loadVar,Zc6 h1,hcell]
     ·cases ha
    ·cases ha
 ·cases ha
def ZcQ(P:V7)(s:J)(v:N)(f:Nat):O N:=
 match v,P.underlying s with
 | .pointer (some ⟨i,o,none⟩),some (.struct fs)=>
   match fs[f]? with
   | some x=>match Yu P x.type with
     | some (_+1)=>some (.pointer (some ⟨i,o+x.offset,none⟩))
     | _=>none
   | none=>none
 | _,_=>none
def ZqB{s:J}{v v' x:N}{f:Nat}(hv:VR ρ v v')(ha:ZcQ P s v f=some x):
 ∃x',VR ρ x x'/\(Instr.fieldAt s v' f).run P w=.ok x' w:=by
 unfold ZcQ at ha;split at ha
 ·rename_i i o fs hs;cases hv with
  | ptr o hi=>
    rename_i b d;split at ha
    ·rename_i y hy;split at ha
     ·rename_i n hn;simp at ha;subst ha;refine⟨.pointer (some ⟨b,d+(o+y.offset),none⟩),.ptr _ hi,?_⟩;simp[Instr.fieldAt,run_underlying hs,hy,Instr.sureAddr,fieldPlace,run_sizeOf hn,addr_add,GU]
     ·cases ha
    ·cases ha
 ·cases ha
def ZeK(P:V7)(t:J)(v ix:N):O N:=
 match ix,P.underlying t,v with
 | .int _ (.ofNat k),some (.slice e),.slice (some ⟨i,o,none⟩) n _=>
   match Yu P e with
   | some sz=>bif Nat.blt k n then some (.pointer (some ⟨i,o+k*sz,none⟩)) else none
   | none=>none
 | .int _ (.ofNat k),some (.array n e),.pointer (some ⟨i,o,none⟩)=>
   match Yu P e with
   | some sz=>bif Nat.blt k n then some (.pointer (some ⟨i,o+k*sz,none⟩)) else none
   | none=>none
 | _,_,_=>none
def ZpW{t:J}{v v' ix ix' x:N}(hv:VR ρ v v')(hi:VR ρ ix ix')(ha:ZeK P t v ix=some x):
 ∃x',VR ρ x x'/\(Instr.indexAt t v' ix').run P w=.ok x' w:=by
 unfold ZeK at ha;split at ha
 ·rename_i q k e i o n c he;cases hi;split at ha
  ·rename_i sz hsz;cases hc:Nat.blt k n<;>rw[hc]at ha<;>simp at ha
   rw[G6]at hc;subst ha;cases hv with
   | slice o n c c' hi hcap=>
     rename_i b d;refine⟨.pointer (some ⟨b,d+(o+k*sz),none⟩),.ptr _ hi,?_⟩;simp[Instr.indexAt,asIntOf,run_underlying he,run_sizeOf hsz,addr_add,GU];intro hx;omega
   | X7 o o' c hi hc1=>omega
  ·cases ha
 ·rename_i q k n e i o he;cases hi;split at ha
  ·rename_i sz hsz;cases hc:Nat.blt k n<;>rw[hc]at ha<;>simp at ha
   rw[G6]at hc;subst ha;cases hv with
   | ptr o hi=>
     rename_i b d;refine⟨.pointer (some ⟨b,d+(o+k*sz),none⟩),.ptr _ hi,?_⟩;simp[Instr.indexAt,asIntOf,run_underlying he,run_sizeOf hsz,addr_add,GU,Instr.sureAddr];intro hx;omega
  ·cases ha
 ·cases ha
def apart(P:V7)(t:J)(cs:Va N)(off:Nat):O N:=
 match Yw P t,Yu P t with
 | some true,some n=>bif Nat.ble (off+n) cs.size then some (.agg ((cs.toList.drop off).take n).toArray) else none
 | some false,_=>cs.toList[off]?
 | _,_=>none
def Zje{t:J}{cs cs':Va N}{off:Nat}{x:N}(hv:Jy ρ cs cs')(ha:apart P t cs off=some x):
 ∃x',VR ρ x x'/\(part t cs' off).run P w=.ok x' w:=by
 unfold apart at ha;split at ha
 ·rename_i n h1 h2;cases hc:Nat.ble (off+n) cs.size<;>rw[hc]at ha<;>simp at ha
  subst ha;have hle:=Nl0 hc;have hsz:=hv.1;refine⟨.agg (cs'.extract off (off+n)),.agg _ _ (by simp;omega) (fun i v v' e e'=>?_),by simp[part,Zc6 h1,run_sizeOf h2]⟩;simp[List.getElem?_take]at e;have hi:i<n:=e.1;rw[Array.getElem?_extract,if_pos Vg]at e';exact hv.2 (off+i) v v' (by simpa using e.2) e'
 ·rename_i h1;have hx:cs[off]? =some x:=by simpa using ha
  have hlt:off<cs.size:=by
   rcases Gk off cs.size with hh|hh
   ·exact hh
   ·rw[V5 hh]at hx;cases hx
  have hcc:cs'[off]? =some (cs'[off]'(by rw[<-hv.1];exact hlt)):=GH _;exact⟨_,hv.2 off x _ hx hcc,by simp[part,Zc6 h1,hcc]⟩
 ·cases ha
def ZoN(P:V7)(t:J)(v:N)(f:Nat):O N:=
 match P.underlying t,v with
 | some (.struct fs),.agg cs=>match fs[f]? with
   | some x=>apart P x.type cs x.offset
   | none=>none
 | _,_=>none
def ZnX{t:J}{v v' x:N}{f:Nat}(hv:VR ρ v v')(ha:ZoN P t v f=some x):
 ∃x',VR ρ x x'/\(Instr.field t v' f).run P w=.ok x' w:=by
 unfold ZoN at ha;split at ha
 ·rename_i fs cs hs;cases hv with
  | agg _ cs' hx hh=>
    split at ha
    ·rename_i y hy;obtain⟨x',h1,h2⟩:=Zje (w:=w) ⟨hx,hh⟩ ha;exact⟨x',h1,by simp[Instr.field,run_underlying hs,hy,asAgg,h2]⟩
    ·cases ha
 ·cases ha
def ZiB(P:V7)(t:J)(v ix:N):O N:=
 match P.underlying t,v,ix with
 | some (.array n e),.agg cs,.int _ (.ofNat k)=>match Yu P e with
   | some sz=>bif Nat.blt k n then apart P e cs (k*sz) else none
   | none=>none
 | _,_,_=>none
def ZnH{t:J}{v v' ix ix' x:N}(hv:VR ρ v v')(hi:VR ρ ix ix')(ha:ZiB P t v ix=some x):
 ∃x',VR ρ x x'/\(Instr.index t v' ix').run P w=.ok x' w:=by
 unfold ZiB at ha;split at ha
 ·rename_i n e cs q k hs;cases hi;cases hv with
  | agg _ cs' hx hh=>
    split at ha
    ·rename_i sz hsz;cases hc:Nat.blt k n<;>rw[hc]at ha<;>simp at ha
     rw[G6]at hc;obtain⟨x',h1,h2⟩:=Zje (w:=w) ⟨hx,hh⟩ ha;refine⟨x',h1,?_⟩;simp[Instr.index,asIntOf,run_underlying hs,run_sizeOf hsz,h2];intro hx;omega
    ·cases ha
 ·cases ha
def ZcR(v:N)(k:Nat):O N:=
 match v with
 | .tuple vs=>vs.toList[k]?
 | _=>none
def Zlp{v v' x:N}{k:Nat}(hv:VR ρ v v')(ha:ZcR v k=some x):∃x',VR ρ x x'/\(Instr.extract v' k).run P w=.ok x' w:=by
 unfold ZcR at ha;split at ha
 ·rename_i vs;cases hv with
  | tuple _ vs' hx hh=>
    have hx':vs[k]? =some x:=by simpa using ha
    have hlt:k<vs.size:=by
     rcases Gk k vs.size with hh|hh
     ·exact hh
     ·rw[V5 hh]at hx';cases hx'
    have hcc:vs'[k]? =some (vs'[k]'(by rw[<-hx];exact hlt)):=GH _;exact⟨_,hh k x _ hx' hcc,by simp[Instr.extract,hcc]⟩
 ·cases ha
def K5(P:V7)(t:J)(x y:N):O Z:=
 match P.underlying t,x,y with
 | some (.pointer _),.pointer a,.pointer none=>some a.isNone
 | some (.pointer _),.pointer none,.pointer b=>some b.isNone
 | some (.slice _),.slice a _ _,.slice none _ _=>some a.isNone
 | some (.slice _),.slice none _ _,.slice b _ _=>some b.isNone
 | some (.map _ _),.map a,.map none=>some a.isNone
 | some (.map _ _),.map none,.map b=>some b.isNone
 | some (.func _ _ _),.nilFunc,.nilFunc=>some true
 | some (.func _ _ _),.func _ _ _,.nilFunc=>some false
 | some (.func _ _ _),.nilFunc,.func _ _ _=>some false
 | some (.interface _),.iface _ _,.nilIface=>some false
 | some (.interface _),.nilIface,.iface _ _=>some false
 | _,_,_=>none
def Zyy(n:Nat){t:J}{x x' y y':N}{b:Z}(hx:VR ρ x x')(hy:VR ρ y y')(ha:K5 P t x y=some b):(Op.equalIn (n+1) t x' y').run P w=.ok b w:=by
 unfold K5 at ha;split at ha
 all_goals first
  | (cases ha;done)
  | (rename_i e;simp only[J1]at ha;subst ha;cases hx<;>cases hy<;>(rw[Op.equalIn,Sem.run_bind,run_underlying e];rfl))
def Zhy{t:J}{x x' y y':N}{b:Z}(hx:VR ρ x x')(hy:VR ρ y y')(ha:K5 P t x y=some b):(Op.equal t x' y').run P w=.ok b w:=
 Zyy 9999 hx hy ha
end
section
def LR(ρ:Ren)(xs ys:U N):Prop:=xs.length=ys.length/\∀(i:Nat)(v v':N),xs[i]? =some v->ys[i]? =some v'->VR ρ v v'
def Jy.list{ρ:Ren}{xs ys:Va N}(h:Jy ρ xs ys):LR ρ xs.toList ys.toList:=⟨by simpa using h.1,fun i v v' a b=>h.2 i v v' (by simpa using a) (by simpa using b)⟩
def LR.arr{ρ:Ren}{xs ys:U N}(h:LR ρ xs ys):Jy ρ xs.toArray ys.toArray:=⟨by simpa using h.1,fun i v v' a b=>h.2 i v v' (by simpa using a) (by simpa using b)⟩
def LR.nil{ρ:Ren}:LR ρ [] []:=⟨rfl,fun i v v' a=>by simp at a⟩
def LR.append{ρ:Ren}{xs ys xs' ys':U N}(h:LR ρ xs xs')(k:LR ρ ys ys'):LR ρ (xs++ys) (xs'++ys'):=by
 refine⟨by simp[h.1,k.1],fun i v v' a b=>?_⟩;rw[List.getElem?_append]at a b;by_cases hi:i<xs.length
 ·rw[if_pos hi]at a;rw[if_pos (by rw[<-h.1];exact hi)]at b;exact h.2 i v v' a b
 ·rw[if_neg hi]at a;rw[if_neg (by rw[<-h.1];exact hi),<-h.1]at b;exact k.2 _ v v' a b
def LR.take{ρ:Ren}{xs xs':U N}(h:LR ρ xs xs')(n:Nat):LR ρ (xs.take n) (xs'.take n):=by
 refine⟨by simp[h.1],fun i v v' a b=>?_⟩;rw[List.getElem?_take]at a b;by_cases hi:i<n
 ·rw[if_pos hi]at a b;exact h.2 i v v' a b
 ·rw[if_neg hi]at a;cases a
def LR.drop{ρ:Ren}{xs xs':U N}(h:LR ρ xs xs')(n:Nat):LR ρ (xs.drop n) (xs'.drop n):=by
 refine⟨by simp[h.1],fun i v v' a b=>?_⟩;rw[GB]at a b;exact h.2 _ v v' a b
def LR.cons{ρ:Ren}{x x':N}{xs xs':U N}(hx:VR ρ x x')(h:LR ρ xs xs'):LR ρ (x::xs) (x'::xs'):=by
 refine⟨by simp[h.1],fun i v v' a b=>?_⟩;cases i with
 | zero=>simp at a b;subst a b;exact hx
 | succ i=>simp at a b;exact h.2 i v v' a b
def LR.scalar{ρ:Ren}{xs:U N}(h:xs.all scalar=true):LR ρ xs xs:=by
 refine⟨rfl,fun i v v' a b=>?_⟩;rw[a]at b;cases b;rw[Kx]at h;exact VR.Qs (h v (GZ a))
def splice(cs:U N)(o:Nat)(vs:U N):U N:=cs.take o++vs++cs.drop (o+vs.length)
def LR.splice{ρ:Ren}{cs cs' vs vs':U N}(h:LR ρ cs cs')(k:LR ρ vs vs')(o:Nat):LR ρ (splice cs o vs) (splice cs' o vs'):=by
 unfold ZF.splice;rw[k.1];exact((h.take o).append k).append (h.drop _)
def JZ{cs vs:U N}{o:Nat}(h:o+vs.length<=cs.length):(splice cs o vs).length=cs.length:=by
 simp[splice];omega
variable{P:V7}{ρ:Ren}{h:H}{w:V9}
def Jd(h:H):N:=(Vf h.size)
def World.push(w:V9)(o:Obj):V9:= {w with heap:=w.heap.push o}
def KG(o:Obj):Same w (World.push w o):=⟨rfl,rfl,rfl⟩
def Zub(o:Obj):(World.push w o).heap[w.heap.size]? =some o:=by
 show(w.heap.push o)[w.heap.size]? =some o;rw[Array.getElem?_push,if_pos rfl]
def Zb8(r:Rel ρ h w){cs:U N}{cs':Va N}{e:J}{rest:U N}(sz:Nat)(hv:LR ρ cs rest)(hc:∃t,cs'.toList=rest++t):
 (Eff.new (.row cs true sz)).real ρ h w (ρ.add h.size (w.heap.size,0) (cs'.size,sz)) (World.push w (.cells cs' e)):=by
 refine⟨_,rfl,⟨_,rfl⟩,cs',e,(0,0),Zub _,fun _=>⟨rfl,fun _=>rfl⟩,?_,fun k v v' a b=>?_⟩
 ·obtain⟨t,ht⟩:=hc;have:cs'.size=(rest++t).length:=by rw[<-ht];simp
  rw[this];simp[hv.1]
 ·obtain⟨t,ht⟩:=hc;rw[<-G8,ht,G4]at b
  have hlt:k<rest.length:=by
   rw[<-hv.1];rcases Gk k cs.length with hh|hh
   ·exact hh
   ·rw[Jx hh]at a;cases a
  rw[GV hlt]at b;exact(hv.2 k v v' a b).mono (Ren.ZaH r.fresh)
def ZgP(w:V9)(l:Nat×Nat):VR (ρ.add h.size (w.heap.size,0) l) (Jd h) ((Vf w.heap.size)):=
 .ptr 0 (Ren.add_same ρ h.size _ _)
def ZwY(r:Rel ρ h w){v v':N}(e:J)(hv:VR ρ v v'):
 XH P ρ h w (do pure (.value (<-Instr.box e v'))) (.val (Jd h)) (.new (.row v.cells.toList true 0)):=
 ⟨_,World.push w (.cells v'.cells e),KG _,Zb8 r 0 hv.cells.list ⟨[],by simp⟩,_,ZgP w _,by simp[Instr.box,newVar,newRow];rfl⟩
def YF(P:V7)(t:J):O N:=
 match(P.info? t).bind (·.zero) with
 | some z=>bif z.cells.toList.all scalar&&plain z then some z else none
 | none=>none
def X5{t:J}{z:N}(hz:YF P t=some z):(∀w,(zeroValue t).run P w=.ok z w)/\z.cells.toList.all scalar=true/\plain z=true:=by
 unfold YF at hz;cases e:P.info? t with
 | none=>simp[e]at hz
 | some i=>
   cases e2:i.zero with
   | none=>simp[e,e2]at hz
   | some z0=>
     simp only[e,e2,Bq0]at hz;cases hc:(z0.cells.toList.all scalar&&plain z0)<;>rw[hc]at hz<;>simp at hz
     subst hz;rw[Ba0]at hc;exact⟨fun w=>by simp[zeroValue,typeInfo,e,e2],hc.1,hc.2⟩
def Zrv(r:Rel ρ h w){t:J}{z:N}(hz:YF P t=some z):
 XH P ρ h w (do pure (.value (<-Instr.alloc t true (.tuple #[])))) (.val (Jd h)) (.new (.row z.cells.toList true 0)):=by
 obtain⟨h1,h2,_⟩:=X5 hz;refine⟨_,World.push w (.cells z.cells t),KG _,Zb8 r 0 (LR.scalar h2) ⟨[],by simp⟩,_,ZgP w _,?_⟩;simp[Instr.alloc,newVar,newRow,h1];rfl
def ZcP(place:Nat->O (Nat×Nat))(cs:U N):U (Nat×N)->O (U N)
 | []=>some cs
 | (i,v)::rest=>
   match place i with
   | some (off,size)=>bif Nat.beq v.cells.toList.length size&&Nat.ble (off+v.cells.toList.length) cs.length then ZcP place (splice cs off v.cells.toList) rest else none
   | none=>none
def foldl_set(off:Nat):∀(vs:U N)(k:Nat)(cs:Va N),off+k+vs.length<=cs.size ->
 ((vs.zipIdx k).foldl (fun(cs:Va N)(x:N×Nat)=>cs.setIfInBounds (off+x.2) x.1) cs).toList=splice cs.toList (off+k) vs:=by
 intro vs
 induction vs with
 | nil=>intro k cs _;simp[splice]
 | cons v vs ih=>
   intro k cs hl;simp only[KK]at hl;rw[List.zipIdx_cons,Gq,ih (k+1) _ (by simp;omega)];apply GO;intro i;simp only[splice,Array.toList_setIfInBounds,Gc,KK,List.getElem?_append,List.getElem?_take,Gj,List.length_set,G3,GB,List.getElem?_cons];by_cases h1:i<off+k
   ·have:i<min (off+(k+1)) cs.size:=Vg
    have h3:i<min (off+k) cs.size:=Vg
    have h4:off+k≠i:=Vg
    have h5:i<off+(k+1):=Vg
    simp[this,h3,h1,h4,h5]
   ·by_cases h2:i=off+k
    ·subst h2;have:off+k<min (off+(k+1)) cs.size:=Vg
     have h3:¬ off+k<min (off+k) cs.size:=Vg
     have h5:off+k<off+(k+1):=Vg
     have h6:off+k<cs.size:=Vg
     have h7:off+k-min (off+k) cs.size=0:=Vg
     simp[this,h3,h5,h6,h7]
    ·have h3:¬ i<min (off+(k+1)) cs.size:=Vg
     have h4:¬ i<min (off+k) cs.size:=Vg
     have e1:min (off+(k+1)) cs.size=off+(k+1):=Vg
     have e2:min (off+k) cs.size=off+k:=Vg
     have e3:i-(off+k)=(i-(off+(k+1)))+1:=Vg
     rw[if_neg h3,if_neg h4,e1,e2,e3];by_cases h7:i-(off+(k+1))<vs.length
     ·have:i-(off+(k+1))+1<vs.length+1:=Vg
      simp[h7]
     ·simp only[h7,if_false];have h8:¬ (i-(off+(k+1))+1<vs.length+1):=Vg
      simp only[h8,if_false];rw[List.getElem?_set_ne Vg];congr 1;omega
def Zey(place:Nat->O (Nat×Nat)):∀(ps:U (Nat×N))(ps':U (Nat×N))(cs:U N)(cs':Va N)(out:U N),
 ps.length=ps'.length->(∀(i:Nat) p p',ps[i]? =some p->ps'[i]? =some p'->p'.1=p.1/\VR ρ p.2 p'.2)->LR ρ cs cs'.toList->ZcP place cs ps=some out ->
 ∃out',Instr.fill place cs' ps'=some out'/\LR ρ out out'.toList:=by
 intro ps
 induction ps with
 | nil=>
   intro ps' cs cs' out hl _ hc ha;cases ps' with
   | nil=>simp only[ZcP,J1]at ha;subst ha;exact⟨cs',rfl,hc⟩
   | cons p ps'=>simp at hl
 | cons p ps ih=>
   intro ps' cs cs' out hl hp hc ha;cases ps' with
   | nil=>simp at hl
   | cons p' ps'=>
     obtain⟨i,v⟩:=p;obtain⟨i',v'⟩:=p';obtain⟨h1,h2⟩:=hp 0 _ _ rfl rfl;simp only at h1 h2;subst h1;simp only[ZcP]at ha;split at ha
     ·rename_i off size hpl;cases hb:(Nat.beq v.cells.toList.length size&&Nat.ble (off+v.cells.toList.length) cs.length)<;>rw[hb]at ha<;>simp at ha
      rw[Ba0]at hb;obtain⟨hb1,hb2⟩:=hb;have hb1:=Nb0 hb1;have hb2:=Nl0 hb2;have hvc:=h2.cells;have hl1:v.cells.toList.length=v'.cells.toList.length:=by simpa using hvc.1
      have hl2:cs.length=cs'.size:=by simpa using hc.1
      have e:=foldl_set off v'.cells.toList 0 cs' Vg
      have e':(v'.cells.zipIdx.foldl (fun(cs:Va N)(x:N×Nat)=>cs.setIfInBounds (off+x.2) x.1) cs').toList=splice cs'.toList off v'.cells.toList:=by
       rw[<-Array.foldl_toList,Array.toList_zipIdx];exact e
      obtain⟨out',o1,o2⟩:=ih ps' (splice cs off v.cells.toList) (v'.cells.zipIdx.foldl (fun(cs:Va N)(x:N×Nat)=>cs.setIfInBounds (off+x.2) x.1) cs') out
       (by simpa using hl) (fun j q q' a b=>hp (j+1) q q' (by simpa using a) (by simpa using b)) (by rw[e'];exact hc.splice hvc.list off) (by simpa using ha)
      refine⟨out',?_,o2⟩;have n1:¬ (v'.cells.size≠size):=by simp at hl1 hb1;omega
      have n2:¬ (off+v'.cells.size>cs'.size):=by simp at hl1 hb2;omega
      simp only[Instr.fill,hpl];rw[if_neg (by simp at n1 n2 ⊢;omega)];exact o1
     ·cases ha
def Zda(P:V7):U Field->O (U (Nat×Nat))
 | []=>some []
 | f::fs=>match Yu P f.type,Zda P fs with
   | some n,some r=>some ((f.offset,n)::r)
   | _,_=>none
def Znq:∀(fs:U Field)(pl:U (Nat×Nat)),Zda P fs=some pl->(fs.mapM fun f=>(do pure (f.offset,<-sizeOf f.type):Sem (Nat×Nat))).run P w=.ok pl w:=by
 intro fs
 induction fs with
 | nil=>intro pl hp;simp only[Zda,J1]at hp;subst hp;rfl
 | cons f fs ih=>
   intro pl hp;simp only[Zda]at hp;split at hp
   ·rename_i n r e1 e2;simp only[J1]at hp;subst hp;have:=ih r e2;rw[List.mapM_cons];simp only[Sem.run_bind,run_sizeOf e1,Gx,this,Sem.run_pure]
   ·cases hp
def ZkQ(P:V7)(t:J)(ps:U (Nat×N)):O N:=
 match YF P t,P.underlying t with
 | some z,some (.struct fs)=>match Zda P fs.toList with
   | some pl=>(ZcP (fun i=>pl[i]?) z.cells.toList ps).map fun cs=>.agg cs.toArray
   | none=>none
 | some z,some (.array _ e)=>match Yu P e with
   | some n=>(ZcP (fun i=>some (i*n,n)) z.cells.toList ps).map fun cs=>.agg cs.toArray
   | none=>none
 | _,_=>none
def Zrj{t:J}{ps ps':U (Nat×N)}{x:N}(hl:ps.length=ps'.length)(hp:∀(i:Nat) p p',ps[i]? =some p->ps'[i]? =some p'->p'.1=p.1/\VR ρ p.2 p'.2)
 (ha:ZkQ P t ps=some x):∃x',VR ρ x x'/\(Instr.build t ps'.toArray).run P w=.ok x' w:=by
 unfold ZkQ at ha;split at ha
 ·rename_i z fs hz hu;obtain⟨h1,h2,_⟩:=X5 hz;split at ha
  ·rename_i pl hpl;cases hf:ZcP (fun i=>pl[i]?) z.cells.toList ps with
   | none=>rw[hf]at ha;simp at ha
   | some out=>
     rw[hf]at ha;simp only[V2,J1]at ha;subst ha;obtain⟨out',o1,o2⟩:=Zey (fun i=>pl[i]?) ps ps' z.cells.toList z.cells out hl hp (LR.scalar h2) hf;refine⟨.agg out',?_,?_⟩
     ·have:=o2.arr;exact .agg _ _ (by simpa using this.1) (by simpa using this.2)
     ·have hm:=Znq (w:=w) fs.toList pl hpl;have e:(fun i=>pl.toArray[i]?)=fun i:Nat=>pl[i]?:=by funext i;simp
      simp only[Instr.build,Sem.run_bind,h1,Gx,run_underlying hu];rw[Array.mapM_eq_mapM_toList];simp only[Sem.run_map,hm,Gx];rw[e,o1];simp
  ·cases ha
 ·rename_i z k e hz hu;obtain⟨h1,h2,_⟩:=X5 hz;split at ha
  ·rename_i n hn;cases hf:ZcP (fun i=>some (i*n,n)) z.cells.toList ps with
   | none=>rw[hf]at ha;simp at ha
   | some out=>
     rw[hf]at ha;simp only[V2,J1]at ha;subst ha;obtain⟨out',o1,o2⟩:=Zey (fun i=>some (i*n,n)) ps ps' z.cells.toList z.cells out hl hp (LR.scalar h2) hf;refine⟨.agg out',?_,?_⟩
     ·have:=o2.arr;exact .agg _ _ (by simpa using this.1) (by simpa using this.2)
     ·simp only[Instr.build,Sem.run_bind,h1,Gx,run_underlying hu,run_sizeOf hn];rw[o1];simp
  ·cases ha
 ·cases ha
end
section
variable{P:V7}{ρ:Ren}{h:H}{w:V9}
def VR.oneCell{v v':N}(hv:VR ρ v v')(h:v.oneCell'=true):v'.oneCell'=true:=by cases hv<;>simp_all[Value.oneCell']
def LR.oneCell{xs ys:U N}(hv:LR ρ xs ys)(h:xs.all Value.oneCell'=true):∀v∈ys,v.oneCell'=true:=by
 intro v hm;obtain⟨i,hi⟩:=Gp.1 hm
 have hlt:i<xs.length:=by
  rw[hv.1];rcases Gk i ys.length with hh|hh
  ·exact hh
  ·rw[Jx hh]at hi;cases hi
 rw[Kx]at h;exact(hv.2 i _ v (J0 hlt) hi).oneCell (h _ (GK hlt))
def setRow_other(w:V9)(g:Nat)(cs:Va N)(k:Nat)(hk:k≠g):(w.setRow g cs).heap[k]? =w.heap[k]?:=by
 unfold World.setRow;simp only[Array.getElem?_modify];rw[if_neg (fun e=>hk e.symm)]
def setRow_size(w:V9)(g:Nat)(cs:Va N):(w.setRow g cs).heap.size=w.heap.size:=by simp[World.setRow]
def Zhu(w:V9)(g:Nat)(cs:Va N):Same w (w.setRow g cs):=⟨rfl,rfl,rfl⟩
def Zc3{i b d o sz:Nat}{cs vs vs':U N}(hi:ρ i=some (b,d))(hr:Qd ρ w b d (ρ.lim i) (.row cs true sz))(hv:LR ρ vs vs')
 (h1:vs.all Value.oneCell'=true) (hl:o+vs.length<=cs.length):
 ∃w',(storeCells ⟨b,d+o,none⟩ vs').run P w=.ok () w'/\Same w w'/\(Eff.upd i (.row (splice cs o vs) true sz)).real ρ h w ρ w':=by
 obtain⟨cc,el,fz,hw,hfz,hlen,hc⟩:=hr;obtain⟨rfl,hlim⟩:=hfz rfl;have hl':=hv.1;refine⟨_,run_storeCells_at (P:=P) b (d+o) el vs' 0 cc w hw Vg (hv.oneCell h1),Zhu _ _ _,rfl,b,d,hi,setRow_size _ _ _,fun k hk=>setRow_other _ _ _ _ hk,?_⟩;have ZsH:(cc.toList.take (d+o+0)++vs'++cc.toList.drop (d+o+0+vs'.length)).toArray.toList=splice cc.toList (d+o) vs':=by simp[splice]
 refine⟨_,el,(0,0),setRow_heap w b cc _ el (0,0) hw,fun _=>⟨rfl,fun hz=>?_⟩,?_,fun k v v' a a'=>?_⟩
 ·rw[hlim hz];congr 1;rw[<-G3,<-G3,ZsH,JZ (by simp;omega)]
 ·have l2:(splice cc.toList (d+o) vs').length=cc.toList.length:=JZ (by simp;omega);rw[JZ hl,<-G3,ZsH,l2];simpa using hlen
 ·rw[<-G8,ZsH]at a'
  have hcl:LR ρ cs ((cc.toList.drop d).take cs.length):=by
   refine⟨by simp;omega,fun k v v' x y=>?_⟩;rw[List.getElem?_take]at y;split at y
   ·rw[GB]at y;exact hc k v v' x (by simpa using y)
   ·cases y
  have:=(hcl.splice hv o).2 k v v' a;refine this ?_
  have hk:k<cs.length:=by
   rw[<-JZ hl];rcases Gk k (splice cs o vs).length with hh|hh
   ·exact hh
   ·rw[Jx hh]at a;cases a
  rw[<-a'];simp only[splice,Gc,List.getElem?_append,List.getElem?_take,Gj,GB,GE,G3];have e1:min o (min cs.length (cc.size-d))=o:=Vg
  have e2:min (d+o) cc.size=d+o:=Vg
  rw[e1,e2];by_cases k1:k<o
  ·have a1:d+k<d+o:=Vg
   simp[k1,hk,a1]
  ·have a1:¬ d+k<d+o:=Vg
   have e3:d+k-(d+o)=k-o:=Vg
   by_cases k2:k-o<vs'.length
   ·simp[k1,a1,e3,k2]
   ·have a2:k<cs.length:=hk;have e4:d+(o+vs'.length+(k-o-vs'.length))=d+o+vs'.length+(k-o-vs'.length):=Vg
    have a3:o+vs'.length+(k-o-vs'.length)<cs.length:=Vg
    simp[k1,a1,e3,k2,a3,e4]
def Zhf(P:V7)(h:H)(t:J)(a x:N):O Eff:=
 match a,Yu P t with
 | .pointer (some ⟨i,o,none⟩),some n=>
   match h.at i with
   | .row cs true sz=>
     let vs:=x.cells.toList
     bif Nat.beq vs.length n&&Nat.ble (o+n) cs.length&&vs.all Value.oneCell' then some (.upd i (.row (splice cs o vs) true sz)) else none
   | _=>none
 | _,_=>none
def Zpg{t:J}{a a' x x':N}{E:Eff}(r:Rel ρ h w)(ha:VR ρ a a')(hx:VR ρ x x')(hs:Zhf P h t a x=some E):
 XH P ρ h w (do Instr.storeAt t a' x';pure .skip) .skip E:=by
 unfold Zhf at hs;split at hs
 ·rename_i i o n hn;cases ha with
  | ptr o hi=>
    rename_i b d;have ho:=r.obj _ _ _ hi;split at hs
    ·rename_i cs sz hat;rw[hat]at ho;dsimp only at hs;cases hc:(Nat.beq x.cells.toList.length n&&Nat.ble (o+n) cs.length&&x.cells.toList.all Value.oneCell')<;>rw[hc]at hs<;>simp at hs
     subst hs;rw[Ba0,Ba0]at hc;obtain⟨⟨h1,h2⟩,h3⟩:=hc;have h1:=Nb0 h1;have h2:=Nl0 h2;obtain⟨w',e1,e2,e3⟩:=Zc3 (P:=P) (h:=h) (vs:=x.cells.toList) (vs':=x'.cells.toList) (o:=o) hi ho hx.cells.list h3 Vg;refine⟨ρ,w',e2,e3,?_⟩
     have hsz:¬ (x'.cells.size≠n):=by
      have:=hx.cells.1;simp at h1;omega
     show(do Instr.storeAt t (.pointer (some ⟨b,d+o,none⟩)) x';pure .skip:Sem Next).run P w=.ok .skip w';simp only[Instr.storeAt,Instr.sureAddr,storeVar,Sem.run_bind,Sem.run_pure,Gx,run_sizeOf hn];rw[if_neg hsz];simp[e1]
    ·cases hs
 ·cases hs
def ZhA:N->O Nat
 | .int _ (.ofNat k)=>some k
 | _=>none
def JC{v v':N}{k:Nat}(hv:VR ρ v v')(h:ZhA v=some k):∃q,v'=.int q (k:Int):=by
 unfold ZhA at h;split at h
 ·cases h;cases hv;exact⟨_,rfl⟩
 ·cases h
def run_sliceBound{q:IntKind}{k y:Nat}{c:BoundsCode}(h:k<=y):(Instr.sliceBound (.int q (k:Int)) y c).run P w=.ok k w:=by
 have:(0:Int)<=(k:Int)/\(k:Int)<=(y:Int):=⟨Int.natCast_nonneg k,by omega⟩
 simp only[Instr.sliceBound,asIntOf,Sem.run_bind,Sem.run_pure,Gx];rw[if_pos this];simp
def obN(x:O N)(d:Nat):O Nat:=
 match x with
 | none=>some d
 | some v=>ZhA v
def ZeQ(ρ:Ren):O N->O N->Prop
 | none,none=>True
 | some v,some v'=>VR ρ v v'
 | _,_=>False
def Ziy{n c l k:Nat}{lo hi lo' hi':O N}(hl:ZeQ ρ lo lo')(hh:ZeQ ρ hi hi')(e1:obN lo 0=some l)(e2:obN hi n=some k)(h1:l<=k)(h2:k<=c)(b:Z):
 (Instr.sliceBounds b n c lo' hi' none).run P w=.ok (l,k,c) w:=by
 unfold Instr.sliceBounds;cases hi with
 | none=>
   cases hi' with
   | some _=>exact hh.elim
   | none=>
     simp only[obN,J1]at e2;subst e2;cases lo with
     | none=>
       cases lo' with
       | some _=>exact hl.elim
       | none=>simp only[obN,J1]at e1;subst e1;rfl
     | some v=>
       cases lo' with
       | none=>exact hl.elim
       | some v'=>
         obtain⟨q,rfl⟩:=JC hl e1;simp[run_sliceBound h1]
 | some u=>
   cases hi' with
   | none=>exact hh.elim
   | some u'=>
     obtain⟨q,rfl⟩:=JC hh e2;cases lo with
     | none=>
       cases lo' with
       | some _=>exact hl.elim
       | none=>simp only[obN,J1]at e1;subst e1;simp[run_sliceBound h2]
     | some v=>
       cases lo' with
       | none=>exact hl.elim
       | some v'=>
         obtain⟨q,rfl⟩:=JC hl e1;simp[run_sliceBound h1,run_sliceBound h2]
def Zou{n c l k m:Nat}{lo hi mx lo' hi' mx':O N}(hl:ZeQ ρ lo lo')(hh:ZeQ ρ hi hi')(hm:ZeQ ρ mx mx')(hs:hi.isSome=true)(hs':mx.isSome=true)(e1:obN lo 0=some l)(e2:obN hi n=some k)(e3:obN mx 0=some m)
 (h1:l<=k) (h2:k<=m) (h3:m<=c) (b:Z):(Instr.sliceBounds b n c lo' hi' mx').run P w=.ok (l,k,m) w:=by
 unfold Instr.sliceBounds;cases mx with
 | none=>simp at hs'
 | some x=>
   cases mx' with
   | none=>exact hm.elim
   | some x'=>
     obtain⟨q,rfl⟩:=JC hm e3;cases hi with
     | none=>simp at hs
     | some u=>
       cases hi' with
       | none=>exact hh.elim
       | some u'=>
         obtain⟨q,rfl⟩:=JC hh e2;cases lo with
         | none=>
           cases lo' with
           | some _=>exact hl.elim
           | none=>simp only[obN,J1]at e1;subst e1;simp[run_sliceBound h2,run_sliceBound h3]
         | some v=>
           cases lo' with
           | none=>exact hl.elim
           | some v'=>
             obtain⟨q,rfl⟩:=JC hl e1;simp[run_sliceBound h1,run_sliceBound h2,run_sliceBound h3]
def aslice(P:Program)(h:H)(t:TypeId)(x:Value)(lo hi mx:Option Value):Option Value:=
 match P.underlying t,x with
 | some (.slice e),.slice none 0 0=>
   match Yu P e,obN lo 0,obN hi 0,mx with
   | some _,some 0,some 0,none=>some (.slice none 0 0)
   | some _,some 0,some 0,some m=>match ZhA m with
     | some 0=>bif hi.isSome then some (.slice none 0 0) else none
     | _=>none
   | _,_,_,_=>none
 | some (.slice e),.slice (some ⟨0,0,some 0⟩) 0 0=>
   match Yu P e,obN lo 0,obN hi 0,mx with
   | some _,some 0,some 0,none=>some (.slice (some ⟨0,0,some 0⟩) 0 0)
   | some _,some 0,some 0,some m=>match ZhA m with
     | some 0=>bif hi.isSome then some (.slice (some ⟨0,0,some 0⟩) 0 0) else none
     | _=>none
   | _,_,_,_=>none
 | some (.slice e),.slice (some ⟨i,o,none⟩) n c=>
   match Yu P e,obN lo 0,obN hi n,mx with
   | some sz,some l,some k,none=>
     bif Nat.ble l k&&Nat.ble k (c / 2) then
      bif Nat.beq (c % 2) 0 then some (.slice (some ⟨i,bif Nat.beq (c / 2) l then o else o+l*sz,none⟩) (k-l) (2*(c / 2-l)))
      else bif Nat.beq l 0 then some (.slice (some ⟨i,o,none⟩) k c)
      else match h.at i with
       | .row _ true s=>bif Nat.beq s sz&&Nat.ble 1 sz then some (.slice (some ⟨i,o+l*sz,none⟩) (k-l) (2*(c / 2-l)+1)) else none
       | _=>none
     else none
   | some sz,some l,some k,some m=>match ZhA m with
     | some m=>bif Nat.ble l k&&Nat.ble k m&&Nat.ble m (c / 2)&&hi.isSome then
        some (.slice (some ⟨i,bif Nat.beq m l then o else o+l*sz,none⟩) (k-l) (2*(m-l)))
       else none
     | none=>none
   | _,_,_,_=>none
 | some (.array n e),.pointer (some ⟨i,o,none⟩)=>
   match Yu P e,obN lo 0,obN hi n,mx with
   | some sz,some l,some k,none=>
     bif Nat.ble l k&&Nat.ble k n&&Nat.ble n 9223372036854775807 then some (.slice (some ⟨i,bif Nat.beq n l then o else o+l*sz,none⟩) (k-l) (2*(n-l))) else none
   | _,_,_,_=>none
 | _,_=>none
def Uv(x y:Nat)(l:Nat×Nat)(k:Nat)(hk:k<=9223372036854775807):ZO6 (2*k) k x l/\(y=y):=by
 refine⟨⟨hk,?_⟩,rfl⟩;rw[if_pos Vg];omega
def Zpk{t:TypeId}{x x' v:Value}{lo hi mx lo' hi' mx':Option Value}(r:Rel ρ h w)(hx:VR ρ x x')(hl:ZeQ ρ lo lo')(hh:ZeQ ρ hi hi')(hm:ZeQ ρ mx mx')
 (ha:aslice P h t x lo hi mx=some v):∃v',VR ρ v v'/\(Instr.sliceAt t x' lo' hi' mx').run P w=.ok v' w:=by
 unfold aslice at ha;split at ha
 ·rename_i e hu;cases hx;split at ha
  ·rename_i sz hsz e1 e2;cases ha;cases mx' with
   | some _=>exact hm.elim
   | none=>
     refine⟨_,.KV,?_⟩;have hb:=Ziy (P:=P) (w:=w) (n:=0) (c:=0) hl hh e1 e2 Vh Vh true;simp[Instr.sliceAt,run_underlying hu,Instr.slice,hb,run_sizeOf hsz]
  ·rename_i sz m hsz e1 e2;split at ha
   ·rename_i e3;cases hs:hi.isSome<;>rw[hs]at ha<;>simp at ha
    subst ha;refine⟨_,.KV,?_⟩;have hb:=Zou (P:=P) (w:=w) (n:=0) (c:=0) hl hh hm hs rfl e1 e2 e3 Vh Vh Vh true;simp[Instr.sliceAt,run_underlying hu,Instr.slice,hb,run_sizeOf hsz]
   ·cases ha
  ·cases ha
 ·rename_i e hu;cases hx with
  | UE a=>
  split at ha
  ·rename_i sz hsz e1 e2;cases ha;cases mx' with
   | some _=>exact hm.elim
   | none=>
     refine⟨_,.UE a,?_⟩;have hb:=Ziy (P:=P) (w:=w) (n:=0) (c:=0) hl hh e1 e2 Vh Vh true;simp[Instr.sliceAt,run_underlying hu,Instr.slice,hb,run_sizeOf hsz]
  ·rename_i sz m hsz e1 e2;split at ha
   ·rename_i e3;cases hs:hi.isSome<;>rw[hs]at ha<;>simp at ha
    subst ha;refine⟨_,.UE a,?_⟩;have hb:=Zou (P:=P) (w:=w) (n:=0) (c:=0) hl hh hm hs rfl e1 e2 e3 Vh Vh Vh true;simp[Instr.sliceAt,run_underlying hu,Instr.slice,hb,run_sizeOf hsz]
   ·cases ha
  ·cases ha
 ·rename_i e i o n c hu;split at ha
  ·rename_i sz l k hsz e1 e2;cases mx' with
   | some _=>exact hm.elim
   | none=>
     cases hc:(Nat.ble l k&&Nat.ble k (c / 2))<;>rw[hc]at ha<;>simp at ha
     rw[Ba0]at hc;have h1:=Nl0 hc.1;have h2:=Nl0 hc.2
     have run:∀(a:Addr)(c':Nat),k<=c'->(Instr.sliceAt t (.slice (some a) n c') lo' hi' none).run P w=.ok (.slice (some (if c'=l then a else a.add (l*sz))) (k-l) (c'-l)) w:=fun a c' hk=>by
      have hb:=Ziy (P:=P) (w:=w) (n:=n) (c:=c') hl hh e1 e2 h1 hk true;simp[Instr.sliceAt,run_underlying hu,Instr.slice,hb,run_sizeOf hsz];split<;>rfl
     cases hx with
     | X7 _ o' _ hi hc1=>
       rename_i b d;have hk0:k=0:=Vg
       have hl0:l=0:=Vg
       subst hk0;subst hl0;have hc0:c / 2=0:=Vg
       refine⟨_,?_,run ⟨b,o',none⟩ 0 Vh⟩;rw[if_pos rfl];cases hev:Nat.beq (c % 2) 0<;>rw[hev]at ha<;>simp[hc0]at ha<;>subst ha
       ·exact .X7 _ _ _ hi hc1
       ·exact .X7 _ _ _ hi Vg
     | slice _ _ _ c' hi hcap=>
       rename_i b d;cases hev:Nat.beq (c % 2) 0<;>rw[hev]at ha<;>simp at ha
       ·have hodd:¬ c % 2=0:=fun e=>by rw[e]at hev;cases hev
        have hcb:=hcap.1;have ZbK:=hcap.2;rw[if_neg hodd]at ZbK;cases hl0:Nat.beq l 0<;>rw[hl0]at ha<;>simp at ha
        ·split at ha
         ·rename_i cs s hat;cases hs:(Nat.beq s sz&&Nat.ble 1 sz)<;>rw[hs]at ha<;>simp at ha
          subst ha;rw[Ba0]at hs;have hs1:=Nb0 hs.1;have hs2:=Nl0 hs.2;subst hs1;have ho:=r.obj _ _ _ hi;rw[hat]at ho;obtain⟨cc,el,fz,hw,hfz,hlen,_⟩:=ho;have hlim:=(hfz rfl).2 Vg;refine⟨_,?_,run ⟨b,d+o,none⟩ c' Vg⟩;by_cases hcl:c'=l
          ·have hkl:k=l:=Vg
           subst hkl;subst hcl;have hc2:c / 2=c':=Vg
           rw[if_pos rfl,hc2,Nat.sub_self];exact .X7 _ _ _ hi Vg
          ·rw[if_neg hcl,addr_add,GU];refine .slice _ _ _ _ hi ?_;refine⟨by omega,?_⟩;rw[if_neg Vg,hlim];rw[hlim]at ZbK;refine⟨by omega,?_⟩;have hmul:l*s+(c'-l)*s=c'*s:=by rw[<-Nat.add_mul];congr 1;omega
           have:=ZbK.2;simp only at this ⊢;omega
         ·cases ha
        ·have ZRf:l=0:=Nb0 hl0;subst ZRf;subst ha;refine⟨_,?_,run ⟨b,d+o,none⟩ c' Vg⟩;have e:(if c'=0 then(⟨b,d+o,none⟩:Addr) else(⟨b,d+o,none⟩:Addr).add (0*sz))=⟨b,d+o,none⟩:=by split<;>simp[addr_add]
         rw[e];exact .slice _ _ _ _ hi hcap
       ·subst ha;have hev:=Nb0 hev;have hcb:=hcap.1;have ZbK:=hcap.2;rw[if_pos hev]at ZbK;subst ZbK;refine⟨_,?_,run ⟨b,d+o,none⟩ (c / 2) Vg⟩;cases hcl:Nat.beq (c / 2) l
        ·rw[if_neg (fun e=>by rw[e,V4]at hcl;cases hcl),addr_add,GU];exact .slice _ _ _ _ hi (Uv _ 0 _ _ Vg).1
        ·rw[if_pos (Nb0 hcl)];exact .slice _ _ _ _ hi (Uv _ 0 _ _ Vg).1
  ·rename_i sz l k m hsz e1 e2;cases mx' with
   | none=>exact hm.elim
   | some m'=>
     split at ha
     ·rename_i m0 e3;cases hc:(Nat.ble l k&&Nat.ble k m0&&Nat.ble m0 (c / 2)&&hi.isSome)<;>rw[hc]at ha<;>simp at ha
      rw[Ba0,Ba0,Ba0]at hc;obtain⟨⟨⟨h1,h2⟩,h3⟩,h4⟩:=hc;have h1:=Nl0 h1;have h2:=Nl0 h2;have h3:=Nl0 h3
      have run:∀(a:Addr)(c':Nat),m0<=c'->(Instr.sliceAt t (.slice (some a) n c') lo' hi' (some m')).run P w=.ok (.slice (some (if m0=l then a else a.add (l*sz))) (k-l) (m0-l)) w:=fun a c' hk=>by
       have hb:=Zou (P:=P) (w:=w) (n:=n) (c:=c') (mx:=some m) (mx':=some m') hl hh hm h4 rfl e1 e2 e3 h1 h2 hk true;simp[Instr.sliceAt,run_underlying hu,Instr.slice,hb,run_sizeOf hsz];split<;>rfl
      subst ha;cases hx with
      | X7 _ o' _ hi hc1=>
        rename_i b d;have hm0:m0=0:=Vg
        have hk0:k=0:=Vg
        have hl0:l=0:=Vg
        subst hm0;subst hk0;subst hl0;refine⟨_,?_,run ⟨b,o',none⟩ 0 Vh⟩;exact .X7 _ _ _ hi Vg
      | slice _ _ _ c' hi hcap=>
        rename_i b d;have hcb:=hcap.1
        have hcc:m0<=c':=by
         have hcap:=hcap.2;split at hcap<;>omega
        refine⟨_,?_,run ⟨b,d+o,none⟩ c' hcc⟩;cases hcl:Nat.beq m0 l
        ·rw[if_neg (fun e=>by rw[e,V4]at hcl;cases hcl),addr_add,GU];exact .slice _ _ _ _ hi (Uv _ 0 _ _ Vg).1
        ·rw[if_pos (Nb0 hcl)];exact .slice _ _ _ _ hi (Uv _ 0 _ _ Vg).1
     ·cases ha
  ·cases ha
 ·rename_i n e i o hu;split at ha
  ·rename_i sz l k hsz e1 e2;cases mx' with
   | some _=>exact hm.elim
   | none=>
     cases hc:(Nat.ble l k&&Nat.ble k n&&Nat.ble n 9223372036854775807)<;>rw[hc]at ha<;>simp at ha
     rw[Ba0,Ba0]at hc;have h1:=Nl0 hc.1.1;have h2:=Nl0 hc.1.2;have h3:=Nl0 hc.2;subst ha;cases hx with
     | ptr _ hi=>
       rename_i b d;have hb:=Ziy (P:=P) (w:=w) (n:=n) (c:=n) hl hh e1 e2 h1 h2 false
       have run:(Instr.sliceAt t (.pointer (some ⟨b,d+o,none⟩)) lo' hi' none).run P w=.ok (.slice (some (if n=l then⟨b,d+o,none⟩ else(⟨b,d+o,none⟩:Addr).add (l*sz))) (k-l) (n-l)) w:=by
        simp[Instr.sliceAt,run_underlying hu,Instr.sureAddr,hb,run_sizeOf hsz]
       refine⟨_,?_,run⟩;cases hcl:Nat.beq n l
       ·rw[if_neg (fun e=>by rw[e,V4]at hcl;cases hcl),addr_add,GU];exact .slice _ _ _ _ hi (Uv _ 0 _ _ Vg).1
       ·rw[if_pos (Nb0 hcl)];exact .slice _ _ _ _ hi (Uv _ 0 _ _ Vg).1
  ·cases ha
 ·cases ha
def Rel.drawn(r:Rel ρ h w)(k:Nat):Rel ρ h {w with drawn:=k}:=⟨r.dom,r.obj,r.inj⟩
def reads(h:H)(x:Value)(sz:Nat):Option (List Value):=
 match x with
 | .slice none 0 0=>some []
 | .slice (some ⟨0,0,some 0⟩) 0 0=>some []
 | .slice (some ⟨i,o,none⟩) m _=>
   bif Nat.beq m 0 then some [] else
   match h.at i with
   | .row cs _ _=>bif Nat.ble (o+m*sz) cs.length then some ((cs.drop o).take (m*sz)) else none
   | _=>none
 | _=>none
def QS:N->Nat
 | .slice _ n _=>n
 | _=>0
def Zb9{x x':Value}{sz:Nat}{vs:List Value}(r:Rel ρ h w)(hx:VR ρ x x')(hr:reads h x sz=some vs):
 ∃vs',LR ρ vs vs'/\vs.length=QS x*sz/\(∀k,(Builtin.firstCells sz (QS x) x').run P {w with drawn:=k}=.ok vs'.toArray {w with drawn:=k})/\(Builtin.lenOf x').run P w=.ok (QS x) w:=by
 unfold reads at hr;split at hr
 ·cases hr;cases hx;exact⟨[],LR.nil,by simp[QS],fun k=>by simp[Builtin.firstCells],by simp[Builtin.lenOf,QS]⟩
 ·cases hr;cases hx;exact⟨[],LR.nil,by simp[QS],fun k=>by simp[Builtin.firstCells,loadCells,loadCellsFrom,QS],by simp[Builtin.lenOf,QS]⟩
 ·rename_i i o m c;cases hm:Nat.beq m 0<;>rw[hm]at hr<;>simp at hr
  ·split at hr
   ·rename_i cs own k hat;cases hc:Nat.ble (o+m*sz) cs.length<;>rw[hc]at hr<;>simp at hr
    subst hr;have hle:=Nl0 hc;cases hx with
    | X7 _ o' _ hi hc1=>cases hm
    | slice _ _ _ c' hi hcap=>
      rename_i b d;have ho:=r.obj _ _ _ hi;rw[hat]at ho;obtain⟨vs',hl,hcell,hvs⟩:=Zc7 (o:=o) (n:=m*sz) ho hle;refine⟨vs',by simpa using hvs.list,by simp[QS];omega,fun q=>?_,by simp[Builtin.lenOf,QS]⟩;have hlc:=run_loadCellsFrom (P:=P) (w:= {w with drawn:=q}) ⟨b,d+o,none⟩ (fun j=>vs'.getD j undef) (m*sz) 0 #[] (fun j hj=>by rw[addr_add];have:=hcell j hj;rw[G4];exact this)
      have e:(List.range (m*sz)).map (fun j=>vs'.getD (0+j) undef)=vs':=by
       apply List.ext_getElem (by simp[hl]);intro j h1 h2;simp[h2]
      rw[e]at hlc;simp[Builtin.firstCells,loadCells,QS,hlc]
   ·cases hr
  ·subst hr;have hm0:=Nb0 hm;subst hm0;cases hx<;>exact⟨[],LR.nil,by simp[QS],fun k=>by simp[Builtin.firstCells,loadCells,loadCellsFrom,QS],by simp[Builtin.lenOf,QS]⟩
 ·cases hr
def Zot(P:V7)(t:J):O Nat:=(P.info? t).map (·.bytes)
def Zwv(need:Nat):∀(r c:Nat),c<=2*need+1000->Builtin.growBy need r c<=2*need+1000:=by
 intro r
 induction r with
 | zero=>intro c hc;exact hc
 | succ r ih=>
   intro c hc;unfold Builtin.growBy;split
   ·exact hc
   ·exact ih _ Vg
def nextslicecap_le{need k:Nat}(hk:k<need):Builtin.nextslicecap need k<=2*need+1000:=by
 unfold Builtin.nextslicecap;split
 ·omega
 ·split
  ·omega
  ·exact Zwv _ _ _ Vg
def KC(P:V7)(ts:Va J):O (J×Nat×Nat×N):=
 match ts.toList with
 | st::xt::_=>
   match P.underlying st,P.underlying xt with
   | some (.slice e),some (.slice _)=>
     match Yu P e,Zot P e,YF P e with
     | some sz,some KN,some z=>bif Nat.ble 1 sz&&Nat.ble 1 KN&&Nat.beq z.cells.toList.length sz then some (e,sz,KN,z) else none
     | _,_,_=>none
   | _,_=>none
 | _=>none
def Zy5:N->Z
 | .slice _ _ _=>true
 | _=>false
def Q9(P:V7)(h:H)(ts:Va J)(s x:N):O (N×Eff):=
 match KC P ts,s with
 | some (_,sz,KN,_),.slice base n c=>
   match reads h x sz with
   | some new=>
     let m:=QS x
     bif Nat.ble (n+m) (c / 2) then
      bif Nat.beq m 0 then some (s,.none)
      else match base with
      | some ⟨i,o,none⟩=>match h.at i with
        | .row cs true k=>bif Nat.ble (o+n*sz+new.length) cs.length&&new.all Value.oneCell' then some (.slice base (n+m) c,.upd i (.row (splice cs (o+n*sz) new) true k)) else none
        | _=>none
      | _=>none
     else bif Nat.ble ((2*(n+m)+1000)*KN) (2 ^ 47)&&new.all Value.oneCell' then
      match reads h s sz with
      | some old=>
        bif Nat.beq (c % 2) 0 then some (.slice (some ⟨h.size,0,none⟩) (n+m) (2*(n+m)+1),.new (.row (old++new) true sz))
        else match base with
        | some ⟨i,_,none⟩=>match h.at i with
          | .row _ true k=>bif Nat.beq k sz then some (.slice (some ⟨h.size,0,none⟩) (n+m) (2*(n+m)+1),.grow i (.row (old++new) true sz)) else none
          | _=>none
        | _=>none
      | none=>none
     else none
   | none=>none
 | _,_=>none
def ZcL{ts:Va J}{ty e:J}{sz KN:Nat}{z:N}{base:O Addr}{n c m:Nat}{x:N}{new:U N}(hi:KC P ts=some (e,sz,KN,z))
 (hl:(Builtin.lenOf x).run P w=.ok m w) (hf:(Builtin.firstCells sz m x).run P w=.ok new.toArray w) (hroom:n+m<=c):
 (Builtin.append_ ts ty #[.slice base n c,x]).run P w=
   match base with
   | some a=>((storeCells (a.add (n*sz)) new).run P w).andThen fun _ w'=>.ok (.slice base (n+m) c) w'
   | none=>.ok (.slice none (n+m) c) w:=by
 unfold KC at hi;split at hi
 ·rename_i st xt rest hts;split at hi
  ·rename_i e0 xe h1 h2;split at hi
   ·rename_i sz0 by0 z0 s1 s2 s3;cases hc:(Nat.ble 1 sz0&&Nat.ble 1 by0&&Nat.beq z0.cells.toList.length sz0)<;>rw[hc]at hi<;>simp at hi
    obtain⟨rfl,rfl,rfl,rfl⟩:=hi;have t0:ts[0]? =some st:=by rw[<-G8,hts];rfl
    have t1:ts[1]? =some xt:=by rw[<-G8,hts];rfl
    unfold Builtin.append_;cases base<;>simp[t0,t1,run_underlying h1,run_underlying h2,run_sizeOf s1,hl,hroom,hf]
   ·cases hi
  ·cases hi
 ·cases hi
def ZoH{ts:Va J}{ty e:J}{sz KN:Nat}{z:N}{base:O Addr}{n c m:Nat}{x:N}{old new:U N}(hi:KC P ts=some (e,sz,KN,z))
 (hl:(Builtin.lenOf x).run P w=.ok m w) (hroom:c<n+m) (hb:(2*(n+m)+1000)*KN<=2 ^ 47)
 (ho:∀k,(Builtin.firstCells sz n (.slice base n c)).run P {w with drawn:=k}=.ok old.toArray {w with drawn:=k})
 (hf:∀k,(Builtin.firstCells sz m x).run P {w with drawn:=k}=.ok new.toArray {w with drawn:=k}):
 ∃(cap:Nat) (rest:U N),n+m<=cap/\cap<=9223372036854775807/\rest.length=(cap-(n+m))*sz/\(Builtin.append_ ts ty #[.slice base n c,x]).run P w=
   .ok (.slice (some ⟨w.heap.size,0,none⟩) (n+m) cap) (World.push {w with drawn:=w.drawn+1} (.cells (old++new++rest).toArray e)):=by
 unfold KC at hi;split at hi
 ·rename_i st xt rest hts;split at hi
  ·rename_i e0 xe h1 h2;split at hi
   ·rename_i sz0 by0 z0 s1 s2 s3;cases hc:(Nat.ble 1 sz0&&Nat.ble 1 by0&&Nat.beq z0.cells.toList.length sz0)<;>rw[hc]at hi<;>simp at hi
    obtain⟨rfl,rfl,rfl,rfl⟩:=hi;rw[Ba0,Ba0]at hc;obtain⟨⟨c1,c2⟩,c3⟩:=hc;have c1:=Nl0 c1;have c2:=Nl0 c2;have c3:=Nb0 c3;have t0:ts[0]? =some st:=by rw[<-G8,hts];rfl
    have t1:ts[1]? =some xt:=by rw[<-G8,hts];rfl
    obtain⟨z1,z2,z3⟩:=X5 s3;have hn:¬ n+m<=c:=Vg
    unfold Zot at s2;cases ei:P.info? e0 with
    | none=>rw[ei]at s2;cases s2
    | some inf=>
      rw[ei]at s2;simp only[V2,J1]at s2;have hti:∀w',(typeInfo e0).run P w'=.ok inf w':=fun w'=>by simp[typeInfo,ei]
      have hcapb:¬ (Builtin.nextslicecap (n+m) c*inf.bytes>2 ^ 48):=by
       have h5:=nextslicecap_le hroom;have h6:=Gz inf.bytes h5;rw[s2]at h6 ⊢;omega
      have hbz:¬ (inf.bytes=0):=Vg
      refine⟨(n+m)+w.tape w.drawn (.appendCap (n+m) c e0) % (2 ^ 63-(n+m)),(Builtin.zeroCells z0.cells (w.tape w.drawn (.appendCap (n+m) c e0) % (2 ^ 63-(n+m)))).toList,by omega,?_,?_,?_⟩
      ·have hle:(2*(n+m)+1000)*1<=(2*(n+m)+1000)*inf.bytes:=Nat.mul_le_mul_left _ Vg;rw[s2]at hle;have:=Nat.mod_lt (w.tape w.drawn (.appendCap (n+m) c e0)) (show 0<2 ^ 63-(n+m) by omega);omega
      ·simp[Builtin.zeroCells];rw[<-c3];simp
      ·unfold Builtin.append_;have ho':(Builtin.firstCells sz0 n (.slice base n c)).run P w.drew=.ok old.toArray w.drew:=ho (w.drawn+1);have hf':(Builtin.firstCells sz0 m x).run P w.drew=.ok new.toArray w.drew:=hf (w.drawn+1);simp[t0,t1,run_underlying h1,run_underlying h2,run_sizeOf s1,hl,hn,hti,hcapb,hbz,Question.forced,Question.cut,ho',hf',z1,newRow,World.push];unfold World.alloc World.drew;simp;congr 2;apply GX.1;simp
   ·cases hi
  ·cases hi
 ·cases hi
def Zpr{i b d o n c sz:Nat}{vs:List Value}(r:Rel ρ h w)(hi:ρ i=some (b,d))(hr:reads h (.slice (some ⟨i,o,none⟩) n c) sz=some vs):
 ∃vs',LR ρ vs vs'/\∀j,j<n*sz->w.cell? ⟨b,d+o+j,none⟩=some (vs'.getD j undef):=by
 simp only[reads]at hr;cases hm:Nat.beq n 0<;>rw[hm]at hr<;>simp at hr
 ·split at hr
  ·rename_i cs own k hat;cases hc:Nat.ble (o+n*sz) cs.length<;>rw[hc]at hr<;>simp at hr
   subst hr;have ho:=r.obj _ _ _ hi;rw[hat]at ho;obtain⟨vs',hl,hcell,hvs⟩:=Zc7 (o:=o) (n:=n*sz) ho (Nl0 hc);exact⟨vs',by simpa using hvs.list,hcell⟩
  ·cases hr
 ·subst hr;have hm0:=Nb0 hm;subst hm0;exact⟨[],LR.nil,fun j hj=>by omega⟩
def Zz3{i b d o n m sz c':Nat}{cs old new old' new':U N}(r:Rel ρ h w)(hi:ρ i=some (b,d))(hat:h.at i=.row cs true sz)(hsz:1<=sz)
 (ho:LR ρ old old') (hn:LR ρ new new') (lo:old.length=n*sz) (ln:new.length=m*sz) (h1:new.all Value.oneCell'=true)
 (hold:∀j,j<n*sz->w.cell? ⟨b,d+o+j,none⟩=some (old'.getD j undef)) (hcap:d+o+c'*(ρ.lim i).2<=(ρ.lim i).1) (hroom:n+m<=c'):
 ∃w',(storeCells ⟨b,d+o+n*sz,none⟩ new').run P w=.ok () w'/\Same w w'/\(Eff.grow i (.row (old++new) true sz)).real ρ h w (ρ.add h.size (b,d+o) (ρ.lim i)) w':=by
 have hob:=r.obj _ _ _ hi;rw[hat]at hob;obtain⟨cc,el,fz,hw,hfz,hlen,hc⟩:=hob;obtain⟨rfl,hlim⟩:=hfz rfl;have hlim:=hlim Vg;rw[hlim]at hcap;simp only at hcap;have hmul:n*sz+m*sz<=c'*sz:=by rw[<-Nat.add_mul];exact Gz _ hroom
 have ln':=hn.1;have lo':=ho.1;have hcl:cc.toList.length=cc.size:=G3;refine⟨_,run_storeCells_at (P:=P) b (d+o+n*sz) el new' 0 cc w hw Vg (hn.oneCell h1),Zhu _ _ _,b,d,hi,.inl ⟨d+o,_,rfl,setRow_size _ _ _,fun k hk=>setRow_other _ _ _ _ hk,?_⟩⟩;have ZsH:(cc.toList.take (d+o+n*sz+0)++new'++cc.toList.drop (d+o+n*sz+0+new'.length)).toArray.toList=splice cc.toList (d+o+n*sz) new':=by simp[splice]
 have l2:(splice cc.toList (d+o+n*sz) new').length=cc.toList.length:=JZ Vg;refine⟨_,el,(0,0),setRow_heap w b cc _ el (0,0) hw,fun _=>⟨rfl,fun _=>?_⟩,?_,fun k v v' a a'=>?_⟩
 ·rw[hlim];congr 1;rw[<-G3,<-G3,ZsH,l2]
 ·rw[<-G3,ZsH,l2,K2];omega
 ·rw[<-G8,ZsH]at a';have hle:=Ren.ZaH (p:=(b,d+o)) (l:=ρ.lim i) r.fresh;refine((ho.append hn).2 k v v' a ?_).mono hle;rw[<-a']
  have hk:k<old.length+new.length:=by
   rw[<-K2];rcases Gk k (old++new).length with hh|hh
   ·exact hh
   ·rw[Jx hh]at a;cases a
  simp only[splice,Gc,List.getElem?_append,List.getElem?_take,Gj,G3];have e2:min (d+o+n*sz) cc.size=d+o+n*sz:=Vg
  rw[e2];by_cases k1:k<n*sz
  ·have a1:k<old'.length:=Vg
   have a2:d+o+k<d+o+n*sz:=Vg
   have hcell:=hold k k1;have a3:d+o+k<cc.size:=Vg
   simp[World.cell?,hw,a3]at hcell;simp[a1,a2,a3,hcell]
  ·have a1:¬ k<old'.length:=Vg
   have a2:¬ d+o+k<d+o+n*sz:=Vg
   have e3:d+o+k-(d+o+n*sz)=k-old'.length:=Vg
   have a4:k-old'.length<new'.length:=Vg
   simp[a1,a2,e3,a4]
def ZoG{ts:Va J}{ty:J}{s s' x x' v:N}{E:Eff}(r:Rel ρ h w)(hs:VR ρ s s')(hx:VR ρ x x')(ha:Q9 P h ts s x=some (v,E)):
 XH P ρ h w (do pure (.value (<-Builtin.append_ ts ty #[s',x']))) (.val v) E:=by
 unfold Q9 at ha;split at ha
 ·rename_i e sz KN z base n c hi;split at ha
  ·rename_i new hnew;obtain⟨new',n1,n2,n3,n4⟩:=Zb9 (P:=P) r hx hnew;dsimp only at ha
   have hsz:1<=sz:=by
    unfold KC at hi;split at hi
    ·split at hi
     ·split at hi
      ·rename_i sz0 by0 z0 s1 s2 s3;cases hc:(Nat.ble 1 sz0&&Nat.ble 1 by0&&Nat.beq z0.cells.toList.length sz0)<;>rw[hc]at hi<;>simp at hi
       obtain⟨rfl,rfl,rfl,rfl⟩:=hi;rw[Ba0,Ba0]at hc;exact Nl0 hc.1.1
      ·cases hi
     ·cases hi
    ·cases hi
   cases hroom:Nat.ble (n+QS x) (c / 2)<;>rw[hroom]at ha<;>simp at ha
   ·-- a new row, or the room behind a row whose capacity is not known
    have hlt:c / 2<n+QS x:=by
     rcases Gk (c / 2) (n+QS x) with hh|hh
     ·exact hh
     ·rw[Nm0 hh]at hroom;cases hroom
    cases hb:(Nat.ble ((2*(n+QS x)+1000)*KN) 140737488355328&&new.all Value.oneCell')<;>rw[hb]at ha<;>simp at ha
    rw[Ba0]at hb;have hbound:=Nl0 hb.1;split at ha
    ·rename_i old hold;obtain⟨old',o1,o2,o3,o4⟩:=Zb9 (P:=P) r hs hold
     have fresh:∀base' c',s'=.slice base' n c'->c'<n+QS x->∃w' v' l,(Builtin.append_ ts ty #[s',x']).run P w=.ok v' w'/\Same w w'/\(∃ob,w'.heap=w.heap.push ob)/\
      VR (ρ.add h.size (w.heap.size,0) l) (.slice (some ⟨h.size,0,none⟩) (n+QS x) (2*(n+QS x)+1)) v'/\
      Qd (ρ.add h.size (w.heap.size,0) l) w' w.heap.size 0 l (.row (old++new) true sz):=by
      intro base' c' hs' hc';subst hs';have o3':∀k,(Builtin.firstCells sz n (.slice base' n c')).run P {w with drawn:=k}=.ok old'.toArray {w with drawn:=k}:=o3;obtain⟨cap,rest,q1,q4,q2,q3⟩:=ZoH (P:=P) (w:=w) (ty:=ty) hi n4 hc' (by simpa using hbound) o3' n3;refine⟨_,_,((old'++new'++rest).length,sz),q3,⟨rfl,rfl,rfl⟩,⟨_,rfl⟩,?_,?_⟩
      ·have:=VR.slice (ρ:=ρ.add h.size (w.heap.size,0) ((old'++new'++rest).length,sz)) 0 (n+QS x) (2*(n+QS x)+1) cap (Ren.add_same ρ h.size _ _) (by
        refine⟨q4,?_⟩;rw[if_neg Vg,Ren.ZaF];refine⟨by omega,?_⟩;have e1:old.length=n*sz:=o2;have e2:=o1.1;have e3:=n1.1
        have hm:n*sz+QS x*sz+(cap-(n+QS x))*sz=cap*sz:=by
         rw[<-Nat.add_mul,<-Nat.add_mul];congr 1;omega
        simp only[K2];omega)
       simpa using this
      ·have:=Zb8 (r.drawn (w.drawn+1)) (cs:=old++new) (cs':=(old'++new'++rest).toArray) (e:=e) (rest:=old'++new') sz (o1.append n1) ⟨rest,by simp⟩;obtain⟨l,e1,_,e2⟩:=this
       have hl:l=((old'++new'++rest).toArray.size,sz):=by
        have h1:=congrArg (fun ρ:Ren=>ρ.lim h.size) e1;simp only[Ren.ZaF]at h1;exact h1.symm
       subst hl
       simpa using e2
     cases hev:Nat.beq (c % 2) 0<;>rw[hev]at ha<;>simp at ha
     ·split at ha
      ·rename_i i o;split at ha
       ·rename_i cs k hat;cases hk:Nat.beq k sz<;>rw[hk]at ha<;>simp at ha
        obtain⟨rfl,rfl⟩:=ha;have hk:=Nb0 hk;subst hk;have hodd:¬ c % 2=0:=fun e=>by rw[e]at hev;cases hev
        cases hs with
        | X7 _ o' _ hi' hc1=>
          rename_i b d;obtain⟨w',v',l,f1,f2,f3,f4,f5⟩:=fresh (some ⟨b,o',none⟩) 0 rfl Vg;exact⟨_,w',f2,⟨b,d,hi',.inr ⟨l,rfl,f3,f5⟩⟩,v',f4,by simp[f1]⟩
        | slice _ _ _ c' hi' hcap=>
          rename_i b d;by_cases hc':c'<n+QS x
          ·obtain⟨w',v',l,f1,f2,f3,f4,f5⟩:=fresh (some ⟨b,d+o,none⟩) c' rfl hc';exact⟨_,w',f2,⟨b,d,hi',.inr ⟨l,rfl,f3,f5⟩⟩,v',f4,by simp[f1]⟩
          ·have ZbK:=hcap.2;rw[if_neg hodd]at ZbK;obtain⟨ZLq,p1,hcells⟩:=Zpr r hi' hold;obtain⟨w',g1,g2,g3⟩:=Zz3 (P:=P) (o:=o) (n:=n) (m:=QS x) (c':=c') r hi' hat hsz p1 n1 o2 n2 hb.2 hcells ZbK.2 Vg;refine⟨_,w',g2,g3,.slice (some ⟨b,d+o,none⟩) (n+QS x) c',?_,?_⟩
           ·have:=VR.slice (ρ:=ρ.add h.size (b,d+o) (ρ.lim i)) 0 (n+QS x) (2*(n+QS x)+1) c' (Ren.add_same ρ h.size _ _) (by
             refine⟨hcap.1,?_⟩;rw[if_neg Vg,Ren.ZaF];exact⟨by omega,by simpa using ZbK.2⟩)
            simpa using this
           ·have:=ZcL (P:=P) (w:=w) (ty:=ty) (base:=some ⟨b,d+o,none⟩) (n:=n) (c:=c') hi n4 (n3 w.drawn) Vg;dsimp only at this;rw[addr_add]at this;simp[this,g1]
       ·cases ha
      ·cases ha
     ·obtain⟨rfl,rfl⟩:=ha;have hev:=Nb0 hev;cases hs with
      | KV=>
        obtain⟨w',v',l,f1,f2,f3,f4,f5⟩:=fresh none 0 rfl Vg;exact⟨_,w',f2,⟨l,rfl,f3,f5⟩,v',f4,by simp[f1]⟩
      | UE a=>
        obtain⟨w',v',l,f1,f2,f3,f4,f5⟩:=fresh (some a) 0 rfl Vg;exact⟨_,w',f2,⟨l,rfl,f3,f5⟩,v',f4,by simp[f1]⟩
      | X7 _ o' _ hi' hc1=>
        obtain⟨w',v',l,f1,f2,f3,f4,f5⟩:=fresh _ 0 rfl Vg;exact⟨_,w',f2,⟨l,rfl,f3,f5⟩,v',f4,by simp[f1]⟩
      | slice _ _ _ c' hi' hcap=>
        have ZbK:=hcap.2;rw[if_pos hev]at ZbK;obtain⟨w',v',l,f1,f2,f3,f4,f5⟩:=fresh _ c' rfl Vg;exact⟨_,w',f2,⟨l,rfl,f3,f5⟩,v',f4,by simp[f1]⟩
    ·cases ha
   ·-- room that is known
    have hle:=Nl0 hroom;have room:∀c',c'=c / 2\/c / 2<=c'->n+QS x<=c':=fun c' hc'=>by omega
    cases hm:Nat.beq (QS x) 0<;>rw[hm]at ha<;>simp at ha
    ·split at ha
     ·rename_i i o;split at ha
      ·rename_i cs k hat;cases hb:(Nat.ble (o+n*sz+new.length) cs.length&&new.all Value.oneCell')<;>rw[hb]at ha<;>simp at ha
       obtain⟨rfl,rfl⟩:=ha;rw[Ba0]at hb;have hlen:=Nl0 hb.1;cases hs with
       | X7 _ o' _ hi' hc1=>
         exfalso;have:QS x=0:=Vg
         rw[this]at hm;cases hm
       | slice _ _ _ c' hi' hcap=>
         rename_i b d;have ho:=r.obj _ _ _ hi';rw[hat]at ho
         have hc':c / 2<=c':=by
          have hcap:=hcap.2;split at hcap<;>omega
         obtain⟨w',g1,g2,g3⟩:=Zc3 (P:=P) (h:=h) (o:=o+n*sz) hi' ho n1 hb.2 hlen;refine⟨ρ,w',g2,g3,.slice (some ⟨b,d+o,none⟩) (n+QS x) c',.slice _ _ _ _ hi' hcap,?_⟩;have:=ZcL (P:=P) (w:=w) (ty:=ty) (base:=some ⟨b,d+o,none⟩) (n:=n) (c:=c') hi n4 (n3 w.drawn) Vg;dsimp only at this;rw[addr_add,GU]at this;simp[this,g1]
      ·cases ha
     ·cases ha
    ·obtain⟨rfl,rfl⟩:=ha;have hm0:=Nb0 hm;have ZMC:new=[]:=G7 (by rw[n2,hm0,Nat.zero_mul]);have hnew1:new'=[]:=G7 (by rw[<-n1.1,ZMC];rfl);subst hnew1
     have fin:∀base' c',s'=.slice base' n c'->n+QS x<=c'->(Builtin.append_ ts ty #[s',x']).run P w=.ok s' w:=fun base' c' hs' hc'=>by
      subst hs';have:=ZcL (P:=P) (w:=w) (ty:=ty) (base:=base') (n:=n) (c:=c') hi n4 (n3 w.drawn) hc';rw[this,hm0];cases base'<;>simp[storeCells]
     refine XH.JA hs ?_;cases hs with
     | KV=>exact fin none 0 rfl Vg
     | UE a=>exact fin (some a) 0 rfl Vg
     | X7 _ o' _ hi' hc1=>exact fin _ 0 rfl Vg
     | slice _ _ _ c' hi' hcap=>
       refine fin _ c' rfl ?_;have hcap:=hcap.2;split at hcap<;>omega
  ·cases ha
 ·cases ha
def EL.length{es es':U Vb}(e:EL ρ es es'):es'.length=es.length:=by
 induction e with
 | nil=>rfl
 | cons _ _ _ _ _ ih=>simp[ih]
def EL.get{es es':U Vb}(e:EL ρ es es'):∀{i:Nat}{x:Vb},es[i]? =some x->∃x',es'[i]? =some x'/\x'.key=x.key/\plain x.key=true/\x'.born=x.born/\VR ρ x.val x'.val:=by
 induction e with
 | nil=>intro i x hx;simp at hx
 | cons hk hp hb hv _ ih=>
   intro i x hx;cases i with
   | zero=>simp at hx;subst hx;exact⟨_,rfl,hk,hp,hb,hv⟩
   | succ i=>simp at hx;simpa using ih hx
def EL.modify{es es':U Vb}(e:EL ρ es es'){f f':Vb->Vb}(hf:∀x x',x'.key=x.key->plain x.key=true->x'.born=x.born->VR ρ x.val x'.val ->
 (f' x').key=(f x).key/\plain (f x).key=true/\(f' x').born=(f x).born/\VR ρ (f x).val (f' x').val):∀(i:Nat),EL ρ (es.modify i f) (es'.modify i f'):=by
 induction e with
 | nil=>intro i;cases i<;>exact .nil
 | cons hk hp hb hv t ih=>
   intro i;cases i with
   | zero=>
     obtain⟨a,b,c,d⟩:=hf _ _ hk hp hb hv;exact .cons a b c d t
   | succ i=>exact .cons hk hp hb hv (ih i)
def EL.snoc{es es':U Vb}(e:EL ρ es es'){x x':Vb}(hk:x'.key=x.key)(hp:plain x.key=true)(hb:x'.born=x.born)(hv:VR ρ x.val x'.val):EL ρ (es++[x]) (es'++[x']):=by
 induction e with
 | nil=>exact .cons hk hp hb hv .nil
 | cons a b c d _ ih=>exact .cons a b c d ih
def EL.erase{es es':U Vb}(e:EL ρ es es'):∀(i:Nat),EL ρ (es.eraseIdx i) (es'.eraseIdx i):=by
 induction e with
 | nil=>intro i;exact .nil
 | cons a b c d t ih=>
   intro i;cases i with
   | zero=>exact t
   | succ i=>exact .cons a b c d (ih i)
def FR(ρ:Ren):O (Nat×N)->O (Nat×N)->Prop
 | none,none=>True
 | some (i,v),some (j,v')=>j=i/\VR ρ v v'
 | _,_=>False
def Zlm(kd:TypeDesc)(k:N){es es':U Vb}(e:EL ρ es es'):∀(i:Nat) r,Instr.findNow kd k es i=some r->∃r',Instr.findNow kd k es' i=some r'/\FR ρ r r':=by
 induction e with
 | nil=>intro i r hr;simp only[Instr.findNow,J1]at hr;subst hr;exact⟨none,rfl,trivial⟩
 | cons hk hp hb hv t ih=>
   intro i r hr;simp only[Instr.findNow]at hr ⊢;rw[hk];split at hr
   ·cases hr;exact⟨_,rfl,rfl,hv⟩
   ·exact ih _ _ hr
   ·cases hr
def ZnW(kd:TypeDesc)(k:N){es es':U Vb}(e:EL ρ es es'):∀(i:Nat),Instr.findNow kd k es i=none->Instr.findNow kd k es' i=none:=by
 induction e with
 | nil=>intro i hr;simp[Instr.findNow]at hr
 | cons hk hp hb hv t ih=>
   intro i hr;simp only[Instr.findNow]at hr ⊢;rw[hk];split at hr
   ·cases hr
   ·exact ih _ hr
   ·rfl
def Ze5{α β:Type}:∀(s:Sem α)(f:α->Sem β)(b:β),Zr P (s >>=f)=some (.ok b)->∃a,Zr P s=some (.ok a)/\Zr P (f a)=some (.ok b):=by
 intro s
 induction s with
 | pure a=>intro f b hb;exact⟨a,rfl,hb⟩
 | program k ih=>intro f b hb;exact ih P f b hb
 | halt x=>intro f b hb;cases x<;>cases hb
 | load|store|new|shape|freeze|frozen|getObj|setObj|choose|sys|mark=>intro f b hb;cases hb
def ZgT(kt:J)(k:N){es es':U Vb}(e:EL ρ es es'):∀(i:Nat) r,Zr P (Instr.findAsking kt k es i)=some (.ok r)->∃r',(Instr.findAsking kt k es' i).run P w=.ok r' w/\FR ρ r r':=by
 induction e with
 | nil=>intro i r hr;simp only[Instr.findAsking]at hr;cases hr;exact⟨none,rfl,trivial⟩
 | @cons e e' es es' hk hp hb hv t ih=>
   intro i r hr;simp only[Instr.findAsking]at hr ⊢;obtain⟨b,h1,h2⟩:=Ze5 _ _ _ hr;rw[hk];have hb1:=Zbk _ _ h1 w;cases b with
   | true=>
     simp only[if_true]at h2;cases h2;exact⟨some (i,e'.val),by simp[hb1],rfl,hv⟩
   | false=>
     simp only[Bool.false_eq_true,if_false]at h2;obtain⟨r',q1,q2⟩:=ih (i+1) r h2;exact⟨r',by simp[hb1,q1],q2⟩
def Zln(kt:J)(k:N){es es':U Vb}(e:EL ρ es es'){r:O (Nat×N)}(hr:Zr P (Instr.findKey kt k es)=some (.ok r)):
 ∃r',(Instr.findKey kt k es').run P w=.ok r' w/\FR ρ r r':=by
 unfold Instr.findKey at hr ⊢;obtain⟨d,h1,h2⟩:=Ze5 _ _ _ hr;have hd:=Zbk _ _ h1 w;cases hf:Instr.findNow d k es 0 with
 | some x=>
   rw[hf]at h2;simp only[Pure.pure,Zr,J1,Except.ok.injEq]at h2;subst h2;obtain⟨r',q1,q2⟩:=Zlm d k e 0 x hf;exact⟨r',by simp[hd,q1],q2⟩
 | none=>
   rw[hf]at h2;obtain⟨r',q1,q2⟩:=ZgT (P:=P) (w:=w) kt k e 0 r h2;exact⟨r',by simp[hd,ZnW d k e 0 hf,q1],q2⟩
def ZbQ(h:H)(m:N):O (U Vb×Nat):=
 match m with
 | .map none=>some ([],0)
 | .map (some i)=>match h.at i with
   | .map es c=>some (es,c)
   | _=>none
 | _=>none
def run_getObj_map{b c:Nat}{es:Va Vb}(hb:w.heap[b]? =some (.map es c)):(getObj b).run P w=.ok (.map es c) w:=by
 simp[getObj,Sem.run,hb]
def run_setObj_map{b c:Nat}{es:Va Vb}{o:Obj}(hb:w.heap[b]? =some (.map es c)):(setObj b o).run P w=.ok () {w with heap:=w.heap.setIfInBounds b o}:=by
 simp[setObj,Sem.run,hb]
def Kk(P:V7)(e:Z)(kt:J)(k:N):Z:=
 plain k&&(match Zr P (Instr.checkKey e 10000 kt k) with|some (.ok _)=>true|_=>false)
def Wh{e:Z}{kt:J}{k k':N}(hk:VR ρ k k')(h:Kk P e kt k=true):k'=k/\plain k=true/\∀w,(Instr.checkKey e 10000 kt k).run P w=.ok () w:=by
 unfold Kk at h;rw[Ba0]at h;refine⟨VR.YS h.1 hk,h.1,fun w=>?_⟩;have:=h.2;split at this
 ·rename_i e;exact Zbk _ _ e w
 ·cases this
def ZhS(P:V7)(kt:J)(k:N)(es:U Vb):O (O (Nat×N)):=
 match Zr P (Instr.findKey kt k es) with
 | some (.ok r)=>some r
 | _=>none
def QW{kt:J}{k:N}{es es':U Vb}{r:O (Nat×N)}(e:EL ρ es es')(ha:ZhS P kt k es=some r):
 ∃r',(Instr.findKey kt k es').run P w=.ok r' w/\FR ρ r r':=by
 unfold ZhS at ha;split at ha
 ·rename_i q;cases ha;exact Zln kt k e q
 ·cases ha
def VR.pair{a a' b b':N}(h1:VR ρ a a')(h2:VR ρ b b'):VR ρ (.tuple #[a,b]) (.tuple #[a',b']):=by
 refine .tuple _ _ rfl fun i v v' e e'=>?_
 match i with
 | 0=>simp at e e';subst e e';exact h1
 | 1=>simp at e e';subst e e';exact h2
 | i+2=>simp at e
def WT(P:V7)(h:H)(t:J)(m k:N)(ok:Z):O N:=
 match P.underlying t,ZbQ h m with
 | some (.map kt et),some (es,_)=>
   bif Kk P es.isEmpty kt k then
    match ZhS P kt k es with
    | some (some (_,v))=>some (bif ok then .tuple #[v,.bool true] else v)
    | some none=>match YF P et with
      | some z=>some (bif ok then .tuple #[z,.bool false] else z)
      | none=>none
    | none=>none
   else none
 | _,_=>none
def Wu{m m':N}{es:U Vb}{c:Nat}(r:Rel ρ h w)(hm:VR ρ m m')(ha:ZbQ h m=some (es,c)):
 (m=.map none/\m'=.map none/\es=[])\/∃i b es',m=.map (some i)/\m'=.map (some b)/\ρ i=some (b,0)/\h.at i=.map es c/\w.heap[b]? =some (.map es' c)/\EL ρ es es'.toList:=by
 unfold ZbQ at ha;split at ha
 ·cases hm;cases ha;exact .inl ⟨rfl,rfl,rfl⟩
 ·rename_i i;cases hm with
  | map hi=>
    rename_i b;split at ha
    ·rename_i es0 c0 hat;cases ha;have:=r.obj _ _ _ hi;rw[hat]at this;obtain⟨_,es',h1,h2⟩:=this;exact .inr ⟨i,b,es',rfl,rfl,hi,hat,h1,h2⟩
    ·cases ha
 ·cases ha
def FR.some{i:Nat}{v:N}{r':O (Nat×N)}(h:FR ρ (some (i,v)) r'):∃v',r'=some (i,v')/\VR ρ v v':=by
 cases r' with
 | none=>exact h.elim
 | some p=>obtain⟨j,v'⟩:=p;obtain⟨rfl,hv⟩:=h;exact⟨v',rfl,hv⟩
def FR.none{r':O (Nat×N)}(h:FR ρ none r'):r'=Option.none:=by
 cases r' with
 | none=>rfl
 | some p=>exact h.elim
def Zbq{t kt et:J}{m k:N}{ok:Z}{es':Va Vb}{r':O (Nat×N)}{z:N}(hu:P.underlying t=some (.map kt et))
 (hm:(m=.map none/\es'=#[])\/∃b c,m=.map (some b)/\w.heap[b]? =some (.map es' c))
 (hck:(Instr.checkKey es'.isEmpty 10000 kt k).run P w=.ok () w) (q:(Instr.findKey kt k es'.toList).run P w=.ok r' w) (hz:r'=none->(zeroValue et).run P w=.ok z w):
 (Instr.lookup t m k ok).run P w=.ok (match r' with|some (_,v)=>if ok then .tuple #[v,.bool true] else v|none=>if ok then .tuple #[z,.bool false] else z) w:=by
 rcases hm with⟨rfl,rfl⟩|⟨b,c,rfl,hb⟩
 ·cases r' with
  | none=>simp[Instr.lookup,run_underlying hu]at *;simp[hck,q,hz]
  | some p=>simp[Instr.lookup,run_underlying hu]at *;simp[hck,q]
 ·cases r' with
  | none=>simp[Instr.lookup,run_underlying hu,run_getObj_map hb,hck,q,hz]
  | some p=>simp[Instr.lookup,run_underlying hu,run_getObj_map hb,hck,q]
def Zlc{t:J}{m m' k k' v:N}{ok:Z}(r:Rel ρ h w)(hm:VR ρ m m')(hk:VR ρ k k')(ha:WT P h t m k ok=some v):
 ∃v',VR ρ v v'/\(Instr.lookup t m' k' ok).run P w=.ok v' w:=by
 unfold WT at ha;split at ha
 ·rename_i kt et es c hu hmap;cases hok:Kk P es.isEmpty kt k<;>rw[hok]at ha<;>simp at ha
  obtain⟨rfl,_,hck⟩:=Wh hk hok
  obtain⟨es',hes,hm'⟩:∃es':Va Vb,EL ρ es es'.toList/\((m'=.map none/\es'=#[])\/∃b c,m'=.map (some b)/\w.heap[b]? =some (.map es' c)):=by
   rcases Wu r hm hmap with⟨rfl,rfl,rfl⟩|⟨i,b,es',rfl,rfl,hi,hat,hb,hes⟩
   ·exact⟨#[],.nil,.inl ⟨rfl,rfl⟩⟩
   ·exact⟨es',hes,.inr ⟨b,c,rfl,hb⟩⟩
  have hemp:es'.isEmpty=es.isEmpty:=by
   have:=hes.length;rw[G3]at this;rw[GM,Array.isEmpty_iff_size_eq_zero,List.isEmpty_iff_length_eq_zero];omega
  have ZMP:(Instr.checkKey es'.isEmpty 10000 kt k').run P w=.ok () w:=by rw[hemp];exact hck w
  split at ha
  ·rename_i j v0 hf;obtain⟨r',q1,q2⟩:=QW (w:=w) hes hf;obtain⟨v',rfl,hv⟩:=FR.some q2;cases ha;refine⟨_,?_,Zbq (z:=undef) hu hm' ZMP q1 (fun e=>by cases e)⟩;cases ok
   ·exact hv
   ·exact VR.pair hv (.bool true)
  ·rename_i hf;split at ha
   ·rename_i z hz;obtain⟨z1,z2,z3⟩:=X5 hz;obtain⟨r',q1,q2⟩:=QW (w:=w) hes hf;obtain rfl:=FR.none q2;cases ha;refine⟨_,?_,Zbq hu hm' ZMP q1 (fun _=>z1 w)⟩;cases ok
    ·exact VR.ZC z3
    ·exact VR.pair (VR.ZC z3) (.bool false)
   ·cases ha
  ·cases ha
 ·cases ha
def Zh5(a b:Y):(a==b)=decide (a=b):=by
 rw[GM,decide_eq_true_iff];cases a with|mk a=>cases b with|mk b=>
 show(a==b)=true↔_;simp
def ZD8(s:Y):∀(l:U Vb),(∀e∈l,∃s b,e.key=.string s/\e.val=.bool b)->∀i,∃r,Instr.findNow .string (.string s) l i=some r/\
 ((r=none/\fnd s l=none/\∀v c t,fnd t (l++[⟨.string s,.bool v,c⟩])=bif t==s then some v else fnd t l)\/
   ∃j b e,r=some (i+j,.bool b)/\fnd s l=some b/\l[j]? =some e/\e.key=.string s/\∀v t,fnd t (l.modify j fun e=>{e with key:=.string s,val:=.bool v})=bif t==s then some v else fnd t l):=by
 intro l
 induction l with
 | nil=>intro _ i;exact⟨none,rfl,.inl ⟨rfl,rfl,fun v c t=>rfl⟩⟩
 | cons e l ih=>
   intro he i;obtain⟨u,b,hu,hb⟩:=he e (by simp);obtain⟨k,v0,c0⟩:=e;dsimp only at hu hb;subst hu hb;by_cases h:s=u
   ·subst h;refine⟨some (i,.bool b),by simp[Instr.findNow,Instr.sameNow,Zh5],.inr ⟨0,b,_,rfl,by simp[fnd,Zh5],rfl,rfl,fun v t=>?_⟩⟩;simp only[List.modify_zero_cons,fnd];cases t==s<;>rfl
   ·have hsu:(s==u)=false:=by rw[Zh5];exact decide_eq_false h
    obtain⟨r,h1,h2⟩:=ih (fun e m=>he e (Kf _ m)) (i+1);have hf:∀t,fnd t (⟨.string u,.bool b,c0⟩::l)=bif t==u then some b else fnd t l:=fun t=>rfl
    have hx:∀(v:Z) t,(bif t==u then some b else bif t==s then some v else fnd t l)=bif t==s then some v else bif t==u then some b else fnd t l:=fun v t=>by
     cases h1:t==u
     ·rfl
     ·have:t=u:=by rw[Zh5]at h1;exact of_decide_eq_true h1
      have h2:(t==s)=false:=by rw[Zh5];exact decide_eq_false fun z=>h (z.symm.trans this)
      rw[h2];rfl
    refine⟨r,by simp[Instr.findNow,Instr.sameNow,hsu,h1],?_⟩;rcases h2 with⟨q1,q2,q3⟩|⟨j,b',e',q1,q2,q3,q4,q5⟩
    ·refine .inl ⟨q1,by rw[hf,hsu];exact q2,fun v c t=>?_⟩;rw[List.cons_append];show(bif t==u then some b else fnd t (l++_))=_;rw[q3,hf];exact hx v t
    ·refine .inr ⟨j+1,b',e',by rw[q1];congr 2;omega,by rw[hf,hsu];exact q2,q3,q4,fun v t=>?_⟩;rw[List.modify_succ_cons];show(bif t==u then some b else fnd t (l.modify j _))=_;rw[q5,hf];exact hx v t
def aks(P:V7)(h:H)(t:J)(m k:N):O (J×Nat×(Y->O Z)×Y):=
 match P.underlying t,m,k with
 | some (.map kt et),.map (some i),.string s=>match h.at i,P.underlying kt with
   | .Xr f,some .string=>bif Kk P true kt (.string s)&&Kk P false kt (.string s) then some (et,i,f,s) else none
   | _,_=>none
 | _,_,_=>none
def ZmM{t et:J}{m m' k k':N}{i:Nat}{f:Y->O Z}{s:Y}(r:Rel ρ h w)(hm:VR ρ m m')(hk:VR ρ k k')(ha:aks P h t m k=some (et,i,f,s)):
 ∃kt b es' c,P.underlying t=some (.map kt et)/\m=.map (some i)/\m'=.map (some b)/\k'=.string s/\ρ i=some (b,0)/\h.at i=.Xr f/\w.heap[b]? =some (.map es' c)/\KS f es'.toList/\(∀e,(Instr.checkKey e 10000 kt (.string s)).run P w=.ok () w)/\
   ∃r,(Instr.findKey kt (.string s) es'.toList).run P w=.ok r w/\
 ((r=none/\f s=none/\∀v c t,fnd t (es'.toList++[⟨.string s,.bool v,c⟩])=bif t==s then some v else f t)\/
   ∃j b e,r=some (j,.bool b)/\f s=some b/\es'[j]? =some e/\e.key=.string s/\∀v t,fnd t (es'.toList.modify j fun e=>{e with key:=.string s,val:=.bool v})=bif t==s then some v else f t):=by
 unfold aks at ha;split at ha
 ·rename_i kt et0 i0 s0 hu;split at ha
  ·rename_i f0 hat hkt;cases hok:Kk P true kt (.string s0)&&Kk P false kt (.string s0)<;>rw[hok]at ha<;>cases ha
   rw[Ba0]at hok;obtain⟨_,_,o1⟩:=Wh (ρ:=ρ) (VR.ZC rfl) hok.1;obtain⟨_,_,o2⟩:=Wh (ρ:=ρ) (VR.ZC rfl) hok.2;obtain rfl:k'=.string s:=VR.YS rfl hk;cases hm with
   | map hi=>
     rename_i b;have:=r.obj _ _ _ hi;rw[hat]at this;obtain⟨_,es',c,h1,h2,h3⟩:=this;obtain⟨r,g1,g2⟩:=ZD8 s es'.toList h2 0;refine⟨kt,b,es',c,hu,rfl,rfl,rfl,hi,hat,h1,⟨h2,h3⟩,fun e=>by cases e;exact o2 w;exact o1 w,r,by simp[Instr.findKey,run_underlying hkt,g1],?_⟩;rw[h3]at g2
     simpa only[h3,G4,G8]using g2
  ·cases ha
 ·cases ha
def Ub(P:V7)(h:H)(t:J)(m k:N)(ok:Z):O N:=
 match WT P h t m k ok with
 | some v=>some v
 | none=>match aks P h t m k with
   | some (et,_,f,s)=>match f s with
     | some b=>some (bif ok then .tuple #[.bool b,.bool true] else .bool b)
     | none=>match YF P et with
       | some z=>some (bif ok then .tuple #[z,.bool false] else z)
       | none=>none
   | none=>none
def ZkO{t:J}{m k v:N}{ok:Z}(e:WT P h t m k ok=some v):Ub P h t m k ok=some v:=by unfold Ub;rw[e]
def ZnE{t:J}{m m' k k' v:N}{ok:Z}(r:Rel ρ h w)(hm:VR ρ m m')(hk:VR ρ k k')(ha:Ub P h t m k ok=some v):
 ∃v',VR ρ v v'/\(Instr.lookup t m' k' ok).run P w=.ok v' w:=by
 unfold Ub at ha;split at ha
 ·rename_i h0;cases ha;exact Zlc r hm hk h0
 ·split at ha
  ·rename_i et i f s hs;obtain⟨kt,b,es',c,hu,rfl,rfl,rfl,hi,hat,hb,hks,hck,r',q1,q2⟩:=ZmM r hm hk hs;split at ha
   ·rename_i b0 hf;cases ha;rcases q2 with⟨_,q,_⟩|⟨j,b',e,rfl,q,_⟩
    ·rw[hf]at q;cases q
    ·rw[hf]at q;cases q;refine⟨_,?_,Zbq (z:=undef) hu (.inr ⟨b,c,rfl,hb⟩) (hck _) q1 (fun e=>by cases e)⟩;cases ok
     ·exact .bool _
     ·exact VR.pair (.bool _) (.bool true)
   ·rename_i hf;rcases q2 with⟨rfl,_,_⟩|⟨j,b',e,rfl,q,_⟩
    ·split at ha
     ·rename_i z hz;obtain⟨z1,z2,z3⟩:=X5 hz;cases ha;refine⟨_,?_,Zbq hu (.inr ⟨b,c,rfl,hb⟩) (hck _) q1 (fun _=>z1 w)⟩;cases ok
      ·exact VR.ZC z3
      ·exact VR.pair (VR.ZC z3) (.bool false)
     ·cases ha
    ·rw[hf]at q;cases q
  ·cases ha
def WG{i b c c':Nat}{es:U Vb}{es0 es':Va Vb}(hi:ρ i=some (b,0))(hb:w.heap[b]? =some (.map es0 c))(he:EL ρ es es'.toList):
 Same w {w with heap:=w.heap.setIfInBounds b (.map es' c')}/\(Eff.upd i (.map es c')).real ρ h w ρ {w with heap:=w.heap.setIfInBounds b (.map es' c')}:=by
 have hlt:b<w.heap.size:=by
  rcases Gk b w.heap.size with hh|hh
  ·exact hh
  ·rw[V5 hh]at hb;cases hb
 refine⟨⟨rfl,rfl,rfl⟩,rfl,b,0,hi,by simp,fun k hk=>?_,rfl,es',?_,he⟩
 ·simp[Ne.symm hk]
 ·simp[hlt]
def XA(P:V7)(h:H)(t:J)(m k x:N):O Eff:=
 match P.underlying t,m,ZbQ h m with
 | some (.map kt _),.map (some i),some (es,c)=>
   bif Kk P false kt k then
    match ZhS P kt k es with
    | some (some (j,_))=>match es[j]? with
      | some e=>bif Instr.sameBits 10000 e.key k then some (.upd i (.map (es.modify j fun e=>{e with key:=k,val:=x}) c)) else none
      | none=>none
    | some none=>some (.upd i (.map (es++[{key:=k,val:=x,born:=c}]) (c+1)))
    | none=>none
   else none
 | _,_,_=>none
def ZgI{t:J}{m m' k k' x x':N}{E:Eff}(r:Rel ρ h w)(hm:VR ρ m m')(hk:VR ρ k k')(hx:VR ρ x x')(ha:XA P h t m k x=some E):
 XH P ρ h w (do Instr.mapUpdate t m' k' x';pure .skip) .skip E:=by
 unfold XA at ha;split at ha
 ·rename_i kt et i es c hu hmap;cases hok:Kk P false kt k<;>rw[hok]at ha<;>simp at ha
  obtain⟨rfl,hpl,hck⟩:=Wh hk hok;rcases Wu r hm hmap with⟨h0,_,_⟩|⟨i',b,es',h0,rfl,hi,hat,hb,hes⟩
  ·cases h0
  ·cases h0;split at ha
   ·rename_i j v0 hf;obtain⟨r',q1,q2⟩:=QW (w:=w) hes hf;obtain⟨v',rfl,_⟩:=FR.some q2;split at ha
    ·rename_i e he;cases hsb:Instr.sameBits 10000 e.key k'<;>rw[hsb]at ha<;>simp at ha
     subst ha;obtain⟨e',g1,g2,g3,g4,g5⟩:=hes.get he;have he':es'[j]? =some e':=by simpa using g1
     obtain⟨p1,p2⟩:=WG (h:=h) (c':=c) (es:=es.modify j fun e=>{e with key:=k',val:=x}) (es':=es'.modify j fun e=>{e with key:=k',val:=x'}) hi hb
      (by rw[Array.toList_modify];exact hes.modify (f:=fun e=>{e with key:=k',val:=x}) (f':=fun e=>{e with key:=k',val:=x'}) (fun y y' a1 a2 a3 a4=>⟨rfl,hpl,a3,hx⟩) j)
     refine⟨ρ,_,p1,p2,?_⟩;show Sem.run P _ w=_;simp[Instr.mapUpdate,run_underlying hu,run_getObj_map hb,hck,q1,he',g2,Instr.keyThatStays,hsb,run_setObj_map hb]
    ·cases ha
   ·rename_i hf;cases ha;obtain⟨r',q1,q2⟩:=QW (w:=w) hes hf;obtain rfl:=FR.none q2
    obtain⟨p1,p2⟩:=WG (h:=h) (c':=c+1) (es:=es++[{key:=k',val:=x,born:=c}]) (es':=es'.push {key:=k',val:=x',born:=c}) hi hb
     (by rw[Array.toList_push];exact hes.snoc rfl hpl rfl hx)
    refine⟨ρ,_,p1,p2,?_⟩;show Sem.run P _ w=_;simp[Instr.mapUpdate,run_underlying hu,run_getObj_map hb,hck,q1,run_setObj_map hb]
   ·cases ha
 ·cases ha
def Zt8{i b c c':Nat}{f:Y->O Z}{es0 es':Va Vb}(hi:ρ i=some (b,0))(hb:w.heap[b]? =some (.map es0 c))(he:KS f es'.toList):
 Same w {w with heap:=w.heap.setIfInBounds b (.map es' c')}/\(Eff.upd i (.Xr f)).real ρ h w ρ {w with heap:=w.heap.setIfInBounds b (.map es' c')}:=by
 have hlt:b<w.heap.size:=by
  rcases Gk b w.heap.size with hh|hh
  ·exact hh
  ·rw[V5 hh]at hb;cases hb
 refine⟨⟨rfl,rfl,rfl⟩,rfl,b,0,hi,by simp,fun k hk=>?_,rfl,es',c',?_,he⟩
 ·simp[Ne.symm hk]
 ·simp[hlt]
def Xd(P:V7)(h:H)(t:J)(m k x:N):O Eff:=
 match XA P h t m k x with
 | some E=>some E
 | none=>match aks P h t m k,x with
   | some (_,i,f,s),.bool v=>some (.upd i (.Xr fun t=>bif t==s then some v else f t))
   | _,_=>none
def Zeb{t:J}{m k x:N}{E:Eff}(e:XA P h t m k x=some E):Xd P h t m k x=some E:=by unfold Xd;rw[e]
def ZbH{t:J}{m m' k k' x x':N}{E:Eff}(r:Rel ρ h w)(hm:VR ρ m m')(hk:VR ρ k k')(hx:VR ρ x x')(ha:Xd P h t m k x=some E):
 XH P ρ h w (do Instr.mapUpdate t m' k' x';pure .skip) .skip E:=by
 unfold Xd at ha;split at ha
 ·rename_i h0;cases ha;exact ZgI r hm hk hx h0
 ·split at ha
  ·rename_i et i f s v hs _;cases ha;obtain rfl:x'=.bool v:=VR.YS rfl hx;obtain⟨kt,b,es',c,hu,rfl,rfl,rfl,hi,hat,hb,⟨hk1,hk2⟩,hck,r',q1,q2⟩:=ZmM r hm hk hs;rcases q2 with⟨rfl,_,q⟩|⟨j,b',e,rfl,_,he,hke,q⟩
   ·obtain⟨p1,p2⟩:=Zt8 (h:=h) (c':=c+1) (es':=es'.push {key:=.string s,val:=.bool v,born:=c}) hi hb
     (f:=fun t=>bif t==s then some v else f t) ⟨fun e he=>by
       rw[Array.toList_push,Q1]at he;rcases he with he|he
       ·exact hk1 e he
       ·rw[Q2.1 he];exact⟨s,v,rfl,rfl⟩,fun t=>by rw[Array.toList_push];exact q v c t⟩
    refine⟨ρ,_,p1,p2,?_⟩;show Sem.run P _ w=_;simp[Instr.mapUpdate,run_underlying hu,run_getObj_map hb,hck,q1,run_setObj_map hb]
   ·obtain⟨p1,p2⟩:=Zt8 (h:=h) (c':=c) (es':=es'.modify j fun e=>{e with key:=.string s,val:=.bool v}) hi hb
     (f:=fun t=>bif t==s then some v else f t) ⟨fun e he=>by
       rw[Array.toList_modify]at he;obtain⟨n,hn⟩:=Gp.1 he;rw[List.getElem?_modify]at hn;cases hl:es'.toList[n]? with
       | none=>rw[hl]at hn;simp at hn
       | some y=>
         rw[hl]at hn;have hn:=Oi0 hn;dsimp only at hn;by_cases hj:j=n
         ·rw[if_pos hj]at hn;rw[<-hn];exact⟨s,v,rfl,rfl⟩
         ·rw[if_neg hj]at hn;rw[<-hn];exact hk1 y (Gp.2 ⟨n,hl⟩),fun t=>by rw[Array.toList_modify];exact q v t⟩
    refine⟨ρ,_,p1,p2,?_⟩;show Sem.run P _ w=_;have hsb:Instr.sameBits 10000 (.string s) (.string s)=true:=by simp[Instr.sameBits,Zh5]
    simp[Instr.mapUpdate,run_underlying hu,run_getObj_map hb,hck,q1,he,hke,Instr.keyThatStays,hsb,run_setObj_map hb]
  ·cases ha
def Zhk(P:V7)(h:H)(t:J)(m k:N):O (N×Eff):=
 match P.underlying t,m,ZbQ h m with
 | some (.map kt et),.map (some i),some (es,c)=>
   bif Kk P false kt k then
    match ZhS P kt k es with
    | some (some (j,v))=>match es[j]? with
      | some e=>bif Instr.sameBits 10000 e.key k then some (.tuple #[v,Ve e.born],.upd i (.map (es.modify j fun e=>{e with key:=k}) c)) else none
      | none=>none
    | some none=>match YF P et with
      | some z=>some (.tuple #[z,Ve c],.upd i (.map (es++[{key:=k,val:=z,born:=c}]) (c+1)))
      | none=>none
    | none=>none
   else none
 | _,_,_=>none
def Zjv{t:J}{m m' k k' v:N}{E:Eff}(r:Rel ρ h w)(hm:VR ρ m m')(hk:VR ρ k k')(ha:Zhk P h t m k=some (v,E)):
 XH P ρ h w (do pure (.value (<-Instr.mapEntry t m' k'))) (.val v) E:=by
 unfold Zhk at ha;split at ha
 ·rename_i kt et i es c hu hmap;cases hok:Kk P false kt k<;>rw[hok]at ha<;>simp at ha
  obtain⟨rfl,hpl,hck⟩:=Wh hk hok;rcases Wu r hm hmap with⟨h0,_,_⟩|⟨i',b,es',h0,rfl,hi,hat,hb,hes⟩
  ·cases h0
  ·cases h0;split at ha
   ·rename_i j v0 hf;obtain⟨r',q1,q2⟩:=QW (w:=w) hes hf;obtain⟨v',rfl,hv'⟩:=FR.some q2;split at ha
    ·rename_i e he;cases hsb:Instr.sameBits 10000 e.key k'<;>rw[hsb]at ha<;>simp at ha
     obtain⟨rfl,rfl⟩:=ha;obtain⟨e',g1,g2,g3,g4,g5⟩:=hes.get he;have he':es'[j]? =some e':=by simpa using g1
     obtain⟨p1,p2⟩:=WG (h:=h) (c':=c) (es:=es.modify j fun e=>{e with key:=k'}) (es':=es'.modify j fun e=>{e with key:=k'}) hi hb
      (by rw[Array.toList_modify];exact hes.modify (f:=fun e=>{e with key:=k'}) (f':=fun e=>{e with key:=k'}) (fun y y' a1 a2 a3 a4=>⟨rfl,hpl,a3,a4⟩) j)
     refine⟨ρ,_,p1,p2,.tuple #[v',Ve e.born],VR.pair hv' (.int _ _),?_⟩;simp[Instr.mapEntry,run_underlying hu,run_getObj_map hb,hck,q1,he',g2,g4,Instr.keyThatStays,hsb,run_setObj_map hb,goInt]
    ·cases ha
   ·rename_i hf;split at ha
    ·rename_i z hz;cases ha;obtain⟨z1,z2,z3⟩:=X5 hz;obtain⟨r',q1,q2⟩:=QW (w:=w) hes hf;obtain rfl:=FR.none q2
     obtain⟨p1,p2⟩:=WG (h:=h) (c':=c+1) (es:=es++[{key:=k',val:=z,born:=c}]) (es':=es'.push {key:=k',val:=z,born:=c}) hi hb
      (by rw[Array.toList_push];exact hes.snoc rfl hpl rfl (VR.ZC z3))
     refine⟨ρ,_,p1,p2,.tuple #[z,Ve c],VR.pair (VR.ZC z3) (.int _ _),?_⟩;simp[Instr.mapEntry,run_underlying hu,run_getObj_map hb,hck,q1,z1,run_setObj_map hb,goInt]
    ·cases ha
   ·cases ha
 ·cases ha
def EL.findIdx{es es':U Vb}(e:EL ρ es es')(s:Int):es'.findIdx? (fun e=>(e.born:Int)==s)=es.findIdx? (fun e=>(e.born:Int)==s):=by
 induction e with
 | nil=>rfl
 | cons hk hp hb hv _ ih=>simp only[List.findIdx?_cons,hb,ih]
def Zrq{α:Type}(es:Va α)(p:α->Z):es.findIdx? p=es.toList.findIdx? p:=by cases es;simp
def ZcS(h:H)(m s x:N):O Eff:=
 match m,ZbQ h m,s with
 | .map (some i),some (es,c),.int _ n=>
   match es.findIdx? (fun e=>(e.born:Int)==n) with
   | some j=>some (.upd i (.map (es.modify j fun e=>{e with val:=x}) c))
   | none=>none
 | _,_,_=>none
def Zg5{t:J}{m m' s s' x x':N}{E:Eff}(r:Rel ρ h w)(hm:VR ρ m m')(hs:VR ρ s s')(hx:VR ρ x x')(ha:ZcS h m s x=some E):
 XH P ρ h w (do Instr.entryStore t m' s' x';pure .skip) .skip E:=by
 unfold ZcS at ha;split at ha
 ·rename_i i es c q n hmap;cases hs;rcases Wu r hm hmap with⟨h0,_,_⟩|⟨i',b,es',h0,rfl,hi,hat,hb,hes⟩
  ·cases h0
  ·cases h0;split at ha
   ·rename_i j hj;cases ha
    obtain⟨p1,p2⟩:=WG (h:=h) (c':=c) (es:=es.modify j fun e=>{e with val:=x}) (es':=es'.modify j fun e=>{e with val:=x'}) hi hb
     (by rw[Array.toList_modify];exact hes.modify (f:=fun e=>{e with val:=x}) (f':=fun e=>{e with val:=x'}) (fun y y' a1 a2 a3 a4=>⟨a1,a2,a3,hx⟩) j)
    have hj':es'.findIdx? (fun e=>(e.born:Int)==n)=some j:=by rw[Zrq,hes.findIdx,hj]
    refine⟨ρ,_,p1,p2,?_⟩;show Sem.run P _ w=_;simp[Instr.entryStore,run_getObj_map hb,asInt,asIntOf,hj',run_setObj_map hb]
   ·cases ha
 ·cases ha
def ZdA(P:V7)(h:H)(t:J)(m k:N):O Eff:=
 match P.underlying t,m,ZbQ h m with
 | some (.map kt _),.map (some i),some (es,c)=>
   bif Kk P es.isEmpty kt k then
    match ZhS P kt k es with
    | some (some (j,_))=>some (.upd i (.map (es.eraseIdx j) c))
    | some none=>some (.upd i (.map es c))
    | none=>none
   else none
 | _,_,_=>none
def Zoo{t ty:J}{ts:Va J}{m m' k k':N}{E:Eff}(ht:ts[0]? =some t)(r:Rel ρ h w)(hm:VR ρ m m')(hk:VR ρ k k')(ha:ZdA P h t m k=some E):
 XH P ρ h w (do pure (.value (<-Builtin.delete_ ts ty #[m',k']))) (.val (.tuple #[])) E:=by
 unfold ZdA at ha;split at ha
 ·rename_i kt et i es c hu hmap;cases hok:Kk P es.isEmpty kt k<;>rw[hok]at ha<;>simp at ha
  obtain⟨rfl,hpl,hck⟩:=Wh hk hok;rcases Wu r hm hmap with⟨h0,_,_⟩|⟨i',b,es',h0,rfl,hi,hat,hb,hes⟩
  ·cases h0
  ·cases h0
   have hemp:es'.isEmpty=es.isEmpty:=by
    have:=hes.length;rw[G3]at this;rw[GM,Array.isEmpty_iff_size_eq_zero,List.isEmpty_iff_length_eq_zero];omega
   split at ha
   ·rename_i j v0 hf;cases ha;obtain⟨r',q1,q2⟩:=QW (w:=w) hes hf;obtain⟨v',rfl,hv'⟩:=FR.some q2
    have e2:(es'.eraseIdxIfInBounds j).toList=es'.toList.eraseIdx j:=by
     simp
    obtain⟨p1,p2⟩:=WG (h:=h) (c':=c) (es:=es.eraseIdx j) (es':=es'.eraseIdxIfInBounds j) hi hb (by rw[e2];exact hes.erase j);refine⟨ρ,_,p1,p2,.tuple #[],VR.ZC (by rfl),?_⟩;simp[Builtin.delete_,ht,run_underlying hu,run_getObj_map hb,hemp,hck,q1,run_setObj_map hb]
   ·cases ha;rename_i hf;obtain⟨r',q1,q2⟩:=QW (w:=w) hes hf;obtain rfl:=FR.none q2;obtain⟨p1,p2⟩:=WG (h:=h) (c':=c) (es:=es) (es':=es') hi hb hes;refine⟨ρ,_,p1,p2,.tuple #[],VR.ZC (by rfl),?_⟩;simp[Builtin.delete_,ht,run_underlying hu,run_getObj_map hb,hemp,hck,q1,run_setObj_map hb]
   ·cases ha
 ·cases ha
def Ztx(P:V7)(h:H)(t:J)(x:N):O N:=
 match P.underlying t,x with
 | some .string,.string s=>some (Ve s.size)
 | some (.slice _),.slice _ n _=>some (Ve n)
 | some (.array n _),_=>some (Ve n)
 | some (.map _ _),m=>match ZbQ h m with
   | some (es,_)=>some (Ve es.length)
   | none=>none
 | _,_=>none
def Zwi{t ty:J}{ts:Va J}{x x' v:N}(ht:ts[0]? =some t)(r:Rel ρ h w)(hx:VR ρ x x')(ha:Ztx P h t x=some v):
 ∃v',VR ρ v v'/\(Builtin.len_ ts ty #[x']).run P w=.ok v' w:=by
 unfold Ztx at ha;split at ha
 ·rename_i hu;cases ha;cases hx;exact⟨_,.int _ _,by simp[Builtin.len_,ht,run_underlying hu,goInt]⟩
 ·rename_i hu;cases ha;cases hx<;>exact⟨_,.int _ _,by simp[Builtin.len_,ht,run_underlying hu,goInt]⟩
 ·rename_i hu;cases ha;exact⟨_,.int _ _,by simp[Builtin.len_,ht,run_underlying hu,goInt]⟩
 ·rename_i hu;split at ha
  ·rename_i es c hmap;cases ha;rcases Wu r hx hmap with⟨rfl,rfl,rfl⟩|⟨i,b,es',rfl,rfl,hi,hat,hb,hes⟩
   ·exact⟨_,.int _ _,by simp[Builtin.len_,ht,run_underlying hu,goInt]⟩
   ·have:=hes.length;rw[G3]at this;exact⟨_,.int _ _,by simp[Builtin.len_,ht,run_underlying hu,run_getObj_map hb,goInt,this]⟩
  ·cases ha
 ·cases ha
def ZBF(P:V7)(h:H)(t:J)(dst src:N):O (N×Eff):=
 match P.underlying t,dst,src with
 | some (.slice e),.slice base n _,.slice b2 m c2=>
   match Yu P e with
   | some sz=>
     let k:=Nat.min m n
     match reads h (.slice b2 k (bif Nat.beq k 0 then(match b2 with|none=>0|some _=>c2) else c2)) sz with
     | some vs=>
       bif Nat.beq k 0 then some (Ve 0,.none)
       else match base with
       | some ⟨i,o,none⟩=>match h.at i with
         | .row cs true s=>bif Nat.ble (o+vs.length) cs.length&&vs.all Value.oneCell' then some (Ve k,.upd i (.row (splice cs o vs) true s)) else none
         | _=>none
       | _=>none
     | none=>none
   | none=>none
 | _,_,_=>none
def trunc{b2:O Addr}{m c2 k:Nat}{x':N}(hx:VR ρ (.slice b2 m c2) x')(hk:k<=m):∃a' c',x'=.slice a' m c'/\(0<k->VR ρ (.slice b2 k c2) (.slice a' k c')):=by
 cases hx with
 | KV=>exact⟨_,_,rfl,fun h=>by omega⟩
 | UE a=>exact⟨_,_,rfl,fun h=>by omega⟩
 | slice o n c c' hi hcap=>exact⟨_,_,rfl,fun _=>.slice o k _ _ hi hcap⟩
 | X7 o o' c hi hc=>exact⟨_,_,rfl,fun h=>by omega⟩
def Zth{t ty:TypeId}{ts:Array TypeId}{d d' s s' v:Value}{E:Eff}(ht:ts[0]? =some t)(r:Rel ρ h w)(hd:VR ρ d d')(hs:VR ρ s s')(ha:ZBF P h t d s=some (v,E)):
 XH P ρ h w (do pure (.value (<-Builtin.copy_ ts ty #[d',s']))) (.val v) E:=by
 unfold ZBF at ha;split at ha
 ·rename_i e base n c b2 m c2 hu;split at ha
  ·rename_i sz hsz;dsimp only at ha;split at ha
   ·rename_i vs hvs;obtain⟨a',c',rfl,htr⟩:=trunc hs (Nat.min_le_left m n);cases hk:Nat.beq (Nat.min m n) 0<;>rw[hk]at ha<;>simp at ha
    ·have hk0:0<Nat.min m n:=by
      rcases Nat.eq_zero_or_pos (Nat.min m n) with hh|hh
      ·rw[hh]at hk;cases hk
      ·exact hh
     rw[hk]at hvs;simp only[Cq0]at hvs;obtain⟨vs',n1,n2,n3,n4⟩:=Zb9 (P:=P) r (htr hk0) hvs;split at ha
     ·rename_i i o;split at ha
      ·rename_i cs k hat;cases hb:(Nat.ble (o+vs.length) cs.length&&vs.all Value.oneCell')<;>rw[hb]at ha<;>simp at ha
       obtain⟨rfl,rfl⟩:=ha;rw[Ba0]at hb;have hlen:=Nl0 hb.1;cases hd with
       | X7 _ o' _ hi' hc1=>simp at hk0
       | slice _ _ _ cc hi' hcap=>
         rename_i b dd;have ho:=r.obj _ _ _ hi';rw[hat]at ho;obtain⟨w',g1,g2,g3⟩:=Zc3 (P:=P) (h:=h) hi' ho n1 hb.2 hlen;refine⟨ρ,w',g2,g3,.int .i64 (Nat.min m n),.int _ _,?_⟩;have hf:(Builtin.firstCells sz (Nat.min m n) (.slice a' m c')).run P w=.ok vs'.toArray w:=by cases a'<;>exact n3 w.drawn
         simp[Builtin.copy_,ht,run_underlying hu,Builtin.lenOf,run_sizeOf hsz,hf,g1,goInt]
      ·cases ha
     ·cases ha
    ·obtain⟨rfl,rfl⟩:=ha;have hk0:=Nb0 hk;have hdd:∃q qc,d'=.slice q n qc:=by cases hd<;>exact⟨_,_,rfl⟩
     obtain⟨q,qc,rfl⟩:=hdd;refine XH.JA (.int .i64 0) ?_
     have hf:(Builtin.firstCells sz 0 (.slice a' m c')).run P w=.ok #[] w:=by
      cases a'<;>simp[Builtin.firstCells,loadCells,loadCellsFrom]
     cases q<;>simp[Builtin.copy_,ht,run_underlying hu,Builtin.lenOf,run_sizeOf hsz,hk0,hf,storeCells,goInt]
   ·cases ha
  ·cases ha
 ·cases ha
def ZbU(z:U N)(n:Nat):U N:=(List.range (n*z.length)).map fun i=>z.getD (i % z.length) undef
def ZbT{z:U N}(hz:z.all scalar=true)(n:Nat):(ZbU z n).all scalar=true:=by
 rw[Kx]at hz ⊢;intro v hv;simp only[ZbU,G5,GS]at hv;obtain⟨i,hi,rfl⟩:=hv
 have hpos:0<z.length:=by
  rcases Nat.eq_zero_or_pos z.length with hh|hh
  ·rw[hh]at hi;omega
  ·exact hh
 have hm:i % z.length<z.length:=Nat.mod_lt _ hpos;rw[Gi,J0 hm];exact hz _ (GK hm)
def Zi1{v:Value}(h:scalar v=true):v.oneCell'=true:=by cases v<;>simp_all[scalar,Value.oneCell']
def Zo1(z:U N)(n:Nat):(ZbU z n).length=n*z.length:=by simp[ZbU]
def Zgo(z:Va N)(n:Nat):((Array.range (n*z.size)).map (z[· % z.size]!)).toList=ZbU z.toList n:=by
 simp only[ZbU,Array.toList_map,Array.toList_range,G3];apply List.map_congr_left;intro i hi;rw[GS]at hi
 have hpos:0<z.size:=by
  rcases Nat.eq_zero_or_pos z.size with hh|hh
  ·rw[hh]at hi;omega
  ·exact hh
 have hm:i % z.size<z.size:=Nat.mod_lt _ hpos;simp[hm,Gi]
def ZtC(P:V7)(h:H)(t:J)(x:N):O Eff:=
 match P.underlying t,x with
 | some (.slice e),.slice base n _=>
   bif Nat.beq n 0 then some .none else
   match YF P e,base with
   | some z,some ⟨i,o,none⟩=>match h.at i with
     | .row cs true s=>bif Nat.ble (o+n*z.cells.toList.length) cs.length then some (.upd i (.row (splice cs o (ZbU z.cells.toList n)) true s)) else none
     | _=>none
   | _,_=>none
 | some (.map _ _),.map none=>some .none
 | some (.map _ _),.map (some i)=>match h.at i with
   | .map _ c=>some (.upd i (.map [] c))
   | _=>none
 | _,_=>none
def Zra{t ty:J}{ts:Va J}{x x':N}{E:Eff}(ht:ts[0]? =some t)(r:Rel ρ h w)(hx:VR ρ x x')(ha:ZtC P h t x=some E):
 XH P ρ h w (do pure (.value (<-Builtin.clear_ ts ty #[x']))) (.val (.tuple #[])) E:=by
 unfold ZtC at ha;split at ha
 ·rename_i e base n c hu;cases hn:Nat.beq n 0<;>rw[hn]at ha<;>simp at ha
  ·split at ha
   ·rename_i z i o hz;obtain⟨z1,z2,z3⟩:=X5 hz;split at ha
    ·rename_i cs s hat;cases hc:Nat.ble (o+n*z.cells.toList.length) cs.length<;>rw[show z.cells.toList.length=z.cells.size from G3]at hc<;>rw[hc]at ha<;>simp at ha
     subst ha;have hlen:=Nl0 hc;cases hx with
     | X7 _ o' _ hi' hc1=>cases hn
     | slice _ _ _ cc hi' hcap=>
       rename_i b dd;have ho:=r.obj _ _ _ hi';rw[hat]at ho;have hz4:=ZbT z2 n
       obtain⟨w',g1,g2,g3⟩:=Zc3 (P:=P) (h:=h) (vs:=ZbU z.cells.toList n) (vs':=ZbU z.cells.toList n) (o:=o) hi' ho (LR.scalar hz4)
        (by rw[Kx]at hz4 ⊢;exact fun v hv=>Zi1 (hz4 v hv)) (by rw[Zo1,G3];omega)
       refine⟨ρ,w',g2,g3,.tuple #[],VR.ZC (by rfl),?_⟩;have hzz:(Builtin.zeroCells z.cells n).toList=ZbU z.cells.toList n:=Zgo z.cells n;cases n with
       | zero=>cases hn
       | succ n=>simp[Builtin.clear_,ht,run_underlying hu,z1,hzz,g1]
    ·cases ha
   ·cases ha
  ·subst ha;have hn0:=Nb0 hn;subst hn0;refine XH.JA (VR.ZC (by rfl)) ?_;cases hx<;>simp[Builtin.clear_,ht,run_underlying hu]
 ·rename_i hu;cases ha;cases hx;exact XH.JA (VR.ZC (by rfl)) (by simp[Builtin.clear_,ht,run_underlying hu])
 ·rename_i k e i hu;split at ha
  ·rename_i es c hat;cases ha;cases hx with
   | map hi=>
     rename_i b;have ho:=r.obj _ _ _ hi;rw[hat]at ho;obtain⟨_,es',hb,hes⟩:=ho;obtain⟨p1,p2⟩:=WG (h:=h) (c':=c) (es:=[]) (es':=#[]) hi hb .nil;refine⟨ρ,_,p1,p2,.tuple #[],VR.ZC (by rfl),?_⟩;simp[Builtin.clear_,ht,run_underlying hu,run_getObj_map hb,run_setObj_map hb]
  ·cases ha
 ·cases ha
def Zrp(P:V7)(h:H)(t:J)(n:Nat)(ps:U (Nat×N)):O (N×Eff):=
 match P.underlying t with
 | some (.slice e)=>match Yu P e,YF P e with
   | some sz,some z=>
     bif Nat.ble 1 sz&&Nat.ble (n*sz) 10000&&Nat.beq z.cells.toList.length sz then
      match ZcP (fun i=>some (i*sz,sz)) (ZbU z.cells.toList n) ps with
      | some cs=>some (.slice (some ⟨h.size,0,none⟩) n (2*n),.new (.row cs true sz))
      | none=>none
     else none
   | _,_=>none
 | _=>none
def Zse{t:J}{n:Nat}{ps ps':U (Nat×N)}{v:N}{E:Eff}(r:Rel ρ h w)(hl:ps.length=ps'.length)
 (hp:∀(i:Nat) p p',ps[i]? =some p->ps'[i]? =some p'->p'.1=p.1/\VR ρ p.2 p'.2) (ha:Zrp P h t n ps=some (v,E)):
 XH P ρ h w (do pure (.value (<-Instr.buildSlice t n ps'.toArray))) (.val v) E:=by
 unfold Zrp at ha;split at ha
 ·rename_i e hu;split at ha
  ·rename_i sz z hsz hz;cases hb:(Nat.ble 1 sz&&Nat.ble (n*sz) 10000&&Nat.beq z.cells.toList.length sz)<;>rw[hb]at ha
   ·simp at ha
   ·simp only[Cq1]at ha;rw[Ba0,Ba0]at hb;obtain⟨⟨b1,b2⟩,b3⟩:=hb;have b1:=Nl0 b1;have b2:=Nl0 b2;have b3:=Nb0 b3;obtain⟨z1,z2,z3⟩:=X5 hz;split at ha
    ·rename_i cs hf;cases ha
     have hzl:((Array.range (n*sz)).map (z.cells[· % z.cells.size]!)).toList=ZbU z.cells.toList n:=by
      rw[<-Zgo z.cells n,show z.cells.size=sz by rw[<-b3];simp]
     obtain⟨out',o1,o2⟩:=Zey (fun i=>some (i*sz,sz)) ps ps' _ ((Array.range (n*sz)).map (z.cells[· % z.cells.size]!)) cs hl hp (by rw[hzl];exact LR.scalar (ZbT z2 n)) hf;refine⟨_,World.push w (.cells out' e),KG _,Zb8 r sz o2 ⟨[],by simp⟩,.slice (some ⟨w.heap.size,0,none⟩) n n,?_,?_⟩
     ·have:=VR.slice (ρ:=ρ.add h.size (w.heap.size,0) (out'.size,sz)) 0 n (2*n) n (Ren.add_same ρ h.size _ _) (Uv _ 0 _ _ (by
       have:n*1<=n*sz:=Nat.mul_le_mul_left _ b1;omega)).1
      simpa using this
     ·have hbig:¬ (16777216<n*sz):=Vg
      by_cases h0:n*sz=0
      ·have hn0:n=0:=by
        rcases Nat.eq_zero_or_pos n with hh|hh
        ·exact hh
        ·have:=Nat.mul_pos hh b1;omega
       subst hn0;have e0:Array.range 0=#[]:=rfl;have o1':Instr.fill (fun i=>some (i*sz,sz)) #[] ps'=some out':=by rw[Nat.zero_mul,e0]at o1;simpa using o1
       simp[Instr.buildSlice,run_underlying hu,run_sizeOf hsz,e0,o1',newRow];rfl
      ·simp[Instr.buildSlice,run_underlying hu,run_sizeOf hsz,hbig,h0,z1,o1,newRow];rfl
    ·cases ha
  ·cases ha
 ·cases ha
def ZBB(P:V7)(h:H)(t:J)(l c:N):O (N×Eff):=
 match P.underlying t,ZhA l,ZhA c with
 | some (.slice e),some l,some c=>match Yu P e,Zot P e,YF P e with
   | some sz,some KN,some z=>
     bif Nat.ble 1 sz&&Nat.ble 1 KN&&Nat.ble l c&&Nat.ble (KN*c) 100000&&Nat.beq z.cells.toList.length sz then
      some (.slice (some ⟨h.size,0,none⟩) l (2*c),.new (.row (ZbU z.cells.toList c) true sz))
     else none
   | _,_,_=>none
 | _,_,_=>none
def Zo5{k:Nat}(hk:k<=100000):IntKind.i64.wrap (k:Int)=k:=by rw[IntKind.wrap_i64];omega
def Zsw{t:J}{l l' c c' v:N}{E:Eff}(r:Rel ρ h w)(hl:VR ρ l l')(hc:VR ρ c c')(ha:ZBB P h t l c=some (v,E)):
 XH P ρ h w (do pure (.value (<-Instr.makeSlice t l' c'))) (.val v) E:=by
 unfold ZBB at ha;split at ha
 ·rename_i e l c hu e1 e2;obtain⟨q1,rfl⟩:=JC hl e1;obtain⟨q2,rfl⟩:=JC hc e2;split at ha
  ·rename_i sz KN z hsz hby hz;cases hb:(Nat.ble 1 sz&&Nat.ble 1 KN&&Nat.ble l c&&Nat.ble (KN*c) 100000&&Nat.beq z.cells.toList.length sz)<;>rw[hb]at ha
   ·simp at ha
   ·simp only[Cq1]at ha;cases ha;rw[Ba0,Ba0,Ba0,Ba0]at hb;obtain⟨⟨⟨⟨b1,b2⟩,b3⟩,b4⟩,b5⟩:=hb;have b1:=Nl0 b1;have b2:=Nl0 b2;have b3:=Nl0 b3;have b4:=Nl0 b4;have b5:=Nb0 b5;have hcb:c<=KN*c:=Nat.le_mul_of_pos_left c b2;obtain⟨z1,z2,z3⟩:=X5 hz;unfold Zot at hby;cases ei:P.info? e with
    | none=>rw[ei]at hby;cases hby
    | some inf=>
      rw[ei]at hby;simp only[V2,J1]at hby;have hti:(typeInfo e).run P w=.ok inf w:=by simp[typeInfo,ei]
      have hzl:((Array.range (c*sz)).map (z.cells[· % z.cells.size]!)).toList=ZbU z.cells.toList c:=by
       rw[<-Zgo z.cells c,show z.cells.size=sz by rw[<-b5];simp]
      refine⟨_,World.push w (.cells ((Array.range (c*sz)).map (z.cells[· % z.cells.size]!)) e),KG _,Zb8 r (rest:=ZbU z.cells.toList c) sz (LR.scalar (ZbT z2 c)) ⟨[],by rw[hzl,Gn]⟩,.slice (some ⟨w.heap.size,0,none⟩) l c,?_,?_⟩
      ·have:=VR.slice (ρ:=ρ.add h.size (w.heap.size,0) (((Array.range (c*sz)).map (z.cells[· % z.cells.size]!)).size,sz)) 0 l (2*c) c (Ren.add_same ρ h.size _ _) (Uv _ 0 _ _ Vg).1
       simpa using this
      ·have w1:=Zo5 (k:=l) Vg;have w2:=Zo5 (k:=c) Vg
       have n1:¬ (281474976710656<(inf.bytes:Int)*(c:Int)):=by
        rw[hby];have:((KN*c:Nat):Int)<=100000:=Vg
        push_cast at this
        omega
       have n5:¬ (((c:Int)<0\/(l:Int)<0)\/c<l):=Vg
       by_cases hc0:c*sz=0
       ·have e0:Array.range 0=#[]:=rfl;simp[Instr.makeSlice,asInt,asIntOf,run_underlying hu,run_sizeOf hsz,hti,w1,w2,n1,hc0,e0,newRow];rw[if_neg n5];rfl
       ·simp[Instr.makeSlice,asInt,asIntOf,run_underlying hu,run_sizeOf hsz,hti,w1,w2,n1,hc0,z1,newRow];rw[if_neg n5];rfl
  ·cases ha
 ·cases ha
end
end Go.ZF
end
end
