/- Part 1. -/
import Derived.RangeFuncLeaves
import Derived.RangeFuncCalls
import Derived.Laws.Cells
import Derived.Laws.CopyRow
import Derived.Laws.Entries
import Derived.Laws.World
import Derived.OrdersIn
import Derived.DefersIn
import Derived.RecoverIn
import Derived.KernelRfl
import Derived.Below
set_option linter.all false
set_option maxHeartbeats 2000000
abbrev Go.U:=@List
abbrev Go.O:=@Option
abbrev Go.Y:=@ByteArray
abbrev Go.N:=@Value
abbrev Go.Z:=@Bool
abbrev Go.J:=@TypeId
abbrev Go.V0:=@Operand
abbrev Go.V2:=@Program
abbrev Go.V3:=@FuncId
abbrev Go.V4:=@World
abbrev Go.V5:=@Array
abbrev Go.V6:=@MapEntry
abbrev Go.V7:=@Deferred
abbrev Go.V8:Value:=.slice none 0 0
abbrev Go.V9(n:Int):Value:=.int .i64 n
abbrev Go.Va(b:Nat):Value:=.pointer (some ⟨b,0,none⟩)
def Go.Vb{p:Prop}(h:p:=by omega):p:=h
def Go.Vc{n:Nat}:n<=n:=Nat.le_refl n
def Go.K1:=@Nat.le_refl
def Go.K2:=@List.mem_cons
def Go.Kd:=@List.mem_cons_of_mem
def Go.Kf:=@List.flatMap_cons
def Go.Ks:=@List.length_append
def Go.Kx:=@List.length_cons
def Go.KB:=@List.not_mem_nil
def Go.KK:=@Nat.le_trans
def Go.Q1:=@List.mem_flatMap
def Go.Q2:=@List.all_eq_true
def Go.Q3:=@List.mem_append
def Go.Q4:=@List.getElem?_eq_getElem
def Go.QP:=@Array.getD_eq_getD_getElem?
def Go.J0:=@Bool.not_true
def Go.J1:=@List.mem_singleton
def Go.Jn:=@List.nil_append
def Go.Jx:=@Bool.or_eq_false_iff
def Go.JT:=@List.mem_map
def Go.G0:=@List.getElem?_eq_none
def Go.G3:=@Nat.lt_of_lt_of_le
def Go.G4:=@Array.getElem?_eq_some_iff
def Go.G5:=@List.length_map
def Go.G6:=@Array.length_toList
def Go.G7:=@List.map_cons
def Go.G8:=@List.eq_nil_of_length_eq_zero
def Go.G9:=@List.append_assoc
def Go.Gc:=@Nat.zero_add
def Go.Gd:=@Nat.blt_eq
def Go.Ge:=@List.append_nil
def Go.Gf:=@List.map_map
def Go.Gg:=@List.mem_cons_self
def Go.Gh:=@List.map_congr_left
def Go.Gi:=@Array.getElem?_toList
def Go.Gj:=@Option.some.injEq
def Go.Gk:=@List.flatMap_append
def Go.Gl:=@List.length_take
def Go.Gm:=@List.foldl_cons
def Go.Gn:=@List.mem_iff_getElem?
def Go.Gp:=@List.cons_append
def Go.Gq:=@Nat.lt_or_ge
def Go.Gs:=@List.mem_map_of_mem
def Go.Gt:=@Bool.eq_iff_iff
def Go.Gu:=@List.mem_append_right
def Go.Gv:=@Bool.true_and
def Go.Gx:=@Result.andThen_ok
def Go.Gy:=@Nat.mul_le_mul_right
def Go.Gz:=@List.getElem?_drop
def Go.GA:=@List.nodup_cons
def Go.GB:=@List.getElem?_take_of_lt
def Go.GC:=@List.mem_append_left
def Go.GD:=@List.length_drop
def Go.GE:=@List.getElem_mem
def Go.GF:=@List.any_eq_true
def Go.GG:=@Array.getElem?_eq_getElem
def Go.GH:=@Nat.zero_le
def Go.GI:=@List.getElem?_of_mem
def Go.GJ:=@Option.isSome_iff_exists
def Go.GK:=@List.length_nil
def Go.GL:=@List.ext_getElem?
def Go.GM:=@Bool.not_false
def Go.GN:=@List.getElem?_map
def Go.GO:=@Nat.add_assoc
def Go.GP:=@List.mem_range
def Go.GQ:=@List.flatMap_nil
def Go.GR:=@List.getD_eq_getElem?_getD
def Go.GS:=@Bool.eq_false_iff
def Go.GT:=@List.getElem?_append_left
def Go.GU:=@List.zip_cons_cons
def Go.GV:=@List.pairwise_cons
def Go.GW:=@List.getElem?_append_right
def Go.GX:=@Bool.false_or
def Go.GY:=@Option.map_some
def Go.GZ:=@Nat.succ_mul
def Go.Ba0(a b:Z):((a&&b)=true)=(a=true/\b=true):=Bool.and_eq_true a b
def Go.Nm0{n m:Nat}(h:n≤m):Nat.ble n m=true:=Nat.ble_eq_true_of_le h
def Go.Nl0{n m:Nat}(h:Nat.ble n m=true):n≤m:=Nat.le_of_ble_eq_true h
def Go.Nb0{n m:Nat}(h:Nat.beq n m=true):n=m:=Nat.eq_of_beq_eq_true h
def Go.Oi0{l:Type _}{a b:l}(h:some a=some b):a=b:=Option.some.inj h
def Go.Bq0{h:Type _}{β:Type _}{a:h}{f:h->O β}:(some a).bind f=f a:=rfl
def Go.Cq1{h:Sort _}{a b:h}:(bif true then a else b)=a:=rfl
def Go.Cq0{h:Sort _}{a b:h}:(bif false then a else b)=b:=rfl
section
noncomputable section
namespace Go.ZU
section
inductive Tr(α:Type) where
 | nil
 | node (v:Option α) (l r:Tr α)
def Tr.get{α:Type}(t:Tr α):Nat->O α:=
 Tr.rec (motive:=fun _=>Nat->O α) (fun _=>none) (fun v _ _ l h n=>Bool.rec (motive:=fun _=>O α) (Bool.rec (motive:=fun _=>O α) (h (Nat.sub (Nat.div n 2) 1)) (l (Nat.div n 2)) (Nat.beq (Nat.mod n 2) 1)) v (Nat.beq n 0)) t
def Tr.val{h:Type}:Tr h->O h
 | .nil=>none
 | .node v _ _=>v
def Tr.left{h:Type}:Tr h->Tr h
 | .nil=>.nil
 | .node _ l _=>l
def Tr.right{h:Type}:Tr h->Tr h
 | .nil=>.nil
 | .node _ _ r=>r
def Tr.Zjc{α:Type}(x:α)(f:Nat):Tr α->Nat->Tr α:=
 Nat.rec (motive:=fun _=>Tr α->Nat->Tr α) (fun t _=>t)
  (fun _ ih t n=>Tr.rec (motive:=fun _=>Tr α)
    (Bool.rec (motive:=fun _=>Tr α) (Bool.rec (motive:=fun _=>Tr α) (.node none .nil (ih .nil (Nat.sub (Nat.div n 2) 1))) (.node none (ih .nil (Nat.div n 2)) .nil) (Nat.beq (Nat.mod n 2) 1)) (.node (some x) .nil .nil) (Nat.beq n 0))
    (fun v l r _ _=>Bool.rec (motive:=fun _=>Tr α) (Bool.rec (motive:=fun _=>Tr α) (.node v l (ih r (Nat.sub (Nat.div n 2) 1))) (.node v (ih l (Nat.div n 2)) r) (Nat.beq (Nat.mod n 2) 1)) (.node (some x) l r) (Nat.beq n 0)) t) f
def Tr.ZhG{q:Type}(x:q)(f:Nat)(t:Tr q)(n:Nat):Tr.Zjc x (f+1) t n=bif Nat.beq n 0 then .node (some x) t.left t.right else bif Nat.beq (n % 2) 1 then .node t.val (Tr.Zjc x f t.left (n / 2)) t.right else .node t.val t.left (Tr.Zjc x f t.right (n / 2-1)):=by cases t with|nil=>cases h:Nat.beq n 0<;>cases h2:Nat.beq (n % 2) 1<;>simp only[Tr.Zjc,h,Cq1,Cq0,Tr.left,Tr.right,Tr.val]<;>(have p:Nat.beq (Nat.mod n 2) 1=_:=h2;rw[p];rfl)|node v l r=>cases h:Nat.beq n 0<;>cases h2:Nat.beq (n % 2) 1<;>simp only[Tr.Zjc,h,Cq1,Cq0,Tr.left,Tr.right,Tr.val]<;>(have p:Nat.beq (Nat.mod n 2) 1=_:=h2;rw[p];rfl)
def Tr.set{α:Type}(t:Tr α)(n:Nat)(x:α):Tr α:=Tr.Zjc x (n+1) t n
def ZaJ(a b:Nat):Nat.beq a b=decide (a=b):=by rw[Gt,decide_eq_true_iff];exact Nat.beq_eq▸Iff.rfl
def Tr.ZCF{h:Type}(v:O h)(l r:Tr h)(n:Nat):(Tr.node v l r).get n=bif Nat.beq n 0 then v else bif Nat.beq (n % 2) 1 then l.get (n / 2) else r.get (n / 2-1):=by have e:(Tr.node v l r).get n=Bool.rec (motive:=fun _=>O h) (Bool.rec (motive:=fun _=>O h) (r.get (Nat.sub (Nat.div n 2) 1)) (l.get (Nat.div n 2)) (Nat.beq (Nat.mod n 2) 1)) v (Nat.beq n 0):=rfl;have t:Nat.mod n 2=n % 2:=rfl;have q:Nat.div n 2=n / 2:=rfl;have p:Nat.sub (n / 2) 1=n / 2-1:=rfl;rw[e,t,q,p];cases Nat.beq n 0<;>cases Nat.beq (n % 2) 1<;>rfl
def Tr.get_eq{p:Type}(t:Tr p)(n:Nat):t.get n=if n=0 then t.val else if n % 2=1 then t.left.get (n / 2) else t.right.get (n / 2-1):=by
 cases t with|nil=>simp[Tr.get,Tr.val,Tr.left,Tr.right]|node v l r=>
   rw[Tr.ZCF];by_cases h:n=0;.subst h;rfl
   by_cases h2:n % 2=1<;>simp[Tr.left,Tr.right,ZaJ,h,h2]
def Tr.ZgD{h:Type}(v:O h)(l r:Tr h)(n:Nat):(Tr.node v l r).get n=if n=0 then v else if n % 2=1 then l.get (n / 2) else r.get (n / 2-1):=
 Tr.get_eq (.node v l r) n
def Tr.ZCE{r:Type}(x:r):∀(f:Nat)(t:Tr r)(n m:Nat),n<f->(Tr.Zjc x f t n).get m=if m=n then some x else t.get m:=by
 intro f
 induction f with|zero=>intro t n m h;omega|succ f ih=>
   intro t n m h;rw[Tr.get_eq t m];by_cases hn:n=0
   .subst hn;have e:Zjc x (f+1) t 0=.node (some x) t.left t.right:=by rw[Tr.ZhG];rfl
    rw[e,Tr.ZgD];by_cases p:m=0;.rw[if_pos p,if_pos p]
    rw[if_neg p,if_neg p,if_neg p]
   by_cases h2:n % 2=1
   .have e:Zjc x (f+1) t n=.node t.val (Zjc x f t.left (n / 2)) t.right:=by simp[Tr.ZhG,ZaJ,hn,h2]
    rw[e,Tr.ZgD,ih t.left (n / 2) (m / 2) Vb];by_cases p:m=0;.rw[if_pos p,if_pos p,if_neg Vb]
    rw[if_neg p,if_neg p];by_cases l:m % 2=1
    .rw[if_pos l,if_pos l];by_cases q:m=n;.rw[if_pos q,if_pos Vb]
     rw[if_neg q,if_neg Vb]
    rw[if_neg l,if_neg l,if_neg Vb]
   have e:Zjc x (f+1) t n=.node t.val t.left (Zjc x f t.right (n / 2-1)):=by simp[Tr.ZhG,ZaJ,hn,h2]
   rw[e,Tr.ZgD,ih t.right (n / 2-1) (m / 2-1) Vb];by_cases p:m=0;.rw[if_pos p,if_pos p,if_neg Vb]
   rw[if_neg p,if_neg p];by_cases l:m % 2=1;.rw[if_pos l,if_pos l,if_neg Vb]
   rw[if_neg l,if_neg l];by_cases q:m=n;.rw[if_pos q,if_pos Vb]
   rw[if_neg q,if_neg Vb]
def Tr.Qp{h:Type}(t:Tr h)(n m:Nat)(x:h):(t.set n x).get m=if m=n then some x else t.get m:=
 Tr.ZCE x (n+1) t n m Vb
def scalar:Value->Bool
 | .bool _ | .int _ _ | .float _ _ | .complex _ _ _ | .string _ | .pointer none | .slice none 0 0 | .map none | .chan none | .nilFunc | .nilIface=>true
 | _=>false
def plain:N->Z
 | .agg cs=>cs.toList.all scalar
 | .tuple cs=>cs.toList.all scalar
 | .iface _ (.agg cs)=>cs.toList.all scalar
 | .iface _ v=>scalar v
 | v=>scalar v
structure Ren where
 loc:Nat->Option (Nat×Nat)
 lim:Nat->Nat×Nat
instance:CoeFun Ren (fun _=>Nat->Option (Nat×Nat)):=⟨Ren.loc⟩
def ZV2(c c' x:Nat)(l:Nat×Nat):Prop:=c'<=9223372036854775807/\if c % 2=0 then c'=c / 2 else c / 2<=c'/\x+c'*l.2<=l.1
inductive VR(ρ:Ren):Value->Value->Prop
 | bool (b:Bool):VR ρ (.bool b) (.bool b)
 | int (k:IntKind) (n:Int):VR ρ (.int k n) (.int k n)
 | float (k:FloatKind) (b:Nat):VR ρ (.float k b) (.float k b)
 | complex (k:FloatKind) (a b:Nat):VR ρ (.complex k a b) (.complex k a b)
 | string (s:ByteArray):VR ρ (.string s) (.string s)
 | Zyc:VR ρ (.pointer none) (.pointer none)
 | ptr {i b d:Nat} (o:Nat) (h:ρ i=some (b,d)):VR ρ (.pointer (some ⟨i,o,none⟩)) (.pointer (some ⟨b,d+o,none⟩))
 | Zat:VR ρ (.slice none 0 0) (.slice none 0 0)
 | slice {i b d:Nat} (o n c c':Nat) (h:ρ i=some (b,d)) (hc:ZV2 c c' (d+o) (ρ.lim i)):VR ρ (.slice (some ⟨i,o,none⟩) n c) (.slice (some ⟨b,d+o,none⟩) n c')
 | Qf {i b d:Nat} (o o' c:Nat) (h:ρ i=some (b,d)) (hc:c<=1):VR ρ (.slice (some ⟨i,o,none⟩) 0 c) (.slice (some ⟨b,o',none⟩) 0 0)
 | Wh (a:Addr):VR ρ (.slice (some ⟨0,0,some 0⟩) 0 0) (.slice (some a) 0 0)
 | Zyk:VR ρ (.map none) (.map none)
 | map {i b:Nat} (h:ρ i=some (b,0)):VR ρ (.map (some i)) (.map (some b))
 | Zn7:VR ρ (.chan none) (.chan none)
 | nilFunc:VR ρ .nilFunc .nilFunc
 | nilIface:VR ρ .nilIface .nilIface
 | func (fn:Fn) (xs ys xs' ys':Array Value) (hf:∀l,fn≠.yield l) (hx:xs.size=xs'.size) (hy:ys.size=ys'.size)
    (h1:∀(i:Nat)(v v':Value),xs[i]? =some v->xs'[i]? =some v'->VR ρ v v') (h2:∀(i:Nat)(v v':Value),ys[i]? =some v->ys'[i]? =some v'->VR ρ v v'):
    VR ρ (.func fn xs ys) (.func fn xs' ys')
 | yield {i b:Nat} (h:ρ i=some (b,0)):VR ρ (.func (.yield i) #[] #[]) (.func (.yield b) #[] #[])
 | iface (t:TypeId) (v v':Value) (h:VR ρ v v'):VR ρ (.iface t v) (.iface t v')
 | agg (xs xs':Array Value) (hx:xs.size=xs'.size) (h:∀(i:Nat)(v v':Value),xs[i]? =some v->xs'[i]? =some v'->VR ρ v v'):VR ρ (.agg xs) (.agg xs')
 | tuple (xs xs':Array Value) (hx:xs.size=xs'.size) (h:∀(i:Nat)(v v':Value),xs[i]? =some v->xs'[i]? =some v'->VR ρ v v'):VR ρ (.tuple xs) (.tuple xs')
def Ub(ρ:Ren)(xs h:V5 N):Prop:=xs.size=h.size/\∀(i:Nat)(v v':N),xs[i]? =some v->h[i]? =some v'->VR ρ v v'
def Ren.le(ρ h:Ren):Prop:=∀i p,ρ i=some p->h i=some p/\h.lim i=ρ.lim i
def Ren.le_refl(ρ:Ren):ρ.le ρ:=fun _ _ h=>⟨h,rfl⟩
def Ren.le_trans{a b c:Ren}(h:a.le b)(k:b.le c):a.le c:=fun i p e=>⟨(k i p (h i p e).1).1,(k i p (h i p e).1).2.trans (h i p e).2⟩
def VR.mono{ρ q:Ren}(p:ρ.le q){v v':N}(h:VR ρ v v'):VR q v v':=by induction h with|bool b=>exact .bool b|int k n=>exact .int k n|float k b=>exact .float k b|complex k a b=>exact .complex k a b|string s=>exact .string s|Zyc=>exact .Zyc|ptr o h=>exact .ptr o (p _ _ h).1|Zat=>exact .Zat|slice o n c c' h y=>exact .slice o n c c' (p _ _ h).1 (by rw[(p _ _ h).2];exact y)|Qf o A c h y=>exact .Qf o A c (p _ _ h).1 y|Wh a=>exact .Wh a|Zyk=>exact .Zyk|map h=>exact .map (p _ _ h).1|Zn7=>exact .Zn7|nilFunc=>exact .nilFunc|nilIface=>exact .nilIface|func fn xs ys l x E r D _ _ C B=>exact .func fn xs ys l x E r D C B|yield h=>exact .yield (p _ _ h).1|iface t v v' _ ih=>exact .iface t v v' ih|agg xs l r _ ih=>exact .agg xs l r ih|tuple xs l r _ ih=>exact .tuple xs l r ih
def Ub.mono{ρ l:Ren}(p:ρ.le l){xs xs':V5 N}(h:Ub ρ xs xs'):Ub l xs xs':=
 ⟨h.1,fun i v v' a b=>(h.2 i v v' a b).mono p⟩
def VR.QS{ρ:Ren}{v:Value}(h:scalar v=true):VR ρ v v:=by unfold scalar at h;split at h<;>first | (simp at h;done) | constructor
def VR.WU{ρ:Ren}{v v':Value}(h:scalar v=true)(hv:VR ρ v v'):v'=v:=by cases hv<;>first|rfl | (simp[scalar]at h)
def Ub.QS{ρ:Ren}{xs:V5 N}(h:xs.toList.all scalar=true):Ub ρ xs xs:=by refine⟨rfl,fun i v v' a b=>?_⟩;rw[a]at b;cases b;refine VR.QS ?_;rw[Q2]at h;exact h v (Array.mem_toList_iff.2 (Array.mem_of_getElem? a))
def Ub.WU{ρ:Ren}{xs l:V5 N}(h:xs.toList.all scalar=true)(hv:Ub ρ xs l):l=xs:=by rw[Q2]at h;apply Array.ext hv.1.symm;intro i h1 h2;exact VR.WU (h _ (Array.mem_toList_iff.2 (Array.getElem_mem h2))) (hv.2 i _ _ (GG h2) (GG h1))
def VR.ZY{ρ:Ren}{v:N}(h:plain v=true):VR ρ v v:=by
 unfold plain at h;split at h;.exact .agg _ _ rfl (Ub.QS h).2
 .exact .tuple _ _ rfl (Ub.QS h).2
 .exact .iface _ _ _ (.agg _ _ rfl (Ub.QS h).2)
 .exact .iface _ _ _ (VR.QS h)
 exact VR.QS h
def VR.Xr{ρ:Ren}{v v':N}(h:plain v=true)(hv:VR ρ v v'):v'=v:=by
 unfold plain at h;split at h;.cases hv with|agg _ xs' hx hh=>rw[Ub.WU h ⟨hx,hh⟩]
 .cases hv with|tuple _ xs' hx hh=>rw[Ub.WU h ⟨hx,hh⟩]
 .cases hv with|iface _ _ v' hh=>cases hh with|agg _ xs' hx hh=>rw[Ub.WU h ⟨hx,hh⟩]
 .cases hv with|iface _ _ v' hh=>rw[VR.WU h hh]
 exact VR.WU h hv
def Ub.one{ρ:Ren}{v v':N}(h:VR ρ v v'):Ub ρ #[v] #[v']:=by refine⟨rfl,fun i a b e l=>?_⟩;cases i with|zero=>simp at e l;subst e l;exact h|succ i=>simp at e
def VR.cells{ρ:Ren}{v v':N}(h:VR ρ v v'):Ub ρ v.cells v'.cells:=by cases h with|agg xs l p A=>exact⟨p,A⟩|bool b=>exact Ub.one (.bool b)|int k n=>exact Ub.one (.int k n)|float k b=>exact Ub.one (.float k b)|complex k a b=>exact Ub.one (.complex k a b)|string s=>exact Ub.one (.string s)|Zyc=>exact Ub.one .Zyc|ptr o h=>exact Ub.one (.ptr o h)|Zat=>exact Ub.one .Zat|slice o n c c' h r=>exact Ub.one (.slice o n c c' h r)|Qf o x c h r=>exact Ub.one (.Qf o x c h r)|Wh a=>exact Ub.one (.Wh a)|Zyk=>exact Ub.one .Zyk|map h=>exact Ub.one (.map h)|Zn7=>exact Ub.one .Zn7|nilFunc=>exact Ub.one .nilFunc|nilIface=>exact Ub.one .nilIface|func fn xs ys l q B p y h1 h2=>exact Ub.one (.func fn xs ys l q B p y h1 h2)|yield h=>exact Ub.one (.yield h)|iface t v v' h=>exact Ub.one (.iface t v v' h)|tuple xs l p h=>exact Ub.one (.tuple xs l p h)
def VR.undef(ρ:Ren):VR ρ undef undef:=VR.ZY (by rfl)
abbrev Fr:=Tr N
def Fr.at(fr:Fr)(t:Nat):N:=(Tr.get fr t).getD undef
def X4(v:N):Z:=
 match v with|.chan (some _)=>true|_=>false
def ZEB:N:=.chan (some 0)
structure FrR(ρ:Ren)(fr:Fr)(n:Nat)(tmps:Array Value):Prop where
 size:tmps.size=n
 val:∀t,X4 (fr.at t)=false->VR ρ (fr.at t) (tmps.getD t undef)
def FrR.mono{ρ l:Ren}(q:ρ.le l){fr:Fr}{n:Nat}{tmps:V5 N}(h:FrR ρ fr n tmps):FrR l fr n tmps:=
 ⟨h.size,fun t p=>(h.val t p).mono q⟩
def FrR.set{ρ:Ren}{fr:Fr}{n:Nat}{l:V5 N}(h:FrR ρ fr n l){d:Nat}{v v':N}(x:d<n)(hv:VR ρ v v'):
 FrR ρ (Tr.set fr d v) n (l.setIfInBounds d v'):=by
 refine⟨by simp[h.size],fun t=>?_⟩;unfold Fr.at;rw[Tr.Qp];by_cases p:t=d
 .subst p;have r:t<l.size:=by rw[h.size];exact x
  intro _;simpa[QP,r]using hv
 have:=h.val t;unfold Fr.at at this;have q:d≠t:=fun e=>p e.symm;simpa[p,QP,Array.getElem?_setIfInBounds,q]using this
inductive Xv where
 | row (cs:List Value) (own:Bool) (sz:Nat)
 | map (es:List MapEntry) (clock:Nat)
 | loop (state:LoopState) (pending:Option Code) (fr:Fr) (n:Nat) (params:Array Tmp) (assign body:Code) (defers:Nat)
 | deferred
 | Zf5 (s:ByteArray) (pos:Nat)
 | iter (m since XE:Nat) (at_:Option Nat)
 | ZjL
 | box (m:Nat)
 | XP (f:ByteArray->Option Bool)
 | Ws (m since XE s:Nat)
 | dead
def Xv.own:Xv->Z
 | .row _ o _=>o
 | .dead=>false
 | .box _=>false
 | .Ws .. =>false
 | _=>true
def Xv.live:Xv->Z
 | .dead=>false
 | _=>true
inductive EL(ρ:Ren):List MapEntry->List MapEntry->Prop
 | nil:EL ρ [] []
 | cons {e e':MapEntry} {es es':List MapEntry} (hk:e'.key=e.key) (hp:plain e.key=true) (hb:e'.born=e.born) (hv:VR ρ e.val e'.val) (t:EL ρ es es'):EL ρ (e::es) (e'::es')
def EL.mono{ρ l:Ren}(p:ρ.le l){es es':U V6}(h:EL ρ es es'):EL l es es':=by induction h with|nil=>exact .nil|cons r q t hv _ ih=>exact .cons r q t (hv.mono p) ih
def EsR(ρ:Ren)(es:U V6)(es':V5 V6):Prop:=EL ρ es es'.toList
def nfs:Nat:=203
def base:Fence:= {fn:=fun f=>f<nfs,depth:=none,alive:=false}
def ZhI(n:Nat):base.room n:=fun _ h=>by cases h
def fnd(s:Y):U V6->O Z
 | []=>none
 | e::l=>match e.key,e.val with|.string t,.bool b=>bif s==t then some b else fnd s l|_,_=>none
def KS(f:Y->O Z)(l:U V6):Prop:=(∀e∈l,∃s b,e.key=.string s/\e.val=.bool b)/\∀s,fnd s l=f s
def Q0(ρ:Ren)(w:V4)(b d:Nat)(l:Nat×Nat):Xv->Prop
 | .row cs own sz=>∃y A fz,w.heap[b]? =some (.cells y A fz)/\(own=true->fz=(0,0)/\(0<sz->l=(y.size,sz)))/\d+cs.length<=y.size/\∀(k:Nat)(v v':N),cs[k]? =some v->y[d+k]? =some v'->VR ρ v v'
 | .map es t=>d=0/\∃es',w.heap[b]? =some (.map es' t)/\EsR ρ es es'
 | .loop C E fr n D YF G F=>d=0/\∃fn tmps x,w.heap[b]? =some (.loop {state:=C,pending:=E,fn:=fn,tmps:=tmps,params:=D,assign:=YF,body:=G,defers:=x})/\FrR ρ fr n tmps/\ρ F=some (x,0)/\fn<nfs
 | .deferred=>d=0/\w.heap[b]? =some (.deferred (some []))
 | .Zf5 s p=>d=0/\w.heap[b]? =some (.stringIter s p)
 | .iter m q B at_=>d=0/\∃r h,ρ m=some (r,0)/\w.heap[b]? =some (.mapIter (some r) q h B)/\(∀s,at_=some s->h.back? =some s)/\(at_=none->h=#[])
 | .ZjL=>d=0/\w.heap[b]? =some (.mapIter none 0 #[] 0)
 | .box m=>d=0/\∃r A,ρ m=some (r,0)/\w.heap[b]? =some (.cells #[.map (some r)] A (0,0))
 | .Ws m q B s=>d=0/\∃r h,ρ m=some (r,0)/\w.heap[b]? =some (.mapIter (some r) q h B)/\h.back? =some s
 | .XP f=>d=0/\∃es' c,w.heap[b]? =some (.map es' c)/\KS f es'.toList
 | .dead=>True
def Q0.mono{ρ B:Ren}(r:ρ.le B){w:V4}{b d:Nat}{l:Nat×Nat}{A:Xv}(h:Q0 ρ w b d l A):Q0 B w b d l A:=by
 cases A with
 | row cs own sz=>
   have⟨cc,el,fz,a,b,c,e⟩:=h;exact⟨cc,el,fz,a,b,c,fun k v v' x y=>(e k v v' x y).mono r⟩
 | map es C=>
   have⟨a,es',b,c⟩:=h;exact⟨a,es',b,EL.mono r c⟩
 | loop E G fr n F YF K I=>
   have⟨a,f,t,d',b,c,e,nf⟩:=h;exact⟨a,f,t,d',b,c.mono r,(r _ _ e).1,nf⟩
 | deferred=>exact h
 | Zf5 s p=>exact h
 | iter m q D at_=>
   have⟨a,m',seen,b,c⟩:=h;exact⟨a,m',seen,(r _ _ b).1,c⟩
 | ZjL=>exact h
 | box m=>
   have⟨a,m',el,b,c⟩:=h;exact⟨a,m',el,(r _ _ b).1,c⟩
 | XP f=>exact h
 | Ws m q D s=>
   have⟨a,m',seen,b,c⟩:=h;exact⟨a,m',seen,(r _ _ b).1,c⟩
 | dead=>trivial
def Q0.world{ρ:Ren}{w w':V4}{b d:Nat}{l:Nat×Nat}{A:Xv}(h:Q0 ρ w b d l A)(p:w'.heap[b]? =w.heap[b]?):Q0 ρ w' b d l A:=by cases A<;>simp only[Q0,p]at h ⊢ <;> exact h
structure H where
 tr:Tr Xv
 size:Nat
def H.at(h:H)(i:Nat):Xv:=bif Nat.blt i h.size then(h.tr.get i).getD .dead else .dead
def H.put(h:H)(i:Nat)(A:Xv):H:= {h with tr:=h.tr.set i A}
def H.push(h:H)(A:Xv):H:= {tr:=h.tr.set h.size A,size:=h.size+1}
@[simp] def H.size_put(h:H)(i:Nat)(A:Xv):(h.put i A).size=h.size:=rfl
@[simp] def H.size_push(h:H)(A:Xv):(h.push A).size=h.size+1:=rfl
def H.Zfc{h:H}{i:Nat}(l:h.size<=i):h.at i=.dead:=by
 have:Nat.blt i h.size=false:=by
  rw[GS];intro e;rw[Gd]at e;omega
 simp[H.at,this]
def H.Qt(h:H)(i j:Nat)(A:Xv):(h.put i A).at j=if j=i/\j<h.size then A else h.at j:=by
 by_cases l:j<h.size
 .have p:Nat.blt j h.size=true:=by rw[Gd];exact l
  by_cases e:j=i;.subst e;simp[H.at,H.put,Tr.Qp,p,l]
  simp[H.at,H.put,Tr.Qp,p,e]
 rw[if_neg (fun x=>l x.2),H.Zfc (Nat.le_of_not_lt l),H.Zfc (h:=h.put i A) (Nat.le_of_not_lt l)]
def H.Qu(h:H)(j:Nat)(A:Xv):(h.push A).at j=if j=h.size then A else h.at j:=by
 by_cases q:j<h.size
 .have r:Nat.blt j h.size=true:=by rw[Gd];exact q
  have l:Nat.blt j (h.size+1)=true:=by rw[Gd];omega
  have p:j≠h.size:=Vb;simp[H.at,H.push,Tr.Qp,r,l,p]
 by_cases e:j=h.size
 .subst e;have l:Nat.blt h.size (h.size+1)=true:=by rw[Gd];omega
  simp[H.at,H.push,Tr.Qp,l]
 rw[if_neg e,H.Zfc (Nat.le_of_not_lt q),H.Zfc (h:=h.push A) (by rw[H.size_push];omega)]
structure Rel(ρ:Ren)(h:H)(w:World):Prop where
 dom:∀i b d,ρ i=some (b,d)->i<h.size/\b<w.heap.size
 obj:∀i b d,ρ i=some (b,d)->Q0 ρ w b d (ρ.lim i) (h.at i)
 inj:∀i j b d d',ρ i=some (b,d)->ρ j=some (b,d')->(h.at i).own=true->(h.at j).live=true->i=j
structure Stp(V:Nat)(ρ:Ren)(h:H)(w:World)(ρ':Ren)(h':H)(w':World):Prop where
 ext:ρ.le ρ'
 size:h.size<=h'.size
 keep:∀i,i<V->h'.at i=h.at i
 own:∀i,i<h.size->(h'.at i).own=true->(h.at i).own=true
 live:∀i,i<h.size->(h'.at i).live=true->(h.at i).live=true
 os:w'.os=w.os
 tape:w'.tape=w.tape
 output:w'.output=w.output
 XH:w.heap.size<=w'.heap.size
 frame:∀b,b<w.heap.size->(∀i d,V<=i->ρ i=some (b,d)->(h.at i).own=true->False)->w'.heap[b]? =w.heap[b]?
 Ud:∀i b d,ρ i=none->ρ' i=some (b,d)->h.size<=i/\(w.heap.size<=b\/∃j d',V<=j/\ρ j=some (b,d')/\(h.at j).own=true)
def Stp.refl(V:Nat)(ρ:Ren)(h:H)(w:V4):Stp V ρ h w ρ h w:=
 ⟨Ren.le_refl ρ,K1 _,fun _ _=>rfl,fun _ _ x=>x,fun _ _ x=>x,rfl,rfl,rfl,K1 _,fun _ _ _=>rfl,fun i b d e l=>by rw[e]at l;cases l⟩
def Stp.trans{V:Nat}{ρ l ZzN:Ren}{h F t:H}{w w' r:V4}(E:∀i p,ρ i=some p->i<h.size)
 (a:Stp V ρ h w l F w') (b:Stp V l F w' ZzN t r):Stp V ρ h w ZzN t r where
 ext:=Ren.le_trans a.ext b.ext
 size:=KK a.size b.size
 keep i hi:=(b.keep i hi).trans (a.keep i hi)
 own i hi x:=a.own i hi (b.own i (G3 hi a.size) x)
 live i hi x:=a.live i hi (b.live i (G3 hi a.size) x)
 os:=b.os.trans a.os
 tape:=b.tape.trans a.tape
 output:=b.output.trans a.output
 XH:=KK a.XH b.XH
 frame k hk hno:=by
  rw[b.frame k (G3 hk a.XH) ?_,a.frame k hk hno];intro i d hi D K;cases e:ρ i with
  | some p=>
    have q:=(a.ext _ _ e).1;rw[D]at q;cases q;exact hno i d hi e (a.own i (E _ _ e) K)
  | none=>
    rcases(a.Ud i k d e D).2 with h1|⟨j,B,h1,h2,L⟩
    .omega
    exact hno j B h1 h2 L
 Ud i k d e e'':=by
  cases q:l i with
  | some p=>
    have y:=(b.ext _ _ q).1;rw[e'']at y;cases y;exact a.Ud i k d e q
  | none=>
    have⟨h1,h2⟩:=b.Ud i k d q e'';refine⟨KK a.size h1,?_⟩;rcases h2 with h2|⟨j,B,I,C,G⟩
    .exact .inl (KK a.XH h2)
    cases A:ρ j with
    | some p=>
      have y:=(a.ext _ _ A).1;rw[C]at y;cases y;exact .inr ⟨j,B,I,A,a.own j (E _ _ A) G⟩
    | none=>exact(a.Ud j k B A C).2
def Stp.below{V:Nat}{ρ l:Ren}{h y:H}{w w':V4}(a:Stp V ρ h w l y w')(p:∀i b d,V<=i->ρ i=some (b,d)->(h.at i).own=true->False):
 RowKit.Below w.heap.size w w':=
 ⟨a.os,a.tape,a.output,a.XH,fun k t=>a.frame k t (fun i d x q r=>p i k d x q r)⟩
inductive Eff where
 | none
 | new (A:Xv)
 | upd (i:Nat) (A:Xv)
 | grow (i:Nat) (A:Xv)
def Eff.apply(V:Nat)(h:H):Eff->O H
 | .none=>some h
 | .new A=>bif A.own then some (h.push A) else Option.none
 | .upd i A=>bif Nat.ble V i&&(h.at i).own then some (h.put i A) else Option.none
 | .grow i A=>bif Nat.ble V i&&(h.at i).own&&A.own then some ((h.put i .dead).push A) else Option.none
def Ren.add(ρ:Ren)(i:Nat)(p l:Nat×Nat):Ren:=⟨fun j=>if j=i then some p else ρ j,fun j=>if j=i then l else ρ.lim j⟩
def Ren.Za8{ρ:Ren}{i:Nat}{p l:Nat×Nat}(h:ρ i=none):ρ.le (ρ.add i p l):=fun j q e=>by
 unfold Ren.add;by_cases r:j=i
 .subst r;rw[h]at e;cases e
 exact⟨by simpa[if_neg r]using e,by simp[if_neg r]⟩
def Ren.add_same(ρ:Ren)(i:Nat)(p l:Nat×Nat):ρ.add i p l i=some p:=by simp[Ren.add]
def Ren.Zb9(ρ:Ren)(i:Nat)(p l:Nat×Nat):(ρ.add i p l).lim i=l:=by simp[Ren.add]
def Ren.UB{ρ:Ren}{i j:Nat}{p l:Nat×Nat}(h:j≠i):ρ.add i p l j=ρ j/\(ρ.add i p l).lim j=ρ.lim j:=by simp[Ren.add,h]
structure Same(w w':World):Prop where
 os:w'.os=w.os
 tape:w'.tape=w.tape
 output:w'.output=w.output
def Eff.real(ρ:Ren)(h:H)(w:V4)(p:Ren)(w':V4):Eff->Prop
 | .none=>p=ρ/\w'.heap=w.heap
 | .new A=>∃l,p=ρ.add h.size (w.heap.size,0) l/\(∃o,w'.heap=w.heap.push o)/\Q0 p w' w.heap.size 0 l A
 | .upd i A=>p=ρ/\∃b d,ρ i=some (b,d)/\w'.heap.size=w.heap.size/\(∀k,k≠b->w'.heap[k]? =w.heap[k]?)/\Q0 p w' b d (ρ.lim i) A
 | .grow i A=>∃b d,ρ i=some (b,d)/\
     ((∃q l,p=ρ.add h.size (b,q) l/\w'.heap.size=w.heap.size/\(∀k,k≠b->w'.heap[k]? =w.heap[k]?)/\Q0 p w' b q l A)\/
      (∃l,p=ρ.add h.size (w.heap.size,0) l/\(∃o,w'.heap=w.heap.push o)/\Q0 p w' w.heap.size 0 l A))
def Un{A:Xv}(h:A.own=true):A.live=true:=by cases A<;>simp_all[Xv.own,Xv.live]
def UR{A:Xv}(h:¬ A.live=true):A=.dead:=by cases A<;>simp_all[Xv.live]
def Zda{w w':V4}{o:Obj}(h:w'.heap=w.heap.push o){k:Nat}(l:k<w.heap.size):w'.heap[k]? =w.heap[k]?:=by rw[h,Array.getElem?_push,if_neg Vb]
def Rel.fresh{ρ:Ren}{h:H}{w:V4}(r:Rel ρ h w):ρ h.size=none:=by cases e:ρ h.size with|none=>rfl|some p=>have:=(r.dom _ p.1 p.2 e).1;omega
def ZcY{V:Nat}{ρ:Ren}{h:H}{w w':V4}{A:Xv}{o:Obj}{l:Nat×Nat}(r:Rel ρ h w)(P:V<=h.size)(s:Same w w')(hw:w'.heap=w.heap.push o)
 (L:Q0 (ρ.add h.size (w.heap.size,0) l) w' w.heap.size 0 l A):
 Rel (ρ.add h.size (w.heap.size,0) l) (h.push A) w'/\Stp V ρ h w (ρ.add h.size (w.heap.size,0) l) (h.push A) w':=by
 have C:=Ren.Za8 (p:=(w.heap.size,0)) (l:=l) r.fresh;have F:w'.heap.size=w.heap.size+1:=by rw[hw];simp
 have hold:∀i b d,i≠h.size->(ρ.add h.size (w.heap.size,0) l) i=some (b,d)->ρ i=some (b,d):=fun i b d q e=>by
  rwa[(Ren.UB q).1]at e
 have t:∀b d,(ρ.add h.size (w.heap.size,0) l) h.size=some (b,d)->b=w.heap.size/\d=0:=fun b d e=>by
  rw[Ren.add_same]at e;cases e;exact⟨rfl,rfl⟩
 have x:∀i,i≠h.size->(h.push A).at i=h.at i:=fun i q=>by rw[H.Qu,if_neg q]
 have ZBW:(h.push A).at h.size=A:=by rw[H.Qu,if_pos rfl]
 refine⟨⟨?_,?_,?_⟩,⟨C,by simp,?_,?_,?_,s.os,s.tape,s.output,by omega,?_,?_⟩⟩
 .intro i b d e;rw[H.size_push,F];by_cases q:i=h.size;.subst q;have:=t b d e;omega
  have:=r.dom i b d (hold i b d q e);omega
 .intro i b d e;by_cases q:i=h.size;.subst q;obtain⟨rfl,rfl⟩:=t b d e;rw[ZBW,Ren.Zb9];exact L
  have I:=hold i b d q e;rw[x i q,(Ren.UB q).2];exact((r.obj i b d I).mono C).world (Zda hw (r.dom i b d I).2)
 .intro i j b d E e B y G;by_cases q:i=h.size
  .by_cases D:j=h.size;.omega
   subst q;have h1:=t b d e;have h2:=r.dom j b E (hold j b E D B);omega
  by_cases D:j=h.size;.subst D;have h1:=t b E B;have h2:=r.dom i b d (hold i b d q e);omega
  rw[x i q]at y;rw[x j D]at G;exact r.inj i j b d E (hold i b d q e) (hold j b E D B) y G
 .intro i q;exact x i Vb
 .intro i q y;rwa[x i Vb]at y
 .intro i q y;rwa[x i Vb]at y
 .intro b K _;exact Zda hw K
 intro i b d e B;by_cases q:i=h.size;.subst q;exact⟨K1 _,.inl (by have:=t b d B;omega)⟩
 rw[hold i b d q B]at e;cases e
def ZoF{V:Nat}{ρ:Ren}{h:H}{w w':V4}{i b d:Nat}{A:Xv}(r:Rel ρ h w)(ZG:V<=i)(y:(h.at i).own=true)(s:Same w w')(C:ρ i=some (b,d))
 (D:w'.heap.size=w.heap.size) (L:∀k,k≠b->w'.heap[k]? =w.heap[k]?) (S:Q0 ρ w' b d (ρ.lim i) A):
 Rel ρ (h.put i A) w'/\Stp V ρ h w ρ (h.put i A) w':=by
 have F:=(r.dom i b d C).1;have p:∀j,j≠i->(h.put i A).at j=h.at j:=fun j l=>by rw[H.Qt,if_neg (fun x=>l x.1)]
 have Zuo:(h.put i A).at i=A:=by rw[H.Qt,if_pos ⟨rfl,F⟩]
 refine⟨⟨?_,?_,?_⟩,⟨Ren.le_refl ρ,by simp,?_,?_,?_,s.os,s.tape,s.output,by omega,?_,?_⟩⟩;.intro j t B e;have:=r.dom j t B e;rw[H.size_put,D];exact this
 .intro j t B e;by_cases l:j=i;.subst l;rw[C]at e;cases e;rw[Zuo];exact S
  rw[p j l];by_cases P:t=b
  .subst P;by_cases K:(h.at j).live=true;.exact absurd (r.inj i j t d B C e y K).symm l
   rw[UR K];trivial
  exact(r.obj j t B e).world (L t P)
 .intro j k t d1 X W T h1 h2
  have I:(h.at j).own=true:=by
   by_cases l:j=i;.subst l;exact y
   rwa[p j l]at h1
  have G:(h.at k).live=true:=by
   by_cases l:k=i;.subst l;exact Un y
   rwa[p k l]at h2
  exact r.inj j k t d1 X W T I G
 .intro j l;exact p j Vb
 .intro j _ l;by_cases q:j=i;.subst q;exact y
  rwa[p j q]at l
 .intro j _ l;by_cases q:j=i;.subst q;exact Un y
  rwa[p j q]at l
 .intro k _ E;refine L k fun e=>?_;subst e;exact E i d ZG C y
 intro j t B e Q;rw[e]at Q;cases Q
def ZcZ{ρ:Ren}{h:H}{w:V4}{i:Nat}(r:Rel ρ h w):Rel ρ (h.put i .dead) w:=by
 have q:∀j,(h.put i .dead).at j=h.at j\/(h.put i .dead).at j=.dead:=fun j=>by
  rw[H.Qt];split;.exact .inr rfl
  exact .inl rfl
 refine⟨fun j b d e=>r.dom j b d e,fun j b d e=>?_,fun j k b d x e t h1 h2=>?_⟩
 .rcases q j with l|l
  .rw[l];exact r.obj j b d e
  rw[l];trivial
 rcases q j with l|l
 .rcases q k with p|p
  .rw[l]at h1;rw[p]at h2;exact r.inj j k b d x e t h1 h2
  rw[p]at h2;cases h2
 rw[l]at h1;cases h1
def ZAu{V:Nat}{ρ:Ren}{h:H}{w w':V4}{i b d d':Nat}{l:Nat×Nat}{A:Xv}(r:Rel ρ h w)(ZG:V<=i)(F:(h.at i).own=true)(s:Same w w')(K:ρ i=some (b,d))
 (W:w'.heap.size=w.heap.size) (hk:∀k,k≠b->w'.heap[k]? =w.heap[k]?) (hA:Q0 (ρ.add h.size (b,d') l) w' b d' l A):
 Rel (ρ.add h.size (b,d') l) ((h.put i .dead).push A) w'/\Stp V ρ h w (ρ.add h.size (b,d') l) ((h.put i .dead).push A) w':=by
 have hlt:=r.dom i b d K;have P:=Ren.Za8 (p:=(b,d')) (l:=l) r.fresh
 have hold:∀j q B,j≠h.size->(ρ.add h.size (b,d') l) j=some (q,B)->ρ j=some (q,B):=fun j q B y e=>by
  rwa[(Ren.UB y).1]at e
 have C:∀q B,(ρ.add h.size (b,d') l) h.size=some (q,B)->q=b/\B=d':=fun q B e=>by
  rw[Ren.add_same]at e;cases e;exact⟨rfl,rfl⟩
 have D:∀j,j≠h.size->j≠i->((h.put i .dead).push A).at j=h.at j:=fun j y t=>by
  rw[H.Qu,H.size_put,if_neg y,H.Qt,if_neg (fun x=>t x.1)]
 have Zuo:((h.put i .dead).push A).at i=.dead:=by
  rw[H.Qu,H.size_put,if_neg Vb,H.Qt,if_pos ⟨rfl,hlt.1⟩]
 have ZBW:((h.put i .dead).push A).at h.size=A:=by rw[H.Qu,H.size_put,if_pos rfl]
 refine⟨⟨?_,?_,?_⟩,⟨P,by simp,?_,?_,?_,s.os,s.tape,s.output,by omega,?_,?_⟩⟩
 .intro j q B e;rw[H.size_push,H.size_put,W];by_cases y:j=h.size;.subst y;have:=C q B e;omega
  have:=r.dom j q B (hold j q B y e);omega
 .intro j q B e;by_cases y:j=h.size;.subst y;obtain⟨rfl,rfl⟩:=C q B e;rw[ZBW,Ren.Zb9];exact hA
  have e0:=hold j q B y e;rw[(Ren.UB y).2];by_cases t:j=i;.subst t;rw[Zuo];trivial
  rw[D j y t];by_cases hb:q=b
  .subst hb;by_cases hl:(h.at j).live=true;.exact absurd (r.inj i j q d B K e0 F hl).symm t
   rw[UR hl];trivial
  exact((r.obj j q B e0).mono P).world (hk q hb)
 .intro j k q T S e1 L h1 h2;have Q:j≠i:=fun e=>by subst e;rw[Zuo]at h1;cases h1
  have G:k≠i:=fun e=>by subst e;rw[Zuo]at h2;cases h2
  by_cases y:j=h.size
  .by_cases E:k=h.size;.omega
   subst y;obtain⟨rfl,rfl⟩:=C q T e1;rw[D k E G]at h2;exact absurd (r.inj i k q d S K (hold k q S E L) F h2).symm G
  rw[D j y Q]at h1;by_cases E:k=h.size;.subst E;obtain⟨rfl,rfl⟩:=C q S L;exact absurd (r.inj j i q T d (hold j q T y e1) K h1 (Un F)) Q
  rw[D k E G]at h2;exact r.inj j k q T S (hold j q T y e1) (hold k q S E L) h1 h2
 .intro j y;exact D j Vb Vb
 .intro j y I;by_cases t:j=i;.subst t;exact F
  rwa[D j Vb t]at I
 .intro j y I;by_cases t:j=i;.subst t;exact Un F
  rwa[D j Vb t]at I
 .intro k _ X;refine hk k fun e=>?_;subst e;exact X i d ZG K F
 intro j q B e L;by_cases y:j=h.size;.subst y;obtain⟨rfl,rfl⟩:=C q B L;exact⟨K1 _,.inr ⟨i,d,ZG,K,F⟩⟩
 rw[hold j q B y L]at e;cases e
def Eff.sound{V:Nat}{ρ D:Ren}{h S:H}{w w':V4}{E:Eff}(r:Rel ρ h w)(X:V<=h.size)(s:Same w w')(t:E.apply V h=some S)(I:E.real ρ h w D w'):
 Rel D S w'/\Stp V ρ h w D S w':=by
 cases E with
 | none=>
   simp only[Eff.apply,Gj]at t;subst t;obtain⟨rfl,hw⟩:=I;have K:∀k:Nat,w'.heap[k]? =w.heap[k]?:=fun k=>by rw[hw]
   refine⟨⟨fun i b d e=>by rw[hw];exact r.dom i b d e,fun i b d e=>(r.obj i b d e).world (K b),r.inj⟩,?_⟩;exact⟨Ren.le_refl _,K1 _,fun _ _=>rfl,fun _ _ x=>x,fun _ _ x=>x,s.os,s.tape,s.output,by rw[hw];exact K1 _,fun b _ _=>K b,fun i b d e T=>by rw[e]at T;cases T⟩
 | new A=>
   simp only[Eff.apply]at t;cases C:A.own<;>rw[C]at t<;>simp at t;subst t;obtain⟨l,rfl,⟨o,hw⟩,C⟩:=I;exact ZcY r X s hw C
 | upd i A=>
   simp only[Eff.apply]at t;cases y:(Nat.ble V i&&(h.at i).own)<;>rw[y]at t<;>simp at t;subst t;rw[Ba0]at y;obtain⟨rfl,b,d,Q,B,P,C⟩:=I;exact ZoF r (Nl0 y.1) y.2 s Q B P C
 | grow i A=>
   simp only[Eff.apply]at t;cases y:(Nat.ble V i&&(h.at i).own&&A.own)<;>rw[y]at t<;>simp at t;subst t;rw[Ba0,Ba0]at y;obtain⟨b,d,Q,⟨W,l,rfl,B,P,C⟩|⟨l,rfl,⟨o,hw⟩,C⟩⟩:=I;.exact ZAu r (Nl0 y.1.1) y.1.2 s Q B P C
   have r':=ZcZ (i:=i) r;have B:(h.put i .dead).size=h.size:=rfl;have⟨a1,a2⟩:=ZcY (V:=V) (A:=A) r' X s hw C;refine⟨a1,⟨a2.ext,a2.size,fun j F=>?_,fun j F L=>?_,fun j F L=>?_,a2.os,a2.tape,a2.output,a2.XH,fun b K hno=>Zda hw K,fun j b e e1 e2=>?_⟩⟩;.rw[a2.keep j F,H.Qt,if_neg (fun x=>by have:=Nl0 y.1.1;omega)]
   .have:=a2.own j F L;rw[H.Qt]at this;split at this;.cases this
    exact this
   .have:=a2.live j F L;rw[H.Qt]at this;split at this;.cases this
    exact this
   have⟨p,q⟩:=a2.Ud j b e e1 e2;refine⟨p,q.imp id fun⟨j',W,q1,q2,G⟩=>⟨j',W,q1,q2,?_⟩⟩;rw[H.Qt]at G;split at G;.cases G
   exact G
inductive AN where
 | val (v:Value)
 | skip
 | enter (f:FuncId) (args:Array Value)
 | round (l:Nat) (args:Array Value)
 | dfr (d:Deferred)
 | ZqU
 | panic (v:Value)
structure Zqi(ρ:Ren)(d d':Deferred):Prop where
 target:∃f cap cap',d.target=.fn (.func f) cap/\d'.target=.fn (.func f) cap'/\Ub ρ cap cap'
 args:Ub ρ d.args d'.args
def ZE6(ρ:Ren)(w:V4):AN->Result Next->Prop
 | .val v,r=>∃v',VR ρ v v'/\r=.ok (.value v') w
 | .skip,r=>r=.ok .skip w
 | .enter f args,r=>∃h,Ub ρ args h/\r=.ok (.enter f h) w
 | .round l args,r=>∃q k h,ρ l=some (q,0)/\w.heap[q]? =some (.loop k)/\Ub ρ args h/\r=.ok (.round q k.fn ((k.params.zip h).foldl (fun p (t,a)=>p.setIfInBounds t a) k.tmps) k.assign k.body) w
 | .dfr d,r=>∃x,Zqi ρ d x/\r=.ok (.defer x) w
 | .ZqU,r=>r=.ok .recover w
 | .panic v,r=>∃v',VR ρ v v'/\r=.halt (.panic v') w
def X6(P:V2)(ρ:Ren)(h:H)(w:V4)(s:Sem Next)(p:AN)(E:Eff):Prop:=
 ∃l w',Same w w'/\E.real ρ h w l w'/\ZE6 l w' p (s.run P w)
def Same.refl(w:V4):Same w w:=⟨rfl,rfl,rfl⟩
variable{P:V2}{ρ:Ren}{h:H}{w:V4}
def X6.val{s:Sem Next}{v v':N}(hv:VR ρ v v')(l:s.run P w=.ok (.value v') w):X6 P ρ h w s (.val v) .none:=
 ⟨ρ,w,Same.refl w,⟨rfl,rfl⟩,v',hv,l⟩
def X6.JU{s:Sem N}{v v':N}(hv:VR ρ v v')(l:s.run P w=.ok v' w):X6 P ρ h w (do pure (.value (<-s))) (.val v) .none:=
 X6.val hv (by simp[l])
def ZF{h:Type}(P:V2):Sem h->O (Except N h)
 | .pure a=>some (.ok a)
 | .program k=>ZF P (k P)
 | .halt (.panic v)=>some (.error v)
 | _=>none
def ZbQ{l:Type}:∀(s:Sem l)(a:l),ZF P s=some (.ok a)->∀w,s.run P w=.ok a w:=by intro s;induction s with|pure a=>intro b p w;simp only[ZF,Gj,Except.ok.injEq]at p;subst p;rfl|program k ih=>intro a h w;exact ih P a h w|halt x=>intro a h w;cases x<;>simp[ZF]at h|load|store|new|shape|freeze|frozen|getObj|setObj|choose|sys|mark=>intro a h;simp[ZF]at h
def ZmJ{l:Type}:∀(s:Sem l)(v:N),ZF P s=some (.error v)->∀w,s.run P w=.halt (.panic v) w:=by intro s;induction s with|pure a=>intro b p;simp[ZF]at p|program k ih=>intro a h w;exact ih P a h w|halt x=>intro a h w;cases x<;>simp[ZF]at h;subst h;rfl|load|store|new|shape|freeze|frozen|getObj|setObj|choose|sys|mark=>intro a h;simp[ZF]at h
def Kr(P:V2)(s:Sem N):O AN:=
 match ZF P s with|some (.ok v)=>bif plain v then some (.val v) else none|some (.error v)=>bif plain v then some (.panic v) else none|none=>none
def UC{s:Sem N}{q:AN}(p:Kr P s=some q):X6 P ρ h w (do pure (.value (<-s))) q .none:=by
 unfold Kr at p;split at p;.rename_i v e;cases l:plain v<;>rw[l]at p<;>simp at p;subst p;exact X6.JU (VR.ZY l) (ZbQ _ _ e w)
 .rename_i v e;cases l:plain v<;>rw[l]at p<;>simp at p;subst p;exact⟨ρ,w,Same.refl w,⟨rfl,rfl⟩,v,VR.ZY l,by simp[ZmJ _ _ e w]⟩
 cases p
def YV(P:V2)(t:J):O Z:=
 match P.underlying t with|some (.struct _) | some (.array _ _)=>some true|some _=>some false|none=>none
def YO(P:V2)(t:J):O Nat:=(P.info? t).map (·.size)
def Zd8{t:J}{b:Z}(h:YV P t=some b):(isAgg t).run P w=.ok b w:=by
 unfold YV at h;unfold isAgg;split at h
 all_goals first
  | (cases h;done)
  | (rename_i e;cases h;simp[run_underlying e])
  | (rename_i d h1 h2 e;cases h;cases d<;>simp_all[run_underlying e])
def run_sizeOf{t:J}{n:Nat}(h:YO P t=some n):(sizeOf t).run P w=.ok n w:=by unfold YO at h;cases e:P.info? t with|none=>rw[e]at h;cases h|some i=>rw[e]at h;simp at h;simp[sizeOf,typeInfo,e,h]
def addr_add(b o n:Nat):(⟨b,o,none⟩:Addr).add n=⟨b,o+n,none⟩:=by unfold Addr.add;split<;>simp_all
def K4(P:V2)(h:H)(t:J)(v:N):O N:=
 match v with
 | .pointer (some ⟨i,o,none⟩)=>
   match h.at i with
   | .row cs _ _=>
     match YV P t,YO P t with|some true,some n=>bif Nat.ble (o+n) cs.length then some (.agg ((cs.drop o).take n).toArray) else none|some false,_=>cs[o]?|_,_=>none
   | _=>none
 | _=>none
def Zfl(t:J)(a:Addr):(Instr.loadAt t (.pointer (some a))).run P w=(loadVar t a).run P w:=by simp[Instr.loadAt,Instr.sureAddr]
def Zea{cs:U N}{own:Z}{b d o n sz:Nat}{l:Nat×Nat}(p:Q0 ρ w b d l (.row cs own sz))(hn:o+n<=cs.length):
 ∃vs':U N,vs'.length=n/\(∀j,j<n->w.cell? ⟨b,d+o+j,none⟩=some (vs'.getD j undef))/\Ub ρ ((cs.drop o).take n).toArray vs'.toArray:=by
 have⟨cc,el,fz,hw,_,hlen,hv⟩:=p;refine⟨(cc.toList.drop (d+o)).take n,by simp;omega,fun j q=>?_,?_,?_⟩;.have h1:d+o+j<cc.size:=Vb;simp[World.cell?,hw,h1,q,GR]
 .simp;omega
 intro j v v' e h;simp[List.getElem?_take]at e h;exact hv (o+j) v v' (by simpa using e.2) (by rw[<-GO];simpa using h.2)
def ZkM{t:J}{v v' x:N}(r:Rel ρ h w)(hv:VR ρ v v')(p:K4 P h t v=some x):
 ∃D,VR ρ x D/\(Instr.loadAt t v').run P w=.ok D w:=by
 unfold K4 at p;split at p
 .rename_i i o;cases hv with|ptr o I=>
    rename_i b d;have y:=r.obj _ _ _ I;split at p
    .rename_i cs own sz C;rw[C]at y;split at p
     .rename_i n h1 h2;cases E:Nat.ble (o+n) cs.length<;>rw[E]at p<;>simp at p;subst p;have⟨vs',hl,l,hvs⟩:=Zea (o:=o) (n:=n) y (Nl0 E);refine⟨.agg vs'.toArray,.agg _ _ hvs.1 hvs.2,?_⟩;have q:=run_loadCellsFrom (P:=P) (w:=w) ⟨b,d+o,none⟩ (fun j=>vs'.getD j undef) n 0 #[] (fun j G=>by rw[addr_add];simpa using l j G)
      have e:(List.range n).map (fun j=>vs'.getD (0+j) undef)=vs':=by
       apply List.ext_getElem (by simp[hl]);intro j h1 h2;simp at h1;simp[h2]
      rw[e]at q;rw[Zfl];simp[loadVar,Zd8 h1,run_sizeOf h2,loadCells,q]
     .rename_i h1;have⟨cc,el,fz,hw,_,hlen,hvv⟩:=y
      have F:o<cs.length:=by
       rcases Gq o cs.length with A|A
       .exact A
       rw[G0 A]at p;cases p
      have B:cc[d+o]? =some cc[d+o]:=GG Vb;refine⟨cc[d+o],hvv o x _ p B,?_⟩;rw[Zfl];have l:w.cell? ⟨b,d+o,none⟩=some cc[d+o]:=by simp[World.cell?,hw]
      simp[loadVar,Zd8 h1,l]
     cases p
    cases p
 cases p
def ZdX(P:V2)(s:J)(v:N)(f:Nat):O N:=
 match v,P.underlying s with
 | .pointer (some ⟨i,o,none⟩),some (.struct fs)=>
   match fs[f]? with
   | some x=>match YO P x.type with|some (_+1)=>some (.pointer (some ⟨i,o+x.offset,none⟩))|_=>none
   | none=>none
 | _,_=>none
def Zr7{s:J}{v v' x:N}{f:Nat}(hv:VR ρ v v')(h:ZdX P s v f=some x):
 ∃l,VR ρ x l/\(Instr.fieldAt s v' f).run P w=.ok l w:=by
 unfold ZdX at h;split at h
 .rename_i i o t q;cases hv with|ptr o r=>
    rename_i b d;split at h
    .rename_i y p;split at h;next n hn=>simp at h;subst h;refine⟨.pointer (some ⟨b,d+(o+y.offset),none⟩),.ptr _ r,?_⟩;simp[Instr.fieldAt,run_underlying q,p,Instr.sureAddr,fieldPlace,run_sizeOf hn,addr_add,GO]
     cases h
    cases h
 cases h
def ZfP(P:V2)(t:J)(v h:N):O N:=
 match h,P.underlying t,v with
 | .int _ (.ofNat k),some (.slice e),.slice (some ⟨i,o,none⟩) n _=>
   match YO P e with|some sz=>bif Nat.blt k n then some (.pointer (some ⟨i,o+k*sz,none⟩)) else none|none=>none
 | .int _ (.ofNat k),some (.array n e),.pointer (some ⟨i,o,none⟩)=>
   match YO P e with|some sz=>bif Nat.blt k n then some (.pointer (some ⟨i,o+k*sz,none⟩)) else none|none=>none
 | _,_,_=>none
def Zrm{t:J}{v v' B r x:N}(hv:VR ρ v v')(p:VR ρ B r)(h:ZfP P t v B=some x):
 ∃A,VR ρ x A/\(Instr.indexAt t v' r).run P w=.ok A w:=by
 unfold ZfP at h;split at h
 .rename_i q k e i o n c he;cases p;split at h
  .rename_i sz l;cases y:Nat.blt k n<;>rw[y]at h<;>simp at h;rw[Gd]at y;subst h;cases hv with
   | slice o n c c' p C=>
     rename_i b d;refine⟨.pointer (some ⟨b,d+(o+k*sz),none⟩),.ptr _ p,?_⟩;simp[Instr.indexAt,asIntOf,run_underlying he,run_sizeOf l,addr_add,GO];intro D;omega
   | Qf o F c p E=>omega
  cases h
 .rename_i q k n e i o he;cases p;split at h
  .rename_i sz l;cases y:Nat.blt k n<;>rw[y]at h<;>simp at h
   rw[Gd]at y;subst h;cases hv with|ptr o p=>
     rename_i b d;refine⟨.pointer (some ⟨b,d+(o+k*sz),none⟩),.ptr _ p,?_⟩;simp[Instr.indexAt,asIntOf,run_underlying he,run_sizeOf l,addr_add,GO,Instr.sureAddr];intro D;omega
  cases h
 cases h
def apart(P:V2)(t:J)(cs:V5 N)(off:Nat):O N:=
 match YV P t,YO P t with|some true,some n=>bif Nat.ble (off+n) cs.size then some (.agg ((cs.toList.drop off).take n).toArray) else none|some false,_=>cs.toList[off]?|_,_=>none
def Zkw{t:J}{cs cs':V5 N}{off:Nat}{x:N}(hv:Ub ρ cs cs')(h:apart P t cs off=some x):
 ∃y,VR ρ x y/\(part t cs' off).run P w=.ok y w:=by
 unfold apart at h;split at h;.rename_i n h1 h2;cases A:Nat.ble (off+n) cs.size<;>rw[A]at h<;>simp at h;subst h;have D:=Nl0 A;have C:=hv.1;refine⟨.agg (cs'.extract off (off+n)),.agg _ _ (by simp;omega) (fun i v v' e B=>?_),by simp[part,Zd8 h1,run_sizeOf h2]⟩;simp[List.getElem?_take]at e;have E:i<n:=e.1;rw[Array.getElem?_extract,if_pos Vb]at B;exact hv.2 (off+i) v v' (by simpa using e.2) B
 .rename_i h1;have p:cs[off]? =some x:=by simpa using h
  have q:off<cs.size:=by
   rcases Gq off cs.size with r|r
   .exact r
   rw[Array.getElem?_eq_none r]at p;cases p
  have l:cs'[off]? =some (cs'[off]'(by rw[<-hv.1];exact q)):=GG _;exact⟨_,hv.2 off x _ p l,by simp[part,Zd8 h1,l]⟩
 cases h
def Zhm(P:V2)(t:J)(v:N)(f:Nat):O N:=
 match P.underlying t,v with
 | some (.struct fs),.agg cs=>match fs[f]? with|some x=>apart P x.type cs x.offset|none=>none
 | _,_=>none
def Zpq{t:J}{v v' x:N}{f:Nat}(hv:VR ρ v v')(h:Zhm P t v f=some x):
 ∃l,VR ρ x l/\(Instr.field t v' f).run P w=.ok l w:=by
 unfold Zhm at h;split at h
 .rename_i B cs r;cases hv with|agg _ cs' q A=>
    split at h;next y p=>have⟨l,h1,h2⟩:=Zkw (w:=w) ⟨q,A⟩ h;exact⟨l,h1,by simp[Instr.field,run_underlying r,p,asAgg,h2]⟩
    cases h
 cases h
def Zj0(P:V2)(t:J)(v h:N):O N:=
 match P.underlying t,v,h with
 | some (.array n e),.agg cs,.int _ (.ofNat k)=>match YO P e with|some sz=>bif Nat.blt k n then apart P e cs (k*sz) else none|none=>none
 | _,_,_=>none
def Zo3{t:J}{v v' y l x:N}(hv:VR ρ v v')(D:VR ρ y l)(h:Zj0 P t v y=some x):
 ∃p,VR ρ x p/\(Instr.index t v' l).run P w=.ok p w:=by
 unfold Zj0 at h;split at h
 .rename_i n e cs q k C;cases D;cases hv with|agg _ cs' A E=>
    split at h;.rename_i sz r;cases B:Nat.blt k n<;>rw[B]at h<;>simp at h;rw[Gd]at B;have⟨p,h1,h2⟩:=Zkw (w:=w) ⟨A,E⟩ h;refine⟨p,h1,?_⟩;simp[Instr.index,asIntOf,run_underlying C,run_sizeOf r,h2];intro A;omega
    cases h
 cases h
def ZdY(v:N)(k:Nat):O N:=
 match v with|.tuple vs=>vs.toList[k]?|_=>none
def ZmZ{v v' x:N}{k:Nat}(hv:VR ρ v v')(q:ZdY v k=some x):∃t,VR ρ x t/\(Instr.extract v' k).run P w=.ok t w:=by
 unfold ZdY at q;split at q
 .rename_i vs;cases hv with|tuple _ vs' y l=>
    have h:vs[k]? =some x:=by simpa using q
    have r:k<vs.size:=by
     rcases Gq k vs.size with l|l
     .exact l
     rw[Array.getElem?_eq_none l]at h;cases h
    have p:vs'[k]? =some (vs'[k]'(by rw[<-y];exact r)):=GG _;exact⟨_,l k x _ h p,by simp[Instr.extract,p]⟩
 cases q
def ZaA(P:V2)(t:J)(x y:N):O Z:=
 match P.underlying t,x,y with|some (.pointer _),.pointer a,.pointer none=>some a.isNone|some (.pointer _),.pointer none,.pointer b=>some b.isNone|some (.slice _),.slice a _ _,.slice none _ _=>some a.isNone|some (.slice _),.slice none _ _,.slice b _ _=>some b.isNone|some (.map _ _),.map a,.map none=>some a.isNone|some (.map _ _),.map none,.map b=>some b.isNone|some (.func _ _ _),.nilFunc,.nilFunc=>some true|some (.func _ _ _),.func _ _ _,.nilFunc=>some false|some (.func _ _ _),.nilFunc,.func _ _ _=>some false|some (.interface _),.iface _ _,.nilIface=>some false|some (.interface _),.nilIface,.iface _ _=>some false|_,_,_=>none
def ZAH(n:Nat){t:J}{x p y l:N}{b:Z}(r:VR ρ x p)(q:VR ρ y l)(h:ZaA P t x y=some b):(Op.equalIn (n+1) t p l).run P w=.ok b w:=by
 unfold ZaA at h;split at h
 all_goals first
  | (cases h;done)
  | (rename_i e;simp only[Gj]at h;subst h;cases r<;>cases q<;>(rw[Op.equalIn,Sem.run_bind,run_underlying e];rfl))
def ZiM{t:J}{x l y h:N}{b:Z}(q:VR ρ x l)(p:VR ρ y h)(r:ZaA P t x y=some b):(Op.equal t l h).run P w=.ok b w:=
 ZAH 9999 q p r
end
section
def LR(ρ:Ren)(xs ys:U N):Prop:=xs.length=ys.length/\∀(i:Nat)(v v':N),xs[i]? =some v->ys[i]? =some v'->VR ρ v v'
def Ub.list{ρ:Ren}{xs ys:V5 N}(h:Ub ρ xs ys):LR ρ xs.toList ys.toList:=⟨by simpa using h.1,fun i v v' a b=>h.2 i v v' (by simpa using a) (by simpa using b)⟩
def LR.arr{ρ:Ren}{xs ys:U N}(h:LR ρ xs ys):Ub ρ xs.toArray ys.toArray:=⟨by simpa using h.1,fun i v v' a b=>h.2 i v v' (by simpa using a) (by simpa using b)⟩
def LR.nil{ρ:Ren}:LR ρ [] []:=⟨rfl,fun i v v' a=>by simp at a⟩
def LR.append{ρ:Ren}{xs ys p l:U N}(h:LR ρ xs p)(k:LR ρ ys l):LR ρ (xs++ys) (p++l):=by
 refine⟨by simp[h.1,k.1],fun i v v' a b=>?_⟩;rw[List.getElem?_append]at a b;by_cases q:i<xs.length;.rw[if_pos q]at a;rw[if_pos (by rw[<-h.1];exact q)]at b;exact h.2 i v v' a b
 rw[if_neg q]at a;rw[if_neg (by rw[<-h.1];exact q),<-h.1]at b;exact k.2 _ v v' a b
def LR.take{ρ:Ren}{xs l:U N}(h:LR ρ xs l)(n:Nat):LR ρ (xs.take n) (l.take n):=by
 refine⟨by simp[h.1],fun i v v' a b=>?_⟩;rw[List.getElem?_take]at a b;by_cases p:i<n;.rw[if_pos p]at a b;exact h.2 i v v' a b
 rw[if_neg p]at a;cases a
def LR.drop{ρ:Ren}{xs l:U N}(h:LR ρ xs l)(n:Nat):LR ρ (xs.drop n) (l.drop n):=by refine⟨by simp[h.1],fun i v v' a b=>?_⟩;rw[Gz]at a b;exact h.2 _ v v' a b
def LR.cons{ρ:Ren}{x p:N}{xs l:U N}(q:VR ρ x p)(h:LR ρ xs l):LR ρ (x::xs) (p::l):=by refine⟨by simp[h.1],fun i v v' a b=>?_⟩;cases i with|zero=>simp at a b;subst a b;exact q|succ i=>simp at a b;exact h.2 i v v' a b
def LR.scalar{ρ:Ren}{xs:U N}(h:xs.all scalar=true):LR ρ xs xs:=by refine⟨rfl,fun i v v' a b=>?_⟩;rw[a]at b;cases b;rw[Q2]at h;exact VR.QS (h v (List.mem_of_getElem? a))
def splice(cs:U N)(o:Nat)(vs:U N):U N:=cs.take o++vs++cs.drop (o+vs.length)
def LR.splice{ρ:Ren}{cs cs' vs vs':U N}(h:LR ρ cs cs')(k:LR ρ vs vs')(o:Nat):LR ρ (splice cs o vs) (splice cs' o vs'):=by unfold ZU.splice;rw[k.1];exact((h.take o).append k).append (h.drop _)
def Ul{cs vs:U N}{o:Nat}(h:o+vs.length<=cs.length):(splice cs o vs).length=cs.length:=by simp[splice];omega
variable{P:V2}{ρ:Ren}{h:H}{w:V4}
def JF(h:H):N:=(Va h.size)
def World.push(w:V4)(o:Obj):V4:= {w with heap:=w.heap.push o}
def Zaj(o:Obj):Same w (World.push w o):=⟨rfl,rfl,rfl⟩
def Zv5(o:Obj):(World.push w o).heap[w.heap.size]? =some o:=by show(w.heap.push o)[w.heap.size]? =some o;rw[Array.getElem?_push,if_pos rfl]
def Zc0(r:Rel ρ h w){cs:U N}{cs':V5 N}{e:J}{rest:U N}(sz:Nat)(hv:LR ρ cs rest)(q:∃t,cs'.toList=rest++t):
 (Eff.new (.row cs true sz)).real ρ h w (ρ.add h.size (w.heap.size,0) (cs'.size,sz)) (World.push w (.cells cs' e)):=by
 refine⟨_,rfl,⟨_,rfl⟩,cs',e,(0,0),Zv5 _,fun _=>⟨rfl,fun _=>rfl⟩,?_,fun k v v' a b=>?_⟩
 .have⟨t,ht⟩:=q;have:cs'.size=(rest++t).length:=by rw[<-ht];simp
  rw[this];simp[hv.1]
 have⟨t,ht⟩:=q;rw[<-Gi,ht,Gc]at b
 have l:k<rest.length:=by
  rw[<-hv.1];rcases Gq k cs.length with p|p
  .exact p
  rw[G0 p]at a;cases a
 rw[GT l]at b;exact(hv.2 k v v' a b).mono (Ren.Za8 r.fresh)
def ZhY(w:V4)(l:Nat×Nat):VR (ρ.add h.size (w.heap.size,0) l) (JF h) ((Va w.heap.size)):=
 .ptr 0 (Ren.add_same ρ h.size _ _)
def Zzb(r:Rel ρ h w){v v':N}(e:J)(hv:VR ρ v v'):
 X6 P ρ h w (do pure (.value (<-Instr.box e v'))) (.val (JF h)) (.new (.row v.cells.toList true 0)):=
 ⟨_,World.push w (.cells v'.cells e),Zaj _,Zc0 r 0 hv.cells.list ⟨[],by simp⟩,_,ZhY w _,by simp[Instr.box,newVar,newRow];rfl⟩
def Y5(P:V2)(t:J):O N:=
 match(P.info? t).bind (·.zero) with|some z=>bif z.cells.toList.all scalar&&plain z then some z else none|none=>none
def Qe{t:J}{z:N}(h:Y5 P t=some z):(∀w,(zeroValue t).run P w=.ok z w)/\z.cells.toList.all scalar=true/\plain z=true:=by
 unfold Y5 at h;cases e:P.info? t with|none=>simp[e]at h|some i=>
   cases p:i.zero with|none=>simp[e,p]at h|some q=>
     simp only[e,p,Bq0]at h;cases l:(q.cells.toList.all scalar&&plain q)<;>rw[l]at h<;>simp at h;subst h;rw[Ba0]at l;exact⟨fun w=>by simp[zeroValue,typeInfo,e,p],l.1,l.2⟩
def Zs1(r:Rel ρ h w){t:J}{z:N}(l:Y5 P t=some z):
 X6 P ρ h w (do pure (.value (<-Instr.alloc t true (.tuple #[])))) (.val (JF h)) (.new (.row z.cells.toList true 0)):=by
 have⟨h1,h2,_⟩:=Qe l;refine⟨_,World.push w (.cells z.cells t),Zaj _,Zc0 r 0 (LR.scalar h2) ⟨[],by simp⟩,_,ZhY w _,?_⟩;simp[Instr.alloc,newVar,newRow,h1];rfl
def ZdW(h:Nat->O (Nat×Nat))(cs:U N):U (Nat×N)->O (U N)
 | []=>some cs
 | (i,v)::rest=>
   match h i with|some (off,size)=>bif Nat.beq v.cells.toList.length size&&Nat.ble (off+v.cells.toList.length) cs.length then ZdW h (splice cs off v.cells.toList) rest else none|none=>none
def foldl_set(off:Nat):∀(vs:U N)(k:Nat)(cs:V5 N),off+k+vs.length<=cs.size ->
 ((vs.zipIdx k).foldl (fun(cs:V5 N)(x:N×Nat)=>cs.setIfInBounds (off+x.2) x.1) cs).toList=splice cs.toList (off+k) vs:=by
 intro vs
 induction vs with|nil=>intro k cs _;simp[splice]|cons v vs ih=>
   intro k cs r;simp only[Kx]at r;rw[List.zipIdx_cons,Gm,ih (k+1) _ (by simp;omega)];apply GL;intro i;simp only[splice,Array.toList_setIfInBounds,G9,Kx,List.getElem?_append,List.getElem?_take,Gl,List.length_set,G6,Gz,List.getElem?_cons];by_cases h1:i<off+k;.have:i<min (off+(k+1)) cs.size:=Vb;have h:i<min (off+k) cs.size:=Vb;have q:off+k≠i:=Vb;have p:i<off+(k+1):=Vb;simp[this,h,h1,q,p]
   by_cases h2:i=off+k;.subst h2;have:off+k<min (off+(k+1)) cs.size:=Vb;have h:¬ off+k<min (off+k) cs.size:=Vb;have p:off+k<off+(k+1):=Vb;have y:off+k<cs.size:=Vb;have l:off+k-min (off+k) cs.size=0:=Vb;simp[this,h,p,y,l]
   have h:¬ i<min (off+(k+1)) cs.size:=Vb;have q:¬ i<min (off+k) cs.size:=Vb;have C:min (off+(k+1)) cs.size=off+(k+1):=Vb;have B:min (off+k) cs.size=off+k:=Vb;have A:i-(off+k)=(i-(off+(k+1)))+1:=Vb;rw[if_neg h,if_neg q,C,B,A];by_cases l:i-(off+(k+1))<vs.length;.have:i-(off+(k+1))+1<vs.length+1:=Vb;simp[l]
   simp only[l,if_false];have t:¬ (i-(off+(k+1))+1<vs.length+1):=Vb;simp only[t,if_false];rw[List.getElem?_set_ne Vb];congr 1;omega
def ZfC(r:Nat->O (Nat×Nat)):∀(B:U (Nat×N))(h:U (Nat×N))(cs:U N)(cs':V5 N)(out:U N),
 B.length=h.length->(∀(i:Nat) p C,B[i]? =some p->h[i]? =some C->C.1=p.1/\VR ρ p.2 C.2)->LR ρ cs cs'.toList->ZdW r cs B=some out ->
 ∃l,Instr.fill r cs' h=some l/\LR ρ out l.toList:=by
 intro B;induction B with
 | nil=>
   intro h cs cs' out F _ G t;cases h with|nil=>simp only[ZdW,Gj]at t;subst t;exact⟨cs',rfl,G⟩|cons p h=>simp at F
 | cons p B ih=>
   intro h cs cs' out F L G t;cases h with|nil=>simp at F|cons C h=>
     have⟨i,v⟩:=p;have⟨i',v'⟩:=C;have⟨h1,h2⟩:=L 0 _ _ rfl rfl;simp only at h1 h2;subst h1;simp only[ZdW]at t;split at t
     .rename_i off size I;cases K:(Nat.beq v.cells.toList.length size&&Nat.ble (off+v.cells.toList.length) cs.length)<;>rw[K]at t<;>simp at t;rw[Ba0]at K;have⟨A,y⟩:=K;have A:=Nb0 A;have y:=Nl0 y;have D:=h2.cells;have E:v.cells.toList.length=v'.cells.toList.length:=by simpa using D.1
      have T:cs.length=cs'.size:=by simpa using G.1
      have e:=foldl_set off v'.cells.toList 0 cs' Vb
      have V:(v'.cells.zipIdx.foldl (fun(cs:V5 N)(x:N×Nat)=>cs.setIfInBounds (off+x.2) x.1) cs').toList=splice cs'.toList off v'.cells.toList:=by
       rw[<-Array.foldl_toList,Array.toList_zipIdx];exact e
      have⟨l,o1,o2⟩:=ih h (splice cs off v.cells.toList) (v'.cells.zipIdx.foldl (fun(cs:V5 N)(x:N×Nat)=>cs.setIfInBounds (off+x.2) x.1) cs') out
       (by simpa using F) (fun j q P a b=>L (j+1) q P (by simpa using a) (by simpa using b)) (by rw[V];exact G.splice D.list off) (by simpa using t)
      refine⟨l,?_,o2⟩;have S:¬ (v'.cells.size≠size):=by simp at E A;omega
      have Q:¬ (off+v'.cells.size>cs'.size):=by simp at E y;omega
      simp only[Instr.fill,I];rw[if_neg (by simp at S Q ⊢;omega)];exact o1
     cases t
def Zed(P:V2):U Field->O (U (Nat×Nat))
 | []=>some []
 | f::fs=>match YO P f.type,Zed P fs with|some n,some r=>some ((f.offset,n)::r)|_,_=>none
def ZoI:∀(l:U Field)(p:U (Nat×Nat)),Zed P l=some p->(l.mapM fun f=>(do pure (f.offset,<-sizeOf f.type):Sem (Nat×Nat))).run P w=.ok p w:=by
 intro l
 induction l with|nil=>intro p h;simp only[Zed,Gj]at h;subst h;rfl|cons f l ih=>
   intro p h;simp only[Zed]at h;split at h;next n r t q=>simp only[Gj]at h;subst h;have:=ih r q;rw[List.mapM_cons];simp only[Sem.run_bind,run_sizeOf t,Gx,this,Sem.run_pure]
   cases h
def Zmo(P:V2)(t:J)(h:U (Nat×N)):O N:=
 match Y5 P t,P.underlying t with
 | some z,some (.struct fs)=>match Zed P fs.toList with
   | some l=>(ZdW (fun i=>l[i]?) z.cells.toList h).map fun cs=>.agg cs.toArray
   | none=>none
 | some z,some (.array _ e)=>match YO P e with
   | some n=>(ZdW (fun i=>some (i*n,n)) z.cells.toList h).map fun cs=>.agg cs.toArray
   | none=>none
 | _,_=>none
def ZsM{t:J}{q l:U (Nat×N)}{x:N}(E:q.length=l.length)(D:∀(i:Nat) p p',q[i]? =some p->l[i]? =some p'->p'.1=p.1/\VR ρ p.2 p'.2)
 (h:Zmo P t q=some x):∃C,VR ρ x C/\(Instr.build t l.toArray).run P w=.ok C w:=by
 unfold Zmo at h;split at h
 .rename_i z G A hu;have⟨h1,h2,_⟩:=Qe A;split at h
  .rename_i y B;cases r:ZdW (fun i=>y[i]?) z.cells.toList q with|none=>rw[r]at h;simp at h|some out=>
     rw[r]at h;simp only[GY,Gj]at h;subst h;have⟨out',o1,o2⟩:=ZfC (fun i=>y[i]?) q l z.cells.toList z.cells out E D (LR.scalar h2) r;refine⟨.agg out',?_,?_⟩;.have:=o2.arr;exact .agg _ _ (by simpa using this.1) (by simpa using this.2)
     have F:=ZoI (w:=w) G.toList y B;have e:(fun i=>y.toArray[i]?)=fun i:Nat=>y[i]?:=by funext i;simp
     simp only[Instr.build,Sem.run_bind,h1,Gx,run_underlying hu];rw[Array.mapM_eq_mapM_toList];simp only[Sem.run_map,F,Gx];rw[e,o1];simp
  cases h
 .rename_i z k e A hu;have⟨h1,h2,_⟩:=Qe A;split at h
  .rename_i n hn;cases r:ZdW (fun i=>some (i*n,n)) z.cells.toList q with|none=>rw[r]at h;simp at h|some out=>
     rw[r]at h;simp only[GY,Gj]at h;subst h;have⟨out',o1,o2⟩:=ZfC (fun i=>some (i*n,n)) q l z.cells.toList z.cells out E D (LR.scalar h2) r;refine⟨.agg out',?_,?_⟩;.have:=o2.arr;exact .agg _ _ (by simpa using this.1) (by simpa using this.2)
     simp only[Instr.build,Sem.run_bind,h1,Gx,run_underlying hu,run_sizeOf hn];rw[o1];simp
  cases h
 cases h
end
section
variable{P:V2}{ρ:Ren}{h:H}{w:V4}
def VR.oneCell{v v':N}(hv:VR ρ v v')(h:v.oneCell'=true):v'.oneCell'=true:=by cases hv<;>simp_all[Value.oneCell']
def LR.oneCell{xs ys:U N}(hv:LR ρ xs ys)(h:xs.all Value.oneCell'=true):∀v∈ys,v.oneCell'=true:=by
 intro v q;have⟨i,hi⟩:=Gn.1 q
 have l:i<xs.length:=by
  rw[hv.1];rcases Gq i ys.length with p|p
  .exact p
  rw[G0 p]at hi;cases hi
 rw[Q2]at h;exact(hv.2 i _ v (Q4 l) hi).oneCell (h _ (GE l))
def setRow_other(w:V4)(g:Nat)(cs:V5 N)(k:Nat)(h:k≠g):(w.setRow g cs).heap[k]? =w.heap[k]?:=by unfold World.setRow;simp only[Array.getElem?_modify];rw[if_neg (fun e=>h e.symm)]
def setRow_size(w:V4)(g:Nat)(cs:V5 N):(w.setRow g cs).heap.size=w.heap.size:=by simp[World.setRow]
def ZiJ(w:V4)(g:Nat)(cs:V5 N):Same w (w.setRow g cs):=⟨rfl,rfl,rfl⟩
def Zd6{i b d o sz:Nat}{cs vs vs':U N}(I:ρ i=some (b,d))(F:Q0 ρ w b d (ρ.lim i) (.row cs true sz))(hv:LR ρ vs vs')
 (h1:vs.all Value.oneCell'=true) (A:o+vs.length<=cs.length):
 ∃w',(storeCells ⟨b,d+o,none⟩ vs').run P w=.ok () w'/\Same w w'/\(Eff.upd i (.row (splice cs o vs) true sz)).real ρ h w ρ w':=by
 have⟨cc,el,fz,hw,hfz,hlen,hc⟩:=F;obtain⟨rfl,l⟩:=hfz rfl;have G:=hv.1;refine⟨_,run_storeCells_at (P:=P) b (d+o) el vs' 0 cc w hw Vb (hv.oneCell h1),ZiJ _ _ _,rfl,b,d,I,setRow_size _ _ _,fun k p=>setRow_other _ _ _ _ p,?_⟩;have Zuj:(cc.toList.take (d+o+0)++vs'++cc.toList.drop (d+o+0+vs'.length)).toArray.toList=splice cc.toList (d+o) vs':=by simp[splice]
 refine⟨_,el,(0,0),setRow_heap w b cc _ el (0,0) hw,fun _=>⟨rfl,fun E=>?_⟩,?_,fun k v v' a C=>?_⟩;.rw[l E];congr 1;rw[<-G6,<-G6,Zuj,Ul (by simp;omega)]
 .have D:(splice cc.toList (d+o) vs').length=cc.toList.length:=Ul (by simp;omega);rw[Ul A,<-G6,Zuj,D];simpa using hlen
 rw[<-Gi,Zuj]at C
 have t:LR ρ cs ((cc.toList.drop d).take cs.length):=by
  refine⟨by simp;omega,fun k v v' x y=>?_⟩;rw[List.getElem?_take]at y;split at y;.rw[Gz]at y;exact hc k v v' x (by simpa using y)
  cases y
 have:=(t.splice hv o).2 k v v' a;refine this ?_
 have p:k<cs.length:=by
  rw[<-Ul A];rcases Gq k (splice cs o vs).length with r|r
  .exact r
  rw[G0 r]at a;cases a
 rw[<-C];simp only[splice,G9,List.getElem?_append,List.getElem?_take,Gl,Gz,GD,G6];have Q:min o (min cs.length (cc.size-d))=o:=Vb;have L:min (d+o) cc.size=d+o:=Vb;rw[Q,L];by_cases k1:k<o;.have q:d+k<d+o:=Vb;simp[k1,p,q]
 have q:¬ d+k<d+o:=Vb;have B:d+k-(d+o)=k-o:=Vb;by_cases k2:k-o<vs'.length;.simp[k1,q,B,k2]
 have T:k<cs.length:=p;have K:d+(o+vs'.length+(k-o-vs'.length))=d+o+vs'.length+(k-o-vs'.length):=Vb;have S:o+vs'.length+(k-o-vs'.length)<cs.length:=Vb;simp[k1,q,B,k2,S,K]
def Ziu(P:V2)(h:H)(t:J)(a x:N):O Eff:=
 match a,YO P t with
 | .pointer (some ⟨i,o,none⟩),some n=>
   match h.at i with
   | .row cs true sz=>
     let vs:=x.cells.toList
     bif Nat.beq vs.length n&&Nat.ble (o+n) cs.length&&vs.all Value.oneCell' then some (.upd i (.row (splice cs o vs) true sz)) else none
   | _=>none
 | _,_=>none
def ZqJ{t:J}{a F x p:N}{E:Eff}(r:Rel ρ h w)(G:VR ρ a F)(B:VR ρ x p)(l:Ziu P h t a x=some E):
 X6 P ρ h w (do Instr.storeAt t F p;pure .skip) .skip E:=by
 unfold Ziu at l;split at l
 .rename_i i o n hn;cases G with|ptr o D=>
    rename_i b d;have C:=r.obj _ _ _ D;split at l
    .rename_i cs sz A;rw[A]at C;dsimp only at l;cases y:(Nat.beq x.cells.toList.length n&&Nat.ble (o+n) cs.length&&x.cells.toList.all Value.oneCell')<;>rw[y]at l<;>simp at l;subst l;rw[Ba0,Ba0]at y;have⟨⟨h1,h2⟩,h3⟩:=y;have h1:=Nb0 h1;have h2:=Nl0 h2;have⟨w',e1,e2,e3⟩:=Zd6 (P:=P) (h:=h) (vs:=x.cells.toList) (vs':=p.cells.toList) (o:=o) D C B.cells.list h3 Vb;refine⟨ρ,w',e2,e3,?_⟩
     have q:¬ (p.cells.size≠n):=by
      have:=B.cells.1;simp at h1;omega
     show(do Instr.storeAt t (.pointer (some ⟨b,d+o,none⟩)) p;pure .skip:Sem Next).run P w=.ok .skip w';simp only[Instr.storeAt,Instr.sureAddr,storeVar,Sem.run_bind,Sem.run_pure,Gx,run_sizeOf hn];rw[if_neg q];simp[e1]
    cases l
 cases l
def ZiO:N->O Nat
 | .int _ (.ofNat k)=>some k
 | _=>none
def J6{v v':N}{k:Nat}(hv:VR ρ v v')(h:ZiO v=some k):∃q,v'=.int q (k:Int):=by
 unfold ZiO at h;split at h;.cases h;cases hv;exact⟨_,rfl⟩
 cases h
def run_sliceBound{q:IntKind}{k y:Nat}{c:BoundsCode}(h:k<=y):(Instr.sliceBound (.int q (k:Int)) y c).run P w=.ok k w:=by have:(0:Int)<=(k:Int)/\(k:Int)<=(y:Int):=⟨Int.natCast_nonneg k,by omega⟩;simp only[Instr.sliceBound,asIntOf,Sem.run_bind,Sem.run_pure,Gx];rw[if_pos this];simp
def obN(x:O N)(d:Nat):O Nat:=
 match x with|none=>some d|some v=>ZiO v
def ZfV(ρ:Ren):O N->O N->Prop
 | none,none=>True
 | some v,some v'=>VR ρ v v'
 | _,_=>False
def ZjY{n c l k:Nat}{lo x h p:O N}(r:ZfV ρ lo h)(y:ZfV ρ x p)(t:obN lo 0=some l)(A:obN x n=some k)(h1:l<=k)(h2:k<=c)(b:Z):
 (Instr.sliceBounds b n c h p none).run P w=.ok (l,k,c) w:=by
 unfold Instr.sliceBounds;cases x with
 | none=>
   cases p with|some _=>exact y.elim|none=>
     simp only[obN,Gj]at A;subst A;cases lo with
     | none=>
       cases h with|some _=>exact r.elim|none=>simp only[obN,Gj]at t;subst t;rfl
     | some v=>
       cases h with|none=>exact r.elim|some v'=>
         obtain⟨q,rfl⟩:=J6 r t;simp[run_sliceBound h1]
 | some u=>
   cases p with|none=>exact y.elim|some B=>
     obtain⟨q,rfl⟩:=J6 y A;cases lo with
     | none=>
       cases h with|some _=>exact r.elim|none=>simp only[obN,Gj]at t;subst t;simp[run_sliceBound h2]
     | some v=>
       cases h with|none=>exact r.elim|some v'=>
         obtain⟨q,rfl⟩:=J6 r t;simp[run_sliceBound h1,run_sliceBound h2]
def ZpX{n c l k m:Nat}{lo r mx h p mx':O N}(y:ZfV ρ lo h)(C:ZfV ρ r p)(B:ZfV ρ mx mx')(E:r.isSome=true)(t:mx.isSome=true)(A:obN lo 0=some l)(G:obN r n=some k)(F:obN mx 0=some m)
 (h1:l<=k) (h2:k<=m) (D:m<=c) (b:Z):(Instr.sliceBounds b n c h p mx').run P w=.ok (l,k,m) w:=by
 unfold Instr.sliceBounds;cases mx with|none=>simp at t|some x=>
   cases mx' with|none=>exact B.elim|some I=>
     obtain⟨q,rfl⟩:=J6 B F;cases r with|none=>simp at E|some u=>
       cases p with|none=>exact C.elim|some K=>
         obtain⟨q,rfl⟩:=J6 C G;cases lo with
         | none=>
           cases h with|some _=>exact y.elim|none=>simp only[obN,Gj]at A;subst A;simp[run_sliceBound h2,run_sliceBound D]
         | some v=>
           cases h with|none=>exact y.elim|some v'=>
             obtain⟨q,rfl⟩:=J6 y A;simp[run_sliceBound h1,run_sliceBound h2,run_sliceBound D]
def aslice(P:Program)(h:H)(t:TypeId)(x:Value)(lo p mx:Option Value):Option Value:=
 match P.underlying t,x with
 | some (.slice e),.slice none 0 0=>
   match YO P e,obN lo 0,obN p 0,mx with
   | some _,some 0,some 0,none=>some (.slice none 0 0)
   | some _,some 0,some 0,some m=>match ZiO m with|some 0=>bif p.isSome then some (.slice none 0 0) else none|_=>none
   | _,_,_,_=>none
 | some (.slice e),.slice (some ⟨0,0,some 0⟩) 0 0=>
   match YO P e,obN lo 0,obN p 0,mx with
   | some _,some 0,some 0,none=>some (.slice (some ⟨0,0,some 0⟩) 0 0)
   | some _,some 0,some 0,some m=>match ZiO m with|some 0=>bif p.isSome then some (.slice (some ⟨0,0,some 0⟩) 0 0) else none|_=>none
   | _,_,_,_=>none
 | some (.slice e),.slice (some ⟨i,o,none⟩) n c=>
   match YO P e,obN lo 0,obN p n,mx with
   | some sz,some l,some k,none=>
     bif Nat.ble l k&&Nat.ble k (c / 2) then
      bif Nat.beq (c % 2) 0 then some (.slice (some ⟨i,bif Nat.beq (c / 2) l then o else o+l*sz,none⟩) (k-l) (2*(c / 2-l)))
      else bif Nat.beq l 0 then some (.slice (some ⟨i,o,none⟩) k c)
      else match h.at i with|.row _ true s=>bif Nat.beq s sz&&Nat.ble 1 sz then some (.slice (some ⟨i,o+l*sz,none⟩) (k-l) (2*(c / 2-l)+1)) else none|_=>none
     else none
   | some sz,some l,some k,some m=>match ZiO m with
     | some m=>bif Nat.ble l k&&Nat.ble k m&&Nat.ble m (c / 2)&&p.isSome then
        some (.slice (some ⟨i,bif Nat.beq m l then o else o+l*sz,none⟩) (k-l) (2*(m-l)))
       else none
     | none=>none
   | _,_,_,_=>none
 | some (.array n e),.pointer (some ⟨i,o,none⟩)=>
   match YO P e,obN lo 0,obN p n,mx with
   | some sz,some l,some k,none=>
     bif Nat.ble l k&&Nat.ble k n&&Nat.ble n 9223372036854775807 then some (.slice (some ⟨i,bif Nat.beq n l then o else o+l*sz,none⟩) (k-l) (2*(n-l))) else none
   | _,_,_,_=>none
 | _,_=>none
def U0(x y:Nat)(l:Nat×Nat)(k:Nat)(h:k<=9223372036854775807):ZV2 (2*k) k x l/\(y=y):=by refine⟨⟨h,?_⟩,rfl⟩;rw[if_pos Vb];omega
def ZqO{t:TypeId}{x x' v:Value}{lo B mx L Q mx':Option Value}(r:Rel ρ h w)(hx:VR ρ x x')(X:ZfV ρ lo L)(hh:ZfV ρ B Q)(V:ZfV ρ mx mx')
 (p:aslice P h t x lo B mx=some v):∃v',VR ρ v v'/\(Instr.sliceAt t x' L Q mx').run P w=.ok v' w:=by
 unfold aslice at p;split at p
 .rename_i e hu;cases hx;split at p
  .rename_i sz A K I;cases p;cases mx' with|some _=>exact V.elim|none=>
     refine⟨_,.Zat,?_⟩;have G:=ZjY (P:=P) (w:=w) (n:=0) (c:=0) X hh K I Vc Vc true;simp[Instr.sliceAt,run_underlying hu,Instr.slice,G,run_sizeOf A]
  .rename_i sz m A K I;split at p;.rename_i e3;cases S:B.isSome<;>rw[S]at p<;>simp at p;subst p;refine⟨_,.Zat,?_⟩;have G:=ZpX (P:=P) (w:=w) (n:=0) (c:=0) X hh V S rfl K I e3 Vc Vc Vc true;simp[Instr.sliceAt,run_underlying hu,Instr.slice,G,run_sizeOf A]
   cases p
  cases p
 .rename_i e hu;cases hx with|Wh a=>
  split at p
  .rename_i sz A K I;cases p;cases mx' with|some _=>exact V.elim|none=>
     refine⟨_,.Wh a,?_⟩;have G:=ZjY (P:=P) (w:=w) (n:=0) (c:=0) X hh K I Vc Vc true;simp[Instr.sliceAt,run_underlying hu,Instr.slice,G,run_sizeOf A]
  .rename_i sz m A K I;split at p;.rename_i e3;cases S:B.isSome<;>rw[S]at p<;>simp at p;subst p;refine⟨_,.Wh a,?_⟩;have G:=ZpX (P:=P) (w:=w) (n:=0) (c:=0) X hh V S rfl K I e3 Vc Vc Vc true;simp[Instr.sliceAt,run_underlying hu,Instr.slice,G,run_sizeOf A]
   cases p
  cases p
 .rename_i e i o n c hu;split at p
  .rename_i sz l k A K I;cases mx' with|some _=>exact V.elim|none=>
     cases E:(Nat.ble l k&&Nat.ble k (c / 2))<;>rw[E]at p<;>simp at p;rw[Ba0]at E;have h1:=Nl0 E.1;have h2:=Nl0 E.2
     have C:∀(a:Addr)(c':Nat),k<=c'->(Instr.sliceAt t (.slice (some a) n c') L Q none).run P w=.ok (.slice (some (if c'=l then a else a.add (l*sz))) (k-l) (c'-l)) w:=fun a c' hk=>by
      have G:=ZjY (P:=P) (w:=w) (n:=n) (c:=c') X hh K I h1 hk true;simp[Instr.sliceAt,run_underlying hu,Instr.slice,G,run_sizeOf A];split<;>rfl
     cases hx with
     | Qf _ o' _ B hc1=>
       rename_i b d;have hk0:k=0:=Vb;have F:l=0:=Vb;subst hk0;subst F;have hc0:c / 2=0:=Vb;refine⟨_,?_,C ⟨b,o',none⟩ 0 Vc⟩;rw[if_pos rfl];cases D:Nat.beq (c % 2) 0<;>rw[D]at p<;>simp[hc0]at p<;>subst p;.exact .Qf _ _ _ B hc1
       exact .Qf _ _ _ B Vb
     | slice _ _ _ c' B q=>
       rename_i b d;cases D:Nat.beq (c % 2) 0<;>rw[D]at p<;>simp at p
       .have hodd:¬ c % 2=0:=fun e=>by rw[e]at D;cases D
        have hcb:=q.1;have Zco:=q.2;rw[if_neg hodd]at Zco;cases F:Nat.beq l 0<;>rw[F]at p<;>simp at p
        .split at p
         .rename_i cs s hat;cases S:(Nat.beq s sz&&Nat.ble 1 sz)<;>rw[S]at p<;>simp at p;subst p;rw[Ba0]at S;have hs1:=Nb0 S.1;have hs2:=Nl0 S.2;subst hs1;have ho:=r.obj _ _ _ B;rw[hat]at ho;have⟨cc,el,fz,hw,hfz,hlen,_⟩:=ho;have W:=(hfz rfl).2 Vb;refine⟨_,?_,C ⟨b,d+o,none⟩ c' Vb⟩;by_cases y:c'=l;.have hkl:k=l:=Vb;subst hkl;subst y;have hc2:c / 2=c':=Vb;rw[if_pos rfl,hc2,Nat.sub_self];exact .Qf _ _ _ B Vb
          rw[if_neg y,addr_add,GO];refine .slice _ _ _ _ B ?_;refine⟨by omega,?_⟩;rw[if_neg Vb,W];rw[W]at Zco;refine⟨by omega,?_⟩;have hmul:l*s+(c'-l)*s=c'*s:=by rw[<-Nat.add_mul];congr 1;omega
          have:=Zco.2;simp only at this ⊢;omega
         cases p
        have ZYb:l=0:=Nb0 F;subst ZYb;subst p;refine⟨_,?_,C ⟨b,d+o,none⟩ c' Vb⟩;have e:(if c'=0 then(⟨b,d+o,none⟩:Addr) else(⟨b,d+o,none⟩:Addr).add (0*sz))=⟨b,d+o,none⟩:=by split<;>simp[addr_add]
        rw[e];exact .slice _ _ _ _ B q
       subst p;have D:=Nb0 D;have hcb:=q.1;have Zco:=q.2;rw[if_pos D]at Zco;subst Zco;refine⟨_,?_,C ⟨b,d+o,none⟩ (c / 2) Vb⟩;cases y:Nat.beq (c / 2) l;.rw[if_neg (fun e=>by rw[e,Nat.beq_refl]at y;cases y),addr_add,GO];exact .slice _ _ _ _ B (U0 _ 0 _ _ Vb).1
       rw[if_pos (Nb0 y)];exact .slice _ _ _ _ B (U0 _ 0 _ _ Vb).1
  .rename_i sz l k m A K I;cases mx' with|none=>exact V.elim|some m'=>
     split at p
     .rename_i T e3;cases E:(Nat.ble l k&&Nat.ble k T&&Nat.ble T (c / 2)&&B.isSome)<;>rw[E]at p<;>simp at p;rw[Ba0,Ba0,Ba0]at E;obtain⟨⟨⟨h1,h2⟩,h3⟩,h4⟩:=E;have h1:=Nl0 h1;have h2:=Nl0 h2;have h3:=Nl0 h3
      have C:∀(a:Addr)(c':Nat),T<=c'->(Instr.sliceAt t (.slice (some a) n c') L Q (some m')).run P w=.ok (.slice (some (if T=l then a else a.add (l*sz))) (k-l) (T-l)) w:=fun a c' hk=>by
       have G:=ZpX (P:=P) (w:=w) (n:=n) (c:=c') (mx:=some m) (mx':=some m') X hh V h4 rfl K I e3 h1 h2 hk true;simp[Instr.sliceAt,run_underlying hu,Instr.slice,G,run_sizeOf A];split<;>rfl
      subst p;cases hx with
      | Qf _ o' _ B hc1=>
        rename_i b d;have hm0:T=0:=Vb;have hk0:k=0:=Vb;have F:l=0:=Vb;subst hm0;subst hk0;subst F;refine⟨_,?_,C ⟨b,o',none⟩ 0 Vc⟩;exact .Qf _ _ _ B Vb
      | slice _ _ _ c' B q=>
        rename_i b d;have hcb:=q.1
        have hcc:T<=c':=by
         have q:=q.2;split at q<;>omega
        refine⟨_,?_,C ⟨b,d+o,none⟩ c' hcc⟩;cases y:Nat.beq T l;.rw[if_neg (fun e=>by rw[e,Nat.beq_refl]at y;cases y),addr_add,GO];exact .slice _ _ _ _ B (U0 _ 0 _ _ Vb).1
        rw[if_pos (Nb0 y)];exact .slice _ _ _ _ B (U0 _ 0 _ _ Vb).1
     cases p
  cases p
 .rename_i n e i o hu;split at p
  .rename_i sz l k A K I;cases mx' with|some _=>exact V.elim|none=>
     cases E:(Nat.ble l k&&Nat.ble k n&&Nat.ble n 9223372036854775807)<;>rw[E]at p<;>simp at p
     rw[Ba0,Ba0]at E;have h1:=Nl0 E.1.1;have h2:=Nl0 E.1.2;have h3:=Nl0 E.2;subst p;cases hx with|ptr _ B=>
       rename_i b d;have G:=ZjY (P:=P) (w:=w) (n:=n) (c:=n) X hh K I h1 h2 false
       have C:(Instr.sliceAt t (.pointer (some ⟨b,d+o,none⟩)) L Q none).run P w=.ok (.slice (some (if n=l then⟨b,d+o,none⟩ else(⟨b,d+o,none⟩:Addr).add (l*sz))) (k-l) (n-l)) w:=by
        simp[Instr.sliceAt,run_underlying hu,Instr.sureAddr,G,run_sizeOf A]
       refine⟨_,?_,C⟩;cases y:Nat.beq n l;.rw[if_neg (fun e=>by rw[e,Nat.beq_refl]at y;cases y),addr_add,GO];exact .slice _ _ _ _ B (U0 _ 0 _ _ Vb).1
       rw[if_pos (Nb0 y)];exact .slice _ _ _ _ B (U0 _ 0 _ _ Vb).1
  cases p
 cases p
def Rel.drawn(r:Rel ρ h w)(k:Nat):Rel ρ h {w with drawn:=k}:=⟨r.dom,r.obj,r.inj⟩
def reads(h:H)(x:Value)(sz:Nat):Option (List Value):=
 match x with
 | .slice none 0 0=>some []
 | .slice (some ⟨0,0,some 0⟩) 0 0=>some []
 | .slice (some ⟨i,o,none⟩) m _=>
   bif Nat.beq m 0 then some [] else
   match h.at i with|.row cs _ _=>bif Nat.ble (o+m*sz) cs.length then some ((cs.drop o).take (m*sz)) else none|_=>none
 | _=>none
def Ji:N->Nat
 | .slice _ n _=>n
 | _=>0
def Zc1{x y:Value}{sz:Nat}{vs:List Value}(r:Rel ρ h w)(t:VR ρ x y)(l:reads h x sz=some vs):
 ∃vs',LR ρ vs vs'/\vs.length=Ji x*sz/\(∀k,(Builtin.firstCells sz (Ji x) y).run P {w with drawn:=k}=.ok vs'.toArray {w with drawn:=k})/\(Builtin.lenOf y).run P w=.ok (Ji x) w:=by
 unfold reads at l;split at l;.cases l;cases t;exact⟨[],LR.nil,by simp[Ji],fun k=>by simp[Builtin.firstCells],by simp[Builtin.lenOf,Ji]⟩
 .cases l;cases t;exact⟨[],LR.nil,by simp[Ji],fun k=>by simp[Builtin.firstCells,loadCells,loadCellsFrom,Ji],by simp[Builtin.lenOf,Ji]⟩
 .rename_i i o m c;cases B:Nat.beq m 0<;>rw[B]at l<;>simp at l
  .split at l
   .rename_i cs own k D;cases I:Nat.ble (o+m*sz) cs.length<;>rw[I]at l<;>simp at l
    subst l;have C:=Nl0 I;cases t with|Qf _ Q _ F L=>cases B|slice _ _ _ c' F G=>
      rename_i b d;have E:=r.obj _ _ _ F;rw[D]at E;have⟨vs',hl,hcell,hvs⟩:=Zea (o:=o) (n:=m*sz) E C;refine⟨vs',by simpa using hvs.list,by simp[Ji];omega,fun q=>?_,by simp[Builtin.lenOf,Ji]⟩;have p:=run_loadCellsFrom (P:=P) (w:= {w with drawn:=q}) ⟨b,d+o,none⟩ (fun j=>vs'.getD j undef) (m*sz) 0 #[] (fun j K=>by rw[addr_add];have:=hcell j K;rw[Gc];exact this)
      have e:(List.range (m*sz)).map (fun j=>vs'.getD (0+j) undef)=vs':=by
       apply List.ext_getElem (by simp[hl]);intro j h1 h2;simp[h2]
      rw[e]at p;simp[Builtin.firstCells,loadCells,Ji,p]
   cases l
  subst l;have A:=Nb0 B;subst A;cases t<;>exact⟨[],LR.nil,by simp[Ji],fun k=>by simp[Builtin.firstCells,loadCells,loadCellsFrom,Ji],by simp[Builtin.lenOf,Ji]⟩
 cases l
def ZpW(P:V2)(t:J):O Nat:=(P.info? t).map (·.bytes)
def ZyG(h:Nat):∀(r c:Nat),c<=2*h+1000->Builtin.growBy h r c<=2*h+1000:=by
 intro r
 induction r with|zero=>intro c l;exact l|succ r ih=>
   intro c l;unfold Builtin.growBy;split;.exact l
   exact ih _ Vb
def nextslicecap_le{h k:Nat}(l:k<h):Builtin.nextslicecap h k<=2*h+1000:=by
 unfold Builtin.nextslicecap;split;.omega
 split;.omega
 exact ZyG _ _ _ Vb
def Zag(P:V2)(ts:V5 J):O (J×Nat×Nat×N):=
 match ts.toList with
 | st::xt::_=>
   match P.underlying st,P.underlying xt with
   | some (.slice e),some (.slice _)=>
     match YO P e,ZpW P e,Y5 P e with|some sz,some by_,some z=>bif Nat.ble 1 sz&&Nat.ble 1 by_&&Nat.beq z.cells.toList.length sz then some (e,sz,by_,z) else none|_,_,_=>none
   | _,_=>none
 | _=>none
def ZBf:N->Z
 | .slice _ _ _=>true
 | _=>false
def Jy(P:V2)(h:H)(ts:V5 J)(s x:N):O (N×Eff):=
 match Zag P ts,s with
 | some (_,sz,by_,_),.slice base n c=>
   match reads h x sz with
   | some new=>
     let m:=Ji x
     bif Nat.ble (n+m) (c / 2) then
      bif Nat.beq m 0 then some (s,.none)
      else match base with
      | some ⟨i,o,none⟩=>match h.at i with|.row cs true k=>bif Nat.ble (o+n*sz+new.length) cs.length&&new.all Value.oneCell' then some (.slice base (n+m) c,.upd i (.row (splice cs (o+n*sz) new) true k)) else none|_=>none
      | _=>none
     else bif Nat.ble ((2*(n+m)+1000)*by_) (2 ^ 47)&&new.all Value.oneCell' then
      match reads h s sz with
      | some l=>
        bif Nat.beq (c % 2) 0 then some (.slice (some ⟨h.size,0,none⟩) (n+m) (2*(n+m)+1),.new (.row (l++new) true sz))
        else match base with
        | some ⟨i,_,none⟩=>match h.at i with|.row _ true k=>bif Nat.beq k sz then some (.slice (some ⟨h.size,0,none⟩) (n+m) (2*(n+m)+1),.grow i (.row (l++new) true sz)) else none|_=>none
        | _=>none
      | none=>none
     else none
   | none=>none
 | _,_=>none
def ZdS{ts:V5 J}{ty e:J}{sz r:Nat}{z:N}{base:O Addr}{n c m:Nat}{x:N}{new:U N}(h:Zag P ts=some (e,sz,r,z))
 (C:(Builtin.lenOf x).run P w=.ok m w) (D:(Builtin.firstCells sz m x).run P w=.ok new.toArray w) (l:n+m<=c):
 (Builtin.append_ ts ty #[.slice base n c,x]).run P w=
   match base with
   | some a=>((storeCells (a.add (n*sz)) new).run P w).andThen fun _ w'=>.ok (.slice base (n+m) c) w'
   | none=>.ok (.slice none (n+m) c) w:=by
 unfold Zag at h;split at h
 .rename_i st xt rest q;split at h
  .rename_i I F h1 h2;split at h
   .rename_i p t y s1 s2 G;cases E:(Nat.ble 1 p&&Nat.ble 1 t&&Nat.beq y.cells.toList.length p)<;>rw[E]at h<;>simp at h;obtain⟨rfl,rfl,rfl,rfl⟩:=h;have B:ts[0]? =some st:=by rw[<-Gi,q];rfl
    have A:ts[1]? =some xt:=by rw[<-Gi,q];rfl
    unfold Builtin.append_;cases base<;>simp[B,A,run_underlying h1,run_underlying h2,run_sizeOf s1,C,l,D]
   cases h
  cases h
 cases h
def Zp8{ts:V5 J}{ty e:J}{sz B:Nat}{z:N}{base:O Addr}{n c m:Nat}{x:N}{q new:U N}(l:Zag P ts=some (e,sz,B,z))
 (hl:(Builtin.lenOf x).run P w=.ok m w) (r:c<n+m) (hb:(2*(n+m)+1000)*B<=2 ^ 47)
 (ho:∀k,(Builtin.firstCells sz n (.slice base n c)).run P {w with drawn:=k}=.ok q.toArray {w with drawn:=k})
 (hf:∀k,(Builtin.firstCells sz m x).run P {w with drawn:=k}=.ok new.toArray {w with drawn:=k}):
 ∃(cap:Nat) (rest:U N),n+m<=cap/\cap<=9223372036854775807/\rest.length=(cap-(n+m))*sz/\(Builtin.append_ ts ty #[.slice base n c,x]).run P w=
   .ok (.slice (some ⟨w.heap.size,0,none⟩) (n+m) cap) (World.push {w with drawn:=w.drawn+1} (.cells (q++new++rest).toArray e)):=by
 unfold Zag at l;split at l
 .rename_i st xt rest y;split at l
  .rename_i A xe h1 h2;split at l
   .rename_i p Q S s1 s2 s3;cases G:(Nat.ble 1 p&&Nat.ble 1 Q&&Nat.beq S.cells.toList.length p)<;>rw[G]at l<;>simp at l;obtain⟨rfl,rfl,rfl,rfl⟩:=l;rw[Ba0,Ba0]at G;have⟨⟨V,T⟩,L⟩:=G;have V:=Nl0 V;have T:=Nl0 T;have L:=Nb0 L;have X:ts[0]? =some st:=by rw[<-Gi,y];rfl
    have W:ts[1]? =some xt:=by rw[<-Gi,y];rfl
    have⟨z1,z2,z3⟩:=Qe s3;have hn:¬ n+m<=c:=Vb
    unfold ZpW at s2;cases K:P.info? A with|none=>rw[K]at s2;cases s2|some h=>
      rw[K]at s2;simp only[GY,Gj]at s2;have C:∀w',(typeInfo A).run P w'=.ok h w':=fun w'=>by simp[typeInfo,K]
      have t:¬ (Builtin.nextslicecap (n+m) c*h.bytes>2 ^ 48):=by
       have h5:=nextslicecap_le r;have h6:=Gy h.bytes h5;rw[s2]at h6 ⊢;omega
      have I:¬ (h.bytes=0):=Vb;refine⟨(n+m)+w.tape w.drawn (.appendCap (n+m) c A) % (2 ^ 63-(n+m)),(Builtin.zeroCells S.cells (w.tape w.drawn (.appendCap (n+m) c A) % (2 ^ 63-(n+m)))).toList,by omega,?_,?_,?_⟩;.have E:(2*(n+m)+1000)*1<=(2*(n+m)+1000)*h.bytes:=Nat.mul_le_mul_left _ Vb;rw[s2]at E;have:=Nat.mod_lt (w.tape w.drawn (.appendCap (n+m) c A)) (show 0<2 ^ 63-(n+m) by omega);omega
      .simp[Builtin.zeroCells];rw[<-L];simp
      unfold Builtin.append_;have D:(Builtin.firstCells p n (.slice base n c)).run P w.drew=.ok q.toArray w.drew:=ho (w.drawn+1);have F:(Builtin.firstCells p m x).run P w.drew=.ok new.toArray w.drew:=hf (w.drawn+1);simp[X,W,run_underlying h1,run_underlying h2,run_sizeOf s1,hl,hn,C,t,I,Question.forced,Question.cut,D,F,z1,newRow,World.push];unfold World.alloc World.drew;simp;congr 2;apply Array.toList_inj.1;simp
   cases l
  cases l
 cases l
def ZqV{i b d o n c sz:Nat}{vs:List Value}(r:Rel ρ h w)(A:ρ i=some (b,d))(l:reads h (.slice (some ⟨i,o,none⟩) n c) sz=some vs):
 ∃vs',LR ρ vs vs'/\∀j,j<n*sz->w.cell? ⟨b,d+o+j,none⟩=some (vs'.getD j undef):=by
 simp only[reads]at l;cases x:Nat.beq n 0<;>rw[x]at l<;>simp at l
 .split at l;.rename_i cs own k q;cases y:Nat.ble (o+n*sz) cs.length<;>rw[y]at l<;>simp at l;subst l;have t:=r.obj _ _ _ A;rw[q]at t;have⟨vs',hl,hcell,hvs⟩:=Zea (o:=o) (n:=n*sz) t (Nl0 y);exact⟨vs',by simpa using hvs.list,hcell⟩
  cases l
 subst l;have p:=Nb0 x;subst p;exact⟨[],LR.nil,fun j B=>by omega⟩
def ZCD{i b d o n m sz c':Nat}{cs x new q new':U N}(r:Rel ρ h w)(T:ρ i=some (b,d))(F:h.at i=.row cs true sz)(hsz:1<=sz)
 (L:LR ρ x q) (hn:LR ρ new new') (lo:x.length=n*sz) (ln:new.length=m*sz) (h1:new.all Value.oneCell'=true)
 (hold:∀j,j<n*sz->w.cell? ⟨b,d+o+j,none⟩=some (q.getD j undef)) (A:d+o+c'*(ρ.lim i).2<=(ρ.lim i).1) (B:n+m<=c'):
 ∃w',(storeCells ⟨b,d+o+n*sz,none⟩ new').run P w=.ok () w'/\Same w w'/\(Eff.grow i (.row (x++new) true sz)).real ρ h w (ρ.add h.size (b,d+o) (ρ.lim i)) w':=by
 have C:=r.obj _ _ _ T;rw[F]at C;have⟨cc,el,fz,hw,hfz,hlen,hc⟩:=C;obtain⟨rfl,t⟩:=hfz rfl;have t:=t Vb;rw[t]at A;simp only at A;have Q:n*sz+m*sz<=c'*sz:=by rw[<-Nat.add_mul];exact Gy _ B
 have ln':=hn.1;have X:=L.1;have hcl:cc.toList.length=cc.size:=G6;refine⟨_,run_storeCells_at (P:=P) b (d+o+n*sz) el new' 0 cc w hw Vb (hn.oneCell h1),ZiJ _ _ _,b,d,T,.inl ⟨d+o,_,rfl,setRow_size _ _ _,fun k S=>setRow_other _ _ _ _ S,?_⟩⟩;have Zuj:(cc.toList.take (d+o+n*sz+0)++new'++cc.toList.drop (d+o+n*sz+0+new'.length)).toArray.toList=splice cc.toList (d+o+n*sz) new':=by simp[splice]
 have K:(splice cc.toList (d+o+n*sz) new').length=cc.toList.length:=Ul Vb;refine⟨_,el,(0,0),setRow_heap w b cc _ el (0,0) hw,fun _=>⟨rfl,fun _=>?_⟩,?_,fun k v v' a W=>?_⟩;.rw[t];congr 1;rw[<-G6,<-G6,Zuj,K]
 .rw[<-G6,Zuj,K,Ks];omega
 rw[<-Gi,Zuj]at W;have D:=Ren.Za8 (p:=(b,d+o)) (l:=ρ.lim i) r.fresh;refine((L.append hn).2 k v v' a ?_).mono D;rw[<-W]
 have S:k<x.length+new.length:=by
  rw[<-Ks];rcases Gq k (x++new).length with E|E
  .exact E
  rw[G0 E]at a;cases a
 simp only[splice,G9,List.getElem?_append,List.getElem?_take,Gl,G6];have e2:min (d+o+n*sz) cc.size=d+o+n*sz:=Vb;rw[e2];by_cases k1:k<n*sz;.have I:k<q.length:=Vb;have G:d+o+k<d+o+n*sz:=Vb;have y:=hold k k1;have V:d+o+k<cc.size:=Vb;simp[World.cell?,hw,V]at y;simp[I,G,V,y]
 have I:¬ k<q.length:=Vb;have G:¬ d+o+k<d+o+n*sz:=Vb;have e3:d+o+k-(d+o+n*sz)=k-q.length:=Vb;have a4:k-q.length<new'.length:=Vb;simp[I,G,e3,a4]
def Zp7{ts:V5 J}{ty:J}{s s' x x' v:N}{E:Eff}(r:Rel ρ h w)(hs:VR ρ s s')(hx:VR ρ x x')(t:Jy P h ts s x=some (v,E)):
 X6 P ρ h w (do pure (.value (<-Builtin.append_ ts ty #[s',x']))) (.val v) E:=by
 unfold Jy at t;split at t
 ·rename_i e sz by_ z base n c F;split at t
  ·rename_i new hnew;obtain⟨B,n1,n2,n3,n4⟩:=Zc1 (P:=P) r hx hnew;dsimp only at t
   have hsz:1<=sz:=by
    unfold Zag at F;split at F
    ·split at F
     ·split at F
      ·rename_i sz0 by0 z0 s1 s2 s3;cases hc:(Nat.ble 1 sz0&&Nat.ble 1 by0&&Nat.beq z0.cells.toList.length sz0)<;>rw[hc]at F<;>simp at F
       obtain⟨rfl,rfl,rfl,rfl⟩:=F;rw[Ba0,Ba0]at hc;exact Nl0 hc.1.1
      cases F
     cases F
    cases F
   cases C:Nat.ble (n+Ji x) (c / 2)<;>rw[C]at t<;>simp at t
   ·-- a new row, or the X behind a row whose capacity is not known
    have hlt:c / 2<n+Ji x:=by
     rcases Gq (c / 2) (n+Ji x) with hh|hh
     ·exact hh
     rw[Nm0 hh]at C;cases C
    cases W:(Nat.ble ((2*(n+Ji x)+1000)*by_) 140737488355328&&new.all Value.oneCell')<;>rw[W]at t<;>simp at t
    rw[Ba0]at W;have V:=Nl0 W.1;split at t
    ·rename_i old hold;obtain⟨A,o1,o2,o3,o4⟩:=Zc1 (P:=P) r hs hold
     have fresh:∀q c',s'=.slice q n c'->c'<n+Ji x->∃w' v' l,(Builtin.append_ ts ty #[s',x']).run P w=.ok v' w'/\Same w w'/\(∃ob,w'.heap=w.heap.push ob)/\
      VR (ρ.add h.size (w.heap.size,0) l) (.slice (some ⟨h.size,0,none⟩) (n+Ji x) (2*(n+Ji x)+1)) v'/\
      Q0 (ρ.add h.size (w.heap.size,0) l) w' w.heap.size 0 l (.row (old++new) true sz):=by
      intro q c' hs' D;subst hs';have o3':∀k,(Builtin.firstCells sz n (.slice q n c')).run P {w with drawn:=k}=.ok A.toArray {w with drawn:=k}:=o3;obtain⟨cap,rest,q1,q4,q2,q3⟩:=Zp8 (P:=P) (w:=w) (ty:=ty) F n4 D (by simpa using V) o3' n3;refine⟨_,_,((A++B++rest).length,sz),q3,⟨rfl,rfl,rfl⟩,⟨_,rfl⟩,?_,?_⟩
      ·have:=VR.slice (ρ:=ρ.add h.size (w.heap.size,0) ((A++B++rest).length,sz)) 0 (n+Ji x) (2*(n+Ji x)+1) cap (Ren.add_same ρ h.size _ _) (by
        refine⟨q4,?_⟩;rw[if_neg Vb,Ren.Zb9];refine⟨by omega,?_⟩;have e1:old.length=n*sz:=o2;have e2:=o1.1;have e3:=n1.1
        have hm:n*sz+Ji x*sz+(cap-(n+Ji x))*sz=cap*sz:=by
         rw[<-Nat.add_mul,<-Nat.add_mul];congr 1;omega
        simp only[Ks];omega)
       simpa using this
      have:=Zc0 (r.drawn (w.drawn+1)) (cs:=old++new) (cs':=(A++B++rest).toArray) (e:=e) (rest:=A++B) sz (o1.append n1) ⟨rest,by simp⟩;obtain⟨l,e1,_,e2⟩:=this
      have hl:l=((A++B++rest).toArray.size,sz):=by
       have h1:=congrArg (fun ρ:Ren=>ρ.lim h.size) e1;simp only[Ren.Zb9]at h1;exact h1.symm
      subst hl
      simpa using e2
     cases G:Nat.beq (c % 2) 0<;>rw[G]at t<;>simp at t
     ·split at t
      ·rename_i i o;split at t
       ·rename_i cs k hat;cases hk:Nat.beq k sz<;>rw[hk]at t<;>simp at t
        obtain⟨rfl,rfl⟩:=t;have hk:=Nb0 hk;subst hk;have hodd:¬ c % 2=0:=fun e=>by rw[e]at G;cases G
        cases hs with
        | Qf _ o' _ y hc1=>
          rename_i b d;obtain⟨w',v',l,S,Q,L,K,I⟩:=fresh (some ⟨b,o',none⟩) 0 rfl Vb;exact⟨_,w',Q,⟨b,d,y,.inr ⟨l,rfl,L,I⟩⟩,v',K,by simp[S]⟩
        | slice _ _ _ c' y p=>
          rename_i b d;by_cases D:c'<n+Ji x
          ·obtain⟨w',v',l,S,Q,L,K,I⟩:=fresh (some ⟨b,d+o,none⟩) c' rfl D;exact⟨_,w',Q,⟨b,d,y,.inr ⟨l,rfl,L,I⟩⟩,v',K,by simp[S]⟩
          have Zco:=p.2;rw[if_neg hodd]at Zco;obtain⟨ZRg,p1,T⟩:=ZqV r y hold;obtain⟨w',g1,g2,g3⟩:=ZCD (P:=P) (o:=o) (n:=n) (m:=Ji x) (c':=c') r y hat hsz p1 n1 o2 n2 W.2 T Zco.2 Vb;refine⟨_,w',g2,g3,.slice (some ⟨b,d+o,none⟩) (n+Ji x) c',?_,?_⟩
          ·have:=VR.slice (ρ:=ρ.add h.size (b,d+o) (ρ.lim i)) 0 (n+Ji x) (2*(n+Ji x)+1) c' (Ren.add_same ρ h.size _ _) (by
            refine⟨p.1,?_⟩;rw[if_neg Vb,Ren.Zb9];exact⟨by omega,by simpa using Zco.2⟩)
           simpa using this
          have:=ZdS (P:=P) (w:=w) (ty:=ty) (base:=some ⟨b,d+o,none⟩) (n:=n) (c:=c') F n4 (n3 w.drawn) Vb;dsimp only at this;rw[addr_add]at this;simp[this,g1]
       cases t
      cases t
     obtain⟨rfl,rfl⟩:=t;have G:=Nb0 G;cases hs with
     | Zat=>
       obtain⟨w',v',l,S,Q,L,K,I⟩:=fresh none 0 rfl Vb;exact⟨_,w',Q,⟨l,rfl,L,I⟩,v',K,by simp[S]⟩
     | Wh a=>
       obtain⟨w',v',l,S,Q,L,K,I⟩:=fresh (some a) 0 rfl Vb;exact⟨_,w',Q,⟨l,rfl,L,I⟩,v',K,by simp[S]⟩
     | Qf _ o' _ y hc1=>
       obtain⟨w',v',l,S,Q,L,K,I⟩:=fresh _ 0 rfl Vb;exact⟨_,w',Q,⟨l,rfl,L,I⟩,v',K,by simp[S]⟩
     | slice _ _ _ c' y p=>
       have Zco:=p.2;rw[if_pos G]at Zco;obtain⟨w',v',l,S,Q,L,K,I⟩:=fresh _ c' rfl Vb;exact⟨_,w',Q,⟨l,rfl,L,I⟩,v',K,by simp[S]⟩
    cases t
   -- X that is known
   have hle:=Nl0 C;have X:∀c',c'=c / 2\/c / 2<=c'->n+Ji x<=c':=fun c' D=>by omega
   cases hm:Nat.beq (Ji x) 0<;>rw[hm]at t<;>simp at t
   ·split at t
    ·rename_i i o;split at t
     ·rename_i cs k hat;cases W:(Nat.ble (o+n*sz+new.length) cs.length&&new.all Value.oneCell')<;>rw[W]at t<;>simp at t
      obtain⟨rfl,rfl⟩:=t;rw[Ba0]at W;have hlen:=Nl0 W.1;cases hs with
      | Qf _ o' _ y hc1=>
        exfalso;have:Ji x=0:=Vb
        rw[this]at hm;cases hm
      | slice _ _ _ c' y p=>
        rename_i b d;have ho:=r.obj _ _ _ y;rw[hat]at ho
        have D:c / 2<=c':=by
         have p:=p.2;split at p<;>omega
        obtain⟨w',g1,g2,g3⟩:=Zd6 (P:=P) (h:=h) (o:=o+n*sz) y ho n1 W.2 hlen;refine⟨ρ,w',g2,g3,.slice (some ⟨b,d+o,none⟩) (n+Ji x) c',.slice _ _ _ _ y p,?_⟩;have:=ZdS (P:=P) (w:=w) (ty:=ty) (base:=some ⟨b,d+o,none⟩) (n:=n) (c:=c') F n4 (n3 w.drawn) Vb;dsimp only at this;rw[addr_add,GO]at this;simp[this,g1]
     cases t
    cases t
   obtain⟨rfl,rfl⟩:=t;have hm0:=Nb0 hm;have ZSR:new=[]:=G8 (by rw[n2,hm0,Nat.zero_mul]);have hnew1:B=[]:=G8 (by rw[<-n1.1,ZSR];rfl);subst hnew1
   have fin:∀q c',s'=.slice q n c'->n+Ji x<=c'->(Builtin.append_ ts ty #[s',x']).run P w=.ok s' w:=fun q c' hs' D=>by
    subst hs';have:=ZdS (P:=P) (w:=w) (ty:=ty) (base:=q) (n:=n) (c:=c') F n4 (n3 w.drawn) D;rw[this,hm0];cases q<;>simp[storeCells]
   refine X6.JU hs ?_;cases hs with|Zat=>exact fin none 0 rfl Vb|Wh a=>exact fin (some a) 0 rfl Vb|Qf _ o' _ y hc1=>exact fin _ 0 rfl Vb|slice _ _ _ c' y p=>
     refine fin _ c' rfl ?_;have p:=p.2;split at p<;>omega
  cases t
 cases t
def EL.length{es es':U V6}(e:EL ρ es es'):es'.length=es.length:=by induction e with|nil=>rfl|cons _ _ _ _ _ ih=>simp[ih]
def EL.get{es es':U V6}(e:EL ρ es es'):∀{i:Nat}{x:V6},es[i]? =some x->∃l,es'[i]? =some l/\l.key=x.key/\plain x.key=true/\l.born=x.born/\VR ρ x.val l.val:=by
 induction e with|nil=>intro i x h;simp at h|cons q p r hv _ ih=>
   intro i x h;cases i with|zero=>simp at h;subst h;exact⟨_,rfl,q,p,r,hv⟩|succ i=>simp at h;simpa using ih h
def EL.modify{es es':U V6}(e:EL ρ es es'){f f':V6->V6}(r:∀x h,h.key=x.key->plain x.key=true->h.born=x.born->VR ρ x.val h.val ->
 (f' h).key=(f x).key/\plain (f x).key=true/\(f' h).born=(f x).born/\VR ρ (f x).val (f' h).val):∀(i:Nat),EL ρ (es.modify i f) (es'.modify i f'):=by
 induction e with|nil=>intro i;cases i<;>exact .nil|cons p l q hv t ih=>
   intro i;cases i with
   | zero=>
     have⟨a,b,c,d⟩:=r _ _ p l q hv;exact .cons a b c d t
   | succ i=>exact .cons p l q hv (ih i)
def EL.snoc{es es':U V6}(e:EL ρ es es'){x h:V6}(p:h.key=x.key)(l:plain x.key=true)(q:h.born=x.born)(hv:VR ρ x.val h.val):EL ρ (es++[x]) (es'++[h]):=by induction e with|nil=>exact .cons p l q hv .nil|cons a b c d _ ih=>exact .cons a b c d ih
def EL.erase{es es':U V6}(e:EL ρ es es'):∀(i:Nat),EL ρ (es.eraseIdx i) (es'.eraseIdx i):=by
 induction e with|nil=>intro i;exact .nil|cons a b c d t ih=>
   intro i;cases i with|zero=>exact t|succ i=>exact .cons a b c d (ih i)
def FR(ρ:Ren):O (Nat×N)->O (Nat×N)->Prop
 | none,none=>True
 | some (i,v),some (j,v')=>j=i/\VR ρ v v'
 | _,_=>False
def ZmW(l:TypeDesc)(k:N){es es':U V6}(e:EL ρ es es'):∀(i:Nat) r,Instr.findNow l k es i=some r->∃r',Instr.findNow l k es' i=some r'/\FR ρ r r':=by
 induction e with|nil=>intro i r h;simp only[Instr.findNow,Gj]at h;subst h;exact⟨none,rfl,trivial⟩|cons p q x hv t ih=>
   intro i r h;simp only[Instr.findNow]at h ⊢;rw[p];split at h;.cases h;exact⟨_,rfl,rfl,hv⟩
   .exact ih _ _ h
   cases h
def Zpp(l:TypeDesc)(k:N){es es':U V6}(e:EL ρ es es'):∀(i:Nat),Instr.findNow l k es i=none->Instr.findNow l k es' i=none:=by
 induction e with|nil=>intro i h;simp[Instr.findNow]at h|cons p q r hv t ih=>
   intro i h;simp only[Instr.findNow]at h ⊢;rw[p];split at h;.cases h
   .exact ih _ h
   rfl
def Zgc{l β:Type}:∀(s:Sem l)(f:l->Sem β)(b:β),ZF P (s >>=f)=some (.ok b)->∃a,ZF P s=some (.ok a)/\ZF P (f a)=some (.ok b):=by intro s;induction s with|pure a=>intro f b h;exact⟨a,rfl,h⟩|program k ih=>intro f b h;exact ih P f b h|halt x=>intro f b h;cases x<;>cases h|load|store|new|shape|freeze|frozen|getObj|setObj|choose|sys|mark=>intro f b h;cases h
def Zh1(p:J)(k:N){es es':U V6}(e:EL ρ es es'):∀(i:Nat) r,ZF P (Instr.findAsking p k es i)=some (.ok r)->∃r',(Instr.findAsking p k es' i).run P w=.ok r' w/\FR ρ r r':=by
 induction e with|nil=>intro i r h;simp only[Instr.findAsking]at h;cases h;exact⟨none,rfl,trivial⟩|@cons e x es es' q y A hv t ih=>
   intro i r h;simp only[Instr.findAsking]at h ⊢;have⟨b,h1,h2⟩:=Zgc _ _ _ h;rw[q];have l:=ZbQ _ _ h1 w;cases b with
   | true=>
     simp only[if_true]at h2;cases h2;exact⟨some (i,x.val),by simp[l],rfl,hv⟩
   | false=>
     simp only[Bool.false_eq_true,if_false]at h2;have⟨r',q1,q2⟩:=ih (i+1) r h2;exact⟨r',by simp[l,q1],q2⟩
def ZmX(l:J)(k:N){es es':U V6}(e:EL ρ es es'){r:O (Nat×N)}(p:ZF P (Instr.findKey l k es)=some (.ok r)):
 ∃r',(Instr.findKey l k es').run P w=.ok r' w/\FR ρ r r':=by
 unfold Instr.findKey at p ⊢;have⟨d,h1,h2⟩:=Zgc _ _ _ p;have q:=ZbQ _ _ h1 w;cases h:Instr.findNow d k es 0 with
 | some x=>
   rw[h]at h2;simp only[Pure.pure,ZF,Gj,Except.ok.injEq]at h2;subst h2;have⟨r',q1,q2⟩:=ZmW d k e 0 x h;exact⟨r',by simp[q,q1],q2⟩
 | none=>
   rw[h]at h2;have⟨r',q1,q2⟩:=Zh1 (P:=P) (w:=w) l k e 0 r h2;exact⟨r',by simp[q,Zpp d k e 0 h,q1],q2⟩
def ZcD(h:H)(m:N):O (U V6×Nat):=
 match m with
 | .map none=>some ([],0)
 | .map (some i)=>match h.at i with|.map es c=>some (es,c)|_=>none
 | _=>none
def run_getObj_map{b c:Nat}{es:V5 V6}(h:w.heap[b]? =some (.map es c)):(getObj b).run P w=.ok (.map es c) w:=by simp[getObj,Sem.run,h]
def run_setObj_map{b c:Nat}{es:V5 V6}{o:Obj}(h:w.heap[b]? =some (.map es c)):(setObj b o).run P w=.ok () {w with heap:=w.heap.setIfInBounds b o}:=by simp[setObj,Sem.run,h]
def KW(P:V2)(e:Z)(h:J)(k:N):Z:=
 plain k&&(match ZF P (Instr.checkKey e 10000 h k) with|some (.ok _)=>true|_=>false)
def WY{e:Z}{l:J}{k p:N}(q:VR ρ k p)(h:KW P e l k=true):p=k/\plain k=true/\∀w,(Instr.checkKey e 10000 l k).run P w=.ok () w:=by
 unfold KW at h;rw[Ba0]at h;refine⟨VR.Xr h.1 q,h.1,fun w=>?_⟩;have:=h.2;split at this;next e=>exact ZbQ _ _ e w
 cases this
def Zi5(P:V2)(h:J)(k:N)(es:U V6):O (O (Nat×N)):=
 match ZF P (Instr.findKey h k es) with|some (.ok r)=>some r|_=>none
def Jp{l:J}{k:N}{es es':U V6}{r:O (Nat×N)}(e:EL ρ es es')(h:Zi5 P l k es=some r):
 ∃r',(Instr.findKey l k es').run P w=.ok r' w/\FR ρ r r':=by
 unfold Zi5 at h;split at h;next q=>cases h;exact ZmX l k e q
 cases h
def VR.pair{a p b l:N}(h1:VR ρ a p)(h2:VR ρ b l):VR ρ (.tuple #[a,b]) (.tuple #[p,l]):=by refine .tuple _ _ rfl fun i v v' e h=>?_;match i with|0=>simp at e h;subst e h;exact h1|1=>simp at e h;subst e h;exact h2|i+2=>simp at e
def KF(P:V2)(h:H)(t:J)(m k:N)(ok:Z):O N:=
 match P.underlying t,ZcD h m with
 | some (.map kt et),some (es,_)=>
   bif KW P es.isEmpty kt k then
    match Zi5 P kt k es with
    | some (some (_,v))=>some (bif ok then .tuple #[v,.bool true] else v)
    | some none=>match Y5 P et with|some z=>some (bif ok then .tuple #[z,.bool false] else z)|none=>none
    | none=>none
   else none
 | _,_=>none
def Ke{m q:N}{es:U V6}{c:Nat}(r:Rel ρ h w)(t:VR ρ m q)(l:ZcD h m=some (es,c)):
 (m=.map none/\q=.map none/\es=[])\/∃i b es',m=.map (some i)/\q=.map (some b)/\ρ i=some (b,0)/\h.at i=.map es c/\w.heap[b]? =some (.map es' c)/\EL ρ es es'.toList:=by
 unfold ZcD at l;split at l;.cases t;cases l;exact .inl ⟨rfl,rfl,rfl⟩
 .rename_i i;cases t with|map x=>
    rename_i b;split at l;next y c0 p=>cases l;have:=r.obj _ _ _ x;rw[p]at this;have⟨_,es',h1,h2⟩:=this;exact .inr ⟨i,b,es',rfl,rfl,x,p,h1,h2⟩
    cases l
 cases l
def FR.some{i:Nat}{v:N}{l:O (Nat×N)}(h:FR ρ (some (i,v)) l):∃v',l=some (i,v')/\VR ρ v v':=by cases l with|none=>exact h.elim|some p=>have⟨j,v'⟩:=p;obtain⟨rfl,hv⟩:=h;exact⟨v',rfl,hv⟩
def FR.none{l:O (Nat×N)}(h:FR ρ none l):l=Option.none:=by cases l with|none=>rfl|some p=>exact h.elim
def ZbT{t r A:J}{m k:N}{ok:Z}{es':V5 V6}{l:O (Nat×N)}{z:N}(hu:P.underlying t=some (.map r A))
 (B:(m=.map none/\es'=#[])\/∃b c,m=.map (some b)/\w.heap[b]? =some (.map es' c))
 (h:(Instr.checkKey es'.isEmpty 10000 r k).run P w=.ok () w) (q:(Instr.findKey r k es'.toList).run P w=.ok l w) (x:l=none->(zeroValue A).run P w=.ok z w):
 (Instr.lookup t m k ok).run P w=.ok (match l with|some (_,v)=>if ok then .tuple #[v,.bool true] else v|none=>if ok then .tuple #[z,.bool false] else z) w:=by
 rcases B with⟨rfl,rfl⟩|⟨b,c,rfl,y⟩
 .cases l with|none=>simp[Instr.lookup,run_underlying hu]at *;simp[h,q,x]|some p=>simp[Instr.lookup,run_underlying hu]at *;simp[h,q]
 cases l with|none=>simp[Instr.lookup,run_underlying hu,run_getObj_map y,h,q,x]|some p=>simp[Instr.lookup,run_underlying hu,run_getObj_map y,h,q]
def ZmM{t:J}{m B k C v:N}{ok:Z}(r:Rel ρ h w)(I:VR ρ m B)(K:VR ρ k C)(p:KF P h t m k ok=some v):
 ∃v',VR ρ v v'/\(Instr.lookup t B C ok).run P w=.ok v' w:=by
 unfold KF at p;split at p
 .rename_i F V es c hu x;cases q:KW P es.isEmpty F k<;>rw[q]at p<;>simp at p;obtain⟨rfl,_,E⟩:=WY K q
  obtain⟨es',l,y⟩:∃es':V5 V6,EL ρ es es'.toList/\((B=.map none/\es'=#[])\/∃b c,B=.map (some b)/\w.heap[b]? =some (.map es' c)):=by
   rcases Ke r I x with⟨rfl,rfl,rfl⟩|⟨i,b,es',rfl,rfl,T,Q,L,l⟩
   .exact⟨#[],.nil,.inl ⟨rfl,rfl⟩⟩
   exact⟨es',l,.inr ⟨b,c,rfl,L⟩⟩
  have A:es'.isEmpty=es.isEmpty:=by
   have:=l.length;rw[G6]at this;rw[Gt,Array.isEmpty_iff_size_eq_zero,List.isEmpty_iff_length_eq_zero];omega
  have ZS1:(Instr.checkKey es'.isEmpty 10000 F C).run P w=.ok () w:=by rw[A];exact E w
  split at p
  .rename_i j S D;have⟨r',q1,q2⟩:=Jp (w:=w) l D;obtain⟨v',rfl,hv⟩:=FR.some q2;cases p;refine⟨_,?_,ZbT (z:=undef) hu y ZS1 q1 (fun e=>by cases e)⟩;cases ok;.exact hv
   exact VR.pair hv (.bool true)
  .rename_i D;split at p
   .rename_i z G;have⟨z1,z2,z3⟩:=Qe G;have⟨r',q1,q2⟩:=Jp (w:=w) l D;obtain rfl:=FR.none q2;cases p;refine⟨_,?_,ZbT hu y ZS1 q1 (fun _=>z1 w)⟩;cases ok;.exact VR.ZY z3
    exact VR.pair (VR.ZY z3) (.bool false)
   cases p
  cases p
 cases p
def Zjn(a b:Y):(a==b)=decide (a=b):=by
 rw[Gt,decide_eq_true_iff];cases a with|mk a=>cases b with|mk b=>
 show(a==b)=true↔_;simp
def ZHB(s:Y):∀(l:U V6),(∀e∈l,∃s b,e.key=.string s/\e.val=.bool b)->∀i,∃r,Instr.findNow .string (.string s) l i=some r/\
 ((r=none/\fnd s l=none/\∀v c t,fnd t (l++[⟨.string s,.bool v,c⟩])=bif t==s then some v else fnd t l)\/
   ∃j b e,r=some (i+j,.bool b)/\fnd s l=some b/\l[j]? =some e/\e.key=.string s/\∀v t,fnd t (l.modify j fun e=>{e with key:=.string s,val:=.bool v})=bif t==s then some v else fnd t l):=by
 intro l;induction l with
 | nil=>intro _ i;exact⟨none,rfl,.inl ⟨rfl,rfl,fun v c t=>rfl⟩⟩
 | cons e l ih=>
   intro he i;have⟨u,b,hu,hb⟩:=he e (by simp);have⟨k,v0,c0⟩:=e;dsimp only at hu hb;subst hu hb;by_cases h:s=u;.subst h;refine⟨some (i,.bool b),by simp[Instr.findNow,Instr.sameNow,Zjn],.inr ⟨0,b,_,rfl,by simp[fnd,Zjn],rfl,rfl,fun v t=>?_⟩⟩;simp only[List.modify_zero_cons,fnd];cases t==s<;>rfl
   have p:(s==u)=false:=by rw[Zjn];exact decide_eq_false h
   have⟨r,h1,h2⟩:=ih (fun e m=>he e (Kd _ m)) (i+1);have q:∀t,fnd t (⟨.string u,.bool b,c0⟩::l)=bif t==u then some b else fnd t l:=fun t=>rfl
   have B:∀(v:Z) t,(bif t==u then some b else bif t==s then some v else fnd t l)=bif t==s then some v else bif t==u then some b else fnd t l:=fun v t=>by
    cases h1:t==u;.rfl
    have:t=u:=by rw[Zjn]at h1;exact of_decide_eq_true h1
    have h2:(t==s)=false:=by rw[Zjn];exact decide_eq_false fun z=>h (z.symm.trans this)
    rw[h2];rfl
   refine⟨r,by simp[Instr.findNow,Instr.sameNow,p,h1],?_⟩;rcases h2 with⟨A,y,x⟩|⟨j,F,E,A,y,x,D,C⟩
   .refine .inl ⟨A,by rw[q,p];exact y,fun v c t=>?_⟩;rw[Gp];show(bif t==u then some b else fnd t (l++_))=_;rw[x,q];exact B v t
   refine .inr ⟨j+1,F,E,by rw[A];congr 2;omega,by rw[q,p];exact y,x,D,fun v t=>?_⟩;rw[List.modify_succ_cons];show(bif t==u then some b else fnd t (l.modify j _))=_;rw[C,q];exact B v t
def aks(P:V2)(h:H)(t:J)(m k:N):O (J×Nat×(Y->O Z)×Y):=
 match P.underlying t,m,k with
 | some (.map kt et),.map (some i),.string s=>match h.at i,P.underlying kt with|.XP f,some .string=>bif KW P true kt (.string s)&&KW P false kt (.string s) then some (et,i,f,s) else none|_,_=>none
 | _,_,_=>none
def Zod{t D:J}{m B k y:N}{i:Nat}{f:Y->O Z}{s:Y}(r:Rel ρ h w)(E:VR ρ m B)(F:VR ρ k y)(q:aks P h t m k=some (D,i,f,s)):
 ∃p b es' c,P.underlying t=some (.map p D)/\m=.map (some i)/\B=.map (some b)/\y=.string s/\ρ i=some (b,0)/\h.at i=.XP f/\w.heap[b]? =some (.map es' c)/\KS f es'.toList/\(∀e,(Instr.checkKey e 10000 p (.string s)).run P w=.ok () w)/\
   ∃r,(Instr.findKey p (.string s) es'.toList).run P w=.ok r w/\
 ((r=none/\f s=none/\∀v c t,fnd t (es'.toList++[⟨.string s,.bool v,c⟩])=bif t==s then some v else f t)\/
   ∃j b e,r=some (j,.bool b)/\f s=some b/\es'[j]? =some e/\e.key=.string s/\∀v t,fnd t (es'.toList.modify j fun e=>{e with key:=.string s,val:=.bool v})=bif t==s then some v else f t):=by
 unfold aks at q;split at q
 .rename_i p G I s0 hu;split at q
  .rename_i K x A;cases l:KW P true p (.string s0)&&KW P false p (.string s0)<;>rw[l]at q<;>cases q
   rw[Ba0]at l;have⟨_,_,o1⟩:=WY (ρ:=ρ) (VR.ZY rfl) l.1;have⟨_,_,o2⟩:=WY (ρ:=ρ) (VR.ZY rfl) l.2;obtain rfl:y=.string s:=VR.Xr rfl F;cases E with|map C=>
     rename_i b;have:=r.obj _ _ _ C;rw[x]at this;have⟨_,es',c,h1,h2,h3⟩:=this;have⟨r,g1,g2⟩:=ZHB s es'.toList h2 0;refine⟨p,b,es',c,hu,rfl,rfl,rfl,C,x,h1,⟨h2,h3⟩,fun e=>by cases e;exact o2 w;exact o1 w,r,by simp[Instr.findKey,run_underlying A,g1],?_⟩;rw[h3]at g2;simpa only[h3,Gc,Gi]using g2
  cases q
 cases q
def UA(P:V2)(h:H)(t:J)(m k:N)(ok:Z):O N:=
 match KF P h t m k ok with
 | some v=>some v
 | none=>match aks P h t m k with
   | some (et,_,f,s)=>match f s with
     | some b=>some (bif ok then .tuple #[.bool b,.bool true] else .bool b)
     | none=>match Y5 P et with|some z=>some (bif ok then .tuple #[z,.bool false] else z)|none=>none
   | none=>none
def Zmk{t:J}{m k v:N}{ok:Z}(e:KF P h t m k ok=some v):UA P h t m k ok=some v:=by unfold UA;rw[e]
def ZoZ{t:J}{m B k C v:N}{ok:Z}(r:Rel ρ h w)(D:VR ρ m B)(E:VR ρ k C)(l:UA P h t m k ok=some v):
 ∃v',VR ρ v v'/\(Instr.lookup t B C ok).run P w=.ok v' w:=by
 unfold UA at l;split at l;next Q=>cases l;exact ZmM r D E Q
 split at l
 .rename_i X i f s I;obtain⟨V,b,es',c,hu,rfl,rfl,rfl,W,L,F,K,p,T,A,y⟩:=Zod r D E I;split at l
  .rename_i b0 x;cases l;rcases y with⟨_,q,_⟩|⟨j,S,e,rfl,q,_⟩
   .rw[x]at q;cases q
   rw[x]at q;cases q;refine⟨_,?_,ZbT (z:=undef) hu (.inr ⟨b,c,rfl,F⟩) (p _) A (fun e=>by cases e)⟩;cases ok;.exact .bool _
   exact VR.pair (.bool _) (.bool true)
  rename_i x;rcases y with⟨rfl,_,_⟩|⟨j,S,e,rfl,q,_⟩
  .split at l
   .rename_i z G;have⟨z1,z2,z3⟩:=Qe G;cases l;refine⟨_,?_,ZbT hu (.inr ⟨b,c,rfl,F⟩) (p _) A (fun _=>z1 w)⟩;cases ok;.exact VR.ZY z3
    exact VR.pair (VR.ZY z3) (.bool false)
   cases l
  rw[x]at q;cases q
 cases l
def Kq{i b c c':Nat}{es:U V6}{q es':V5 V6}(x:ρ i=some (b,0))(r:w.heap[b]? =some (.map q c))(he:EL ρ es es'.toList):
 Same w {w with heap:=w.heap.setIfInBounds b (.map es' c')}/\(Eff.upd i (.map es c')).real ρ h w ρ {w with heap:=w.heap.setIfInBounds b (.map es' c')}:=by
 have l:b<w.heap.size:=by
  rcases Gq b w.heap.size with p|p
  .exact p
  rw[Array.getElem?_eq_none p]at r;cases r
 refine⟨⟨rfl,rfl,rfl⟩,rfl,b,0,x,by simp,fun k t=>?_,rfl,es',?_,he⟩;.simp[Ne.symm t]
 simp[l]
def XZ(P:V2)(h:H)(t:J)(m k x:N):O Eff:=
 match P.underlying t,m,ZcD h m with
 | some (.map kt _),.map (some i),some (es,c)=>
   bif KW P false kt k then
    match Zi5 P kt k es with
    | some (some (j,_))=>match es[j]? with
      | some e=>bif Instr.sameBits 10000 e.key k then some (.upd i (.map (es.modify j fun e=>{e with key:=k,val:=x}) c)) else none
      | none=>none
    | some none=>some (.upd i (.map (es++[{key:=k,val:=x,born:=c}]) (c+1)))
    | none=>none
   else none
 | _,_,_=>none
def ZhR{t:J}{m S k q x B:N}{E:Eff}(r:Rel ρ h w)(X:VR ρ m S)(hk:VR ρ k q)(T:VR ρ x B)(l:XZ P h t m k x=some E):
 X6 P ρ h w (do Instr.mapUpdate t S q B;pure .skip) .skip E:=by
 unfold XZ at l;split at l
 .rename_i W et i es c hu G;cases F:KW P false W k<;>rw[F]at l<;>simp at l;obtain⟨rfl,D,I⟩:=WY hk F;rcases Ke r X G with⟨Q,_,_⟩|⟨i',b,es',Q,rfl,V,hat,A,p⟩
  .cases Q
  cases Q;split at l
  .rename_i j v0 K;have⟨r',q1,q2⟩:=Jp (w:=w) p K;obtain⟨v',rfl,_⟩:=FR.some q2;split at l
   .rename_i e he;cases C:Instr.sameBits 10000 e.key q<;>rw[C]at l<;>simp at l;subst l;have⟨e',g1,g2,g3,g4,g5⟩:=p.get he;have L:es'[j]? =some e':=by simpa using g1
    have⟨p1,p2⟩:=Kq (h:=h) (c':=c) (es:=es.modify j fun e=>{e with key:=q,val:=x}) (es':=es'.modify j fun e=>{e with key:=q,val:=B}) V A
     (by rw[Array.toList_modify];exact p.modify (f:=fun e=>{e with key:=q,val:=x}) (f':=fun e=>{e with key:=q,val:=B}) (fun y y' a1 a2 a3 a4=>⟨rfl,D,a3,T⟩) j)
    refine⟨ρ,_,p1,p2,?_⟩;show Sem.run P _ w=_;simp[Instr.mapUpdate,run_underlying hu,run_getObj_map A,I,q1,L,g2,Instr.keyThatStays,C,run_setObj_map A]
   cases l
  .rename_i K;cases l;have⟨r',q1,q2⟩:=Jp (w:=w) p K;obtain rfl:=FR.none q2
   have⟨p1,p2⟩:=Kq (h:=h) (c':=c+1) (es:=es++[{key:=q,val:=x,born:=c}]) (es':=es'.push {key:=q,val:=B,born:=c}) V A
    (by rw[Array.toList_push];exact p.snoc rfl D rfl T)
   refine⟨ρ,_,p1,p2,?_⟩;show Sem.run P _ w=_;simp[Instr.mapUpdate,run_underlying hu,run_getObj_map A,I,q1,run_setObj_map A]
  cases l
 cases l
def Zv1{i b c c':Nat}{f:Y->O Z}{q es':V5 V6}(x:ρ i=some (b,0))(r:w.heap[b]? =some (.map q c))(he:KS f es'.toList):
 Same w {w with heap:=w.heap.setIfInBounds b (.map es' c')}/\(Eff.upd i (.XP f)).real ρ h w ρ {w with heap:=w.heap.setIfInBounds b (.map es' c')}:=by
 have l:b<w.heap.size:=by
  rcases Gq b w.heap.size with p|p
  .exact p
  rw[Array.getElem?_eq_none p]at r;cases r
 refine⟨⟨rfl,rfl,rfl⟩,rfl,b,0,x,by simp,fun k t=>?_,rfl,es',c',?_,he⟩;.simp[Ne.symm t]
 simp[l]
def XC(P:V2)(h:H)(t:J)(m k x:N):O Eff:=
 match XZ P h t m k x with
 | some E=>some E
 | none=>match aks P h t m k,x with
   | some (_,i,f,s),.bool v=>some (.upd i (.XP fun t=>bif t==s then some v else f t))
   | _,_=>none
def Zfe{t:J}{m k x:N}{E:Eff}(e:XZ P h t m k x=some E):XC P h t m k x=some E:=by unfold XC;rw[e]
def Zcg{t:J}{m K k L x C:N}{E:Eff}(r:Rel ρ h w)(S:VR ρ m K)(T:VR ρ k L)(Q:VR ρ x C)(p:XC P h t m k x=some E):
 X6 P ρ h w (do Instr.mapUpdate t K L C;pure .skip) .skip E:=by
 unfold XC at p;split at p;next h0=>cases p;exact ZhR r S T Q h0
 split at p
 .rename_i et i f s v hs _;cases p;obtain rfl:C=.bool v:=VR.Xr rfl Q;obtain⟨kt,b,es',c,hu,rfl,rfl,rfl,W,hat,l,⟨A,hk2⟩,B,r',I,X⟩:=Zod r S T hs;rcases X with⟨rfl,_,q⟩|⟨j,b',e,rfl,_,he,G,q⟩
  .have⟨p1,p2⟩:=Zv1 (h:=h) (c':=c+1) (es':=es'.push {key:=.string s,val:=.bool v,born:=c}) W l
    (f:=fun t=>bif t==s then some v else f t) ⟨fun e he=>by
      rw[Array.toList_push,Q3]at he;rcases he with he|he
      .exact A e he
      rw[J1.1 he];exact⟨s,v,rfl,rfl⟩,fun t=>by rw[Array.toList_push];exact q v c t⟩
   refine⟨ρ,_,p1,p2,?_⟩;show Sem.run P _ w=_;simp[Instr.mapUpdate,run_underlying hu,run_getObj_map l,B,I,run_setObj_map l]
  have⟨p1,p2⟩:=Zv1 (h:=h) (c':=c) (es':=es'.modify j fun e=>{e with key:=.string s,val:=.bool v}) W l
   (f:=fun t=>bif t==s then some v else f t) ⟨fun e he=>by
     rw[Array.toList_modify]at he;have⟨n,hn⟩:=Gn.1 he;rw[List.getElem?_modify]at hn;cases F:es'.toList[n]? with|none=>rw[F]at hn;simp at hn|some y=>
       rw[F]at hn;have hn:=Oi0 hn;dsimp only at hn;by_cases V:j=n;.rw[if_pos V]at hn;rw[<-hn];exact⟨s,v,rfl,rfl⟩
       rw[if_neg V]at hn;rw[<-hn];exact A y (Gn.2 ⟨n,F⟩),fun t=>by rw[Array.toList_modify];exact q v t⟩
  refine⟨ρ,_,p1,p2,?_⟩;show Sem.run P _ w=_;have D:Instr.sameBits 10000 (.string s) (.string s)=true:=by simp[Instr.sameBits,Zjn]
  simp[Instr.mapUpdate,run_underlying hu,run_getObj_map l,B,I,he,G,Instr.keyThatStays,D,run_setObj_map l]
 cases p
def Ziw(P:V2)(h:H)(t:J)(m k:N):O (N×Eff):=
 match P.underlying t,m,ZcD h m with
 | some (.map kt et),.map (some i),some (es,c)=>
   bif KW P false kt k then
    match Zi5 P kt k es with
    | some (some (j,v))=>match es[j]? with
      | some e=>bif Instr.sameBits 10000 e.key k then some (.tuple #[v,V9 e.born],.upd i (.map (es.modify j fun e=>{e with key:=k}) c)) else none
      | none=>none
    | some none=>match Y5 P et with|some z=>some (.tuple #[z,V9 c],.upd i (.map (es++[{key:=k,val:=z,born:=c}]) (c+1)))|none=>none
    | none=>none
   else none
 | _,_,_=>none
def ZkK{t:J}{m Q k q v:N}{E:Eff}(r:Rel ρ h w)(W:VR ρ m Q)(X:VR ρ k q)(l:Ziw P h t m k=some (v,E)):
 X6 P ρ h w (do pure (.value (<-Instr.mapEntry t Q q))) (.val v) E:=by
 unfold Ziw at l;split at l
 .rename_i T et i es c hu D;cases C:KW P false T k<;>rw[C]at l<;>simp at l;obtain⟨rfl,B,F⟩:=WY X C;rcases Ke r W D with⟨L,_,_⟩|⟨i',b,es',L,rfl,S,hat,x,p⟩
  .cases L
  cases L;split at l
  .rename_i j v0 I;have⟨r',q1,q2⟩:=Jp (w:=w) p I;obtain⟨v',rfl,G⟩:=FR.some q2;split at l
   .rename_i e he;cases A:Instr.sameBits 10000 e.key q<;>rw[A]at l<;>simp at l;obtain⟨rfl,rfl⟩:=l;have⟨e',g1,g2,g3,g4,g5⟩:=p.get he;have K:es'[j]? =some e':=by simpa using g1
    have⟨p1,p2⟩:=Kq (h:=h) (c':=c) (es:=es.modify j fun e=>{e with key:=q}) (es':=es'.modify j fun e=>{e with key:=q}) S x
     (by rw[Array.toList_modify];exact p.modify (f:=fun e=>{e with key:=q}) (f':=fun e=>{e with key:=q}) (fun y y' a1 a2 a3 a4=>⟨rfl,B,a3,a4⟩) j)
    refine⟨ρ,_,p1,p2,.tuple #[v',V9 e.born],VR.pair G (.int _ _),?_⟩;simp[Instr.mapEntry,run_underlying hu,run_getObj_map x,F,q1,K,g2,g4,Instr.keyThatStays,A,run_setObj_map x,goInt]
   cases l
  .rename_i I;split at l
   .rename_i z V;cases l;have⟨z1,z2,z3⟩:=Qe V;have⟨r',q1,q2⟩:=Jp (w:=w) p I;obtain rfl:=FR.none q2
    have⟨p1,p2⟩:=Kq (h:=h) (c':=c+1) (es:=es++[{key:=q,val:=z,born:=c}]) (es':=es'.push {key:=q,val:=z,born:=c}) S x
     (by rw[Array.toList_push];exact p.snoc rfl B rfl (VR.ZY z3))
    refine⟨ρ,_,p1,p2,.tuple #[z,V9 c],VR.pair (VR.ZY z3) (.int _ _),?_⟩;simp[Instr.mapEntry,run_underlying hu,run_getObj_map x,F,q1,z1,run_setObj_map x,goInt]
   cases l
  cases l
 cases l
def EL.findIdx{es es':U V6}(e:EL ρ es es')(s:Int):es'.findIdx? (fun e=>(e.born:Int)==s)=es.findIdx? (fun e=>(e.born:Int)==s):=by induction e with|nil=>rfl|cons p l h hv _ ih=>simp only[List.findIdx?_cons,h,ih]
def ZsV{h:Type}(es:V5 h)(p:h->Z):es.findIdx? p=es.toList.findIdx? p:=by cases es;simp
def ZdZ(h:H)(m s x:N):O Eff:=
 match m,ZcD h m,s with
 | .map (some i),some (es,c),.int _ n=>
   match es.findIdx? (fun e=>(e.born:Int)==n) with
   | some j=>some (.upd i (.map (es.modify j fun e=>{e with val:=x}) c))
   | none=>none
 | _,_,_=>none
def Zii{t:J}{m I s G x B:N}{E:Eff}(r:Rel ρ h w)(Q:VR ρ m I)(L:VR ρ s G)(K:VR ρ x B)(l:ZdZ h m s x=some E):
 X6 P ρ h w (do Instr.entryStore t I G B;pure .skip) .skip E:=by
 unfold ZdZ at l;split at l
 .rename_i i es c q n p;cases L;rcases Ke r Q p with⟨F,_,_⟩|⟨i',b,es',F,rfl,T,V,D,A⟩
  .cases F
  cases F;split at l
  .rename_i j S;cases l
   have⟨p1,p2⟩:=Kq (h:=h) (c':=c) (es:=es.modify j fun e=>{e with val:=x}) (es':=es'.modify j fun e=>{e with val:=B}) T D
    (by rw[Array.toList_modify];exact A.modify (f:=fun e=>{e with val:=x}) (f':=fun e=>{e with val:=B}) (fun y y' a1 X W a4=>⟨a1,X,W,K⟩) j)
   have C:es'.findIdx? (fun e=>(e.born:Int)==n)=some j:=by rw[ZsV,A.findIdx,S]
   refine⟨ρ,_,p1,p2,?_⟩;show Sem.run P _ w=_;simp[Instr.entryStore,run_getObj_map D,asInt,asIntOf,C,run_setObj_map D]
  cases l
 cases l
def ZeB(P:V2)(h:H)(t:J)(m k:N):O Eff:=
 match P.underlying t,m,ZcD h m with
 | some (.map kt _),.map (some i),some (es,c)=>
   bif KW P es.isEmpty kt k then
    match Zi5 P kt k es with|some (some (j,_))=>some (.upd i (.map (es.eraseIdx j) c))|some none=>some (.upd i (.map es c))|none=>none
   else none
 | _,_,_=>none
def ZpO{t ty:J}{ts:V5 J}{m F k G:N}{E:Eff}(I:ts[0]? =some t)(r:Rel ρ h w)(T:VR ρ m F)(V:VR ρ k G)(p:ZeB P h t m k=some E):
 X6 P ρ h w (do pure (.value (<-Builtin.delete_ ts ty #[F,G]))) (.val (.tuple #[])) E:=by
 unfold ZeB at p;split at p
 .rename_i L et i es c hu A;cases y:KW P es.isEmpty L k<;>rw[y]at p<;>simp at p;obtain⟨rfl,S,B⟩:=WY V y;rcases Ke r T A with⟨D,_,_⟩|⟨i',b,es',D,rfl,K,W,x,l⟩
  .cases D
  cases D
  have q:es'.isEmpty=es.isEmpty:=by
   have:=l.length;rw[G6]at this;rw[Gt,Array.isEmpty_iff_size_eq_zero,List.isEmpty_iff_length_eq_zero];omega
  split at p
  .rename_i j v0 C;cases p;have⟨r',q1,q2⟩:=Jp (w:=w) l C;obtain⟨v',rfl,Q⟩:=FR.some q2
   have X:(es'.eraseIdxIfInBounds j).toList=es'.toList.eraseIdx j:=by
    simp
   have⟨p1,p2⟩:=Kq (h:=h) (c':=c) (es:=es.eraseIdx j) (es':=es'.eraseIdxIfInBounds j) K x (by rw[X];exact l.erase j);refine⟨ρ,_,p1,p2,.tuple #[],VR.ZY (by rfl),?_⟩;simp[Builtin.delete_,I,run_underlying hu,run_getObj_map x,q,B,q1,run_setObj_map x]
  .cases p;rename_i C;have⟨r',q1,q2⟩:=Jp (w:=w) l C;obtain rfl:=FR.none q2;have⟨p1,p2⟩:=Kq (h:=h) (c':=c) (es:=es) (es':=es') K x l;refine⟨ρ,_,p1,p2,.tuple #[],VR.ZY (by rfl),?_⟩;simp[Builtin.delete_,I,run_underlying hu,run_getObj_map x,q,B,q1,run_setObj_map x]
  cases p
 cases p
def Zve(P:V2)(h:H)(t:J)(x:N):O N:=
 match P.underlying t,x with
 | some .string,.string s=>some (V9 s.size)
 | some (.slice _),.slice _ n _=>some (V9 n)
 | some (.array n _),_=>some (V9 n)
 | some (.map _ _),m=>match ZcD h m with|some (es,_)=>some (V9 es.length)|none=>none
 | _,_=>none
def Zym{t ty:J}{ts:V5 J}{x B v:N}(p:ts[0]? =some t)(r:Rel ρ h w)(y:VR ρ x B)(l:Zve P h t x=some v):
 ∃v',VR ρ v v'/\(Builtin.len_ ts ty #[B]).run P w=.ok v' w:=by
 unfold Zve at l;split at l;next hu=>cases l;cases y;exact⟨_,.int _ _,by simp[Builtin.len_,p,run_underlying hu,goInt]⟩
 next hu=>cases l;cases y<;>exact⟨_,.int _ _,by simp[Builtin.len_,p,run_underlying hu,goInt]⟩
 next hu=>cases l;exact⟨_,.int _ _,by simp[Builtin.len_,p,run_underlying hu,goInt]⟩
 .rename_i hu;split at l
  .rename_i es c q;cases l;rcases Ke r y q with⟨rfl,rfl,rfl⟩|⟨i,b,es',rfl,rfl,E,D,C,A⟩
   .exact⟨_,.int _ _,by simp[Builtin.len_,p,run_underlying hu,goInt]⟩
   have:=A.length;rw[G6]at this;exact⟨_,.int _ _,by simp[Builtin.len_,p,run_underlying hu,run_getObj_map C,goInt,this]⟩
  cases l
 cases l
def ZEJ(P:V2)(h:H)(t:J)(l src:N):O (N×Eff):=
 match P.underlying t,l,src with
 | some (.slice e),.slice base n _,.slice b2 m c2=>
   match YO P e with
   | some sz=>
     let k:=Nat.min m n
     match reads h (.slice b2 k (bif Nat.beq k 0 then(match b2 with|none=>0|some _=>c2) else c2)) sz with
     | some vs=>
       bif Nat.beq k 0 then some (V9 0,.none)
       else match base with
       | some ⟨i,o,none⟩=>match h.at i with|.row cs true s=>bif Nat.ble (o+vs.length) cs.length&&vs.all Value.oneCell' then some (V9 k,.upd i (.row (splice cs o vs) true s)) else none|_=>none
       | _=>none
     | none=>none
   | none=>none
 | _,_,_=>none
def trunc{t:O Addr}{m r k:Nat}{p:N}(y:VR ρ (.slice t m r) p)(B:k<=m):∃x c',p=.slice x m c'/\(0<k->VR ρ (.slice t k r) (.slice x k c')):=by
 cases y with
 | Zat=>exact⟨_,_,rfl,fun h=>by omega⟩
 | Wh a=>exact⟨_,_,rfl,fun h=>by omega⟩
 | slice o n c c' q l=>exact⟨_,_,rfl,fun _=>.slice o k _ _ q l⟩
 | Qf o A c q C=>exact⟨_,_,rfl,fun h=>by omega⟩
def ZuZ{t ty:TypeId}{ts:Array TypeId}{d S s T v:Value}{E:Eff}(V:ts[0]? =some t)(r:Rel ρ h w)(X:VR ρ d S)(hs:VR ρ s T)(l:ZEJ P h t d s=some (v,E)):
 X6 P ρ h w (do pure (.value (<-Builtin.copy_ ts ty #[S,T]))) (.val v) E:=by
 unfold ZEJ at l;split at l
 .rename_i e base n c b2 m c2 hu;split at l
  .rename_i sz A;dsimp only at l;split at l
   .rename_i vs x;obtain⟨F,c',rfl,G⟩:=trunc hs (Nat.min_le_left m n);cases C:Nat.beq (Nat.min m n) 0<;>rw[C]at l<;>simp at l
    .have p:0<Nat.min m n:=by
      rcases Nat.eq_zero_or_pos (Nat.min m n) with I|I
      .rw[I]at C;cases C
      exact I
     rw[C]at x;simp only[Cq0]at x;have⟨vs',n1,n2,n3,n4⟩:=Zc1 (P:=P) r (G p) x;split at l
     .rename_i i o;split at l
      .rename_i cs k Q;cases D:(Nat.ble (o+vs.length) cs.length&&vs.all Value.oneCell')<;>rw[D]at l<;>simp at l
       obtain⟨rfl,rfl⟩:=l;rw[Ba0]at D;have B:=Nl0 D.1;cases X with|Qf _ o' _ y hc1=>simp at p|slice _ _ _ cc y hcap=>
         rename_i b dd;have W:=r.obj _ _ _ y;rw[Q]at W;have⟨w',g1,g2,g3⟩:=Zd6 (P:=P) (h:=h) y W n1 D.2 B;refine⟨ρ,w',g2,g3,.int .i64 (Nat.min m n),.int _ _,?_⟩;have K:(Builtin.firstCells sz (Nat.min m n) (.slice F m c')).run P w=.ok vs'.toArray w:=by cases F<;>exact n3 w.drawn
         simp[Builtin.copy_,V,run_underlying hu,Builtin.lenOf,run_sizeOf A,K,g1,goInt]
      cases l
     cases l
    obtain⟨rfl,rfl⟩:=l;have p:=Nb0 C;have L:∃q qc,S=.slice q n qc:=by cases X<;>exact⟨_,_,rfl⟩
    obtain⟨q,qc,rfl⟩:=L;refine X6.JU (.int .i64 0) ?_
    have K:(Builtin.firstCells sz 0 (.slice F m c')).run P w=.ok #[] w:=by
     cases F<;>simp[Builtin.firstCells,loadCells,loadCellsFrom]
    cases q<;>simp[Builtin.copy_,V,run_underlying hu,Builtin.lenOf,run_sizeOf A,p,K,storeCells,goInt]
   cases l
  cases l
 cases l
def ZcK(z:U N)(n:Nat):U N:=(List.range (n*z.length)).map fun i=>z.getD (i % z.length) undef
def ZcJ{z:U N}(p:z.all scalar=true)(n:Nat):(ZcK z n).all scalar=true:=by
 rw[Q2]at p ⊢;intro v hv;simp only[ZcK,JT,GP]at hv;obtain⟨i,r,rfl⟩:=hv
 have h:0<z.length:=by
  rcases Nat.eq_zero_or_pos z.length with l|l
  .rw[l]at r;omega
  exact l
 have q:i % z.length<z.length:=Nat.mod_lt _ h;rw[GR,Q4 q];exact p _ (GE q)
def Zkn{v:Value}(h:scalar v=true):v.oneCell'=true:=by cases v<;>simp_all[scalar,Value.oneCell']
def Zqu(z:U N)(n:Nat):(ZcK z n).length=n*z.length:=by simp[ZcK]
def Zhx(z:V5 N)(n:Nat):((Array.range (n*z.size)).map (z[· % z.size]!)).toList=ZcK z.toList n:=by
 simp only[ZcK,Array.toList_map,Array.toList_range,G6];apply Gh;intro i p;rw[GP]at p
 have h:0<z.size:=by
  rcases Nat.eq_zero_or_pos z.size with l|l
  .rw[l]at p;omega
  exact l
 have q:i % z.size<z.size:=Nat.mod_lt _ h;simp[q,GR]
def Zvh(P:V2)(h:H)(t:J)(x:N):O Eff:=
 match P.underlying t,x with
 | some (.slice e),.slice base n _=>
   bif Nat.beq n 0 then some .none else
   match Y5 P e,base with
   | some z,some ⟨i,o,none⟩=>match h.at i with|.row cs true s=>bif Nat.ble (o+n*z.cells.toList.length) cs.length then some (.upd i (.row (splice cs o (ZcK z.cells.toList n)) true s)) else none|_=>none
   | _,_=>none
 | some (.map _ _),.map none=>some .none
 | some (.map _ _),.map (some i)=>match h.at i with|.map _ c=>some (.upd i (.map [] c))|_=>none
 | _,_=>none
def ZsD{t ty:J}{ts:V5 J}{x I:N}{E:Eff}(C:ts[0]? =some t)(r:Rel ρ h w)(B:VR ρ x I)(l:Zvh P h t x=some E):
 X6 P ρ h w (do pure (.value (<-Builtin.clear_ ts ty #[I]))) (.val (.tuple #[])) E:=by
 unfold Zvh at l;split at l
 .rename_i e base n c hu;cases hn:Nat.beq n 0<;>rw[hn]at l<;>simp at l
  .split at l
   .rename_i z i o S;have⟨z1,z2,z3⟩:=Qe S;split at l
    .rename_i cs s y;cases G:Nat.ble (o+n*z.cells.toList.length) cs.length<;>rw[show z.cells.toList.length=z.cells.size from G6]at G<;>rw[G]at l<;>simp at l
     subst l;have K:=Nl0 G;cases B with|Qf _ V _ q T=>cases hn|slice _ _ _ X q Q=>
       rename_i b W;have A:=r.obj _ _ _ q;rw[y]at A;have p:=ZcJ z2 n
       have⟨w',g1,g2,g3⟩:=Zd6 (P:=P) (h:=h) (vs:=ZcK z.cells.toList n) (vs':=ZcK z.cells.toList n) (o:=o) q A (LR.scalar p)
        (by rw[Q2]at p ⊢;exact fun v hv=>Zkn (p v hv)) (by rw[Zqu,G6];omega)
       refine⟨ρ,w',g2,g3,.tuple #[],VR.ZY (by rfl),?_⟩;have D:(Builtin.zeroCells z.cells n).toList=ZcK z.cells.toList n:=Zhx z.cells n;cases n with|zero=>cases hn|succ n=>simp[Builtin.clear_,C,run_underlying hu,z1,D,g1]
    cases l
   cases l
  subst l;have F:=Nb0 hn;subst F;refine X6.JU (VR.ZY (by rfl)) ?_;cases B<;>simp[Builtin.clear_,C,run_underlying hu]
 next hu=>cases l;cases B;exact X6.JU (VR.ZY (by rfl)) (by simp[Builtin.clear_,C,run_underlying hu])
 .rename_i k e i hu;split at l
  .rename_i es c y;cases l;cases B with|map L=>
     rename_i b;have A:=r.obj _ _ _ L;rw[y]at A;have⟨_,es',hb,hes⟩:=A;have⟨p1,p2⟩:=Kq (h:=h) (c':=c) (es:=[]) (es':=#[]) L hb .nil;refine⟨ρ,_,p1,p2,.tuple #[],VR.ZY (by rfl),?_⟩;simp[Builtin.clear_,C,run_underlying hu,run_getObj_map hb,run_setObj_map hb]
  cases l
 cases l
def ZsU(P:V2)(h:H)(t:J)(n:Nat)(l:U (Nat×N)):O (N×Eff):=
 match P.underlying t with
 | some (.slice e)=>match YO P e,Y5 P e with
   | some sz,some z=>
     bif Nat.ble 1 sz&&Nat.ble (n*sz) 10000&&Nat.beq z.cells.toList.length sz then
      match ZdW (fun i=>some (i*sz,sz)) (ZcK z.cells.toList n) l with|some cs=>some (.slice (some ⟨h.size,0,none⟩) n (2*n),.new (.row cs true sz))|none=>none
     else none
   | _,_=>none
 | _=>none
def ZtK{t:J}{n:Nat}{A l:U (Nat×N)}{v:N}{E:Eff}(r:Rel ρ h w)(V:A.length=l.length)
 (T:∀(i:Nat) p p',A[i]? =some p->l[i]? =some p'->p'.1=p.1/\VR ρ p.2 p'.2) (q:ZsU P h t n A=some (v,E)):
 X6 P ρ h w (do pure (.value (<-Instr.buildSlice t n l.toArray))) (.val v) E:=by
 unfold ZsU at q;split at q
 .rename_i e hu;split at q
  .rename_i sz z x S;cases I:(Nat.ble 1 sz&&Nat.ble (n*sz) 10000&&Nat.beq z.cells.toList.length sz)<;>rw[I]at q;.simp at q
   simp only[Cq1]at q;rw[Ba0,Ba0]at I;have⟨⟨B,Q⟩,K⟩:=I;have B:=Nl0 B;have Q:=Nl0 Q;have K:=Nb0 K;have⟨z1,z2,z3⟩:=Qe S;split at q
   .rename_i cs W;cases q
    have D:((Array.range (n*sz)).map (z.cells[· % z.cells.size]!)).toList=ZcK z.cells.toList n:=by
     rw[<-Zhx z.cells n,show z.cells.size=sz by rw[<-K];simp]
    have⟨out',o1,o2⟩:=ZfC (fun i=>some (i*sz,sz)) A l _ ((Array.range (n*sz)).map (z.cells[· % z.cells.size]!)) cs V T (by rw[D];exact LR.scalar (ZcJ z2 n)) W;refine⟨_,World.push w (.cells out' e),Zaj _,Zc0 r sz o2 ⟨[],by simp⟩,.slice (some ⟨w.heap.size,0,none⟩) n n,?_,?_⟩
    .have:=VR.slice (ρ:=ρ.add h.size (w.heap.size,0) (out'.size,sz)) 0 n (2*n) n (Ren.add_same ρ h.size _ _) (U0 _ 0 _ _ (by
      have:n*1<=n*sz:=Nat.mul_le_mul_left _ B;omega)).1
     simpa using this
    have y:¬ (16777216<n*sz):=Vb;by_cases X:n*sz=0
    .have F:n=0:=by
      rcases Nat.eq_zero_or_pos n with G|G
      .exact G
      have:=Nat.mul_pos G B;omega
     subst F;have L:Array.range 0=#[]:=rfl;have C:Instr.fill (fun i=>some (i*sz,sz)) #[] l=some out':=by rw[Nat.zero_mul,L]at o1;simpa using o1
     simp[Instr.buildSlice,run_underlying hu,run_sizeOf x,L,C,newRow];rfl
    simp[Instr.buildSlice,run_underlying hu,run_sizeOf x,y,X,z1,o1,newRow];rfl
   cases q
  cases q
 cases q
def ZEF(P:V2)(h:H)(t:J)(l c:N):O (N×Eff):=
 match P.underlying t,ZiO l,ZiO c with
 | some (.slice e),some l,some c=>match YO P e,ZpW P e,Y5 P e with
   | some sz,some by_,some z=>
     bif Nat.ble 1 sz&&Nat.ble 1 by_&&Nat.ble l c&&Nat.ble (by_*c) 100000&&Nat.beq z.cells.toList.length sz then
      some (.slice (some ⟨h.size,0,none⟩) l (2*c),.new (.row (ZcK z.cells.toList c) true sz))
     else none
   | _,_,_=>none
 | _,_,_=>none
def Zqy{k:Nat}(h:k<=100000):IntKind.i64.wrap (k:Int)=k:=by rw[IntKind.wrap_i64];omega
def Zt4{t:J}{l T c c' v:N}{E:Eff}(r:Rel ρ h w)(hl:VR ρ l T)(hc:VR ρ c c')(q:ZEF P h t l c=some (v,E)):
 X6 P ρ h w (do pure (.value (<-Instr.makeSlice t T c'))) (.val v) E:=by
 unfold ZEF at q;split at q
 .rename_i e l c hu e1 e2;obtain⟨q1,rfl⟩:=J6 hl e1;obtain⟨q2,rfl⟩:=J6 hc e2;split at q
  .rename_i sz x z B p hz;cases F:(Nat.ble 1 sz&&Nat.ble 1 x&&Nat.ble l c&&Nat.ble (x*c) 100000&&Nat.beq z.cells.toList.length sz)<;>rw[F]at q;.simp at q
   simp only[Cq1]at q;cases q;rw[Ba0,Ba0,Ba0,Ba0]at F;obtain⟨⟨⟨⟨X,K⟩,W⟩,V⟩,I⟩:=F;have X:=Nl0 X;have K:=Nl0 K;have W:=Nl0 W;have V:=Nl0 V;have I:=Nb0 I;have hcb:c<=x*c:=Nat.le_mul_of_pos_left c K;have⟨z1,z2,z3⟩:=Qe hz;unfold ZpW at p;cases G:P.info? e with|none=>rw[G]at p;cases p|some y=>
     rw[G]at p;simp only[GY,Gj]at p;have A:(typeInfo e).run P w=.ok y w:=by simp[typeInfo,G]
     have D:((Array.range (c*sz)).map (z.cells[· % z.cells.size]!)).toList=ZcK z.cells.toList c:=by
      rw[<-Zhx z.cells c,show z.cells.size=sz by rw[<-I];simp]
     refine⟨_,World.push w (.cells ((Array.range (c*sz)).map (z.cells[· % z.cells.size]!)) e),Zaj _,Zc0 r (rest:=ZcK z.cells.toList c) sz (LR.scalar (ZcJ z2 c)) ⟨[],by rw[D,Ge]⟩,.slice (some ⟨w.heap.size,0,none⟩) l c,?_,?_⟩;.have:=VR.slice (ρ:=ρ.add h.size (w.heap.size,0) (((Array.range (c*sz)).map (z.cells[· % z.cells.size]!)).size,sz)) 0 l (2*c) c (Ren.add_same ρ h.size _ _) (U0 _ 0 _ _ Vb).1;simpa using this
     have L:=Zqy (k:=l) Vb;have w2:=Zqy (k:=c) Vb
     have S:¬ (281474976710656<(y.bytes:Int)*(c:Int)):=by
      rw[p];have:((x*c:Nat):Int)<=100000:=Vb;push_cast at this;omega
     have Q:¬ (((c:Int)<0\/(l:Int)<0)\/c<l):=Vb;by_cases C:c*sz=0;.have e0:Array.range 0=#[]:=rfl;simp[Instr.makeSlice,asInt,asIntOf,run_underlying hu,run_sizeOf B,A,L,w2,S,C,e0,newRow];rw[if_neg Q];rfl
     simp[Instr.makeSlice,asInt,asIntOf,run_underlying hu,run_sizeOf B,A,L,w2,S,C,z1,newRow];rw[if_neg Q];rfl
  cases q
 cases q
end
end Go.ZU
end
end
