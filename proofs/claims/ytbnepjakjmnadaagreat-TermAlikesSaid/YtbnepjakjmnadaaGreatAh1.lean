/- Part 1. -/
import Derived.RangeFuncLeaves
import Derived.RangeFuncCalls
import Derived.Laws.Cells
import Derived.Laws.CopyRow
import Derived.Laws.Entries
import Derived.Laws.World
import Derived.OrdersIn
import Derived.DefersIn
import Derived.RecoverIn
import Derived.KernelRfl
import Derived.Below
import Derived.Laws.IdiomRangeMap
import Derived.Scope
import Derived.TacticsIn
import Derived.FollowTie
set_option linter.all false
set_option maxHeartbeats 2000000
abbrev Go.U:=@List
abbrev Go.O:=@Option
abbrev Go.Y:=@ByteArray
abbrev Go.N:=@Value
abbrev Go.Z:=@Bool
abbrev Go.J:=@TypeId
abbrev Go.GV:=@Operand
abbrev Go.GW:=@Program
abbrev Go.GX:=@FuncId
abbrev Go.GY:=@World
abbrev Go.GZ:=@Array
abbrev Go.V0:=@MapEntry
abbrev Go.V2:=@Deferred
abbrev Go.V3:Value:=.slice none 0 0
abbrev Go.V4(n:Int):Value:=.int .i64 n
abbrev Go.V5(b:Nat):Value:=.pointer (some ⟨b,0,none⟩)
def Go.V6{p:Prop}(h:p:=by omega):p:=h
def Go.V7{n:Nat}:n<=n:=Nat.le_refl n
def Go.Vd{p:Prop}(h:p:=by simp):p:=h
def Go.Ve{p:Prop}(h:p:=by exact rfl):p:=h
def Go.Vf{p:Prop}(h:p:=by simp;omega):p:=h
def Go.K1:=@List.length_append
def Go.K2:=@Nat.le_refl
def Go.Kd:=@List.length_cons
def Go.Kf:=@List.flatMap_cons
def Go.Ks:=@List.mem_cons
def Go.Kx:=@List.mem_cons_of_mem
def Go.KB:=@List.all_eq_true
def Go.KK:=@Nat.le_trans
def Go.Q1:=@Bool.not_true
def Go.Q2:=@List.not_mem_nil
def Go.Q3:=@Array.getD_eq_getD_getElem?
def Go.Q4:=@List.append_assoc
def Go.QP:=@List.length_map
def Go.QQ:=@List.flatMap_append
def Go.J0:=@List.mem_append
def Go.J1:=@Nat.lt_of_lt_of_le
def Go.Jn:=@Array.getElem?_eq_some_iff
def Go.Jx:=@List.nil_append
def Go.JT:=@List.map_cons
def Go.G0:=@List.mem_flatMap
def Go.G2:=@Option.some.injEq
def Go.G3:=@Bool.true_and
def Go.G4:=@List.getElem?_eq_getElem
def Go.G5:=@Nat.blt_eq
def Go.G6:=@Nat.zero_add
def Go.G7:=@List.getElem?_eq_none
def Go.G8:=@List.append_nil
def Go.G9:=@Bool.not_false
def Go.Gc:=@Array.length_toList
def Go.Gd:=@List.eq_nil_of_length_eq_zero
def Go.Ge:=@List.mem_map
def Go.Gf:=@List.mem_singleton
def Go.Gg:=@Array.getElem?_toList
def Go.Gh:=@List.foldl_cons
def Go.Gi:=@List.mem_map_of_mem
def Go.Gj:=@Bool.or_eq_false_iff
def Go.Gk:=@Bool.false_or
def Go.Gl:=@Nat.lt_or_ge
def Go.Gm:=@Bool.eq_false_iff
def Go.Gn:=@Array.getElem?_eq_getElem
def Go.Gp:=@Bool.false_and
def Go.Gq:=@Nat.zero_le
def Go.Gs:=@Result.andThen_ok
def Go.Gt:=@List.length_take
def Go.Gu:=@Bool.eq_iff_iff
def Go.Gv:=@List.getD_eq_getElem?_getD
def Go.Gx:=@List.cons_append
def Go.Gy:=@List.mem_iff_getElem?
def Go.Gz:=@List.mem_append_right
def Go.GA:=@List.mem_cons_self
def Go.GB:=@List.getElem?_of_mem
def Go.GC:=@List.length_drop
def Go.GD:=@List.getElem?_map
def Go.GE:=@List.foldl_append
def Go.GF:=@List.length_nil
def Go.GG:=@List.getElem_mem
def Go.GH:=@List.mem_append_left
def Go.GI:=@Nat.add_assoc
def Go.GJ:=@Option.isSome_iff_exists
def Go.GK:=@List.length_singleton
def Go.GL:=@List.contains_iff_mem
def Go.GM:=@Bool.or_eq_true
def Go.GN:=@List.mem_range
def Go.GO:=@List.ext_getElem?
def Go.GP:=@Nat.mul_le_mul_right
def Go.GQ:=@List.map_append
def Go.GR:=@List.any_eq_true
def Go.GS:=@List.getElem?_drop
def Go.GT:=@List.map_nil
def Go.GU:=@Array.getElem?_eq_none
def Go.Ba0(a b:Z):((a&&b)=true)=(a=true/\b=true):=Bool.and_eq_true a b
def Go.Nm0{n m:Nat}(h:n≤m):Nat.ble n m=true:=Nat.ble_eq_true_of_le h
def Go.Nl0{n m:Nat}(h:Nat.ble n m=true):n≤m:=Nat.le_of_ble_eq_true h
def Go.Nb0{n m:Nat}(h:Nat.beq n m=true):n=m:=Nat.eq_of_beq_eq_true h
def Go.Oi0{l:Type _}{a b:l}(h:some a=some b):a=b:=Option.some.inj h
def Go.Bq0{h:Type _}{β:Type _}{a:h}{f:h->O β}:(some a).bind f=f a:=rfl
def Go.Cq1{h:Sort _}{a b:h}:(bif true then a else b)=a:=rfl
def Go.Cq0{h:Sort _}{a b:h}:(bif false then a else b)=b:=rfl
noncomputable section
namespace Go.Z9
variable{L b c c' d i k m n o:Nat}{l:Nat×Nat}{α:Type}
inductive Tr(α:Type) where
 | nil
 | node (v:Option α) (l r:Tr α)
def Tr.get(t:Tr α):Nat->O α:=
 Tr.rec (motive:=fun _=>Nat->O α) (fun _=>none) (fun v _ _ l h n=>Bool.rec (motive:=fun _=>O α) (Bool.rec (motive:=fun _=>O α) (h (Nat.sub (Nat.div n 2) 1)) (l (Nat.div n 2)) (Nat.beq (Nat.mod n 2) 1)) v (Nat.beq n 0)) t
def Tr.val{h:Type}:Tr h->O h
 | .nil=>none
 | .node v _ _=>v
def Tr.left{h:Type}:Tr h->Tr h
 | .nil=>.nil
 | .node _ l _=>l
def Tr.right{h:Type}:Tr h->Tr h
 | .nil=>.nil
 | .node _ _ r=>r
def Tr.Zkp(x:α)(f:Nat):Tr α->Nat->Tr α:=
 Nat.rec (motive:=fun _=>Tr α->Nat->Tr α) (fun t _=>t)
  (fun _ ih t n=>Tr.rec (motive:=fun _=>Tr α)
    (Bool.rec (motive:=fun _=>Tr α) (Bool.rec (motive:=fun _=>Tr α) (.node none .nil (ih .nil (Nat.sub (Nat.div n 2) 1))) (.node none (ih .nil (Nat.div n 2)) .nil) (Nat.beq (Nat.mod n 2) 1)) (.node (some x) .nil .nil) (Nat.beq n 0))
    (fun v l r _ _=>Bool.rec (motive:=fun _=>Tr α) (Bool.rec (motive:=fun _=>Tr α) (.node v l (ih r (Nat.sub (Nat.div n 2) 1))) (.node v (ih l (Nat.div n 2)) r) (Nat.beq (Nat.mod n 2) 1)) (.node (some x) l r) (Nat.beq n 0)) t) f
def Tr.ZiK{p:Type}(x:p)(f:Nat)(t:Tr p)(n:Nat):Tr.Zkp x (f+1) t n=bif Nat.beq n 0 then .node (some x) t.left t.right else bif Nat.beq (n % 2) 1 then .node t.val (Tr.Zkp x f t.left (n / 2)) t.right else .node t.val t.left (Tr.Zkp x f t.right (n / 2-1)):=by cases t with|nil=>cases h:Nat.beq n 0<;>cases h2:Nat.beq (n % 2) 1<;>simp[Tr.Zkp,h,Cq1,Cq0,Tr.left,Tr.right,Tr.val]<;>(have m:Nat.beq (Nat.mod n 2) 1=_:=h2;rw[m];rfl)|node v l r=>cases h:Nat.beq n 0<;>cases h2:Nat.beq (n % 2) 1<;>simp[Tr.Zkp,h,Cq1,Cq0,Tr.left,Tr.right,Tr.val]<;>(have m:Nat.beq (Nat.mod n 2) 1=_:=h2;rw[m];rfl)
def Tr.set(t:Tr α)(n:Nat)(x:α):Tr α:=Tr.Zkp x (n+1) t n
def Uz(a b:Nat):Nat.beq a b=decide (a=b):=by rw[Gu,decide_eq_true_iff];exact Nat.beq_eq▸Iff.rfl
def Tr.ZEn{h:Type}(v:O h)(l r:Tr h)(n:Nat):(Tr.node v l r).get n=bif Nat.beq n 0 then v else bif Nat.beq (n % 2) 1 then l.get (n / 2) else r.get (n / 2-1):=by have e:(Tr.node v l r).get n=Bool.rec (motive:=fun _=>O h) (Bool.rec (motive:=fun _=>O h) (r.get (Nat.sub (Nat.div n 2) 1)) (l.get (Nat.div n 2)) (Nat.beq (Nat.mod n 2) 1)) v (Nat.beq n 0):=rfl;have q:Nat.mod n 2=n % 2:=rfl;have p:Nat.div n 2=n / 2:=rfl;have m:Nat.sub (n / 2) 1=n / 2-1:=rfl;rw[e,q,p,m];cases Nat.beq n 0<;>cases Nat.beq (n % 2) 1<;>rfl
def Tr.get_eq{m:Type}(t:Tr m)(n:Nat):t.get n=if n=0 then t.val else if n % 2=1 then t.left.get (n / 2) else t.right.get (n / 2-1):=by
 cases t with|nil=>simp[Tr.get,Tr.val,Tr.left,Tr.right]|node v l r=>
   rw[Tr.ZEn];by_cases h:n=0;.subst h;rfl
   by_cases h2:n % 2=1<;>simp[Tr.left,Tr.right,Uz,h,h2]
def Tr.Zhn{h:Type}(v:O h)(l r:Tr h)(n:Nat):(Tr.node v l r).get n=if n=0 then v else if n % 2=1 then l.get (n / 2) else r.get (n / 2-1):=
 Tr.get_eq (.node v l r) n
def Tr.ZEm{r:Type}(x:r):∀(f:Nat)(t:Tr r)(n m:Nat),n<f->(Tr.Zkp x f t n).get m=if m=n then some x else t.get m:=by
 intro f
 induction f with|zero=>intro t n m h;omega|succ f ih=>
   intro t n m h;rw[Tr.get_eq t m];by_cases hn:n=0
   .subst hn;have e:Zkp x (f+1) t 0=.node (some x) t.left t.right:=by rw[Tr.ZiK];rfl
    rw[e,Tr.Zhn];by_cases p:m=0;.rw[if_pos p,if_pos p]
    rw[if_neg p,if_neg p,if_neg p]
   by_cases h2:n % 2=1
   .have e:Zkp x (f+1) t n=.node t.val (Zkp x f t.left (n / 2)) t.right:=by simp[Tr.ZiK,Uz,hn,h2]
    rw[e,Tr.Zhn,ih t.left (n / 2) (m / 2) V6];by_cases p:m=0;.rw[if_pos p,if_pos p,if_neg V6]
    rw[if_neg p,if_neg p];by_cases l:m % 2=1
    .rw[if_pos l,if_pos l];by_cases q:m=n;.rw[if_pos q,if_pos V6]
     rw[if_neg q,if_neg V6]
    rw[if_neg l,if_neg l,if_neg V6]
   have e:Zkp x (f+1) t n=.node t.val t.left (Zkp x f t.right (n / 2-1)):=by simp[Tr.ZiK,Uz,hn,h2]
   rw[e,Tr.Zhn,ih t.right (n / 2-1) (m / 2-1) V6];by_cases p:m=0;.rw[if_pos p,if_pos p,if_neg V6]
   rw[if_neg p,if_neg p];by_cases l:m % 2=1;.rw[if_pos l,if_pos l,if_neg V6]
   rw[if_neg l,if_neg l];by_cases q:m=n;.rw[if_pos q,if_pos V6]
   rw[if_neg q,if_neg V6]
def Tr.Qt{h:Type}(t:Tr h)(n m:Nat)(x:h):(t.set n x).get m=if m=n then some x else t.get m:=
 Tr.ZEm x (n+1) t n m V6
def scalar:Value->Bool
 | .bool _ | .int _ _ | .float _ _ | .complex _ _ _ | .string _ | .pointer none | .slice none 0 0 | .map none | .chan none | .nilFunc | .nilIface=>true
 | _=>false
def plain:N->Z
 | .agg cs=>cs.toList.all scalar
 | .tuple cs=>cs.toList.all scalar
 | .iface _ (.agg cs)=>cs.toList.all scalar
 | .iface _ v=>scalar v
 | v=>scalar v
structure Ren where
 loc:Nat->Option (Nat×Nat)
 lim:Nat->Nat×Nat
instance:CoeFun Ren (fun _=>Nat->Option (Nat×Nat)):=⟨Ren.loc⟩
def ZWU(c c' x:Nat)(l:Nat×Nat):Prop:=c'<=9223372036854775807/\if c % 2=0 then c'=c / 2 else c / 2<=c'/\x+c'*l.2<=l.1
inductive VR(ρ:Ren):Value->Value->Prop
 | bool (b:Bool):VR ρ (.bool b) (.bool b)
 | int (k:IntKind) (n:Int):VR ρ (.int k n) (.int k n)
 | float (k:FloatKind) (b:Nat):VR ρ (.float k b) (.float k b)
 | complex (k:FloatKind) (a b:Nat):VR ρ (.complex k a b) (.complex k a b)
 | string (s:ByteArray):VR ρ (.string s) (.string s)
 | Zz8:VR ρ (.pointer none) (.pointer none)
 | ptr {i b d:Nat} (o:Nat) (h:ρ i=some (b,d)):VR ρ (.pointer (some ⟨i,o,none⟩)) (.pointer (some ⟨b,d+o,none⟩))
 | Zad:VR ρ (.slice none 0 0) (.slice none 0 0)
 | slice {i b d:Nat} (o n c c':Nat) (h:ρ i=some (b,d)) (hc:ZWU c c' (d+o) (ρ.lim i)):VR ρ (.slice (some ⟨i,o,none⟩) n c) (.slice (some ⟨b,d+o,none⟩) n c')
 | QX {i b d:Nat} (o o' c:Nat) (h:ρ i=some (b,d)) (hc:c<=1):VR ρ (.slice (some ⟨i,o,none⟩) 0 c) (.slice (some ⟨b,o',none⟩) 0 0)
 | U8 (a:Addr):VR ρ (.slice (some ⟨0,0,some 0⟩) 0 0) (.slice (some a) 0 0)
 | ZAj:VR ρ (.map none) (.map none)
 | map {i b:Nat} (h:ρ i=some (b,0)):VR ρ (.map (some i)) (.map (some b))
 | ZpB:VR ρ (.chan none) (.chan none)
 | nilFunc:VR ρ .nilFunc .nilFunc
 | nilIface:VR ρ .nilIface .nilIface
 | func (fn:Fn) (xs ys xs' ys':Array Value) (hf:∀l,fn≠.yield l) (hx:xs.size=xs'.size) (hy:ys.size=ys'.size)
    (h1:∀(i:Nat)(v v':Value),xs[i]? =some v->xs'[i]? =some v'->VR ρ v v') (h2:∀(i:Nat)(v v':Value),ys[i]? =some v->ys'[i]? =some v'->VR ρ v v'):
    VR ρ (.func fn xs ys) (.func fn xs' ys')
 | yield {i b:Nat} (h:ρ i=some (b,0)):VR ρ (.func (.yield i) #[] #[]) (.func (.yield b) #[] #[])
 | iface (t:TypeId) (v v':Value) (h:VR ρ v v'):VR ρ (.iface t v) (.iface t v')
 | agg (xs xs':Array Value) (hx:xs.size=xs'.size) (h:∀(i:Nat)(v v':Value),xs[i]? =some v->xs'[i]? =some v'->VR ρ v v'):VR ρ (.agg xs) (.agg xs')
 | tuple (xs xs':Array Value) (hx:xs.size=xs'.size) (h:∀(i:Nat)(v v':Value),xs[i]? =some v->xs'[i]? =some v'->VR ρ v v'):VR ρ (.tuple xs) (.tuple xs')
def UE(ρ:Ren)(xs h:GZ N):Prop:=xs.size=h.size/\∀(i:Nat)(v v':N),xs[i]? =some v->h[i]? =some v'->VR ρ v v'
def Ren.le(ρ h:Ren):Prop:=∀i p,ρ i=some p->h i=some p/\h.lim i=ρ.lim i
def Ren.le_refl(ρ:Ren):ρ.le ρ:=fun _ _ h=>⟨h,rfl⟩
def Ren.le_trans{a b c:Ren}(h:a.le b)(k:b.le c):a.le c:=fun i p e=>⟨(k i p (h i p e).1).1,(k i p (h i p e).1).2.trans (h i p e).2⟩
def VR.mono{ρ p:Ren}(m:ρ.le p){v v':N}(h:VR ρ v v'):VR p v v':=by induction h with|bool b=>exact .bool b|int k n=>exact .int k n|float k b=>exact .float k b|complex k a b=>exact .complex k a b|string s=>exact .string s|Zz8=>exact .Zz8|ptr o h=>exact .ptr o (m _ _ h).1|Zad=>exact .Zad|slice o n c c' h x=>exact .slice o n c c' (m _ _ h).1 (by rw[(m _ _ h).2];exact x)|QX o y c h x=>exact .QX o y c (m _ _ h).1 x|U8 a=>exact .U8 a|ZAj=>exact .ZAj|map h=>exact .map (m _ _ h).1|ZpB=>exact .ZpB|nilFunc=>exact .nilFunc|nilIface=>exact .nilIface|func fn xs ys l r D q C _ _ B A=>exact .func fn xs ys l r D q C B A|yield h=>exact .yield (m _ _ h).1|iface t v v' _ ih=>exact .iface t v v' ih|agg xs l q _ ih=>exact .agg xs l q ih|tuple xs l q _ ih=>exact .tuple xs l q ih
def UE.mono{ρ l:Ren}(m:ρ.le l){xs xs':GZ N}(h:UE ρ xs xs'):UE l xs xs':=
 ⟨h.1,fun i v v' a b=>(h.2 i v v' a b).mono m⟩
def VR.Jl{ρ:Ren}{v:Value}(h:scalar v=true):VR ρ v v:=by unfold scalar at h;split at h<;>first | (simp at h;done) | constructor
def VR.KA{ρ:Ren}{v v':Value}(h:scalar v=true)(hv:VR ρ v v'):v'=v:=by cases hv<;>first|rfl | (simp[scalar]at h)
def UE.Jl{ρ:Ren}{xs:GZ N}(h:xs.toList.all scalar=true):UE ρ xs xs:=by refine⟨rfl,fun i v v' a b=>?_⟩;rw[a]at b;cases b;refine VR.Jl ?_;rw[KB]at h;exact h v (Array.mem_toList_iff.2 (Array.mem_of_getElem? a))
def UE.KA{ρ:Ren}{xs l:GZ N}(h:xs.toList.all scalar=true)(hv:UE ρ xs l):l=xs:=by rw[KB]at h;apply Array.ext hv.1.symm;intro i h1 h2;exact VR.KA (h _ (Array.mem_toList_iff.2 (Array.getElem_mem h2))) (hv.2 i _ _ (Gn h2) (Gn h1))
def VR.Yk{ρ:Ren}{v:N}(h:plain v=true):VR ρ v v:=by
 unfold plain at h;split at h;.exact .agg _ _ rfl (UE.Jl h).2
 .exact .tuple _ _ rfl (UE.Jl h).2
 .exact .iface _ _ _ (.agg _ _ rfl (UE.Jl h).2)
 .exact .iface _ _ _ (VR.Jl h)
 exact VR.Jl h
def VR.XA{ρ:Ren}{v v':N}(h:plain v=true)(hv:VR ρ v v'):v'=v:=by
 unfold plain at h;split at h;.cases hv with|agg _ xs' hx hh=>rw[UE.KA h ⟨hx,hh⟩]
 .cases hv with|tuple _ xs' hx hh=>rw[UE.KA h ⟨hx,hh⟩]
 .cases hv with|iface _ _ v' hh=>cases hh with|agg _ xs' hx hh=>rw[UE.KA h ⟨hx,hh⟩]
 .cases hv with|iface _ _ v' hh=>rw[VR.KA h hh]
 exact VR.KA h hv
def UE.one{ρ:Ren}{v v':N}(h:VR ρ v v'):UE ρ #[v] #[v']:=by refine⟨rfl,fun i a b e l=>?_⟩;cases i with|zero=>simp at e l;subst e l;exact h|succ i=>simp at e
def VR.cells{ρ:Ren}{v v':N}(h:VR ρ v v'):UE ρ v.cells v'.cells:=by cases h with|agg xs l m y=>exact⟨m,y⟩|bool b=>exact UE.one (.bool b)|int k n=>exact UE.one (.int k n)|float k b=>exact UE.one (.float k b)|complex k a b=>exact UE.one (.complex k a b)|string s=>exact UE.one (.string s)|Zz8=>exact UE.one .Zz8|ptr o h=>exact UE.one (.ptr o h)|Zad=>exact UE.one .Zad|slice o n c c' h q=>exact UE.one (.slice o n c c' h q)|QX o r c h q=>exact UE.one (.QX o r c h q)|U8 a=>exact UE.one (.U8 a)|ZAj=>exact UE.one .ZAj|map h=>exact UE.one (.map h)|ZpB=>exact UE.one .ZpB|nilFunc=>exact UE.one .nilFunc|nilIface=>exact UE.one .nilIface|func fn xs ys l p A m x h1 h2=>exact UE.one (.func fn xs ys l p A m x h1 h2)|yield h=>exact UE.one (.yield h)|iface t v v' h=>exact UE.one (.iface t v v' h)|tuple xs l m h=>exact UE.one (.tuple xs l m h)
def VR.undef(ρ:Ren):VR ρ undef undef:=VR.Yk (by rfl)
abbrev Fr:=Tr N
def Fr.at(fr:Fr)(t:Nat):N:=(Tr.get fr t).getD undef
def Qv(v:N):Z:=
 match v with|.chan (some _)=>true|_=>false
def ZrR:N:=.chan (some 0)
structure FrR(ρ:Ren)(fr:Fr)(n:Nat)(tmps:Array Value):Prop where
 size:tmps.size=n
 val:∀t,Qv (fr.at t)=false->VR ρ (fr.at t) (tmps.getD t undef)
def FrR.mono{ρ l:Ren}(p:ρ.le l){fr:Fr}{tmps:GZ N}(h:FrR ρ fr n tmps):FrR l fr n tmps:=
 ⟨h.size,fun t m=>(h.val t m).mono p⟩
def FrR.set{ρ:Ren}{fr:Fr}{l:GZ N}(h:FrR ρ fr n l){v v':N}(r:d<n)(hv:VR ρ v v'):
 FrR ρ (Tr.set fr d v) n (l.setIfInBounds d v'):=by
 refine⟨by simp[h.size],fun t=>?_⟩;unfold Fr.at;rw[Tr.Qt];by_cases m:t=d
 .subst m;have q:t<l.size:=by rw[h.size];exact r
  intro _;simpa[Q3,q]using hv
 have:=h.val t;unfold Fr.at at this;have p:d≠t:=fun e=>m e.symm;simpa[m,Q3,Array.getElem?_setIfInBounds,p]using this
inductive YN where
 | row (cs:List Value) (own:Bool) (sz:Nat)
 | map (es:List MapEntry) (clock:Nat)
 | loop (state:LoopState) (pending:Option Code) (fr:Fr) (n:Nat) (params:Array Tmp) (assign body:Code) (defers:Nat)
 | deferred
 | ZgT (s:ByteArray) (pos:Nat)
 | iter (m since QW:Nat) (at_:Option Nat)
 | ZkF
 | box (m:Nat)
 | ZdK (f:ByteArray->Option Bool)
 | Zym (m since QW s:Nat)
 | dead
def YN.own:YN->Z
 | .row _ o _=>o
 | .dead=>false
 | .box _=>false
 | .Zym .. =>false
 | _=>true
def YN.live:YN->Z
 | .dead=>false
 | _=>true
inductive EL(ρ:Ren):List MapEntry->List MapEntry->Prop
 | nil:EL ρ [] []
 | cons {e e':MapEntry} {es es':List MapEntry} (hk:e'.key=e.key) (hp:plain e.key=true) (hb:e'.born=e.born) (hv:VR ρ e.val e'.val) (t:EL ρ es es'):EL ρ (e::es) (e'::es')
def EL.mono{ρ l:Ren}(m:ρ.le l){es es':U V0}(h:EL ρ es es'):EL l es es':=by induction h with|nil=>exact .nil|cons q p r hv _ ih=>exact .cons q p r (hv.mono m) ih
def EsR(ρ:Ren)(es:U V0)(es':GZ V0):Prop:=EL ρ es es'.toList
def nfs:Nat:=203
def base:Fence:= {fn:=fun f=>f<nfs,depth:=none,alive:=false}
def ZiM(n:Nat):base.room n:=fun _ h=>by cases h
def fnd(s:Y):U V0->O Z
 | []=>none
 | e::l=>match e.key,e.val with|.string t,.bool b=>bif s==t then some b else fnd s l|_,_=>none
def KS(f:Y->O Z)(l:U V0):Prop:=(∀e∈l,∃s b,e.key=.string s/\e.val=.bool b)/\∀s,fnd s l=f s
def Jr(ρ:Ren)(w:GY)(b d:Nat)(l:Nat×Nat):YN->Prop
 | .row cs own C=>∃y A fz,w.heap[b]? =some (.cells y A fz)/\(own=true->fz=(0,0)/\(0<C->l=(y.size,C)))/\d+cs.length<=y.size/\∀(k:Nat)(v v':N),cs[k]? =some v->y[d+k]? =some v'->VR ρ v v'
 | .map es t=>d=0/\∃es',w.heap[b]? =some (.map es' t)/\EsR ρ es es'
 | .loop D F fr n E YK I G=>d=0/\∃fn tmps x,w.heap[b]? =some (.loop {state:=D,pending:=F,fn:=fn,tmps:=tmps,params:=E,assign:=YK,body:=I,defers:=x})/\FrR ρ fr n tmps/\ρ G=some (x,0)/\fn<nfs
 | .deferred=>d=0/\w.heap[b]? =some (.deferred (some []))
 | .ZgT s p=>d=0/\w.heap[b]? =some (.stringIter s p)
 | .iter m q B at_=>d=0/\∃r h,ρ m=some (r,0)/\w.heap[b]? =some (.mapIter (some r) q h B)/\(∀s,at_=some s->h.back? =some s)/\(at_=none->h=#[])
 | .ZkF=>d=0/\w.heap[b]? =some (.mapIter none 0 #[] 0)
 | .box m=>d=0/\∃r A,ρ m=some (r,0)/\w.heap[b]? =some (.cells #[.map (some r)] A (0,0))
 | .Zym m q B s=>d=0/\∃r h,ρ m=some (r,0)/\w.heap[b]? =some (.mapIter (some r) q h B)/\h.back? =some s
 | .ZdK f=>d=0/\∃es' c,w.heap[b]? =some (.map es' c)/\KS f es'.toList
 | .dead=>True
def Jr.mono{ρ B:Ren}(r:ρ.le B){w:GY}{A:YN}(h:Jr ρ w b d l A):Jr B w b d l A:=by
 cases A with
 | row cs own E=>
   have⟨cc,el,fz,a,b,c,e⟩:=h;exact⟨cc,el,fz,a,b,c,fun k v v' x y=>(e k v v' x y).mono r⟩
 | map es C=>
   have⟨a,es',b,c⟩:=h;exact⟨a,es',b,EL.mono r c⟩
 | loop F I fr n G YK L K=>
   have⟨a,f,t,d',b,c,e,nf⟩:=h;exact⟨a,f,t,d',b,c.mono r,(r _ _ e).1,nf⟩
 | deferred=>exact h
 | ZgT s p=>exact h
 | iter m q D at_=>
   have⟨a,m',seen,b,c⟩:=h;exact⟨a,m',seen,(r _ _ b).1,c⟩
 | ZkF=>exact h
 | box m=>
   have⟨a,m',el,b,c⟩:=h;exact⟨a,m',el,(r _ _ b).1,c⟩
 | ZdK f=>exact h
 | Zym m q D s=>
   have⟨a,m',seen,b,c⟩:=h;exact⟨a,m',seen,(r _ _ b).1,c⟩
 | dead=>trivial
def Jr.world{ρ:Ren}{w w':GY}{A:YN}(h:Jr ρ w b d l A)(m:w'.heap[b]? =w.heap[b]?):Jr ρ w' b d l A:=by cases A<;>simp[Jr,m]at h ⊢ <;> exact h
structure H where
 tr:Tr YN
 size:Nat
def H.at(h:H)(i:Nat):YN:=bif Nat.blt i h.size then(h.tr.get i).getD .dead else .dead
def H.put(h:H)(i:Nat)(A:YN):H:= {h with tr:=h.tr.set i A}
def H.push(h:H)(A:YN):H:= {tr:=h.tr.set h.size A,size:=h.size+1}
@[simp] def H.size_put(h:H)(i:Nat)(A:YN):(h.put i A).size=h.size:=rfl
@[simp] def H.size_push(h:H)(A:YN):(h.push A).size=h.size+1:=rfl
def H.Zeg{h:H}(l:h.size<=i):h.at i=.dead:=by
 have:Nat.blt i h.size=false:=by
  rw[Gm];intro e;rw[G5]at e;omega
 simp[H.at,this]
def H.QC(h:H)(i j:Nat)(A:YN):(h.put i A).at j=if j=i/\j<h.size then A else h.at j:=by
 by_cases l:j<h.size
 .have m:Nat.blt j h.size=true:=by rw[G5];exact l
  by_cases e:j=i;.subst e;simp[H.at,H.put,Tr.Qt,m,l]
  simp[H.at,H.put,Tr.Qt,m,e]
 rw[if_neg (fun x=>l x.2),H.Zeg (Nat.le_of_not_lt l),H.Zeg (h:=h.put i A) (Nat.le_of_not_lt l)]
def H.QZ(h:H)(j:Nat)(A:YN):(h.push A).at j=if j=h.size then A else h.at j:=by
 by_cases p:j<h.size
 .have q:Nat.blt j h.size=true:=by rw[G5];exact p
  have l:Nat.blt j (h.size+1)=true:=by rw[G5];omega
  have m:j≠h.size:=V6;simp[H.at,H.push,Tr.Qt,q,l,m]
 by_cases e:j=h.size
 .subst e;have l:Nat.blt h.size (h.size+1)=true:=by rw[G5];omega
  simp[H.at,H.push,Tr.Qt,l]
 rw[if_neg e,H.Zeg (Nat.le_of_not_lt p),H.Zeg (h:=h.push A) (by rw[H.size_push];omega)]
structure Rel(ρ:Ren)(h:H)(w:World):Prop where
 dom:∀i b d,ρ i=some (b,d)->i<h.size/\b<w.heap.size
 obj:∀i b d,ρ i=some (b,d)->Jr ρ w b d (ρ.lim i) (h.at i)
 inj:∀i j b d d',ρ i=some (b,d)->ρ j=some (b,d')->(h.at i).own=true->(h.at j).live=true->i=j
structure Stp(L:Nat)(ρ:Ren)(h:H)(w:World)(ρ':Ren)(h':H)(w':World):Prop where
 ext:ρ.le ρ'
 size:h.size<=h'.size
 keep:∀i,i<L->h'.at i=h.at i
 own:∀i,i<h.size->(h'.at i).own=true->(h.at i).own=true
 live:∀i,i<h.size->(h'.at i).live=true->(h.at i).live=true
 os:w'.os=w.os
 tape:w'.tape=w.tape
 output:w'.output=w.output
 X0:w.heap.size<=w'.heap.size
 frame:∀b,b<w.heap.size->(∀i d,L<=i->ρ i=some (b,d)->(h.at i).own=true->False)->w'.heap[b]? =w.heap[b]?
 Uu:∀i b d,ρ i=none->ρ' i=some (b,d)->h.size<=i/\(w.heap.size<=b\/∃j d',L<=j/\ρ j=some (b,d')/\(h.at j).own=true)
def Stp.refl(L:Nat)(ρ:Ren)(h:H)(w:GY):Stp L ρ h w ρ h w:=
 ⟨Ren.le_refl ρ,K2 _,fun _ _=>rfl,fun _ _ x=>x,fun _ _ x=>x,rfl,rfl,rfl,K2 _,fun _ _ _=>rfl,fun i b d e l=>by rw[e]at l;cases l⟩
def Stp.trans{ρ l ZBA:Ren}{h E r:H}{w w' q:GY}(D:∀i p,ρ i=some p->i<h.size)
 (a:Stp L ρ h w l E w') (b:Stp L l E w' ZBA r q):Stp L ρ h w ZBA r q where
 ext:=Ren.le_trans a.ext b.ext
 size:=KK a.size b.size
 keep i hi:=(b.keep i hi).trans (a.keep i hi)
 own i hi x:=a.own i hi (b.own i (J1 hi a.size) x)
 live i hi x:=a.live i hi (b.live i (J1 hi a.size) x)
 os:=b.os.trans a.os
 tape:=b.tape.trans a.tape
 output:=b.output.trans a.output
 X0:=KK a.X0 b.X0
 frame k hk hno:=by
  rw[b.frame k (J1 hk a.X0) ?_,a.frame k hk hno];intro i d hi C I;cases e:ρ i with
  | some p=>
    have m:=(a.ext _ _ e).1;rw[C]at m;cases m;exact hno i d hi e (a.own i (D _ _ e) I)
  | none=>
    rcases(a.Uu i k d e C).2 with h1|⟨j,A,h1,h2,K⟩
    .omega
    exact hno j A h1 h2 K
 Uu i k d e e'':=by
  cases m:l i with
  | some p=>
    have t:=(b.ext _ _ m).1;rw[e'']at t;cases t;exact a.Uu i k d e m
  | none=>
    have⟨h1,h2⟩:=b.Uu i k d m e'';refine⟨KK a.size h1,?_⟩;rcases h2 with h2|⟨j,A,G,B,F⟩
    .exact .inl (KK a.X0 h2)
    cases y:ρ j with
    | some p=>
      have t:=(a.ext _ _ y).1;rw[B]at t;cases t;exact .inr ⟨j,A,G,y,a.own j (D _ _ y) F⟩
    | none=>exact(a.Uu j k A y B).2
def Stp.below{ρ l:Ren}{h x:H}{w w':GY}(a:Stp L ρ h w l x w')(m:∀i b d,L<=i->ρ i=some (b,d)->(h.at i).own=true->False):
 RowKit.Below w.heap.size w w':=
 ⟨a.os,a.tape,a.output,a.X0,fun k r=>a.frame k r (fun i d t p q=>m i k d t p q)⟩
inductive Eff where
 | none
 | new (A:YN)
 | upd (i:Nat) (A:YN)
 | grow (i:Nat) (A:YN)
def Eff.apply(L:Nat)(h:H):Eff->O H
 | .none=>some h
 | .new A=>bif A.own then some (h.push A) else Option.none
 | .upd i A=>bif Nat.ble L i&&(h.at i).own then some (h.put i A) else Option.none
 | .grow i A=>bif Nat.ble L i&&(h.at i).own&&A.own then some ((h.put i .dead).push A) else Option.none
def Ren.add(ρ:Ren)(i:Nat)(p l:Nat×Nat):Ren:=⟨fun j=>if j=i then some p else ρ j,fun j=>if j=i then l else ρ.lim j⟩
def Ren.ZbK{ρ:Ren}{p:Nat×Nat}(h:ρ i=none):ρ.le (ρ.add i p l):=fun j q e=>by
 unfold Ren.add;by_cases m:j=i
 .subst m;rw[h]at e;cases e
 exact⟨by simpa[if_neg m]using e,by simp[if_neg m]⟩
def Ren.add_same(ρ:Ren)(i:Nat)(p l:Nat×Nat):ρ.add i p l i=some p:=by simp[Ren.add]
def Ren.Zc1(ρ:Ren)(i:Nat)(p l:Nat×Nat):(ρ.add i p l).lim i=l:=by simp[Ren.add]
def Ren.U7{ρ:Ren}{j:Nat}{p:Nat×Nat}(h:j≠i):ρ.add i p l j=ρ j/\(ρ.add i p l).lim j=ρ.lim j:=by simp[Ren.add,h]
structure Same(w w':World):Prop where
 os:w'.os=w.os
 tape:w'.tape=w.tape
 output:w'.output=w.output
def Eff.real(ρ:Ren)(h:H)(w:GY)(m:Ren)(w':GY):Eff->Prop
 | .none=>m=ρ/\w'.heap=w.heap
 | .new A=>∃l,m=ρ.add h.size (w.heap.size,0) l/\(∃o,w'.heap=w.heap.push o)/\Jr m w' w.heap.size 0 l A
 | .upd i A=>m=ρ/\∃b d,ρ i=some (b,d)/\w'.heap.size=w.heap.size/\(∀k,k≠b->w'.heap[k]? =w.heap[k]?)/\Jr m w' b d (ρ.lim i) A
 | .grow i A=>∃b d,ρ i=some (b,d)/\
     ((∃p l,m=ρ.add h.size (b,p) l/\w'.heap.size=w.heap.size/\(∀k,k≠b->w'.heap[k]? =w.heap[k]?)/\Jr m w' b p l A)\/
      (∃l,m=ρ.add h.size (w.heap.size,0) l/\(∃o,w'.heap=w.heap.push o)/\Jr m w' w.heap.size 0 l A))
def WT{A:YN}(h:A.own=true):A.live=true:=by cases A<;>simp_all[YN.own,YN.live]
def Ws{A:YN}(h:¬ A.live=true):A=.dead:=by cases A<;>simp_all[YN.live]
def ZdC{w w':GY}{o:Obj}(h:w'.heap=w.heap.push o)(l:k<w.heap.size):w'.heap[k]? =w.heap[k]?:=by rw[h,Array.getElem?_push,if_neg V6]
def Rel.fresh{ρ:Ren}{h:H}{w:GY}(r:Rel ρ h w):ρ h.size=none:=by cases e:ρ h.size with|none=>rfl|some p=>have:=(r.dom _ p.1 p.2 e).1;omega
def Zdw{ρ:Ren}{h:H}{w w':GY}{A:YN}{o:Obj}(r:Rel ρ h w)(Q:L<=h.size)(s:Same w w')(hw:w'.heap=w.heap.push o)
 (P:Jr (ρ.add h.size (w.heap.size,0) l) w' w.heap.size 0 l A):
 Rel (ρ.add h.size (w.heap.size,0) l) (h.push A) w'/\Stp L ρ h w (ρ.add h.size (w.heap.size,0) l) (h.push A) w':=by
 have C:=Ren.ZbK (p:=(w.heap.size,0)) (l:=l) r.fresh;have F:w'.heap.size=w.heap.size+1:=by rw[hw];simp
 have m:∀i b d,i≠h.size->(ρ.add h.size (w.heap.size,0) l) i=some (b,d)->ρ i=some (b,d):=fun i b d q e=>by
  rwa[(Ren.U7 q).1]at e
 have t:∀b d,(ρ.add h.size (w.heap.size,0) l) h.size=some (b,d)->b=w.heap.size/\d=0:=fun b d e=>by
  rw[Ren.add_same]at e;cases e;exact⟨rfl,rfl⟩
 have x:∀i,i≠h.size->(h.push A).at i=h.at i:=fun i q=>by rw[H.QZ,if_neg q]
 have ZDU:(h.push A).at h.size=A:=by rw[H.QZ,if_pos rfl]
 refine⟨⟨?_,?_,?_⟩,⟨C,by simp,?_,?_,?_,s.os,s.tape,s.output,by omega,?_,?_⟩⟩
 .intro i b d e;rw[H.size_push,F];by_cases q:i=h.size;.subst q;have:=t b d e;omega
  have:=r.dom i b d (m i b d q e);omega
 .intro i b d e;by_cases q:i=h.size;.subst q;obtain⟨rfl,rfl⟩:=t b d e;rw[ZDU,Ren.Zc1];exact P
  have I:=m i b d q e;rw[x i q,(Ren.U7 q).2];exact((r.obj i b d I).mono C).world (ZdC hw (r.dom i b d I).2)
 .intro i j b d E e B y G;by_cases q:i=h.size
  .by_cases D:j=h.size;.omega
   subst q;have h1:=t b d e;have h2:=r.dom j b E (m j b E D B);omega
  by_cases D:j=h.size;.subst D;have h1:=t b E B;have h2:=r.dom i b d (m i b d q e);omega
  rw[x i q]at y;rw[x j D]at G;exact r.inj i j b d E (m i b d q e) (m j b E D B) y G
 .intro i q;exact x i V6
 .intro i q y;rwa[x i V6]at y
 .intro i q y;rwa[x i V6]at y
 .intro b K _;exact ZdC hw K
 intro i b d e B;by_cases q:i=h.size;.subst q;exact⟨K2 _,.inl (by have:=t b d B;omega)⟩
 rw[m i b d q B]at e;cases e
def Zqg{ρ:Ren}{h:H}{w w':GY}{A:YN}(r:Rel ρ h w)(ZA:L<=i)(t:(h.at i).own=true)(s:Same w w')(B:ρ i=some (b,d))
 (C:w'.heap.size=w.heap.size) (K:∀k,k≠b->w'.heap[k]? =w.heap[k]?) (S:Jr ρ w' b d (ρ.lim i) A):
 Rel ρ (h.put i A) w'/\Stp L ρ h w ρ (h.put i A) w':=by
 have E:=(r.dom i b d B).1;have m:∀j,j≠i->(h.put i A).at j=h.at j:=fun j l=>by rw[H.QC,if_neg (fun x=>l x.1)]
 have Zwg:(h.put i A).at i=A:=by rw[H.QC,if_pos ⟨rfl,E⟩]
 refine⟨⟨?_,?_,?_⟩,⟨Ren.le_refl ρ,by simp,?_,?_,?_,s.os,s.tape,s.output,by omega,?_,?_⟩⟩;.intro j q y e;have:=r.dom j q y e;rw[H.size_put,C];exact this
 .intro j q y e;by_cases l:j=i;.subst l;rw[B]at e;cases e;rw[Zwg];exact S
  rw[m j l];by_cases P:q=b
  .subst P;by_cases I:(h.at j).live=true;.exact absurd (r.inj i j q d y B e t I).symm l
   rw[Ws I];trivial
  exact(r.obj j q y e).world (K q P)
 .intro j k q X W V T h1 h2
  have G:(h.at j).own=true:=by
   by_cases l:j=i;.subst l;exact t
   rwa[m j l]at h1
  have F:(h.at k).live=true:=by
   by_cases l:k=i;.subst l;exact WT t
   rwa[m k l]at h2
  exact r.inj j k q X W V T G F
 .intro j l;exact m j V6
 .intro j _ l;by_cases p:j=i;.subst p;exact t
  rwa[m j p]at l
 .intro j _ l;by_cases p:j=i;.subst p;exact WT t
  rwa[m j p]at l
 .intro k _ D;refine K k fun e=>?_;subst e;exact D i d ZA B t
 intro j q y e Q;rw[e]at Q;cases Q
def Zdx{ρ:Ren}{h:H}{w:GY}(r:Rel ρ h w):Rel ρ (h.put i .dead) w:=by
 have p:∀j,(h.put i .dead).at j=h.at j\/(h.put i .dead).at j=.dead:=fun j=>by
  rw[H.QC];split;.exact .inr rfl
  exact .inl rfl
 refine⟨fun j b d e=>r.dom j b d e,fun j b d e=>?_,fun j k b d t e q h1 h2=>?_⟩
 .rcases p j with l|l
  .rw[l];exact r.obj j b d e
  rw[l];trivial
 rcases p j with l|l
 .rcases p k with m|m
  .rw[l]at h1;rw[m]at h2;exact r.inj j k b d t e q h1 h2
  rw[m]at h2;cases h2
 rw[l]at h1;cases h1
def ZCm{ρ:Ren}{h:H}{w w':GY}{d':Nat}{A:YN}(r:Rel ρ h w)(ZA:L<=i)(F:(h.at i).own=true)(s:Same w w')(K:ρ i=some (b,d))
 (W:w'.heap.size=w.heap.size) (hk:∀k,k≠b->w'.heap[k]? =w.heap[k]?) (hA:Jr (ρ.add h.size (b,d') l) w' b d' l A):
 Rel (ρ.add h.size (b,d') l) ((h.put i .dead).push A) w'/\Stp L ρ h w (ρ.add h.size (b,d') l) ((h.put i .dead).push A) w':=by
 have hlt:=r.dom i b d K;have Q:=Ren.ZbK (p:=(b,d')) (l:=l) r.fresh
 have q:∀j m B,j≠h.size->(ρ.add h.size (b,d') l) j=some (m,B)->ρ j=some (m,B):=fun j m B y e=>by
  rwa[(Ren.U7 y).1]at e
 have C:∀m B,(ρ.add h.size (b,d') l) h.size=some (m,B)->m=b/\B=d':=fun m B e=>by
  rw[Ren.add_same]at e;cases e;exact⟨rfl,rfl⟩
 have D:∀j,j≠h.size->j≠i->((h.put i .dead).push A).at j=h.at j:=fun j y t=>by
  rw[H.QZ,H.size_put,if_neg y,H.QC,if_neg (fun x=>t x.1)]
 have Zwg:((h.put i .dead).push A).at i=.dead:=by
  rw[H.QZ,H.size_put,if_neg V6,H.QC,if_pos ⟨rfl,hlt.1⟩]
 have ZDU:((h.put i .dead).push A).at h.size=A:=by rw[H.QZ,H.size_put,if_pos rfl]
 refine⟨⟨?_,?_,?_⟩,⟨Q,by simp,?_,?_,?_,s.os,s.tape,s.output,by omega,?_,?_⟩⟩
 .intro j m B e;rw[H.size_push,H.size_put,W];by_cases y:j=h.size;.subst y;have:=C m B e;omega
  have:=r.dom j m B (q j m B y e);omega
 .intro j m B e;by_cases y:j=h.size;.subst y;obtain⟨rfl,rfl⟩:=C m B e;rw[ZDU,Ren.Zc1];exact hA
  have e0:=q j m B y e;rw[(Ren.U7 y).2];by_cases t:j=i;.subst t;rw[Zwg];trivial
  rw[D j y t];by_cases hb:m=b
  .subst hb;by_cases hl:(h.at j).live=true;.exact absurd (r.inj i j m d B K e0 F hl).symm t
   rw[Ws hl];trivial
  exact((r.obj j m B e0).mono Q).world (hk m hb)
 .intro j k m V T e1 P h1 h2;have S:j≠i:=fun e=>by subst e;rw[Zwg]at h1;cases h1
  have G:k≠i:=fun e=>by subst e;rw[Zwg]at h2;cases h2
  by_cases y:j=h.size
  .by_cases E:k=h.size;.omega
   subst y;obtain⟨rfl,rfl⟩:=C m V e1;rw[D k E G]at h2;exact absurd (r.inj i k m d T K (q k m T E P) F h2).symm G
  rw[D j y S]at h1;by_cases E:k=h.size;.subst E;obtain⟨rfl,rfl⟩:=C m T P;exact absurd (r.inj j i m V d (q j m V y e1) K h1 (WT F)) S
  rw[D k E G]at h2;exact r.inj j k m V T (q j m V y e1) (q k m T E P) h1 h2
 .intro j y;exact D j V6 V6
 .intro j y I;by_cases t:j=i;.subst t;exact F
  rwa[D j V6 t]at I
 .intro j y I;by_cases t:j=i;.subst t;exact WT F
  rwa[D j V6 t]at I
 .intro k _ X;refine hk k fun e=>?_;subst e;exact X i d ZA K F
 intro j m B e P;by_cases y:j=h.size;.subst y;obtain⟨rfl,rfl⟩:=C m B P;exact⟨K2 _,.inr ⟨i,d,ZA,K,F⟩⟩
 rw[q j m B y P]at e;cases e
def Eff.sound{ρ C:Ren}{h S:H}{w w':GY}{E:Eff}(r:Rel ρ h w)(W:L<=h.size)(s:Same w w')(m:E.apply L h=some S)(G:E.real ρ h w C w'):
 Rel C S w'/\Stp L ρ h w C S w':=by
 cases E with
 | none=>
   simp[Eff.apply,G2]at m;subst m;obtain⟨rfl,hw⟩:=G;have I:∀k:Nat,w'.heap[k]? =w.heap[k]?:=fun k=>by rw[hw]
   refine⟨⟨fun i b d e=>by rw[hw];exact r.dom i b d e,fun i b d e=>(r.obj i b d e).world (I b),r.inj⟩,?_⟩;exact⟨Ren.le_refl _,K2 _,fun _ _=>rfl,fun _ _ x=>x,fun _ _ x=>x,s.os,s.tape,s.output,by rw[hw];exact K2 _,fun b _ _=>I b,fun i b d e T=>by rw[e]at T;cases T⟩
 | new A=>
   simp[Eff.apply]at m;cases B:A.own<;>rw[B]at m<;>simp at m;subst m;obtain⟨l,rfl,⟨o,hw⟩,B⟩:=G;exact Zdw r W s hw B
 | upd i A=>
   simp[Eff.apply]at m;cases t:(Nat.ble L i&&(h.at i).own)<;>rw[t]at m<;>simp at m;subst m;rw[Ba0]at t;obtain⟨rfl,b,d,Q,y,P,B⟩:=G;exact Zqg r (Nl0 t.1) t.2 s Q y P B
 | grow i A=>
   simp[Eff.apply]at m;cases t:(Nat.ble L i&&(h.at i).own&&A.own)<;>rw[t]at m<;>simp at m;subst m;rw[Ba0,Ba0]at t;obtain⟨b,d,Q,⟨V,l,rfl,y,P,B⟩|⟨l,rfl,⟨o,hw⟩,B⟩⟩:=G;.exact ZCm r (Nl0 t.1.1) t.1.2 s Q y P B
   have X:=Zdx (i:=i) r;have y:(h.put i .dead).size=h.size:=rfl;have⟨a1,a2⟩:=Zdw (L:=L) (A:=A) X W s hw B;refine⟨a1,⟨a2.ext,a2.size,fun j D=>?_,fun j D K=>?_,fun j D K=>?_,a2.os,a2.tape,a2.output,a2.X0,fun b I hno=>ZdC hw I,fun j b e e1 e2=>?_⟩⟩;.rw[a2.keep j D,H.QC,if_neg (fun x=>by have:=Nl0 t.1.1;omega)]
   .have:=a2.own j D K;rw[H.QC]at this;split at this;.cases this
    exact this
   .have:=a2.live j D K;rw[H.QC]at this;split at this;.cases this
    exact this
   have⟨p,q⟩:=a2.Uu j b e e1 e2;refine⟨p,q.imp id fun⟨j',V,q1,q2,F⟩=>⟨j',V,q1,q2,?_⟩⟩;rw[H.QC]at F;split at F;.cases F
   exact F
inductive AN where
 | val (v:Value)
 | skip
 | enter (f:FuncId) (args:Array Value)
 | round (l:Nat) (args:Array Value)
 | dfr (d:Deferred)
 | ZoP
 | panic (v:Value)
structure Zr4(ρ:Ren)(d d':Deferred):Prop where
 target:∃f cap cap',d.target=.fn (.func f) cap/\d'.target=.fn (.func f) cap'/\UE ρ cap cap'
 args:UE ρ d.args d'.args
def ZGo(ρ:Ren)(w:GY):AN->Result Next->Prop
 | .val v,r=>∃v',VR ρ v v'/\r=.ok (.value v') w
 | .skip,r=>r=.ok .skip w
 | .enter f args,r=>∃h,UE ρ args h/\r=.ok (.enter f h) w
 | .round l args,r=>∃p k h,ρ l=some (p,0)/\w.heap[p]? =some (.loop k)/\UE ρ args h/\r=.ok (.round p k.fn ((k.params.zip h).foldl (fun m (t,a)=>m.setIfInBounds t a) k.tmps) k.assign k.body) w
 | .dfr d,r=>∃q,Zr4 ρ d q/\r=.ok (.defer q) w
 | .ZoP,r=>r=.ok .recover w
 | .panic v,r=>∃v',VR ρ v v'/\r=.halt (.panic v') w
def Ja(P:GW)(ρ:Ren)(h:H)(w:GY)(s:Sem Next)(m:AN)(E:Eff):Prop:=
 ∃l w',Same w w'/\E.real ρ h w l w'/\ZGo l w' m (s.run P w)
def Same.refl(w:GY):Same w w:=⟨rfl,rfl,rfl⟩
variable{P:GW}{ρ:Ren}{h:H}{w:GY}
def Ja.val{s:Sem Next}{v v':N}(hv:VR ρ v v')(l:s.run P w=.ok (.value v') w):Ja P ρ h w s (.val v) .none:=
 ⟨ρ,w,Same.refl w,⟨rfl,rfl⟩,v',hv,l⟩
def Ja.KT{s:Sem N}{v v':N}(hv:VR ρ v v')(l:s.run P w=.ok v' w):Ja P ρ h w (do pure (.value (<-s))) (.val v) .none:=
 Ja.val hv (by simp[l])
def ZP{h:Type}(P:GW):Sem h->O (Except N h)
 | .pure a=>some (.ok a)
 | .program k=>ZP P (k P)
 | .halt (.panic v)=>some (.error v)
 | _=>none
def Zct{l:Type}:∀(s:Sem l)(a:l),ZP P s=some (.ok a)->∀w,s.run P w=.ok a w:=by intro s;induction s with|pure a=>intro b m w;simp[ZP,G2,Except.ok.injEq]at m;subst m;rfl|program k ih=>intro a h w;exact ih P a h w|halt x=>intro a h w;cases x<;>simp[ZP]at h|load|store|new|shape|freeze|frozen|getObj|setObj|choose|sys|mark=>intro a h;simp[ZP]at h
def Zn7{l:Type}:∀(s:Sem l)(v:N),ZP P s=some (.error v)->∀w,s.run P w=.halt (.panic v) w:=by intro s;induction s with|pure a=>intro b m;simp[ZP]at m|program k ih=>intro a h w;exact ih P a h w|halt x=>intro a h w;cases x<;>simp[ZP]at h;subst h;rfl|load|store|new|shape|freeze|frozen|getObj|setObj|choose|sys|mark=>intro a h;simp[ZP]at h
def KC(P:GW)(s:Sem N):O AN:=
 match ZP P s with|some (.ok v)=>bif plain v then some (.val v) else none|some (.error v)=>bif plain v then some (.panic v) else none|none=>none
def Wd{s:Sem N}{p:AN}(m:KC P s=some p):Ja P ρ h w (do pure (.value (<-s))) p .none:=by
 unfold KC at m;split at m;.rename_i v e;cases l:plain v<;>rw[l]at m<;>simp at m;subst m;exact Ja.KT (VR.Yk l) (Zct _ _ e w)
 .rename_i v e;cases l:plain v<;>rw[l]at m<;>simp at m;subst m;exact⟨ρ,w,Same.refl w,⟨rfl,rfl⟩,v,VR.Yk l,by simp[Zn7 _ _ e w]⟩
 cases m
def Y6(P:GW)(t:J):O Z:=
 match P.underlying t with|some (.struct _) | some (.array _ _)=>some true|some _=>some false|none=>none
def YX(P:GW)(t:J):O Nat:=(P.info? t).map (·.size)
def ZeD{t:J}{b:Z}(h:Y6 P t=some b):(isAgg t).run P w=.ok b w:=by
 unfold Y6 at h;unfold isAgg;split at h
 all_goals first
  | (cases h;done)
  | (rename_i e;cases h;simp[run_underlying e])
  | (rename_i d h1 h2 e;cases h;cases d<;>simp_all[run_underlying e])
def run_sizeOf{t:J}(h:YX P t=some n):(sizeOf t).run P w=.ok n w:=by unfold YX at h;cases e:P.info? t with|none=>rw[e]at h;cases h|some i=>rw[e]at h;simp at h;simp[sizeOf,typeInfo,e,h]
def addr_add(b o n:Nat):(⟨b,o,none⟩:Addr).add n=⟨b,o+n,none⟩:=by unfold Addr.add;split<;>simp_all
def Zaz(P:GW)(h:H)(t:J)(v:N):O N:=
 match v with
 | .pointer (some ⟨i,o,none⟩)=>
   match h.at i with
   | .row cs _ _=>
     match Y6 P t,YX P t with|some true,some n=>bif Nat.ble (o+n) cs.length then some (.agg ((cs.drop o).take n).toArray) else none|some false,_=>cs[o]?|_,_=>none
   | _=>none
 | _=>none
def ZfO(t:J)(a:Addr):(Instr.loadAt t (.pointer (some a))).run P w=(loadVar t a).run P w:=by simp[Instr.loadAt,Instr.sureAddr]
def ZeF{cs:U N}{own:Z}(p:Jr ρ w b d l (.row cs own m))(hn:o+n<=cs.length):
 ∃vs':U N,vs'.length=n/\(∀j,j<n->w.cell? ⟨b,d+o+j,none⟩=some (vs'.getD j undef))/\UE ρ ((cs.drop o).take n).toArray vs'.toArray:=by
 have⟨cc,el,fz,hw,_,hlen,hv⟩:=p;refine⟨(cc.toList.drop (d+o)).take n,by simp;omega,fun j q=>?_,?_,?_⟩;.have h1:d+o+j<cc.size:=V6;simp[World.cell?,hw,h1,q,Gv]
 .simp;omega
 intro j v v' e h;simp[List.getElem?_take]at e h;exact hv (o+j) v v' (by simpa using e.2) (by rw[<-GI];simpa using h.2)
def ZlN{t:J}{v v' x:N}(r:Rel ρ h w)(hv:VR ρ v v')(m:Zaz P h t v=some x):
 ∃C,VR ρ x C/\(Instr.loadAt t v').run P w=.ok C w:=by
 unfold Zaz at m;split at m
 .rename_i i o;cases hv with|ptr o G=>
    rename_i b d;have q:=r.obj _ _ _ G;split at m
    .rename_i cs own I B;rw[B]at q;split at m
     .rename_i n h1 h2;cases D:Nat.ble (o+n) cs.length<;>rw[D]at m<;>simp at m;subst m;have⟨vs',hl,l,hvs⟩:=ZeF (o:=o) (n:=n) q (Nl0 D);refine⟨.agg vs'.toArray,.agg _ _ hvs.1 hvs.2,?_⟩;have p:=run_loadCellsFrom (P:=P) (w:=w) ⟨b,d+o,none⟩ (fun j=>vs'.getD j undef) n 0 #[] (fun j F=>by rw[addr_add];simpa using l j F)
      have e:(List.range n).map (fun j=>vs'.getD (0+j) undef)=vs':=by
       apply List.ext_getElem (by simp[hl]);intro j h1 h2;simp at h1;simp[h2]
      rw[e]at p;rw[ZfO];simp[loadVar,ZeD h1,run_sizeOf h2,loadCells,p]
     .rename_i h1;have⟨cc,el,fz,hw,_,hlen,hvv⟩:=q
      have E:o<cs.length:=by
       rcases Gl o cs.length with y|y
       .exact y
       rw[G7 y]at m;cases m
      have A:cc[d+o]? =some cc[d+o]:=Gn V6;refine⟨cc[d+o],hvv o x _ m A,?_⟩;rw[ZfO];have l:w.cell? ⟨b,d+o,none⟩=some cc[d+o]:=by simp[World.cell?,hw]
      simp[loadVar,ZeD h1,l]
     cases m
    cases m
 cases m
def Zel(P:GW)(s:J)(v:N)(f:Nat):O N:=
 match v,P.underlying s with
 | .pointer (some ⟨i,o,none⟩),some (.struct fs)=>
   match fs[f]? with
   | some x=>match YX P x.type with|some (_+1)=>some (.pointer (some ⟨i,o+x.offset,none⟩))|_=>none
   | none=>none
 | _,_=>none
def Zt2{s:J}{v v' x:N}{f:Nat}(hv:VR ρ v v')(h:Zel P s v f=some x):
 ∃l,VR ρ x l/\(Instr.fieldAt s v' f).run P w=.ok l w:=by
 unfold Zel at h;split at h
 .rename_i i o r p;cases hv with|ptr o q=>
    rename_i b d;split at h
    .rename_i y m;split at h;next n hn=>simp at h;subst h;refine⟨.pointer (some ⟨b,d+(o+y.offset),none⟩),.ptr _ q,?_⟩;simp[Instr.fieldAt,run_underlying p,m,Instr.sureAddr,fieldPlace,run_sizeOf hn,addr_add,GI]
     cases h
    cases h
 cases h
def ZgF(P:GW)(t:J)(v l:N):O N:=
 match l,P.underlying t,v with
 | .int _ (.ofNat k),some (.slice e),.slice (some ⟨i,o,none⟩) n _=>
   match YX P e with|some h=>bif Nat.blt k n then some (.pointer (some ⟨i,o+k*h,none⟩)) else none|none=>none
 | .int _ (.ofNat k),some (.array n e),.pointer (some ⟨i,o,none⟩)=>
   match YX P e with|some h=>bif Nat.blt k n then some (.pointer (some ⟨i,o+k*h,none⟩)) else none|none=>none
 | _,_,_=>none
def Zs3{t:J}{v v' B p x:N}(hv:VR ρ v v')(m:VR ρ B p)(h:ZgF P t v B=some x):
 ∃A,VR ρ x A/\(Instr.indexAt t v' p).run P w=.ok A w:=by
 unfold ZgF at h;split at h
 .rename_i q k e i o n c he;cases m;split at h
  .rename_i y l;cases r:Nat.blt k n<;>rw[r]at h<;>simp at h;rw[G5]at r;subst h;cases hv with
   | slice o n c c' m C=>
     rename_i b d;refine⟨.pointer (some ⟨b,d+(o+k*y),none⟩),.ptr _ m,?_⟩;simp[Instr.indexAt,asIntOf,run_underlying he,run_sizeOf l,addr_add,GI];intro D;omega
   | QX o F c m E=>omega
  cases h
 .rename_i q k n e i o he;cases m;split at h
  .rename_i y l;cases r:Nat.blt k n<;>rw[r]at h<;>simp at h
   rw[G5]at r;subst h;cases hv with|ptr o m=>
     rename_i b d;refine⟨.pointer (some ⟨b,d+(o+k*y),none⟩),.ptr _ m,?_⟩;simp[Instr.indexAt,asIntOf,run_underlying he,run_sizeOf l,addr_add,GI,Instr.sureAddr];intro D;omega
  cases h
 cases h
def apart(P:GW)(t:J)(cs:GZ N)(off:Nat):O N:=
 match Y6 P t,YX P t with|some true,some n=>bif Nat.ble (off+n) cs.size then some (.agg ((cs.toList.drop off).take n).toArray) else none|some false,_=>cs.toList[off]?|_,_=>none
def Zlq{t:J}{cs cs':GZ N}{off:Nat}{x:N}(hv:UE ρ cs cs')(h:apart P t cs off=some x):
 ∃r,VR ρ x r/\(part t cs' off).run P w=.ok r w:=by
 unfold apart at h;split at h;.rename_i n h1 h2;cases y:Nat.ble (off+n) cs.size<;>rw[y]at h<;>simp at h;subst h;have C:=Nl0 y;have B:=hv.1;refine⟨.agg (cs'.extract off (off+n)),.agg _ _ Vf (fun i v v' e A=>?_),by simp[part,ZeD h1,run_sizeOf h2]⟩;simp[List.getElem?_take]at e;have D:i<n:=e.1;rw[Array.getElem?_extract,if_pos V6]at A;exact hv.2 (off+i) v v' (by simpa using e.2) A
 .rename_i h1;have m:cs[off]? =some x:=by simpa using h
  have p:off<cs.size:=by
   rcases Gl off cs.size with q|q
   .exact q
   rw[GU q]at m;cases m
  have l:cs'[off]? =some (cs'[off]'(by rw[<-hv.1];exact p)):=Gn _;exact⟨_,hv.2 off x _ m l,by simp[part,ZeD h1,l]⟩
 cases h
def ZrV(P:GW)(t:J)(v:N)(f:Nat):O N:=
 match P.underlying t,v with
 | some (.struct fs),.agg cs=>match fs[f]? with|some x=>apart P x.type cs x.offset|none=>none
 | _,_=>none
def ZqY{t:J}{v v' x:N}{f:Nat}(hv:VR ρ v v')(h:ZrV P t v f=some x):
 ∃l,VR ρ x l/\(Instr.field t v' f).run P w=.ok l w:=by
 unfold ZrV at h;split at h
 .rename_i A cs q;cases hv with|agg _ cs' p r=>
    split at h;next y m=>have⟨l,h1,h2⟩:=Zlq (w:=w) ⟨p,r⟩ h;exact⟨l,h1,by simp[Instr.field,run_underlying q,m,asAgg,h2]⟩
    cases h
 cases h
def ZkU(P:GW)(t:J)(v l:N):O N:=
 match P.underlying t,v,l with
 | some (.array n e),.agg cs,.int _ (.ofNat k)=>match YX P e with|some h=>bif Nat.blt k n then apart P e cs (k*h) else none|none=>none
 | _,_,_=>none
def ZqB{t:J}{v v' r l x:N}(hv:VR ρ v v')(C:VR ρ r l)(h:ZkU P t v r=some x):
 ∃m,VR ρ x m/\(Instr.index t v' l).run P w=.ok m w:=by
 unfold ZkU at h;split at h
 .rename_i n e cs q k B;cases C;cases hv with|agg _ cs' y D=>
    split at h;.rename_i E p;cases A:Nat.blt k n<;>rw[A]at h<;>simp at h;rw[G5]at A;have⟨m,h1,h2⟩:=Zlq (w:=w) ⟨y,D⟩ h;refine⟨m,h1,?_⟩;simp[Instr.index,asIntOf,run_underlying B,run_sizeOf p,h2];intro y;omega
    cases h
 cases h
def Zem(v:N)(k:Nat):O N:=
 match v with|.tuple vs=>vs.toList[k]?|_=>none
def Zoo{v v' x:N}(hv:VR ρ v v')(p:Zem v k=some x):∃r,VR ρ x r/\(Instr.extract v' k).run P w=.ok r w:=by
 unfold Zem at p;split at p
 .rename_i vs;cases hv with|tuple _ vs' t l=>
    have h:vs[k]? =some x:=by simpa using p
    have q:k<vs.size:=by
     rcases Gl k vs.size with l|l
     .exact l
     rw[GU l]at h;cases h
    have m:vs'[k]? =some (vs'[k]'(by rw[<-t];exact q)):=Gn _;exact⟨_,l k x _ h m,by simp[Instr.extract,m]⟩
 cases p
def ZdH(P:GW)(t:J)(x y:N):O Z:=
 match P.underlying t,x,y with|some (.pointer _),.pointer a,.pointer none=>some a.isNone|some (.pointer _),.pointer none,.pointer b=>some b.isNone|some (.slice _),.slice a _ _,.slice none _ _=>some a.isNone|some (.slice _),.slice none _ _,.slice b _ _=>some b.isNone|some (.map _ _),.map a,.map none=>some a.isNone|some (.map _ _),.map none,.map b=>some b.isNone|some (.func _ _ _),.nilFunc,.nilFunc=>some true|some (.func _ _ _),.func _ _ _,.nilFunc=>some false|some (.func _ _ _),.nilFunc,.func _ _ _=>some false|some (.interface _),.iface _ _,.nilIface=>some false|some (.interface _),.nilIface,.iface _ _=>some false|_,_,_=>none
def ZCz(n:Nat){t:J}{x m y l:N}{b:Z}(q:VR ρ x m)(p:VR ρ y l)(h:ZdH P t x y=some b):(Op.equalIn (n+1) t m l).run P w=.ok b w:=by
 unfold ZdH at h;split at h
 all_goals first
  | (cases h;done)
  | (rename_i e;simp[G2]at h;subst h;cases q<;>cases p<;>(rw[Op.equalIn,Sem.run_bind,run_underlying e];rfl))
def Zj2{t:J}{x l y h:N}{b:Z}(p:VR ρ x l)(m:VR ρ y h)(q:ZdH P t x y=some b):(Op.equal t l h).run P w=.ok b w:=
 ZCz 9999 p m q
def LR(ρ:Ren)(xs ys:U N):Prop:=xs.length=ys.length/\∀(i:Nat)(v v':N),xs[i]? =some v->ys[i]? =some v'->VR ρ v v'
def UE.list{xs ys:GZ N}(h:UE ρ xs ys):LR ρ xs.toList ys.toList:=⟨by simpa using h.1,fun i v v' a b=>h.2 i v v' (by simpa using a) (by simpa using b)⟩
def LR.arr{xs ys:U N}(h:LR ρ xs ys):UE ρ xs.toArray ys.toArray:=⟨by simpa using h.1,fun i v v' a b=>h.2 i v v' (by simpa using a) (by simpa using b)⟩
def LR.nil:LR ρ [] []:=⟨rfl,fun i v v' a=>by simp at a⟩
def LR.append{xs ys m l:U N}(h:LR ρ xs m)(k:LR ρ ys l):LR ρ (xs++ys) (m++l):=by
 refine⟨by simp[h.1,k.1],fun i v v' a b=>?_⟩;rw[List.getElem?_append]at a b;by_cases p:i<xs.length;.rw[if_pos p]at a;rw[if_pos (by rw[<-h.1];exact p)]at b;exact h.2 i v v' a b
 rw[if_neg p]at a;rw[if_neg (by rw[<-h.1];exact p),<-h.1]at b;exact k.2 _ v v' a b
def LR.take{xs l:U N}(h:LR ρ xs l)(n:Nat):LR ρ (xs.take n) (l.take n):=by
 refine⟨by simp[h.1],fun i v v' a b=>?_⟩;rw[List.getElem?_take]at a b;by_cases m:i<n;.rw[if_pos m]at a b;exact h.2 i v v' a b
 rw[if_neg m]at a;cases a
def LR.drop{xs l:U N}(h:LR ρ xs l)(n:Nat):LR ρ (xs.drop n) (l.drop n):=by refine⟨by simp[h.1],fun i v v' a b=>?_⟩;rw[GS]at a b;exact h.2 _ v v' a b
def LR.cons{ρ:Ren}{x m:N}{xs l:U N}(p:VR ρ x m)(h:LR ρ xs l):LR ρ (x::xs) (m::l):=by refine⟨by simp[h.1],fun i v v' a b=>?_⟩;cases i with|zero=>simp at a b;subst a b;exact p|succ i=>simp at a b;exact h.2 i v v' a b
def LR.scalar{xs:U N}(h:xs.all scalar=true):LR ρ xs xs:=by refine⟨rfl,fun i v v' a b=>?_⟩;rw[a]at b;cases b;rw[KB]at h;exact VR.Jl (h v (List.mem_of_getElem? a))
def splice(cs:U N)(o:Nat)(vs:U N):U N:=cs.take o++vs++cs.drop (o+vs.length)
def LR.splice{ρ:Ren}{cs cs' vs vs':U N}(h:LR ρ cs cs')(k:LR ρ vs vs')(o:Nat):LR ρ (splice cs o vs) (splice cs' o vs'):=by unfold Z9.splice;rw[k.1];exact((h.take o).append k).append (h.drop _)
def UW{cs vs:U N}(h:o+vs.length<=cs.length):(splice cs o vs).length=cs.length:=by simp[splice];omega
def J7(h:H):N:=(V5 h.size)
def World.push(w:GY)(o:Obj):GY:= {w with heap:=w.heap.push o}
def ZbW(o:Obj):Same w (World.push w o):=⟨rfl,rfl,rfl⟩
def ZxW(o:Obj):(World.push w o).heap[w.heap.size]? =some o:=by show(w.heap.push o)[w.heap.size]? =some o;rw[Array.getElem?_push,if_pos rfl]
def ZgX(r:Rel ρ h w){cs:U N}{cs':GZ N}{e:J}{rest:U N}(p:Nat)(hv:LR ρ cs rest)(q:∃t,cs'.toList=rest++t):
 (Eff.new (.row cs true p)).real ρ h w (ρ.add h.size (w.heap.size,0) (cs'.size,p)) (World.push w (.cells cs' e)):=by
 refine⟨_,rfl,⟨_,rfl⟩,cs',e,(0,0),ZxW _,fun _=>⟨rfl,fun _=>rfl⟩,?_,fun k v v' a b=>?_⟩
 .have⟨t,ht⟩:=q;have:cs'.size=(rest++t).length:=by rw[<-ht];simp
  rw[this];simp[hv.1]
 have⟨t,ht⟩:=q;rw[<-Gg,ht,G6]at b
 have l:k<rest.length:=by
  rw[<-hv.1];rcases Gl k cs.length with m|m
  .exact m
  rw[G7 m]at a;cases a
 rw[List.getElem?_append_left l]at b;exact(hv.2 k v v' a b).mono (Ren.ZbK r.fresh)
def Zi0(w:GY)(l:Nat×Nat):VR (ρ.add h.size (w.heap.size,0) l) (J7 h) ((V5 w.heap.size)):=
 .ptr 0 (Ren.add_same ρ h.size _ _)
def ZA3(r:Rel ρ h w){v v':N}(e:J)(hv:VR ρ v v'):
 Ja P ρ h w (do pure (.value (<-Instr.box e v'))) (.val (J7 h)) (.new (.row v.cells.toList true 0)):=
 ⟨_,World.push w (.cells v'.cells e),ZbW _,ZgX r 0 hv.cells.list ⟨[],by simp⟩,_,Zi0 w _,by simp[Instr.box,newVar,newRow];rfl⟩
def Xl(P:GW)(t:J):O N:=
 match(P.info? t).bind (·.zero) with|some z=>bif z.cells.toList.all scalar&&plain z then some z else none|none=>none
def JS{t:J}{z:N}(h:Xl P t=some z):(∀w,(zeroValue t).run P w=.ok z w)/\z.cells.toList.all scalar=true/\plain z=true:=by
 unfold Xl at h;cases e:P.info? t with|none=>simp[e]at h|some i=>
   cases m:i.zero with|none=>simp[e,m]at h|some p=>
     simp only[e,m,Bq0]at h;cases l:(p.cells.toList.all scalar&&plain p)<;>rw[l]at h<;>simp at h;subst h;rw[Ba0]at l;exact⟨fun w=>by simp[zeroValue,typeInfo,e,m],l.1,l.2⟩
def Zu4(r:Rel ρ h w){t:J}{z:N}(l:Xl P t=some z):
 Ja P ρ h w (do pure (.value (<-Instr.alloc t true (.tuple #[])))) (.val (J7 h)) (.new (.row z.cells.toList true 0)):=by
 have⟨h1,h2,_⟩:=JS l;refine⟨_,World.push w (.cells z.cells t),ZbW _,ZgX r 0 (LR.scalar h2) ⟨[],by simp⟩,_,Zi0 w _,?_⟩;simp[Instr.alloc,newVar,newRow,h1];rfl
def Zek(h:Nat->O (Nat×Nat))(cs:U N):U (Nat×N)->O (U N)
 | []=>some cs
 | (i,v)::rest=>
   match h i with|some (off,size)=>bif Nat.beq v.cells.toList.length size&&Nat.ble (off+v.cells.toList.length) cs.length then Zek h (splice cs off v.cells.toList) rest else none|none=>none
def foldl_set(off:Nat):∀(vs:U N)(k:Nat)(cs:GZ N),off+k+vs.length<=cs.size ->
 ((vs.zipIdx k).foldl (fun(cs:GZ N)(x:N×Nat)=>cs.setIfInBounds (off+x.2) x.1) cs).toList=splice cs.toList (off+k) vs:=by
 intro vs
 induction vs with|nil=>intro k cs _;simp[splice]|cons v vs ih=>
   intro k cs q;simp only[Kd]at q;rw[List.zipIdx_cons,Gh,ih (k+1) _ Vf];apply GO;intro i;simp only[splice,Array.toList_setIfInBounds,Q4,Kd,List.getElem?_append,List.getElem?_take,Gt,List.length_set,Gc,GS,List.getElem?_cons];by_cases h1:i<off+k;.have:i<min (off+(k+1)) cs.size:=V6;have h:i<min (off+k) cs.size:=V6;have p:off+k≠i:=V6;have m:i<off+(k+1):=V6;simp[this,h,h1,p,m]
   by_cases h2:i=off+k;.subst h2;have:off+k<min (off+(k+1)) cs.size:=V6;have h:¬ off+k<min (off+k) cs.size:=V6;have m:off+k<off+(k+1):=V6;have t:off+k<cs.size:=V6;have l:off+k-min (off+k) cs.size=0:=V6;simp[this,h,m,t,l]
   have h:¬ i<min (off+(k+1)) cs.size:=V6;have p:¬ i<min (off+k) cs.size:=V6;have B:min (off+(k+1)) cs.size=off+(k+1):=V6;have A:min (off+k) cs.size=off+k:=V6;have y:i-(off+k)=(i-(off+(k+1)))+1:=V6;rw[if_neg h,if_neg p,B,A,y];by_cases l:i-(off+(k+1))<vs.length;.have:i-(off+(k+1))+1<vs.length+1:=V6;simp[l]
   simp only[l,if_false];have r:¬ (i-(off+(k+1))+1<vs.length+1):=V6;simp only[r,if_false];rw[List.getElem?_set_ne V6];congr 1;omega
def Zgg(m:Nat->O (Nat×Nat)):∀(A:U (Nat×N))(h:U (Nat×N))(cs:U N)(cs':GZ N)(out:U N),
 A.length=h.length->(∀(i:Nat) p B,A[i]? =some p->h[i]? =some B->B.1=p.1/\VR ρ p.2 B.2)->LR ρ cs cs'.toList->Zek m cs A=some out ->
 ∃l,Instr.fill m cs' h=some l/\LR ρ out l.toList:=by
 intro A;induction A with
 | nil=>
   intro h cs cs' out E _ F r;cases h with|nil=>simp only[Zek,G2]at r;subst r;exact⟨cs',rfl,F⟩|cons p h=>simp at E
 | cons p A ih=>
   intro h cs cs' out E K F r;cases h with|nil=>simp at E|cons B h=>
     have⟨i,v⟩:=p;have⟨i',v'⟩:=B;have⟨h1,h2⟩:=K 0 _ _ rfl rfl;simp only at h1 h2;subst h1;simp only[Zek]at r;split at r
     .rename_i off size G;cases I:(Nat.beq v.cells.toList.length size&&Nat.ble (off+v.cells.toList.length) cs.length)<;>rw[I]at r<;>simp at r;rw[Ba0]at I;have⟨y,t⟩:=I;have y:=Nb0 y;have t:=Nl0 t;have C:=h2.cells;have D:v.cells.toList.length=v'.cells.toList.length:=by simpa using C.1
      have S:cs.length=cs'.size:=by simpa using F.1
      have e:=foldl_set off v'.cells.toList 0 cs' V6
      have T:(v'.cells.zipIdx.foldl (fun(cs:GZ N)(x:N×Nat)=>cs.setIfInBounds (off+x.2) x.1) cs').toList=splice cs'.toList off v'.cells.toList:=by
       rw[<-Array.foldl_toList,Array.toList_zipIdx];exact e
      have⟨l,o1,o2⟩:=ih h (splice cs off v.cells.toList) (v'.cells.zipIdx.foldl (fun(cs:GZ N)(x:N×Nat)=>cs.setIfInBounds (off+x.2) x.1) cs') out
       (by simpa using E) (fun j q L a b=>K (j+1) q L (by simpa using a) (by simpa using b)) (by rw[T];exact F.splice C.list off) (by simpa using r)
      refine⟨l,?_,o2⟩;have Q:¬ (v'.cells.size≠size):=by simp at D y;omega
      have P:¬ (off+v'.cells.size>cs'.size):=by simp at D t;omega
      simp only[Instr.fill,G];rw[if_neg (by simp at Q P ⊢;omega)];exact o1
     cases r
def ZeI(P:GW):U Field->O (U (Nat×Nat))
 | []=>some []
 | f::fs=>match YX P f.type,ZeI P fs with|some n,some r=>some ((f.offset,n)::r)|_,_=>none
def Zqi:∀(l:U Field)(m:U (Nat×Nat)),ZeI P l=some m->(l.mapM fun f=>(do pure (f.offset,<-sizeOf f.type):Sem (Nat×Nat))).run P w=.ok m w:=by
 intro l
 induction l with|nil=>intro m h;simp only[ZeI,G2]at h;subst h;rfl|cons f l ih=>
   intro m h;simp only[ZeI]at h;split at h;next n r q p=>simp only[G2]at h;subst h;have:=ih r p;rw[List.mapM_cons];simp only[Sem.run_bind,run_sizeOf q,Gs,this,Sem.run_pure]
   cases h
def ZnD(P:GW)(t:J)(h:U (Nat×N)):O N:=
 match Xl P t,P.underlying t with
 | some z,some (.struct fs)=>match ZeI P fs.toList with
   | some l=>(Zek (fun i=>l[i]?) z.cells.toList h).map fun cs=>.agg cs.toArray
   | none=>none
 | some z,some (.array _ e)=>match YX P e with
   | some n=>(Zek (fun i=>some (i*n,n)) z.cells.toList h).map fun cs=>.agg cs.toArray
   | none=>none
 | _,_=>none
def ZuO{t:J}{m l:U (Nat×N)}{x:N}(D:m.length=l.length)(C:∀(i:Nat) p p',m[i]? =some p->l[i]? =some p'->p'.1=p.1/\VR ρ p.2 p'.2)
 (h:ZnD P t m=some x):∃B,VR ρ x B/\(Instr.build t l.toArray).run P w=.ok B w:=by
 unfold ZnD at h;split at h
 .rename_i z F y hu;have⟨h1,h2,_⟩:=JS y;split at h
  .rename_i r A;cases q:Zek (fun i=>r[i]?) z.cells.toList m with|none=>rw[q]at h;simp at h|some out=>
     rw[q]at h;simp only[Option.map_some,G2]at h;subst h;have⟨out',o1,o2⟩:=Zgg (fun i=>r[i]?) m l z.cells.toList z.cells out D C (LR.scalar h2) q;refine⟨.agg out',?_,?_⟩;.have:=o2.arr;exact .agg _ _ (by simpa using this.1) (by simpa using this.2)
     have E:=Zqi (w:=w) F.toList r A;have e:(fun i=>r.toArray[i]?)=fun i:Nat=>r[i]?:=by funext i;simp
     simp only[Instr.build,Sem.run_bind,h1,Gs,run_underlying hu];rw[Array.mapM_eq_mapM_toList];simp only[Sem.run_map,E,Gs];rw[e,o1];simp
  cases h
 .rename_i z k e y hu;have⟨h1,h2,_⟩:=JS y;split at h
  .rename_i n hn;cases q:Zek (fun i=>some (i*n,n)) z.cells.toList m with|none=>rw[q]at h;simp at h|some out=>
     rw[q]at h;simp only[Option.map_some,G2]at h;subst h;have⟨out',o1,o2⟩:=Zgg (fun i=>some (i*n,n)) m l z.cells.toList z.cells out D C (LR.scalar h2) q;refine⟨.agg out',?_,?_⟩;.have:=o2.arr;exact .agg _ _ (by simpa using this.1) (by simpa using this.2)
     simp only[Instr.build,Sem.run_bind,h1,Gs,run_underlying hu,run_sizeOf hn];rw[o1];simp
  cases h
 cases h
def VR.oneCell{v v':N}(hv:VR ρ v v')(h:v.oneCell'=true):v'.oneCell'=true:=by cases hv<;>simp_all[Value.oneCell']
def LR.oneCell{xs ys:U N}(hv:LR ρ xs ys)(h:xs.all Value.oneCell'=true):∀v∈ys,v.oneCell'=true:=by
 intro v p;have⟨i,hi⟩:=Gy.1 p
 have l:i<xs.length:=by
  rw[hv.1];rcases Gl i ys.length with m|m
  .exact m
  rw[G7 m]at hi;cases hi
 rw[KB]at h;exact(hv.2 i _ v (G4 l) hi).oneCell (h _ (GG l))
def setRow_other(w:GY)(g:Nat)(cs:GZ N)(k:Nat)(h:k≠g):(w.setRow g cs).heap[k]? =w.heap[k]?:=by unfold World.setRow;simp only[Array.getElem?_modify];rw[if_neg (fun e=>h e.symm)]
def setRow_size(w:GY)(g:Nat)(cs:GZ N):(w.setRow g cs).heap.size=w.heap.size:=by simp[World.setRow]
def ZjY(w:GY)(g:Nat)(cs:GZ N):Same w (w.setRow g cs):=⟨rfl,rfl,rfl⟩
def ZoI{t:Nat}{cs vs vs':U N}(I:ρ i=some (b,d))(F:Jr ρ w b d (ρ.lim i) (.row cs true t))(hv:LR ρ vs vs')
 (h1:vs.all Value.oneCell'=true) (A:o+vs.length<=cs.length):
 ∃w',(storeCells ⟨b,d+o,none⟩ vs').run P w=.ok () w'/\Same w w'/\(Eff.upd i (.row (splice cs o vs) true t)).real ρ h w ρ w':=by
 have⟨cc,el,fz,hw,hfz,hlen,hc⟩:=F;obtain⟨rfl,l⟩:=hfz rfl;have G:=hv.1;refine⟨_,run_storeCells_at (P:=P) b (d+o) el vs' 0 cc w hw V6 (hv.oneCell h1),ZjY _ _ _,rfl,b,d,I,setRow_size _ _ _,fun k m=>setRow_other _ _ _ _ m,?_⟩;have Zwa:(cc.toList.take (d+o+0)++vs'++cc.toList.drop (d+o+0+vs'.length)).toArray.toList=splice cc.toList (d+o) vs':=by simp[splice]
 refine⟨_,el,(0,0),setRow_heap w b cc _ el (0,0) hw,fun _=>⟨rfl,fun E=>?_⟩,?_,fun k v v' a C=>?_⟩;.rw[l E];congr 1;rw[<-Gc,<-Gc,Zwa,UW Vf]
 .have D:(splice cc.toList (d+o) vs').length=cc.toList.length:=UW Vf;rw[UW A,<-Gc,Zwa,D];simpa using hlen
 rw[<-Gg,Zwa]at C
 have r:LR ρ cs ((cc.toList.drop d).take cs.length):=by
  refine⟨by simp;omega,fun k v v' x y=>?_⟩;rw[List.getElem?_take]at y;split at y;.rw[GS]at y;exact hc k v v' x (by simpa using y)
  cases y
 have:=(r.splice hv o).2 k v v' a;refine this ?_
 have m:k<cs.length:=by
  rw[<-UW A];rcases Gl k (splice cs o vs).length with q|q
  .exact q
  rw[G7 q]at a;cases a
 rw[<-C];simp[splice,Q4,List.getElem?_append,List.getElem?_take,Gt,GS,GC,Gc];have Q:min o (min cs.length (cc.size-d))=o:=V6;have L:min (d+o) cc.size=d+o:=V6;rw[Q,L];by_cases k1:k<o;.have p:d+k<d+o:=V6;simp[k1,m,p]
 have p:¬ d+k<d+o:=V6;have B:d+k-(d+o)=k-o:=V6;by_cases k2:k-o<vs'.length;.simp[k1,p,B,k2]
 have T:k<cs.length:=m;have K:d+(o+vs'.length+(k-o-vs'.length))=d+o+vs'.length+(k-o-vs'.length):=V6;have S:o+vs'.length+(k-o-vs'.length)<cs.length:=V6;simp[k1,p,B,k2,S,K]
def ZjD(P:GW)(h:H)(t:J)(a x:N):O Eff:=
 match a,YX P t with
 | .pointer (some ⟨i,o,none⟩),some n=>
   match h.at i with
   | .row cs true l=>
     let vs:=x.cells.toList
     bif Nat.beq vs.length n&&Nat.ble (o+n) cs.length&&vs.all Value.oneCell' then some (.upd i (.row (splice cs o vs) true l)) else none
   | _=>none
 | _,_=>none
def Zsk{t:J}{a D x m:N}{E:Eff}(r:Rel ρ h w)(F:VR ρ a D)(A:VR ρ x m)(l:ZjD P h t a x=some E):
 Ja P ρ h w (do Instr.storeAt t D m;pure .skip) .skip E:=by
 unfold ZjD at l;split at l
 .rename_i i o n hn;cases F with|ptr o C=>
    rename_i b d;have B:=r.obj _ _ _ C;split at l
    .rename_i cs G y;rw[y]at B;dsimp only at l;cases q:(Nat.beq x.cells.toList.length n&&Nat.ble (o+n) cs.length&&x.cells.toList.all Value.oneCell')<;>rw[q]at l<;>simp at l;subst l;rw[Ba0,Ba0]at q;have⟨⟨h1,h2⟩,h3⟩:=q;have h1:=Nb0 h1;have h2:=Nl0 h2;have⟨w',e1,e2,e3⟩:=ZoI (P:=P) (h:=h) (vs:=x.cells.toList) (vs':=m.cells.toList) (o:=o) C B A.cells.list h3 V6;refine⟨ρ,w',e2,e3,?_⟩
     have p:¬ (m.cells.size≠n):=by
      have:=A.cells.1;simp at h1;omega
     show(do Instr.storeAt t (.pointer (some ⟨b,d+o,none⟩)) m;pure .skip:Sem Next).run P w=.ok .skip w';simp only[Instr.storeAt,Instr.sureAddr,storeVar,Sem.run_bind,Sem.run_pure,Gs,run_sizeOf hn];rw[if_neg p];simp[e1]
    cases l
 cases l
def ZoW:N->O Nat
 | .int _ (.ofNat k)=>some k
 | _=>none
def KD{v v':N}(hv:VR ρ v v')(h:ZoW v=some k):∃q,v'=.int q (k:Int):=by
 unfold ZoW at h;split at h;.cases h;cases hv;exact⟨_,rfl⟩
 cases h
def run_sliceBound{q:IntKind}{y:Nat}{c:BoundsCode}(h:k<=y):(Instr.sliceBound (.int q (k:Int)) y c).run P w=.ok k w:=by have:(0:Int)<=(k:Int)/\(k:Int)<=(y:Int):=⟨Int.natCast_nonneg k,by omega⟩;simp only[Instr.sliceBound,asIntOf,Sem.run_bind,Sem.run_pure,Gs];rw[if_pos this];simp
def obN(x:O N)(d:Nat):O Nat:=
 match x with|none=>some d|some v=>ZoW v
def ZgJ(ρ:Ren):O N->O N->Prop
 | none,none=>True
 | some v,some v'=>VR ρ v v'
 | _,_=>False
def ZkQ{l:Nat}{lo t h m:O N}(p:ZgJ ρ lo h)(x:ZgJ ρ t m)(r:obN lo 0=some l)(y:obN t n=some k)(h1:l<=k)(h2:k<=c)(b:Z):
 (Instr.sliceBounds b n c h m none).run P w=.ok (l,k,c) w:=by
 unfold Instr.sliceBounds;cases t with
 | none=>
   cases m with|some _=>exact x.elim|none=>
     simp[obN,G2]at y;subst y;cases lo with
     | none=>
       cases h with|some _=>exact p.elim|none=>simp[obN,G2]at r;subst r;rfl
     | some v=>
       cases h with|none=>exact p.elim|some v'=>
         obtain⟨q,rfl⟩:=KD p r;simp[run_sliceBound h1]
 | some u=>
   cases m with|none=>exact x.elim|some A=>
     obtain⟨q,rfl⟩:=KD x y;cases lo with
     | none=>
       cases h with|some _=>exact p.elim|none=>simp[obN,G2]at r;subst r;simp[run_sliceBound h2]
     | some v=>
       cases h with|none=>exact p.elim|some v'=>
         obtain⟨q,rfl⟩:=KD p r;simp[run_sliceBound h1,run_sliceBound h2]
def ZrJ{l:Nat}{lo r mx h p mx':O N}(y:ZgJ ρ lo h)(C:ZgJ ρ r p)(B:ZgJ ρ mx mx')(E:r.isSome=true)(t:mx.isSome=true)(A:obN lo 0=some l)(G:obN r n=some k)(F:obN mx 0=some m)
 (h1:l<=k) (h2:k<=m) (D:m<=c) (b:Z):(Instr.sliceBounds b n c h p mx').run P w=.ok (l,k,m) w:=by
 unfold Instr.sliceBounds;cases mx with|none=>simp at t|some x=>
   cases mx' with|none=>exact B.elim|some I=>
     obtain⟨q,rfl⟩:=KD B F;cases r with|none=>simp at E|some u=>
       cases p with|none=>exact C.elim|some K=>
         obtain⟨q,rfl⟩:=KD C G;cases lo with
         | none=>
           cases h with|some _=>exact y.elim|none=>simp[obN,G2]at A;subst A;simp[run_sliceBound h2,run_sliceBound D]
         | some v=>
           cases h with|none=>exact y.elim|some v'=>
             obtain⟨q,rfl⟩:=KD y A;simp[run_sliceBound h1,run_sliceBound h2,run_sliceBound D]
def aslice(P:Program)(h:H)(t:TypeId)(x:Value)(lo p mx:Option Value):Option Value:=
 match P.underlying t,x with
 | some (.slice e),.slice none 0 0=>
   match YX P e,obN lo 0,obN p 0,mx with
   | some _,some 0,some 0,none=>some (.slice none 0 0)
   | some _,some 0,some 0,some m=>match ZoW m with|some 0=>bif p.isSome then some (.slice none 0 0) else none|_=>none
   | _,_,_,_=>none
 | some (.slice e),.slice (some ⟨0,0,some 0⟩) 0 0=>
   match YX P e,obN lo 0,obN p 0,mx with
   | some _,some 0,some 0,none=>some (.slice (some ⟨0,0,some 0⟩) 0 0)
   | some _,some 0,some 0,some m=>match ZoW m with|some 0=>bif p.isSome then some (.slice (some ⟨0,0,some 0⟩) 0 0) else none|_=>none
   | _,_,_,_=>none
 | some (.slice e),.slice (some ⟨i,o,none⟩) n c=>
   match YX P e,obN lo 0,obN p n,mx with
   | some sz,some l,some k,none=>
     bif Nat.ble l k&&Nat.ble k (c / 2) then
      bif Nat.beq (c % 2) 0 then some (.slice (some ⟨i,bif Nat.beq (c / 2) l then o else o+l*sz,none⟩) (k-l) (2*(c / 2-l)))
      else bif Nat.beq l 0 then some (.slice (some ⟨i,o,none⟩) k c)
      else match h.at i with|.row _ true s=>bif Nat.beq s sz&&Nat.ble 1 sz then some (.slice (some ⟨i,o+l*sz,none⟩) (k-l) (2*(c / 2-l)+1)) else none|_=>none
     else none
   | some sz,some l,some k,some m=>match ZoW m with
     | some m=>bif Nat.ble l k&&Nat.ble k m&&Nat.ble m (c / 2)&&p.isSome then
        some (.slice (some ⟨i,bif Nat.beq m l then o else o+l*sz,none⟩) (k-l) (2*(m-l)))
       else none
     | none=>none
   | _,_,_,_=>none
 | some (.array n e),.pointer (some ⟨i,o,none⟩)=>
   match YX P e,obN lo 0,obN p n,mx with
   | some sz,some l,some k,none=>
     bif Nat.ble l k&&Nat.ble k n&&Nat.ble n 9223372036854775807 then some (.slice (some ⟨i,bif Nat.beq n l then o else o+l*sz,none⟩) (k-l) (2*(n-l))) else none
   | _,_,_,_=>none
 | _,_=>none
def KI(x y:Nat)(l:Nat×Nat)(k:Nat)(h:k<=9223372036854775807):ZWU (2*k) k x l/\(y=y):=by refine⟨⟨h,?_⟩,rfl⟩;rw[if_pos V6];omega
def Zso{t:TypeId}{x x' v:Value}{lo B mx Q S mx':Option Value}(r:Rel ρ h w)(hx:VR ρ x x')(hl:ZgJ ρ lo Q)(hh:ZgJ ρ B S)(W:ZgJ ρ mx mx')
 (p:aslice P h t x lo B mx=some v):∃v',VR ρ v v'/\(Instr.sliceAt t x' Q S mx').run P w=.ok v' w:=by
 unfold aslice at p;split at p
 .rename_i e hu;cases hx;split at p
  .rename_i L A K I;cases p;cases mx' with|some _=>exact W.elim|none=>
     refine⟨_,.Zad,?_⟩;have G:=ZkQ (P:=P) (w:=w) (n:=0) (c:=0) hl hh K I V7 V7 true;simp[Instr.sliceAt,run_underlying hu,Instr.slice,G,run_sizeOf A]
  .rename_i L m A K I;split at p;.rename_i e3;cases T:B.isSome<;>rw[T]at p<;>simp at p;subst p;refine⟨_,.Zad,?_⟩;have G:=ZrJ (P:=P) (w:=w) (n:=0) (c:=0) hl hh W T rfl K I e3 V7 V7 V7 true;simp[Instr.sliceAt,run_underlying hu,Instr.slice,G,run_sizeOf A]
   cases p
  cases p
 .rename_i e hu;cases hx with|U8 a=>
  split at p
  .rename_i L A K I;cases p;cases mx' with|some _=>exact W.elim|none=>
     refine⟨_,.U8 a,?_⟩;have G:=ZkQ (P:=P) (w:=w) (n:=0) (c:=0) hl hh K I V7 V7 true;simp[Instr.sliceAt,run_underlying hu,Instr.slice,G,run_sizeOf A]
  .rename_i L m A K I;split at p;.rename_i e3;cases T:B.isSome<;>rw[T]at p<;>simp at p;subst p;refine⟨_,.U8 a,?_⟩;have G:=ZrJ (P:=P) (w:=w) (n:=0) (c:=0) hl hh W T rfl K I e3 V7 V7 V7 true;simp[Instr.sliceAt,run_underlying hu,Instr.slice,G,run_sizeOf A]
   cases p
  cases p
 .rename_i e i o n c hu;split at p
  .rename_i L l k A K I;cases mx' with|some _=>exact W.elim|none=>
     cases E:(Nat.ble l k&&Nat.ble k (c / 2))<;>rw[E]at p<;>simp at p;rw[Ba0]at E;have h1:=Nl0 E.1;have h2:=Nl0 E.2
     have C:∀(a:Addr)(c':Nat),k<=c'->(Instr.sliceAt t (.slice (some a) n c') Q S none).run P w=.ok (.slice (some (if c'=l then a else a.add (l*L))) (k-l) (c'-l)) w:=fun a c' hk=>by
      have G:=ZkQ (P:=P) (w:=w) (n:=n) (c:=c') hl hh K I h1 hk true;simp[Instr.sliceAt,run_underlying hu,Instr.slice,G,run_sizeOf A];split<;>rfl
     cases hx with
     | QX _ o' _ B hc1=>
       rename_i b d;have hk0:k=0:=V6;have F:l=0:=V6;subst hk0;subst F;have hc0:c / 2=0:=V6;refine⟨_,?_,C ⟨b,o',none⟩ 0 V7⟩;rw[if_pos rfl];cases D:Nat.beq (c % 2) 0<;>rw[D]at p<;>simp[hc0]at p<;>subst p;.exact .QX _ _ _ B hc1
       exact .QX _ _ _ B V6
     | slice _ _ _ c' B q=>
       rename_i b d;cases D:Nat.beq (c % 2) 0<;>rw[D]at p<;>simp at p
       .have hodd:¬ c % 2=0:=fun e=>by rw[e]at D;cases D
        have hcb:=q.1;have Zc9:=q.2;rw[if_neg hodd]at Zc9;cases F:Nat.beq l 0<;>rw[F]at p<;>simp at p
        .split at p
         .rename_i cs s hat;cases T:(Nat.beq s L&&Nat.ble 1 L)<;>rw[T]at p<;>simp at p;subst p;rw[Ba0]at T;have hs1:=Nb0 T.1;have hs2:=Nl0 T.2;subst hs1;have ho:=r.obj _ _ _ B;rw[hat]at ho;have⟨cc,el,fz,hw,hfz,hlen,_⟩:=ho;have X:=(hfz rfl).2 V6;refine⟨_,?_,C ⟨b,d+o,none⟩ c' V6⟩;by_cases y:c'=l;.have hkl:k=l:=V6;subst hkl;subst y;have hc2:c / 2=c':=V6;rw[if_pos rfl,hc2,Nat.sub_self];exact .QX _ _ _ B V6
          rw[if_neg y,addr_add,GI];refine .slice _ _ _ _ B ?_;refine⟨by omega,?_⟩;rw[if_neg V6,X];rw[X]at Zc9;refine⟨by omega,?_⟩;have hmul:l*s+(c'-l)*s=c'*s:=by rw[<-Nat.add_mul];congr 1;omega
          have:=Zc9.2;simp only at this ⊢;omega
         cases p
        have ZYX:l=0:=Nb0 F;subst ZYX;subst p;refine⟨_,?_,C ⟨b,d+o,none⟩ c' V6⟩;have e:(if c'=0 then(⟨b,d+o,none⟩:Addr) else(⟨b,d+o,none⟩:Addr).add (0*L))=⟨b,d+o,none⟩:=by split<;>simp[addr_add]
        rw[e];exact .slice _ _ _ _ B q
       subst p;have D:=Nb0 D;have hcb:=q.1;have Zc9:=q.2;rw[if_pos D]at Zc9;subst Zc9;refine⟨_,?_,C ⟨b,d+o,none⟩ (c / 2) V6⟩;cases y:Nat.beq (c / 2) l;.rw[if_neg (fun e=>by rw[e,Nat.beq_refl]at y;cases y),addr_add,GI];exact .slice _ _ _ _ B (KI _ 0 _ _ V6).1
       rw[if_pos (Nb0 y)];exact .slice _ _ _ _ B (KI _ 0 _ _ V6).1
  .rename_i L l k m A K I;cases mx' with|none=>exact W.elim|some m'=>
     split at p
     .rename_i V e3;cases E:(Nat.ble l k&&Nat.ble k V&&Nat.ble V (c / 2)&&B.isSome)<;>rw[E]at p<;>simp at p;rw[Ba0,Ba0,Ba0]at E;obtain⟨⟨⟨h1,h2⟩,h3⟩,h4⟩:=E;have h1:=Nl0 h1;have h2:=Nl0 h2;have h3:=Nl0 h3
      have C:∀(a:Addr)(c':Nat),V<=c'->(Instr.sliceAt t (.slice (some a) n c') Q S (some m')).run P w=.ok (.slice (some (if V=l then a else a.add (l*L))) (k-l) (V-l)) w:=fun a c' hk=>by
       have G:=ZrJ (P:=P) (w:=w) (n:=n) (c:=c') (mx:=some m) (mx':=some m') hl hh W h4 rfl K I e3 h1 h2 hk true;simp[Instr.sliceAt,run_underlying hu,Instr.slice,G,run_sizeOf A];split<;>rfl
      subst p;cases hx with
      | QX _ o' _ B hc1=>
        rename_i b d;have hm0:V=0:=V6;have hk0:k=0:=V6;have F:l=0:=V6;subst hm0;subst hk0;subst F;refine⟨_,?_,C ⟨b,o',none⟩ 0 V7⟩;exact .QX _ _ _ B V6
      | slice _ _ _ c' B q=>
        rename_i b d;have hcb:=q.1
        have hcc:V<=c':=by
         have q:=q.2;split at q<;>omega
        refine⟨_,?_,C ⟨b,d+o,none⟩ c' hcc⟩;cases y:Nat.beq V l;.rw[if_neg (fun e=>by rw[e,Nat.beq_refl]at y;cases y),addr_add,GI];exact .slice _ _ _ _ B (KI _ 0 _ _ V6).1
        rw[if_pos (Nb0 y)];exact .slice _ _ _ _ B (KI _ 0 _ _ V6).1
     cases p
  cases p
 .rename_i n e i o hu;split at p
  .rename_i L l k A K I;cases mx' with|some _=>exact W.elim|none=>
     cases E:(Nat.ble l k&&Nat.ble k n&&Nat.ble n 9223372036854775807)<;>rw[E]at p<;>simp at p
     rw[Ba0,Ba0]at E;have h1:=Nl0 E.1.1;have h2:=Nl0 E.1.2;have h3:=Nl0 E.2;subst p;cases hx with|ptr _ B=>
       rename_i b d;have G:=ZkQ (P:=P) (w:=w) (n:=n) (c:=n) hl hh K I h1 h2 false
       have C:(Instr.sliceAt t (.pointer (some ⟨b,d+o,none⟩)) Q S none).run P w=.ok (.slice (some (if n=l then⟨b,d+o,none⟩ else(⟨b,d+o,none⟩:Addr).add (l*L))) (k-l) (n-l)) w:=by
        simp[Instr.sliceAt,run_underlying hu,Instr.sureAddr,G,run_sizeOf A]
       refine⟨_,?_,C⟩;cases y:Nat.beq n l;.rw[if_neg (fun e=>by rw[e,Nat.beq_refl]at y;cases y),addr_add,GI];exact .slice _ _ _ _ B (KI _ 0 _ _ V6).1
       rw[if_pos (Nb0 y)];exact .slice _ _ _ _ B (KI _ 0 _ _ V6).1
  cases p
 cases p
def Rel.drawn(r:Rel ρ h w)(k:Nat):Rel ρ h {w with drawn:=k}:=⟨r.dom,r.obj,r.inj⟩
def reads(h:H)(x:Value)(l:Nat):Option (List Value):=
 match x with
 | .slice none 0 0=>some []
 | .slice (some ⟨0,0,some 0⟩) 0 0=>some []
 | .slice (some ⟨i,o,none⟩) m _=>
   bif Nat.beq m 0 then some [] else
   match h.at i with|.row cs _ _=>bif Nat.ble (o+m*l) cs.length then some ((cs.drop o).take (m*l)) else none|_=>none
 | _=>none
def JN:N->Nat
 | .slice _ n _=>n
 | _=>0
def ZjZ{x A:Value}{p:Nat}{vs:List Value}(r:Rel ρ h w)(y:VR ρ x A)(l:reads h x p=some vs):
 ∃vs',LR ρ vs vs'/\vs.length=JN x*p/\(∀k,(Builtin.firstCells p (JN x) A).run P {w with drawn:=k}=.ok vs'.toArray {w with drawn:=k})/\(Builtin.lenOf A).run P w=.ok (JN x) w:=by
 unfold reads at l;split at l;.cases l;cases y;exact⟨[],LR.nil,by simp[JN],fun k=>by simp[Builtin.firstCells],by simp[Builtin.lenOf,JN]⟩
 .cases l;cases y;exact⟨[],LR.nil,by simp[JN],fun k=>by simp[Builtin.firstCells,loadCells,loadCellsFrom,JN],by simp[Builtin.lenOf,JN]⟩
 .rename_i i o m c;cases B:Nat.beq m 0<;>rw[B]at l<;>simp at l
  .split at l
   .rename_i cs own k D;cases I:Nat.ble (o+m*p) cs.length<;>rw[I]at l<;>simp at l
    subst l;have C:=Nl0 I;cases y with|QX _ Q _ F L=>cases B|slice _ _ _ c' F G=>
      rename_i b d;have E:=r.obj _ _ _ F;rw[D]at E;have⟨vs',hl,hcell,hvs⟩:=ZeF (o:=o) (n:=m*p) E C;refine⟨vs',by simpa using hvs.list,by simp[JN];omega,fun q=>?_,by simp[Builtin.lenOf,JN]⟩;have t:=run_loadCellsFrom (P:=P) (w:= {w with drawn:=q}) ⟨b,d+o,none⟩ (fun j=>vs'.getD j undef) (m*p) 0 #[] (fun j K=>by rw[addr_add];have:=hcell j K;rw[G6];exact this)
      have e:(List.range (m*p)).map (fun j=>vs'.getD (0+j) undef)=vs':=by
       apply List.ext_getElem (by simp[hl]);intro j h1 h2;simp[h2]
      rw[e]at t;simp[Builtin.firstCells,loadCells,JN,t]
   cases l
  subst l;obtain rfl:=Nb0 B;cases y<;>exact⟨[],LR.nil,by simp[JN],fun k=>by simp[Builtin.firstCells,loadCells,loadCellsFrom,JN],by simp[Builtin.lenOf,JN]⟩
 cases l
def ZFH(P:GW)(t:J):O Nat:=(P.info? t).map (·.bytes)
def ZAx(h:Nat):∀(r c:Nat),c<=2*h+1000->Builtin.growBy h r c<=2*h+1000:=by
 intro r
 induction r with|zero=>intro c l;exact l|succ r ih=>
   intro c l;unfold Builtin.growBy;split;.exact l
   exact ih _ V6
def nextslicecap_le{h:Nat}(l:k<h):Builtin.nextslicecap h k<=2*h+1000:=by
 unfold Builtin.nextslicecap;split;.omega
 split;.omega
 exact ZAx _ _ _ V6
def ZaI(P:GW)(ts:GZ J):O (J×Nat×Nat×N):=
 match ts.toList with
 | st::xt::_=>
   match P.underlying st,P.underlying xt with
   | some (.slice e),some (.slice _)=>
     match YX P e,ZFH P e,Xl P e with|some sz,some by_,some z=>bif Nat.ble 1 sz&&Nat.ble 1 by_&&Nat.beq z.cells.toList.length sz then some (e,sz,by_,z) else none|_,_,_=>none
   | _,_=>none
 | _=>none
def Zs2:N->Z
 | .slice _ _ _=>true
 | _=>false
def J2(P:GW)(h:H)(ts:GZ J)(s x:N):O (N×Eff):=
 match ZaI P ts,s with
 | some (_,sz,by_,_),.slice base n c=>
   match reads h x sz with
   | some new=>
     let m:=JN x
     bif Nat.ble (n+m) (c / 2) then
      bif Nat.beq m 0 then some (s,.none)
      else match base with
      | some ⟨i,o,none⟩=>match h.at i with|.row cs true k=>bif Nat.ble (o+n*sz+new.length) cs.length&&new.all Value.oneCell' then some (.slice base (n+m) c,.upd i (.row (splice cs (o+n*sz) new) true k)) else none|_=>none
      | _=>none
     else bif Nat.ble ((2*(n+m)+1000)*by_) (2 ^ 47)&&new.all Value.oneCell' then
      match reads h s sz with
      | some l=>
        bif Nat.beq (c % 2) 0 then some (.slice (some ⟨h.size,0,none⟩) (n+m) (2*(n+m)+1),.new (.row (l++new) true sz))
        else match base with
        | some ⟨i,_,none⟩=>match h.at i with|.row _ true k=>bif Nat.beq k sz then some (.slice (some ⟨h.size,0,none⟩) (n+m) (2*(n+m)+1),.grow i (.row (l++new) true sz)) else none|_=>none
        | _=>none
      | none=>none
     else none
   | none=>none
 | _,_=>none
def Zei{ts:GZ J}{ty e:J}{r by_:Nat}{z:N}{base:O Addr}{x:N}{new:U N}(h:ZaI P ts=some (e,r,by_,z))
 (C:(Builtin.lenOf x).run P w=.ok m w) (D:(Builtin.firstCells r m x).run P w=.ok new.toArray w) (l:n+m<=c):
 (Builtin.append_ ts ty #[.slice base n c,x]).run P w=
   match base with
   | some a=>((storeCells (a.add (n*r)) new).run P w).andThen fun _ w'=>.ok (.slice base (n+m) c) w'
   | none=>.ok (.slice none (n+m) c) w:=by
 unfold ZaI at h;split at h
 .rename_i st xt rest q;split at h
  .rename_i I F h1 h2;split at h
   .rename_i p t y s1 s2 G;cases E:(Nat.ble 1 p&&Nat.ble 1 t&&Nat.beq y.cells.toList.length p)<;>rw[E]at h<;>simp at h;obtain⟨rfl,rfl,rfl,rfl⟩:=h;have B:ts[0]? =some st:=by rw[<-Gg,q];rfl
    have A:ts[1]? =some xt:=by rw[<-Gg,q];rfl
    unfold Builtin.append_;cases base<;>simp[B,A,run_underlying h1,run_underlying h2,run_sizeOf s1,C,l,D]
   cases h
  cases h
 cases h
def ZrQ{ts:GZ J}{ty e:J}{B by_:Nat}{z:N}{base:O Addr}{x:N}{q new:U N}(l:ZaI P ts=some (e,B,by_,z))
 (hl:(Builtin.lenOf x).run P w=.ok m w) (r:c<n+m) (hb:(2*(n+m)+1000)*by_<=2 ^ 47)
 (ho:∀k,(Builtin.firstCells B n (.slice base n c)).run P {w with drawn:=k}=.ok q.toArray {w with drawn:=k})
 (hf:∀k,(Builtin.firstCells B m x).run P {w with drawn:=k}=.ok new.toArray {w with drawn:=k}):
 ∃(cap:Nat) (rest:U N),n+m<=cap/\cap<=9223372036854775807/\rest.length=(cap-(n+m))*B/\(Builtin.append_ ts ty #[.slice base n c,x]).run P w=
   .ok (.slice (some ⟨w.heap.size,0,none⟩) (n+m) cap) (World.push {w with drawn:=w.drawn+1} (.cells (q++new++rest).toArray e)):=by
 unfold ZaI at l;split at l
 .rename_i st xt rest y;split at l
  .rename_i A xe h1 h2;split at l
   .rename_i p Q S s1 s2 s3;cases G:(Nat.ble 1 p&&Nat.ble 1 Q&&Nat.beq S.cells.toList.length p)<;>rw[G]at l<;>simp at l;obtain⟨rfl,rfl,rfl,rfl⟩:=l;rw[Ba0,Ba0]at G;have⟨⟨V,T⟩,L⟩:=G;have V:=Nl0 V;have T:=Nl0 T;have L:=Nb0 L;have X:ts[0]? =some st:=by rw[<-Gg,y];rfl
    have W:ts[1]? =some xt:=by rw[<-Gg,y];rfl
    have⟨z1,z2,z3⟩:=JS s3;have hn:¬ n+m<=c:=V6
    unfold ZFH at s2;cases K:P.info? A with|none=>rw[K]at s2;cases s2|some h=>
      rw[K]at s2;simp[Option.map_some,G2]at s2;have C:∀w',(typeInfo A).run P w'=.ok h w':=fun w'=>by simp[typeInfo,K]
      have t:¬ (Builtin.nextslicecap (n+m) c*h.bytes>2 ^ 48):=by
       have h5:=nextslicecap_le r;have h6:=GP h.bytes h5;rw[s2]at h6 ⊢;omega
      have I:¬ (h.bytes=0):=V6;refine⟨(n+m)+w.tape w.drawn (.appendCap (n+m) c A) % (2 ^ 63-(n+m)),(Builtin.zeroCells S.cells (w.tape w.drawn (.appendCap (n+m) c A) % (2 ^ 63-(n+m)))).toList,by omega,?_,?_,?_⟩;.have E:(2*(n+m)+1000)*1<=(2*(n+m)+1000)*h.bytes:=Nat.mul_le_mul_left _ V6;rw[s2]at E;have:=Nat.mod_lt (w.tape w.drawn (.appendCap (n+m) c A)) (show 0<2 ^ 63-(n+m) by omega);omega
      .simp[Builtin.zeroCells];rw[<-L];simp
      unfold Builtin.append_;have D:(Builtin.firstCells p n (.slice base n c)).run P w.drew=.ok q.toArray w.drew:=ho (w.drawn+1);have F:(Builtin.firstCells p m x).run P w.drew=.ok new.toArray w.drew:=hf (w.drawn+1);simp[X,W,run_underlying h1,run_underlying h2,run_sizeOf s1,hl,hn,C,t,I,Question.forced,Question.cut,D,F,z1,newRow,World.push];unfold World.alloc World.drew;simp;congr 2;apply Array.toList_inj.1;simp
   cases l
  cases l
 cases l
def Zsx{vs:List Value}(r:Rel ρ h w)(y:ρ i=some (b,d))(l:reads h (.slice (some ⟨i,o,none⟩) n c) m=some vs):
 ∃vs',LR ρ vs vs'/\∀j,j<n*m->w.cell? ⟨b,d+o+j,none⟩=some (vs'.getD j undef):=by
 simp[reads]at l;cases t:Nat.beq n 0<;>rw[t]at l<;>simp at l
 .split at l;.rename_i cs own k p;cases x:Nat.ble (o+n*m) cs.length<;>rw[x]at l<;>simp at l;subst l;have q:=r.obj _ _ _ y;rw[p]at q;have⟨vs',hl,hcell,hvs⟩:=ZeF (o:=o) (n:=n*m) q (Nl0 x);exact⟨vs',by simpa using hvs.list,hcell⟩
  cases l
 subst l;obtain rfl:=Nb0 t;exact⟨[],LR.nil,fun j A=>by omega⟩
def ZEl{sz:Nat}{cs x new q new':U N}(r:Rel ρ h w)(V:ρ i=some (b,d))(G:h.at i=.row cs true sz)(hsz:1<=sz)
 (Q:LR ρ x q) (hn:LR ρ new new') (lo:x.length=n*sz) (ln:new.length=m*sz) (h1:new.all Value.oneCell'=true)
 (C:∀j,j<n*sz->w.cell? ⟨b,d+o+j,none⟩=some (q.getD j undef)) (A:d+o+c'*(ρ.lim i).2<=(ρ.lim i).1) (B:n+m<=c'):
 ∃w',(storeCells ⟨b,d+o+n*sz,none⟩ new').run P w=.ok () w'/\Same w w'/\(Eff.grow i (.row (x++new) true sz)).real ρ h w (ρ.add h.size (b,d+o) (ρ.lim i)) w':=by
 have D:=r.obj _ _ _ V;rw[G]at D;have⟨cc,el,fz,hw,hfz,hlen,hc⟩:=D;obtain⟨rfl,t⟩:=hfz rfl;have t:=t V6;rw[t]at A;simp only at A;have S:n*sz+m*sz<=c'*sz:=by rw[<-Nat.add_mul];exact GP _ B
 have ln':=hn.1;have lo':=Q.1;have hcl:cc.toList.length=cc.size:=Gc;refine⟨_,run_storeCells_at (P:=P) b (d+o+n*sz) el new' 0 cc w hw V6 (hn.oneCell h1),ZjY _ _ _,b,d,V,.inl ⟨d+o,_,rfl,setRow_size _ _ _,fun k T=>setRow_other _ _ _ _ T,?_⟩⟩;have Zwa:(cc.toList.take (d+o+n*sz+0)++new'++cc.toList.drop (d+o+n*sz+0+new'.length)).toArray.toList=splice cc.toList (d+o+n*sz) new':=by simp[splice]
 have L:(splice cc.toList (d+o+n*sz) new').length=cc.toList.length:=UW V6;refine⟨_,el,(0,0),setRow_heap w b cc _ el (0,0) hw,fun _=>⟨rfl,fun _=>?_⟩,?_,fun k v v' a X=>?_⟩;.rw[t];congr 1;rw[<-Gc,<-Gc,Zwa,L]
 .rw[<-Gc,Zwa,L,K1];omega
 rw[<-Gg,Zwa]at X;have E:=Ren.ZbK (p:=(b,d+o)) (l:=ρ.lim i) r.fresh;refine((Q.append hn).2 k v v' a ?_).mono E;rw[<-X]
 have T:k<x.length+new.length:=by
  rw[<-K1];rcases Gl k (x++new).length with F|F
  .exact F
  rw[G7 F]at a;cases a
 simp only[splice,Q4,List.getElem?_append,List.getElem?_take,Gt,Gc];have e2:min (d+o+n*sz) cc.size=d+o+n*sz:=V6;rw[e2];by_cases k1:k<n*sz;.have K:k<q.length:=V6;have I:d+o+k<d+o+n*sz:=V6;have y:=C k k1;have W:d+o+k<cc.size:=V6;simp[World.cell?,hw,W]at y;simp[K,I,W,y]
 have K:¬ k<q.length:=V6;have I:¬ d+o+k<d+o+n*sz:=V6;have e3:d+o+k-(d+o+n*sz)=k-q.length:=V6;have a4:k-q.length<new'.length:=V6;simp[K,I,e3,a4]
def ZrP{ts:GZ J}{ty:J}{s s' x x' v:N}{E:Eff}(r:Rel ρ h w)(hs:VR ρ s s')(hx:VR ρ x x')(t:J2 P h ts s x=some (v,E)):
 Ja P ρ h w (do pure (.value (<-Builtin.append_ ts ty #[s',x']))) (.val v) E:=by
 unfold J2 at t;split at t
 ·rename_i e sz by_ z base n c F;split at t
  ·rename_i new hnew;obtain⟨B,n1,n2,n3,n4⟩:=ZjZ (P:=P) r hx hnew;dsimp only at t
   have hsz:1<=sz:=by
    unfold ZaI at F;split at F
    ·split at F
     ·split at F
      ·rename_i sz0 by0 z0 s1 s2 s3;cases hc:(Nat.ble 1 sz0&&Nat.ble 1 by0&&Nat.beq z0.cells.toList.length sz0)<;>rw[hc]at F<;>simp at F
       obtain⟨rfl,rfl,rfl,rfl⟩:=F;rw[Ba0,Ba0]at hc;exact Nl0 hc.1.1
      cases F
     cases F
    cases F
   cases C:Nat.ble (n+JN x) (c / 2)<;>rw[C]at t<;>simp at t
   ·-- a new row, or the X behind a row whose capacity is not known
    have hlt:c / 2<n+JN x:=by
     rcases Gl (c / 2) (n+JN x) with hh|hh
     ·exact hh
     rw[Nm0 hh]at C;cases C
    cases W:(Nat.ble ((2*(n+JN x)+1000)*by_) 140737488355328&&new.all Value.oneCell')<;>rw[W]at t<;>simp at t
    rw[Ba0]at W;have V:=Nl0 W.1;split at t
    ·rename_i old hold;obtain⟨A,o1,o2,o3,o4⟩:=ZjZ (P:=P) r hs hold
     have fresh:∀q c',s'=.slice q n c'->c'<n+JN x->∃w' v' l,(Builtin.append_ ts ty #[s',x']).run P w=.ok v' w'/\Same w w'/\(∃ob,w'.heap=w.heap.push ob)/\
      VR (ρ.add h.size (w.heap.size,0) l) (.slice (some ⟨h.size,0,none⟩) (n+JN x) (2*(n+JN x)+1)) v'/\
      Jr (ρ.add h.size (w.heap.size,0) l) w' w.heap.size 0 l (.row (old++new) true sz):=by
      intro q c' hs' D;subst hs';have o3':∀k,(Builtin.firstCells sz n (.slice q n c')).run P {w with drawn:=k}=.ok A.toArray {w with drawn:=k}:=o3;obtain⟨cap,rest,q1,q4,q2,q3⟩:=ZrQ (P:=P) (w:=w) (ty:=ty) F n4 D (by simpa using V) o3' n3;refine⟨_,_,((A++B++rest).length,sz),q3,⟨rfl,rfl,rfl⟩,⟨_,rfl⟩,?_,?_⟩
      ·have:=VR.slice (ρ:=ρ.add h.size (w.heap.size,0) ((A++B++rest).length,sz)) 0 (n+JN x) (2*(n+JN x)+1) cap (Ren.add_same ρ h.size _ _) (by
        refine⟨q4,?_⟩;rw[if_neg V6,Ren.Zc1];refine⟨by omega,?_⟩;have e1:old.length=n*sz:=o2;have e2:=o1.1;have e3:=n1.1
        have hm:n*sz+JN x*sz+(cap-(n+JN x))*sz=cap*sz:=by
         rw[<-Nat.add_mul,<-Nat.add_mul];congr 1;omega
        simp only[K1];omega)
       simpa using this
      have:=ZgX (r.drawn (w.drawn+1)) (cs:=old++new) (cs':=(A++B++rest).toArray) (e:=e) (rest:=A++B) sz (o1.append n1) ⟨rest,by simp⟩;obtain⟨l,e1,_,e2⟩:=this
      have hl:l=((A++B++rest).toArray.size,sz):=by
       have h1:=congrArg (fun ρ:Ren=>ρ.lim h.size) e1;simp only[Ren.Zc1]at h1;exact h1.symm
      subst hl
      simpa using e2
     cases G:Nat.beq (c % 2) 0<;>rw[G]at t<;>simp at t
     ·split at t
      ·rename_i i o;split at t
       ·rename_i cs k hat;cases hk:Nat.beq k sz<;>rw[hk]at t<;>simp at t
        obtain⟨rfl,rfl⟩:=t;have hk:=Nb0 hk;subst hk;have hodd:¬ c % 2=0:=fun e=>by rw[e]at G;cases G
        cases hs with
        | QX _ o' _ y hc1=>
          rename_i b d;obtain⟨w',v',l,S,Q,L,K,I⟩:=fresh (some ⟨b,o',none⟩) 0 rfl V6;exact⟨_,w',Q,⟨b,d,y,.inr ⟨l,rfl,L,I⟩⟩,v',K,by simp[S]⟩
        | slice _ _ _ c' y p=>
          rename_i b d;by_cases D:c'<n+JN x
          ·obtain⟨w',v',l,S,Q,L,K,I⟩:=fresh (some ⟨b,d+o,none⟩) c' rfl D;exact⟨_,w',Q,⟨b,d,y,.inr ⟨l,rfl,L,I⟩⟩,v',K,by simp[S]⟩
          have Zc9:=p.2;rw[if_neg hodd]at Zc9;obtain⟨ZSf,p1,T⟩:=Zsx r y hold;obtain⟨w',g1,g2,g3⟩:=ZEl (P:=P) (o:=o) (n:=n) (m:=JN x) (c':=c') r y hat hsz p1 n1 o2 n2 W.2 T Zc9.2 V6;refine⟨_,w',g2,g3,.slice (some ⟨b,d+o,none⟩) (n+JN x) c',?_,?_⟩
          ·have:=VR.slice (ρ:=ρ.add h.size (b,d+o) (ρ.lim i)) 0 (n+JN x) (2*(n+JN x)+1) c' (Ren.add_same ρ h.size _ _) (by
            refine⟨p.1,?_⟩;rw[if_neg V6,Ren.Zc1];exact⟨by omega,by simpa using Zc9.2⟩)
           simpa using this
          have:=Zei (P:=P) (w:=w) (ty:=ty) (base:=some ⟨b,d+o,none⟩) (n:=n) (c:=c') F n4 (n3 w.drawn) V6;dsimp only at this;rw[addr_add]at this;simp[this,g1]
       cases t
      cases t
     obtain⟨rfl,rfl⟩:=t;have G:=Nb0 G;cases hs with
     | Zad=>
       obtain⟨w',v',l,S,Q,L,K,I⟩:=fresh none 0 rfl V6;exact⟨_,w',Q,⟨l,rfl,L,I⟩,v',K,by simp[S]⟩
     | U8 a=>
       obtain⟨w',v',l,S,Q,L,K,I⟩:=fresh (some a) 0 rfl V6;exact⟨_,w',Q,⟨l,rfl,L,I⟩,v',K,by simp[S]⟩
     | QX _ o' _ y hc1=>
       obtain⟨w',v',l,S,Q,L,K,I⟩:=fresh _ 0 rfl V6;exact⟨_,w',Q,⟨l,rfl,L,I⟩,v',K,by simp[S]⟩
     | slice _ _ _ c' y p=>
       have Zc9:=p.2;rw[if_pos G]at Zc9;obtain⟨w',v',l,S,Q,L,K,I⟩:=fresh _ c' rfl V6;exact⟨_,w',Q,⟨l,rfl,L,I⟩,v',K,by simp[S]⟩
    cases t
   -- X that is known
   have hle:=Nl0 C;have X:∀c',c'=c / 2\/c / 2<=c'->n+JN x<=c':=fun c' D=>by omega
   cases hm:Nat.beq (JN x) 0<;>rw[hm]at t<;>simp at t
   ·split at t
    ·rename_i i o;split at t
     ·rename_i cs k hat;cases W:(Nat.ble (o+n*sz+new.length) cs.length&&new.all Value.oneCell')<;>rw[W]at t<;>simp at t
      obtain⟨rfl,rfl⟩:=t;rw[Ba0]at W;have hlen:=Nl0 W.1;cases hs with
      | QX _ o' _ y hc1=>
        exfalso;have:JN x=0:=V6
        rw[this]at hm;cases hm
      | slice _ _ _ c' y p=>
        rename_i b d;have ho:=r.obj _ _ _ y;rw[hat]at ho
        have D:c / 2<=c':=by
         have p:=p.2;split at p<;>omega
        obtain⟨w',g1,g2,g3⟩:=ZoI (P:=P) (h:=h) (o:=o+n*sz) y ho n1 W.2 hlen;refine⟨ρ,w',g2,g3,.slice (some ⟨b,d+o,none⟩) (n+JN x) c',.slice _ _ _ _ y p,?_⟩;have:=Zei (P:=P) (w:=w) (ty:=ty) (base:=some ⟨b,d+o,none⟩) (n:=n) (c:=c') F n4 (n3 w.drawn) V6;dsimp only at this;rw[addr_add,GI]at this;simp[this,g1]
     cases t
    cases t
   obtain⟨rfl,rfl⟩:=t;have hm0:=Nb0 hm;have ZTK:new=[]:=Gd (by rw[n2,hm0,Nat.zero_mul]);have hnew1:B=[]:=Gd (by rw[<-n1.1,ZTK];rfl);subst hnew1
   have fin:∀q c',s'=.slice q n c'->n+JN x<=c'->(Builtin.append_ ts ty #[s',x']).run P w=.ok s' w:=fun q c' hs' D=>by
    subst hs';have:=Zei (P:=P) (w:=w) (ty:=ty) (base:=q) (n:=n) (c:=c') F n4 (n3 w.drawn) D;rw[this,hm0];cases q<;>simp[storeCells]
   refine Ja.KT hs ?_;cases hs with|Zad=>exact fin none 0 rfl V6|U8 a=>exact fin (some a) 0 rfl V6|QX _ o' _ y hc1=>exact fin _ 0 rfl V6|slice _ _ _ c' y p=>
     refine fin _ c' rfl ?_;have p:=p.2;split at p<;>omega
  cases t
 cases t
def EL.length{es es':U V0}(e:EL ρ es es'):es'.length=es.length:=by induction e with|nil=>rfl|cons _ _ _ _ _ ih=>simp[ih]
def EL.get{es es':U V0}(e:EL ρ es es'):∀{i:Nat}{x:V0},es[i]? =some x->∃l,es'[i]? =some l/\l.key=x.key/\plain x.key=true/\l.born=x.born/\VR ρ x.val l.val:=by
 induction e with|nil=>intro i x h;simp at h|cons p m q hv _ ih=>
   intro i x h;cases i with|zero=>simp at h;subst h;exact⟨_,rfl,p,m,q,hv⟩|succ i=>simp at h;simpa using ih h
def EL.modify{es es':U V0}(e:EL ρ es es'){f f':V0->V0}(q:∀x h,h.key=x.key->plain x.key=true->h.born=x.born->VR ρ x.val h.val ->
 (f' h).key=(f x).key/\plain (f x).key=true/\(f' h).born=(f x).born/\VR ρ (f x).val (f' h).val):∀(i:Nat),EL ρ (es.modify i f) (es'.modify i f'):=by
 induction e with|nil=>intro i;cases i<;>exact .nil|cons m l p hv t ih=>
   intro i;cases i with
   | zero=>
     have⟨a,b,c,d⟩:=q _ _ m l p hv;exact .cons a b c d t
   | succ i=>exact .cons m l p hv (ih i)
def EL.snoc{es es':U V0}(e:EL ρ es es'){x h:V0}(m:h.key=x.key)(l:plain x.key=true)(p:h.born=x.born)(hv:VR ρ x.val h.val):EL ρ (es++[x]) (es'++[h]):=by induction e with|nil=>exact .cons m l p hv .nil|cons a b c d _ ih=>exact .cons a b c d ih
def EL.erase{es es':U V0}(e:EL ρ es es'):∀(i:Nat),EL ρ (es.eraseIdx i) (es'.eraseIdx i):=by
 induction e with|nil=>intro i;exact .nil|cons a b c d t ih=>
   intro i;cases i with|zero=>exact t|succ i=>exact .cons a b c d (ih i)
def FR(ρ:Ren):O (Nat×N)->O (Nat×N)->Prop
 | none,none=>True
 | some (i,v),some (j,v')=>j=i/\VR ρ v v'
 | _,_=>False
def Zok(l:TypeDesc)(k:N){es es':U V0}(e:EL ρ es es'):∀(i:Nat) r,Instr.findNow l k es i=some r->∃r',Instr.findNow l k es' i=some r'/\FR ρ r r':=by
 induction e with|nil=>intro i r h;simp[Instr.findNow,G2]at h;subst h;exact⟨none,rfl,trivial⟩|cons m p q hv t ih=>
   intro i r h;simp[Instr.findNow]at h ⊢;rw[m];split at h;.cases h;exact⟨_,rfl,rfl,hv⟩
   .exact ih _ _ h
   cases h
def ZqX(l:TypeDesc)(k:N){es es':U V0}(e:EL ρ es es'):∀(i:Nat),Instr.findNow l k es i=none->Instr.findNow l k es' i=none:=by
 induction e with|nil=>intro i h;simp[Instr.findNow]at h|cons m p q hv t ih=>
   intro i h;simp[Instr.findNow]at h ⊢;rw[m];split at h;.cases h
   .exact ih _ h
   rfl
def Zg0{l β:Type}:∀(s:Sem l)(f:l->Sem β)(b:β),ZP P (s >>=f)=some (.ok b)->∃a,ZP P s=some (.ok a)/\ZP P (f a)=some (.ok b):=by intro s;induction s with|pure a=>intro f b h;exact⟨a,rfl,h⟩|program k ih=>intro f b h;exact ih P f b h|halt x=>intro f b h;cases x<;>cases h|load|store|new|shape|freeze|frozen|getObj|setObj|choose|sys|mark=>intro f b h;cases h
def Zi4(m:J)(k:N){es es':U V0}(e:EL ρ es es'):∀(i:Nat) r,ZP P (Instr.findAsking m k es i)=some (.ok r)->∃r',(Instr.findAsking m k es' i).run P w=.ok r' w/\FR ρ r r':=by
 induction e with|nil=>intro i r h;simp[Instr.findAsking]at h;cases h;exact⟨none,rfl,trivial⟩|@cons e q es es' p x y hv t ih=>
   intro i r h;simp[Instr.findAsking]at h ⊢;have⟨b,h1,h2⟩:=Zg0 _ _ _ h;rw[p];have l:=Zct _ _ h1 w;cases b with
   | true=>
     simp[if_true]at h2;cases h2;exact⟨some (i,q.val),by simp[l],rfl,hv⟩
   | false=>
     simp[Bool.false_eq_true,if_false]at h2;have⟨r',q1,q2⟩:=ih (i+1) r h2;exact⟨r',by simp[l,q1],q2⟩
def Zol(l:J)(k:N){es es':U V0}(e:EL ρ es es'){r:O (Nat×N)}(m:ZP P (Instr.findKey l k es)=some (.ok r)):
 ∃r',(Instr.findKey l k es').run P w=.ok r' w/\FR ρ r r':=by
 unfold Instr.findKey at m ⊢;have⟨d,h1,h2⟩:=Zg0 _ _ _ m;have p:=Zct _ _ h1 w;cases h:Instr.findNow d k es 0 with
 | some x=>
   rw[h]at h2;simp[Pure.pure,ZP,G2,Except.ok.injEq]at h2;subst h2;have⟨r',q1,q2⟩:=Zok d k e 0 x h;exact⟨r',by simp[p,q1],q2⟩
 | none=>
   rw[h]at h2;have⟨r',q1,q2⟩:=Zi4 (P:=P) (w:=w) l k e 0 r h2;exact⟨r',by simp[p,ZqX d k e 0 h,q1],q2⟩
def Zkw(h:H)(m:N):O (U V0×Nat):=
 match m with
 | .map none=>some ([],0)
 | .map (some i)=>match h.at i with|.map es c=>some (es,c)|_=>none
 | _=>none
def run_getObj_map{es:GZ V0}(h:w.heap[b]? =some (.map es c)):(getObj b).run P w=.ok (.map es c) w:=by simp[getObj,Sem.run,h]
def run_setObj_map{es:GZ V0}{o:Obj}(h:w.heap[b]? =some (.map es c)):(setObj b o).run P w=.ok () {w with heap:=w.heap.setIfInBounds b o}:=by simp[setObj,Sem.run,h]
def Zbr(P:GW)(e:Z)(h:J)(k:N):Z:=
 plain k&&(match ZP P (Instr.checkKey e 10000 h k) with|some (.ok _)=>true|_=>false)
def Za7{e:Z}{l:J}{k m:N}(p:VR ρ k m)(h:Zbr P e l k=true):m=k/\plain k=true/\∀w,(Instr.checkKey e 10000 l k).run P w=.ok () w:=by
 unfold Zbr at h;rw[Ba0]at h;refine⟨VR.XA h.1 p,h.1,fun w=>?_⟩;have:=h.2;split at this;next e=>exact Zct _ _ e w
 cases this
def ZnB(P:GW)(h:J)(k:N)(es:U V0):O (O (Nat×N)):=
 match ZP P (Instr.findKey h k es) with|some (.ok r)=>some r|_=>none
def WA{l:J}{k:N}{es es':U V0}{r:O (Nat×N)}(e:EL ρ es es')(h:ZnB P l k es=some r):
 ∃r',(Instr.findKey l k es').run P w=.ok r' w/\FR ρ r r':=by
 unfold ZnB at h;split at h;next q=>cases h;exact Zol l k e q
 cases h
def VR.pair{a m b l:N}(h1:VR ρ a m)(h2:VR ρ b l):VR ρ (.tuple #[a,b]) (.tuple #[m,l]):=by refine .tuple _ _ rfl fun i v v' e h=>?_;match i with|0=>simp at e h;subst e h;exact h1|1=>simp at e h;subst e h;exact h2|i+2=>simp at e
def K5(P:GW)(h:H)(t:J)(m k:N)(ok:Z):O N:=
 match P.underlying t,Zkw h m with
 | some (.map kt et),some (es,_)=>
   bif Zbr P es.isEmpty kt k then
    match ZnB P kt k es with
    | some (some (_,v))=>some (bif ok then .tuple #[v,.bool true] else v)
    | some none=>match Xl P et with|some z=>some (bif ok then .tuple #[z,.bool false] else z)|none=>none
    | none=>none
   else none
 | _,_=>none
def ZcX{m q:N}{es:U V0}(r:Rel ρ h w)(t:VR ρ m q)(l:Zkw h m=some (es,c)):
 (m=.map none/\q=.map none/\es=[])\/∃i b es',m=.map (some i)/\q=.map (some b)/\ρ i=some (b,0)/\h.at i=.map es c/\w.heap[b]? =some (.map es' c)/\EL ρ es es'.toList:=by
 unfold Zkw at l;split at l;.cases t;cases l;exact .inl ⟨rfl,rfl,rfl⟩
 .rename_i i;cases t with|map x=>
    rename_i b;split at l;next y c0 p=>cases l;have:=r.obj _ _ _ x;rw[p]at this;have⟨_,es',h1,h2⟩:=this;exact .inr ⟨i,b,es',rfl,rfl,x,p,h1,h2⟩
    cases l
 cases l
def FR.some{i:Nat}{v:N}{l:O (Nat×N)}(h:FR ρ (some (i,v)) l):∃v',l=some (i,v')/\VR ρ v v':=by cases l with|none=>exact h.elim|some p=>have⟨j,v'⟩:=p;obtain⟨rfl,hv⟩:=h;exact⟨v',rfl,hv⟩
def FR.none{l:O (Nat×N)}(h:FR ρ none l):l=Option.none:=by cases l with|none=>rfl|some p=>exact h.elim
def ZcC{t r A:J}{m k:N}{ok:Z}{es':GZ V0}{l:O (Nat×N)}{z:N}(hu:P.underlying t=some (.map r A))
 (B:(m=.map none/\es'=#[])\/∃b c,m=.map (some b)/\w.heap[b]? =some (.map es' c))
 (h:(Instr.checkKey es'.isEmpty 10000 r k).run P w=.ok () w) (q:(Instr.findKey r k es'.toList).run P w=.ok l w) (x:l=none->(zeroValue A).run P w=.ok z w):
 (Instr.lookup t m k ok).run P w=.ok (match l with|some (_,v)=>if ok then .tuple #[v,.bool true] else v|none=>if ok then .tuple #[z,.bool false] else z) w:=by
 rcases B with⟨rfl,rfl⟩|⟨b,c,rfl,y⟩
 .cases l with|none=>simp[Instr.lookup,run_underlying hu]at *;simp[h,q,x]|some p=>simp[Instr.lookup,run_underlying hu]at *;simp[h,q]
 cases l with|none=>simp[Instr.lookup,run_underlying hu,run_getObj_map y,h,q,x]|some p=>simp[Instr.lookup,run_underlying hu,run_getObj_map y,h,q]
def Zoa{t:J}{m B k C v:N}{ok:Z}(r:Rel ρ h w)(I:VR ρ m B)(K:VR ρ k C)(p:K5 P h t m k ok=some v):
 ∃v',VR ρ v v'/\(Instr.lookup t B C ok).run P w=.ok v' w:=by
 unfold K5 at p;split at p
 .rename_i F V es c hu x;cases q:Zbr P es.isEmpty F k<;>rw[q]at p<;>simp at p;obtain⟨rfl,_,E⟩:=Za7 K q
  obtain⟨es',l,y⟩:∃es':GZ V0,EL ρ es es'.toList/\((B=.map none/\es'=#[])\/∃b c,B=.map (some b)/\w.heap[b]? =some (.map es' c)):=by
   rcases ZcX r I x with⟨rfl,rfl,rfl⟩|⟨i,b,es',rfl,rfl,T,Q,L,l⟩
   .exact⟨#[],.nil,.inl ⟨rfl,rfl⟩⟩
   exact⟨es',l,.inr ⟨b,c,rfl,L⟩⟩
  have A:es'.isEmpty=es.isEmpty:=by
   have:=l.length;rw[Gc]at this;rw[Gu,Array.isEmpty_iff_size_eq_zero,List.isEmpty_iff_length_eq_zero];omega
  have ZTR:(Instr.checkKey es'.isEmpty 10000 F C).run P w=.ok () w:=by rw[A];exact E w
  split at p
  .rename_i j S D;have⟨r',q1,q2⟩:=WA (w:=w) l D;obtain⟨v',rfl,hv⟩:=FR.some q2;cases p;refine⟨_,?_,ZcC (z:=undef) hu y ZTR q1 (fun e=>by cases e)⟩;cases ok;.exact hv
   exact VR.pair hv (.bool true)
  .rename_i D;split at p
   .rename_i z G;have⟨z1,z2,z3⟩:=JS G;have⟨r',q1,q2⟩:=WA (w:=w) l D;obtain rfl:=FR.none q2;cases p;refine⟨_,?_,ZcC hu y ZTR q1 (fun _=>z1 w)⟩;cases ok;.exact VR.Yk z3
    exact VR.pair (VR.Yk z3) (.bool false)
   cases p
  cases p
 cases p
def Znp(a b:Y):(a==b)=decide (a=b):=by
 rw[Gu,decide_eq_true_iff];cases a with|mk a=>cases b with|mk b=>
 show(a==b)=true↔_;simp
def ZIM(s:Y):∀(l:U V0),(∀e∈l,∃s b,e.key=.string s/\e.val=.bool b)->∀i,∃r,Instr.findNow .string (.string s) l i=some r/\
 ((r=none/\fnd s l=none/\∀v c t,fnd t (l++[⟨.string s,.bool v,c⟩])=bif t==s then some v else fnd t l)\/
   ∃j b e,r=some (i+j,.bool b)/\fnd s l=some b/\l[j]? =some e/\e.key=.string s/\∀v t,fnd t (l.modify j fun e=>{e with key:=.string s,val:=.bool v})=bif t==s then some v else fnd t l):=by
 intro l;induction l with
 | nil=>intro _ i;exact⟨none,rfl,.inl ⟨rfl,rfl,fun v c t=>rfl⟩⟩
 | cons e l ih=>
   intro he i;have⟨u,b,hu,hb⟩:=he e Vd;have⟨k,v0,c0⟩:=e;dsimp only at hu hb;subst hu hb;by_cases h:s=u;.subst h;refine⟨some (i,.bool b),by simp[Instr.findNow,Instr.sameNow,Znp],.inr ⟨0,b,_,rfl,by simp[fnd,Znp],rfl,rfl,fun v t=>?_⟩⟩;simp[List.modify_zero_cons,fnd];cases t==s<;>rfl
   have p:(s==u)=false:=by rw[Znp];exact decide_eq_false h
   have⟨r,h1,h2⟩:=ih (fun e m=>he e (Kx _ m)) (i+1);have q:∀t,fnd t (⟨.string u,.bool b,c0⟩::l)=bif t==u then some b else fnd t l:=fun t=>rfl
   have B:∀(v:Z) t,(bif t==u then some b else bif t==s then some v else fnd t l)=bif t==s then some v else bif t==u then some b else fnd t l:=fun v t=>by
    cases h1:t==u;.rfl
    have:t=u:=by rw[Znp]at h1;exact of_decide_eq_true h1
    have h2:(t==s)=false:=by rw[Znp];exact decide_eq_false fun z=>h (z.symm.trans this)
    rw[h2];rfl
   refine⟨r,by simp[Instr.findNow,Instr.sameNow,p,h1],?_⟩;rcases h2 with⟨A,y,x⟩|⟨j,F,E,A,y,x,D,C⟩
   .refine .inl ⟨A,by rw[q,p];exact y,fun v c t=>?_⟩;rw[Gx];show(bif t==u then some b else fnd t (l++_))=_;rw[x,q];exact B v t
   refine .inr ⟨j+1,F,E,by rw[A];congr 2;omega,by rw[q,p];exact y,x,D,fun v t=>?_⟩;rw[List.modify_succ_cons];show(bif t==u then some b else fnd t (l.modify j _))=_;rw[C,q];exact B v t
def aks(P:GW)(h:H)(t:J)(m k:N):O (J×Nat×(Y->O Z)×Y):=
 match P.underlying t,m,k with
 | some (.map kt et),.map (some i),.string s=>match h.at i,P.underlying kt with|.ZdK f,some .string=>bif Zbr P true kt (.string s)&&Zbr P false kt (.string s) then some (et,i,f,s) else none|_,_=>none
 | _,_,_=>none
def ZpJ{t D:J}{m B k y:N}{f:Y->O Z}{s:Y}(r:Rel ρ h w)(E:VR ρ m B)(F:VR ρ k y)(q:aks P h t m k=some (D,i,f,s)):
 ∃p b es' c,P.underlying t=some (.map p D)/\m=.map (some i)/\B=.map (some b)/\y=.string s/\ρ i=some (b,0)/\h.at i=.ZdK f/\w.heap[b]? =some (.map es' c)/\KS f es'.toList/\(∀e,(Instr.checkKey e 10000 p (.string s)).run P w=.ok () w)/\
   ∃r,(Instr.findKey p (.string s) es'.toList).run P w=.ok r w/\
 ((r=none/\f s=none/\∀v c t,fnd t (es'.toList++[⟨.string s,.bool v,c⟩])=bif t==s then some v else f t)\/
   ∃j b e,r=some (j,.bool b)/\f s=some b/\es'[j]? =some e/\e.key=.string s/\∀v t,fnd t (es'.toList.modify j fun e=>{e with key:=.string s,val:=.bool v})=bif t==s then some v else f t):=by
 unfold aks at q;split at q
 .rename_i p G I s0 hu;split at q
  .rename_i K x A;cases l:Zbr P true p (.string s0)&&Zbr P false p (.string s0)<;>rw[l]at q<;>cases q
   rw[Ba0]at l;have⟨_,_,o1⟩:=Za7 (ρ:=ρ) (VR.Yk rfl) l.1;have⟨_,_,o2⟩:=Za7 (ρ:=ρ) (VR.Yk rfl) l.2;obtain rfl:y=.string s:=VR.XA rfl F;cases E with|map C=>
     rename_i b;have:=r.obj _ _ _ C;rw[x]at this;have⟨_,es',c,h1,h2,h3⟩:=this;have⟨r,g1,g2⟩:=ZIM s es'.toList h2 0;refine⟨p,b,es',c,hu,rfl,rfl,rfl,C,x,h1,⟨h2,h3⟩,fun e=>by cases e;exact o2 w;exact o1 w,r,by simp[Instr.findKey,run_underlying A,g1],?_⟩;rw[h3]at g2;simpa only[h3,G6,Gg]using g2
  cases q
 cases q
def U6(P:GW)(h:H)(t:J)(m k:N)(ok:Z):O N:=
 match K5 P h t m k ok with
 | some v=>some v
 | none=>match aks P h t m k with
   | some (et,_,f,s)=>match f s with
     | some b=>some (bif ok then .tuple #[.bool b,.bool true] else .bool b)
     | none=>match Xl P et with|some z=>some (bif ok then .tuple #[z,.bool false] else z)|none=>none
   | none=>none
def Znz{t:J}{m k v:N}{ok:Z}(e:K5 P h t m k ok=some v):U6 P h t m k ok=some v:=by unfold U6;rw[e]
def Zqx{t:J}{m B k C v:N}{ok:Z}(r:Rel ρ h w)(D:VR ρ m B)(E:VR ρ k C)(l:U6 P h t m k ok=some v):
 ∃v',VR ρ v v'/\(Instr.lookup t B C ok).run P w=.ok v' w:=by
 unfold U6 at l;split at l;next Q=>cases l;exact Zoa r D E Q
 split at l
 .rename_i X i f s I;obtain⟨V,b,es',c,hu,rfl,rfl,rfl,W,L,F,K,p,T,A,y⟩:=ZpJ r D E I;split at l
  .rename_i b0 x;cases l;rcases y with⟨_,q,_⟩|⟨j,S,e,rfl,q,_⟩
   .rw[x]at q;cases q
   rw[x]at q;cases q;refine⟨_,?_,ZcC (z:=undef) hu (.inr ⟨b,c,rfl,F⟩) (p _) A (fun e=>by cases e)⟩;cases ok;.exact .bool _
   exact VR.pair (.bool _) (.bool true)
  rename_i x;rcases y with⟨rfl,_,_⟩|⟨j,S,e,rfl,q,_⟩
  .split at l
   .rename_i z G;have⟨z1,z2,z3⟩:=JS G;cases l;refine⟨_,?_,ZcC hu (.inr ⟨b,c,rfl,F⟩) (p _) A (fun _=>z1 w)⟩;cases ok;.exact VR.Yk z3
    exact VR.pair (VR.Yk z3) (.bool false)
   cases l
  rw[x]at q;cases q
 cases l
def ZgY{es:U V0}{p es':GZ V0}(t:ρ i=some (b,0))(q:w.heap[b]? =some (.map p c))(he:EL ρ es es'.toList):
 Same w {w with heap:=w.heap.setIfInBounds b (.map es' c')}/\(Eff.upd i (.map es c')).real ρ h w ρ {w with heap:=w.heap.setIfInBounds b (.map es' c')}:=by
 have l:b<w.heap.size:=by
  rcases Gl b w.heap.size with m|m
  .exact m
  rw[GU m]at q;cases q
 refine⟨⟨rfl,rfl,rfl⟩,rfl,b,0,t,by simp,fun k r=>?_,rfl,es',?_,he⟩;.simp[Ne.symm r]
 simp[l]
def Q7(P:GW)(h:H)(t:J)(m k x:N):O Eff:=
 match P.underlying t,m,Zkw h m with
 | some (.map kt _),.map (some i),some (es,c)=>
   bif Zbr P false kt k then
    match ZnB P kt k es with
    | some (some (j,_))=>match es[j]? with
      | some e=>bif Instr.sameBits 10000 e.key k then some (.upd i (.map (es.modify j fun e=>{e with key:=k,val:=x}) c)) else none
      | none=>none
    | some none=>some (.upd i (.map (es++[{key:=k,val:=x,born:=c}]) (c+1)))
    | none=>none
   else none
 | _,_,_=>none
def ZiR{t:J}{m S k q x B:N}{E:Eff}(r:Rel ρ h w)(X:VR ρ m S)(hk:VR ρ k q)(T:VR ρ x B)(l:Q7 P h t m k x=some E):
 Ja P ρ h w (do Instr.mapUpdate t S q B;pure .skip) .skip E:=by
 unfold Q7 at l;split at l
 .rename_i W et i es c hu G;cases F:Zbr P false W k<;>rw[F]at l<;>simp at l;obtain⟨rfl,D,I⟩:=Za7 hk F;rcases ZcX r X G with⟨Q,_,_⟩|⟨i',b,es',Q,rfl,V,hat,A,p⟩
  .cases Q
  cases Q;split at l
  .rename_i j v0 K;have⟨r',q1,q2⟩:=WA (w:=w) p K;obtain⟨v',rfl,_⟩:=FR.some q2;split at l
   .rename_i e he;cases C:Instr.sameBits 10000 e.key q<;>rw[C]at l<;>simp at l;subst l;have⟨e',g1,g2,g3,g4,g5⟩:=p.get he;have L:es'[j]? =some e':=by simpa using g1
    have⟨p1,p2⟩:=ZgY (h:=h) (c':=c) (es:=es.modify j fun e=>{e with key:=q,val:=x}) (es':=es'.modify j fun e=>{e with key:=q,val:=B}) V A
     (by rw[Array.toList_modify];exact p.modify (f:=fun e=>{e with key:=q,val:=x}) (f':=fun e=>{e with key:=q,val:=B}) (fun y y' a1 a2 a3 a4=>⟨rfl,D,a3,T⟩) j)
    refine⟨ρ,_,p1,p2,?_⟩;show Sem.run P _ w=_;simp[Instr.mapUpdate,run_underlying hu,run_getObj_map A,I,q1,L,g2,Instr.keyThatStays,C,run_setObj_map A]
   cases l
  .rename_i K;cases l;have⟨r',q1,q2⟩:=WA (w:=w) p K;obtain rfl:=FR.none q2
   have⟨p1,p2⟩:=ZgY (h:=h) (c':=c+1) (es:=es++[{key:=q,val:=x,born:=c}]) (es':=es'.push {key:=q,val:=B,born:=c}) V A
    (by rw[Array.toList_push];exact p.snoc rfl D rfl T)
   refine⟨ρ,_,p1,p2,?_⟩;show Sem.run P _ w=_;simp[Instr.mapUpdate,run_underlying hu,run_getObj_map A,I,q1,run_setObj_map A]
  cases l
 cases l
def ZxU{f:Y->O Z}{p es':GZ V0}(t:ρ i=some (b,0))(q:w.heap[b]? =some (.map p c))(he:KS f es'.toList):
 Same w {w with heap:=w.heap.setIfInBounds b (.map es' c')}/\(Eff.upd i (.ZdK f)).real ρ h w ρ {w with heap:=w.heap.setIfInBounds b (.map es' c')}:=by
 have l:b<w.heap.size:=by
  rcases Gl b w.heap.size with m|m
  .exact m
  rw[GU m]at q;cases q
 refine⟨⟨rfl,rfl,rfl⟩,rfl,b,0,t,by simp,fun k r=>?_,rfl,es',c',?_,he⟩;.simp[Ne.symm r]
 simp[l]
def Qo(P:GW)(h:H)(t:J)(m k x:N):O Eff:=
 match Q7 P h t m k x with
 | some E=>some E
 | none=>match aks P h t m k,x with
   | some (_,i,f,s),.bool v=>some (.upd i (.ZdK fun t=>bif t==s then some v else f t))
   | _,_=>none
def ZfI{t:J}{m k x:N}{E:Eff}(e:Q7 P h t m k x=some E):Qo P h t m k x=some E:=by unfold Qo;rw[e]
def Zc6{t:J}{m K k L x C:N}{E:Eff}(r:Rel ρ h w)(S:VR ρ m K)(T:VR ρ k L)(Q:VR ρ x C)(p:Qo P h t m k x=some E):
 Ja P ρ h w (do Instr.mapUpdate t K L C;pure .skip) .skip E:=by
 unfold Qo at p;split at p;next h0=>cases p;exact ZiR r S T Q h0
 split at p
 .rename_i et i f s v hs _;cases p;obtain rfl:C=.bool v:=VR.XA rfl Q;obtain⟨kt,b,es',c,hu,rfl,rfl,rfl,W,hat,l,⟨A,hk2⟩,B,r',I,X⟩:=ZpJ r S T hs;rcases X with⟨rfl,_,q⟩|⟨j,b',e,rfl,_,he,G,q⟩
  .have⟨p1,p2⟩:=ZxU (h:=h) (c':=c+1) (es':=es'.push {key:=.string s,val:=.bool v,born:=c}) W l
    (f:=fun t=>bif t==s then some v else f t) ⟨fun e he=>by
      rw[Array.toList_push,J0]at he;rcases he with he|he
      .exact A e he
      rw[Gf.1 he];exact⟨s,v,rfl,rfl⟩,fun t=>by rw[Array.toList_push];exact q v c t⟩
   refine⟨ρ,_,p1,p2,?_⟩;show Sem.run P _ w=_;simp[Instr.mapUpdate,run_underlying hu,run_getObj_map l,B,I,run_setObj_map l]
  have⟨p1,p2⟩:=ZxU (h:=h) (c':=c) (es':=es'.modify j fun e=>{e with key:=.string s,val:=.bool v}) W l
   (f:=fun t=>bif t==s then some v else f t) ⟨fun e he=>by
     rw[Array.toList_modify]at he;have⟨n,hn⟩:=Gy.1 he;rw[List.getElem?_modify]at hn;cases F:es'.toList[n]? with|none=>rw[F]at hn;simp at hn|some y=>
       rw[F]at hn;have hn:=Oi0 hn;dsimp only at hn;by_cases V:j=n;.rw[if_pos V]at hn;rw[<-hn];exact⟨s,v,rfl,rfl⟩
       rw[if_neg V]at hn;rw[<-hn];exact A y (Gy.2 ⟨n,F⟩),fun t=>by rw[Array.toList_modify];exact q v t⟩
  refine⟨ρ,_,p1,p2,?_⟩;show Sem.run P _ w=_;have D:Instr.sameBits 10000 (.string s) (.string s)=true:=by simp[Instr.sameBits,Znp]
  simp[Instr.mapUpdate,run_underlying hu,run_getObj_map l,B,I,he,G,Instr.keyThatStays,D,run_setObj_map l]
 cases p
def ZrX(P:GW)(h:H)(t:J)(m k:N):O Eff:=
 match P.underlying t,m,Zkw h m with
 | some (.map kt _),.map (some i),some (es,c)=>
   bif Zbr P es.isEmpty kt k then
    match ZnB P kt k es with|some (some (j,_))=>some (.upd i (.map (es.eraseIdx j) c))|some none=>some (.upd i (.map es c))|none=>none
   else none
 | _,_,_=>none
def Zrz{t ty:J}{ts:GZ J}{m F k G:N}{E:Eff}(I:ts[0]? =some t)(r:Rel ρ h w)(T:VR ρ m F)(V:VR ρ k G)(p:ZrX P h t m k=some E):
 Ja P ρ h w (do pure (.value (<-Builtin.delete_ ts ty #[F,G]))) (.val (.tuple #[])) E:=by
 unfold ZrX at p;split at p
 .rename_i L et i es c hu A;cases y:Zbr P es.isEmpty L k<;>rw[y]at p<;>simp at p;obtain⟨rfl,S,B⟩:=Za7 V y;rcases ZcX r T A with⟨D,_,_⟩|⟨i',b,es',D,rfl,K,W,x,l⟩
  .cases D
  cases D
  have q:es'.isEmpty=es.isEmpty:=by
   have:=l.length;rw[Gc]at this;rw[Gu,Array.isEmpty_iff_size_eq_zero,List.isEmpty_iff_length_eq_zero];omega
  split at p
  .rename_i j v0 C;cases p;have⟨r',q1,q2⟩:=WA (w:=w) l C;obtain⟨v',rfl,Q⟩:=FR.some q2
   have X:(es'.eraseIdxIfInBounds j).toList=es'.toList.eraseIdx j:=by
    simp
   have⟨p1,p2⟩:=ZgY (h:=h) (c':=c) (es:=es.eraseIdx j) (es':=es'.eraseIdxIfInBounds j) K x (by rw[X];exact l.erase j);refine⟨ρ,_,p1,p2,.tuple #[],VR.Yk (by rfl),?_⟩;simp[Builtin.delete_,I,run_underlying hu,run_getObj_map x,q,B,q1,run_setObj_map x]
  .cases p;rename_i C;have⟨r',q1,q2⟩:=WA (w:=w) l C;obtain rfl:=FR.none q2;have⟨p1,p2⟩:=ZgY (h:=h) (c':=c) (es:=es) (es':=es') K x l;refine⟨ρ,_,p1,p2,.tuple #[],VR.Yk (by rfl),?_⟩;simp[Builtin.delete_,I,run_underlying hu,run_getObj_map x,q,B,q1,run_setObj_map x]
  cases p
 cases p
def Zxk(P:GW)(h:H)(t:J)(x:N):O N:=
 match P.underlying t,x with
 | some .string,.string s=>some (V4 s.size)
 | some (.slice _),.slice _ n _=>some (V4 n)
 | some (.array n _),_=>some (V4 n)
 | some (.map _ _),m=>match Zkw h m with|some (es,_)=>some (V4 es.length)|none=>none
 | _,_=>none
def ZAl{t ty:J}{ts:GZ J}{x A v:N}(m:ts[0]? =some t)(r:Rel ρ h w)(q:VR ρ x A)(l:Zxk P h t x=some v):
 ∃v',VR ρ v v'/\(Builtin.len_ ts ty #[A]).run P w=.ok v' w:=by
 unfold Zxk at l;split at l;next hu=>cases l;cases q;exact⟨_,.int _ _,by simp[Builtin.len_,m,run_underlying hu,goInt]⟩
 next hu=>cases l;cases q<;>exact⟨_,.int _ _,by simp[Builtin.len_,m,run_underlying hu,goInt]⟩
 next hu=>cases l;exact⟨_,.int _ _,by simp[Builtin.len_,m,run_underlying hu,goInt]⟩
 .rename_i hu;split at l
  .rename_i es c p;cases l;rcases ZcX r q p with⟨rfl,rfl,rfl⟩|⟨i,b,es',rfl,rfl,D,C,B,y⟩
   .exact⟨_,.int _ _,by simp[Builtin.len_,m,run_underlying hu,goInt]⟩
   have:=y.length;rw[Gc]at this;exact⟨_,.int _ _,by simp[Builtin.len_,m,run_underlying hu,run_getObj_map B,goInt,this]⟩
  cases l
 cases l
def Zr9(z:U N)(n:Nat):U N:=(List.range (n*z.length)).map fun i=>z.getD (i % z.length) undef
def Zr8{z:U N}(m:z.all scalar=true)(n:Nat):(Zr9 z n).all scalar=true:=by
 rw[KB]at m ⊢;intro v hv;simp only[Zr9,Ge,GN]at hv;obtain⟨i,q,rfl⟩:=hv
 have h:0<z.length:=by
  rcases Nat.eq_zero_or_pos z.length with l|l
  .rw[l]at q;omega
  exact l
 have p:i % z.length<z.length:=Nat.mod_lt _ h;rw[Gv,G4 p];exact m _ (GG p)
def ZzA(z:GZ N)(n:Nat):((Array.range (n*z.size)).map (z[· % z.size]!)).toList=Zr9 z.toList n:=by
 simp only[Zr9,Array.toList_map,Array.toList_range,Gc];apply List.map_congr_left;intro i m;rw[GN]at m
 have h:0<z.size:=by
  rcases Nat.eq_zero_or_pos z.size with l|l
  .rw[l]at m;omega
  exact l
 have p:i % z.size<z.size:=Nat.mod_lt _ h;simp[p,Gv]
def ZuZ(P:GW)(h:H)(t:J)(n:Nat)(l:U (Nat×N)):O (N×Eff):=
 match P.underlying t with
 | some (.slice e)=>match YX P e,Xl P e with
   | some sz,some z=>
     bif Nat.ble 1 sz&&Nat.ble (n*sz) 10000&&Nat.beq z.cells.toList.length sz then
      match Zek (fun i=>some (i*sz,sz)) (Zr9 z.cells.toList n) l with|some cs=>some (.slice (some ⟨h.size,0,none⟩) n (2*n),.new (.row cs true sz))|none=>none
     else none
   | _,_=>none
 | _=>none
def ZvG{t:J}{y l:U (Nat×N)}{v:N}{E:Eff}(r:Rel ρ h w)(T:y.length=l.length)
 (S:∀(i:Nat) p p',y[i]? =some p->l[i]? =some p'->p'.1=p.1/\VR ρ p.2 p'.2) (m:ZuZ P h t n y=some (v,E)):
 Ja P ρ h w (do pure (.value (<-Instr.buildSlice t n l.toArray))) (.val v) E:=by
 unfold ZuZ at m;split at m
 .rename_i e hu;split at m
  .rename_i sz z q Q;cases G:(Nat.ble 1 sz&&Nat.ble (n*sz) 10000&&Nat.beq z.cells.toList.length sz)<;>rw[G]at m;.simp at m
   simp[Cq1]at m;rw[Ba0,Ba0]at G;have⟨⟨A,L⟩,I⟩:=G;have A:=Nl0 A;have L:=Nl0 L;have I:=Nb0 I;have⟨z1,z2,z3⟩:=JS Q;split at m
   .rename_i cs V;cases m
    have C:((Array.range (n*sz)).map (z.cells[· % z.cells.size]!)).toList=Zr9 z.cells.toList n:=by
     rw[<-ZzA z.cells n,show z.cells.size=sz by rw[<-I];simp]
    have⟨out',o1,o2⟩:=Zgg (fun i=>some (i*sz,sz)) y l _ ((Array.range (n*sz)).map (z.cells[· % z.cells.size]!)) cs T S (by rw[C];exact LR.scalar (Zr8 z2 n)) V;refine⟨_,World.push w (.cells out' e),ZbW _,ZgX r sz o2 ⟨[],by simp⟩,.slice (some ⟨w.heap.size,0,none⟩) n n,?_,?_⟩
    .have:=VR.slice (ρ:=ρ.add h.size (w.heap.size,0) (out'.size,sz)) 0 n (2*n) n (Ren.add_same ρ h.size _ _) (KI _ 0 _ _ (by
      have:n*1<=n*sz:=Nat.mul_le_mul_left _ A;omega)).1
     simpa using this
    have x:¬ (16777216<n*sz):=V6;by_cases W:n*sz=0
    .have D:n=0:=by
      rcases Nat.eq_zero_or_pos n with F|F
      .exact F
      have:=Nat.mul_pos F A;omega
     subst D;have K:Array.range 0=#[]:=rfl;have B:Instr.fill (fun i=>some (i*sz,sz)) #[] l=some out':=by rw[Nat.zero_mul,K]at o1;simpa using o1
     simp[Instr.buildSlice,run_underlying hu,run_sizeOf q,K,B,newRow];rfl
    simp[Instr.buildSlice,run_underlying hu,run_sizeOf q,x,W,z1,o1,newRow];rfl
   cases m
  cases m
 cases m
end Go.Z9
end
def Go.Li0{m:Type _}{l:U m}{i:Nat}{a:m}(h:l[i]? =some a):∃h:i<l.length,l[i]=a:=List.getElem?_eq_some_iff.1 h
noncomputable section
namespace Go.Z9
variable{E:Eff}{args ys:U N}{es':U V0}{ev:GV->O N}{m:AN}{s:Sem Next}{v:N}
variable{P:GW}{ρ:Ren}{h:H}{w:GY}
def Znv(P:GW)(h:H)(t:J)(x:N):O (N×Eff):=
 match P.underlying t,x with
 | some .string,.string s=>some (J7 h,.new (.ZgT s 0))
 | some (.map _ _),.map none=>some (J7 h,.new .ZkF)
 | some (.map _ _),.map (some i)=>match h.at i with|.map _ l=>some (J7 h,.new (.iter i l l none))|_=>none
 | _,_=>none
def UK:N:=.tuple #[.bool false]
def Zqm(es:U V0)(h l:Nat)(last:O Nat):O (O V0):=
 bif Nat.ble h l then match es,last with|[],_=>some none|[e],none=>bif Nat.blt e.born h then some (some e) else none|[e],some b=>bif Nat.blt e.born h&&Nat.beq e.born b then some none else none|_,_=>none
 else none
def ZF0(h:H)(q:Value)(l:Bool):Option (Value×Eff):=
 match q with
 | .pointer (some ⟨i,0,none⟩)=>match h.at i,l with
   | .ZgT s pos,true=>bif Nat.blt pos s.size then some (.tuple #[.bool true,goInt pos,.int .i32 (Utf8.decode s pos).1],.upd i (.ZgT s (pos+(Utf8.decode s pos).2))) else some (UK,.none)
   | .ZkF,false=>some (UK,.none)
   | .iter m since QW last,false=>match h.at m with
     | .map es p=>match Zqm es since QW last with|some none=>some (UK,.none)|some (some e)=>some (.tuple #[.bool true,e.key,e.val],.upd i (.iter m since p (some e.born)))|none=>none
     | _=>none
   | _,_=>none
 | _=>none
def Znb(b:Nat):U V0->O V0
 | []=>none
 | e::es=>bif Nat.beq e.born b then some e else Znb b es
def ZgG(h:H)(p:Value):Option Value:=
 match p with
 | .pointer (some ⟨i,0,none⟩)=>match h.at i with
   | .iter m _ QW (some s) | .Zym m _ QW s=>match h.at m with
     | .map es l=>bif Nat.beq QW l then match Znb s es with|some e=>some (.tuple #[e.key,e.val])|none=>none
       else none
     | _=>none
   | _=>none
 | _=>none
def ZiS{s:Sem N}{o:Obj}{A:YN}(m:s.run P w=.ok ((V5 w.heap.size)) (World.push w o))(p:∀l,Jr (ρ.add h.size (w.heap.size,0) l) (World.push w o) w.heap.size 0 l A):
 Ja P ρ h w (do pure (.value (<-s))) (.val (J7 h)) (.new A):=
 ⟨_,World.push w o,ZbW _,⟨(0,0),rfl,⟨o,rfl⟩,p (0,0)⟩,_,Zi0 w _,by simp[m]⟩
def Zlo(w:GY)(o:Obj):(World.push w o).heap[w.heap.size]? =some o:=by show(w.heap.push o)[w.heap.size]? =some o;simp
def Zsy(r:Rel ρ h w){t:J}{x A:N}(q:VR ρ x A)(p:Znv P h t x=some (v,E)):
 Ja P ρ h w (do pure (.value (<-Instr.range t A))) (.val v) E:=by
 unfold Znv at p;split at p
 .rename_i s hu;cases p;cases q with|string _=>
    refine ZiS (o:=.stringIter s 0) ?_ fun l=>⟨rfl,Zlo _ _⟩;simp[Instr.range,run_underlying hu];rfl
 .rename_i hu;cases p;cases q;refine ZiS (o:=.mapIter none 0 #[] 0) ?_ fun l=>⟨rfl,Zlo _ _⟩;simp[Instr.range,run_underlying hu];rfl
 .rename_i i hu;split at p
  .rename_i es m y;cases p;cases q with|@map _ b C=>
     have B:=r.obj _ _ _ C;rw[y]at B;have⟨_,es',hw,_⟩:=B;refine ZiS (o:=.mapIter (some b) m #[] m) ?_ fun l=>⟨rfl,b,#[],(Ren.ZbK r.fresh _ _ C).1,Zlo _ _,(fun s e=>by cases e),fun _=>rfl⟩;simp[Instr.range,run_underlying hu,getObj,Sem.run,hw];rfl
  cases p
 cases p
def ZsK(ty:J){b t since c0:Nat}{h:GZ Nat}{es:GZ V0}{m:Nat}(F:w.heap[b]? =some (.mapIter (some t) since h c0))(I:w.heap[t]? =some (.map es m))
 (p:∀x∈es.toList,x.born<since) (A:since<=c0):
 ((leftOf es h).size=0/\(Instr.next ((V5 b)) false ty).run P w=.ok UK w)\/
 ∃e∈(leftOf es h).toList,∃w1:GY,w1.heap=w.heap/\Same w w1/\(Instr.next ((V5 b)) false ty).run P w=.ok (.tuple #[.bool true,e.key,e.val]) (w1.putObj b (.mapIter (some t) since (h.push e.born) m)):=by
 simp only[Instr.next,getObj,Sem.run_bind,Sem.run,F,I,Result.andThen,next_test_false h es since c0 p A,Bool.false_eq_true,if_false];unfold leftOf;have l:∀x∈(Array.filter (fun e=>!h.contains e.born) es).toList,x.born<since:=fun x q=>p x (by simp at q ⊢;exact q.1);generalize Array.filter (fun e=>!h.contains e.born) es=L' at l ⊢;have L:L'.filter (fun x=>decide (x.born<since))=L':=Array.filter_eq_self.2 (fun x q=>by simpa using l x (by simpa using q))
 have K:L'.filter (fun x=>decide (x.born >=since))=#[]:=by
  rw[Array.filter_eq_empty_iff];intro x q;have:=l x (by simpa using q);simp;omega
 simp only[L,K,Array.append_empty];by_cases G:L'.size=0;.left;have:L'=#[]:=Array.eq_empty_of_size_eq_zero G;subst this;refine⟨rfl,?_⟩;simp[choose,Sem.run,Question.forced,UK]
 right;have B:L'.isEmpty=false:=by simp[Array.isEmpty,G]
 simp only[B,Bool.false_eq_true,if_false,Array.empty_append,Array.size_map]
 have D:∃(j:Nat) (w1:GY),j<L'.size/\w1.heap=w.heap/\Same w w1/\(choose (Question.mapNext L'.size)).run P w=.ok j w1:=by
  by_cases E:L'.size<=1;.exact⟨0,w,by omega,rfl,Same.refl w,by simp[choose,Sem.run,Question.forced,E]⟩
  exact⟨_,w.drew,Nat.mod_lt _ V6,rfl,⟨rfl,rfl,rfl⟩,by
   simp only[choose,Sem.run,Question.forced,decide_eq_true_eq,E,if_false,Question.cut];rfl⟩
 have⟨j,w1,hj,hh,hal,hrun⟩:=D;refine⟨L'[j],by simp,w1,hh,hal,?_⟩
 have r:∀(y:Obj),(setObj b y).run P w1=.ok () (w1.putObj b y):=fun y=>by
  have C:w1.heap[b]? =some (.mapIter (some t) since h c0):=by rw[hh];exact F
  simp[setObj,Sem.run,C,World.putObj]
 simp only[hrun,Array.getElem?_map,Gn hj,Option.map_some,Sem.run_bind,r,Result.andThen];rfl
def EL.Zx5(e:EL ρ [] es'):es'=[]:=by cases e;rfl
def EL.Zql{h:V0}(e:EL ρ [h] es'):∃l,es'=[l]/\l.key=h.key/\plain h.key=true/\l.born=h.born/\VR ρ h.val l.val:=by cases e with|cons p m q hv t=>cases t;exact⟨_,rfl,p,m,q,hv⟩
def Zg6{es:U V0}{l p:Nat}{last:O Nat}{r:O V0}(h:Zqm es l p last=some r):l<=p/\
 ((es=[]/\r=none)\/∃e,es=[e]/\e.born<l/\((last=none/\r=some e)\/(last=some e.born/\r=none))):=by
 unfold Zqm at h;cases t:Nat.ble l p<;>rw[t]at h<;>simp only[Cq1,Cq0]at h;.cases h
 refine⟨Nl0 t,?_⟩;split at h;.cases h;exact .inl ⟨rfl,rfl⟩
 .rename_i e;cases m:Nat.blt e.born l<;>rw[m]at h<;>simp only[Cq1,Cq0]at h;.cases h
  cases h;exact .inr ⟨_,rfl,by rwa[G5]at m,.inl ⟨rfl,rfl⟩⟩
 .rename_i e b;cases m:Nat.blt e.born l<;>rw[m]at h<;>simp only[G3,Gp,Cq0]at h;.cases h
  cases q:Nat.beq e.born b<;>rw[q]at h<;>simp only[Cq1,Cq0]at h;.cases h
  cases h;exact .inr ⟨_,rfl,by rwa[G5]at m,.inr ⟨by rw[Nb0 q],rfl⟩⟩
 cases h
def ZvU(r:Rel ρ h w){it T:N}{b:Z}(t:J)(B:VR ρ it T)(l:ZF0 h it b=some (v,E)):
 Ja P ρ h w (do pure (.value (<-Instr.next T b t))) (.val v) E:=by
 unfold ZF0 at l;split at l
 .rename_i i;cases B with|@ptr _ bb d _ hi=>
    have S:=r.obj _ _ _ hi;have hlt:=(r.dom _ _ _ hi).2;split at l
    .rename_i s pos F;rw[F]at S;obtain⟨rfl,hw⟩:=S;cases hc:Nat.blt pos s.size<;>rw[hc]at l<;>simp only[Cq1,Cq0]at l
     .cases l;have hn:¬ pos<s.size:=fun z=>by rw[<-G5]at z;rw[z]at hc;cases hc
      refine Ja.KT (v':=UK) (VR.Yk rfl) ?_;simp[Instr.next,getObj,Sem.run,hw,hn,UK]
     cases l;rw[G5]at hc
     refine⟨ρ,{w with heap:=w.heap.setIfInBounds bb (.stringIter s (pos+(Utf8.decode s pos).2))},⟨rfl,rfl,rfl⟩,⟨rfl,bb,0,hi,by simp,fun k hk=>by simp[Array.getElem?_setIfInBounds_ne (Ne.symm hk)],rfl,by simp[hlt]⟩,
      .tuple #[.bool true,goInt pos,.int .i32 (Utf8.decode s pos).1],VR.Yk rfl,?_⟩
     simp[Instr.next,getObj,setObj,Sem.run,hw,hc]
    next F=>rw[F]at S;obtain⟨rfl,hw⟩:=S;cases l;refine Ja.KT (v':=UK) (VR.Yk rfl) ?_;simp[Instr.next,getObj,Sem.run,hw,UK]
    .rename_i m since QW last F;rw[F]at S;obtain⟨rfl,m',G,hm,hw,K,W⟩:=S;split at l
     .rename_i es Q ZN3;have V:=r.obj _ _ _ hm;rw[ZN3]at V;have⟨_,es',ZA,hes⟩:=V;split at l
      .rename_i C;cases l;have⟨hsc,hh⟩:=Zg6 C;refine Ja.KT (v':=UK) (VR.Yk rfl) ?_
       have D:∀x∈es'.toList,x.born<since:=by
        rcases hh with⟨rfl,_⟩|⟨e,rfl,he,_⟩
        .rw[EL.Zx5 hes];intro x B;cases B
        have⟨e',h1,_,_,h4,_⟩:=EL.Zql hes;rw[h1];intro x B;simp at B;subst B;omega
       have hz:(leftOf es' G).size=0:=by
        unfold leftOf;rcases hh with⟨rfl,_⟩|⟨e,rfl,he,(⟨_,L⟩|⟨hl,_⟩)⟩
        .have:es'=#[]:=by simpa using EL.Zx5 hes
         subst this;rfl
        .cases L
        have⟨e',h1,_,_,h4,_⟩:=EL.Zql hes;have h2:es'=#[e']:=by rw[<-Array.toArray_toList (xs:=es'),h1]
        subst h2;have hs:=K _ hl
        have hin:G.contains e'.born=true:=by
         rw[h4,Array.contains_iff_mem];rw[Array.back?_eq_getElem?]at hs;exact Array.mem_of_getElem? hs
        simp[hin];simpa using hin
       rcases ZsK (P:=P) t hw ZA D hsc with⟨_,hr⟩|⟨e',he',_⟩
       .simp only[G6,Nat.add_zero]at *;simp[hr]
       have:=Gc▸List.length_pos_of_mem he';omega
      .rename_i e C;cases l;have⟨hsc,hh⟩:=Zg6 C;rcases hh with⟨_,L⟩|⟨e0,rfl,he,(⟨hl,L⟩|⟨_,L⟩)⟩
       .cases L
       .cases L;have⟨e',h1,hk,hp,hb,hv⟩:=EL.Zql hes;obtain rfl:=W hl;have h2:es'=#[e']:=by rw[<-Array.toArray_toList (xs:=es'),h1]
        have D:∀x∈es'.toList,x.born<since:=by
         rw[h1];intro x B;simp at B;subst B;omega
        rcases ZsK (P:=P) t hw ZA D hsc with⟨hz,_⟩|⟨x,B,w1,I,A,hr⟩
        .subst h2;simp[leftOf]at hz
        have hx':x=e':=by subst h2;simpa[leftOf]using B
        subst hx';have X:bb<w1.heap.size:=by rw[I];exact hlt
        refine⟨ρ,w1.putObj bb (.mapIter (some m') since (#[].push x.born) Q),⟨A.os,A.tape,A.output⟩,⟨rfl,bb,0,hi,by rw[World.putObj_size,I],fun k hk=>by rw[World.putObj_heap_other hk,I],rfl,m',_,hm,World.putObj_heap_same X,fun s hs=>(by cases hs;simp[hb]),fun z=>(by cases z)⟩,
         .tuple #[.bool true,x.key,x.val],?_,?_⟩
        .refine .tuple _ _ rfl fun j y y' p q=>?_;match j,p,q with|0,p,q=>simp at p q;subst p q;exact .bool true|1,p,q=>simp at p q;subst p q;rw[hk];exact VR.Yk hp|2,p,q=>simp at p q;subst p q;exact hv|j+3,p,q=>simp at p
        simp[hr]
       cases L
      cases l
     cases l
    cases l
 cases l
def Zuv{es:U V0}(e:EL ρ es es'){b:Nat}{x:V0}(l:Znb b es=some x):∃h,es'.find? (fun e=>e.born==b)=some h/\h.key=x.key/\plain x.key=true/\VR ρ x.val h.val/\h.born=b/\h∈es':=by
 induction e with|nil=>cases l|@cons y p es es' C B A hv t ih=>
   simp[Znb]at l;cases m:Nat.beq y.born b<;>rw[m]at l<;>simp[Cq1,Cq0]at l
   .have⟨h,h1,h2⟩:=ih l;have q:(p.born==b)=false:=by rw[A];rw[Uz]at m;simpa using m
    exact⟨h,by rw[List.find?_cons,q];exact h1,h2.1,h2.2.1,h2.2.2.1,h2.2.2.2.1,Kx _ h2.2.2.2.2⟩
   cases l;have r:(p.born==b)=true:=by rw[A];simpa using Nb0 m
   exact⟨p,by rw[List.find?_cons,r],C,B,hv,by rw[A];exact Nb0 m,by simp⟩
def Zut(r:Rel ρ h w){K D:N}(S:VR ρ K D)(q:ZgG h K=some v):∃v',VR ρ v v'/\(Instr.entry D).run P w=.ok v' w:=by
 unfold ZgG at q;split at q
 .rename_i i;cases S with|@ptr _ Q d _ T=>
    have F:=r.obj _ _ _ T
    have C:∀{m l A s:Nat},(d=0/\∃B p,ρ m=some (B,0)/\w.heap[Q]? =some (.mapIter (some B) l p A)/\p.back? =some s)->(match h.at m with
     | .map es t=>bif Nat.beq A t then match Znb s es with|some e=>some (.tuple #[e.key,e.val])|none=>none
       else none
     | _=>none)=some v->∃v',VR ρ v v'/\(Instr.entry (.pointer (some ⟨Q,d+0,none⟩))).run P w=.ok v' w:=by
     rintro m l A s ⟨rfl,B,p,G,hw,W⟩ q;split at q
     .rename_i es t ZN3;have E:=r.obj _ _ _ G;rw[ZN3]at E;have⟨_,es',ZA,hes⟩:=E;cases L:Nat.beq A t<;>rw[L]at q<;>simp only[Cq1,Cq0]at q;.cases q
      obtain rfl:=Nb0 L;split at q
      .rename_i e V;cases q;have⟨e',f1,f2,f3,f4,_⟩:=Zuv hes V;refine⟨.tuple #[e'.key,e'.val],?_,?_⟩;.refine .tuple _ _ rfl fun j x X a b=>?_;match j,a,b with|0,a,b=>simp at a b;subst a b;rw[f2];exact VR.Yk f3|1,a,b=>simp at a b;subst a b;exact f4|j+2,a,b=>simp at a
       have I:es'.find? (fun e=>e.born==s)=some e':=by rw[<-Array.find?_toList];exact f1
       simp[Instr.entry,getObj,Sem.run,hw,W,ZA,I]
      cases q
     cases q
    split at q;next m l A s y=>rw[y]at F;have⟨e,B,p,G,hw,hback,_⟩:=F;exact C ⟨e,B,p,G,hw,hback s rfl⟩ q
    next m l A s y=>rw[y]at F;exact C F q
    cases q
 cases q
structure Ctx where
 P:Program
 sz:P.funcs.size=nfs
 fns:Tr Func
 ok:∀ f fn,fns.get f=some fn ->P.funcs[f]? =some fn∧fn.body.isSome=true∧(fn.name== "runtime.NumGoroutine")=false
 orc:FuncId ->Option Value
 ZCt:∀ f v,orc f=some v ->plain v=true∧∀ w:World,CallsIn base 0 P f #[] w (fun e w'=>e= .returned v∧RowKit.Below w.heap.size w w')
 ZNb:FuncId ->Array Value ->H ->Option (Value×YN):=fun _ _ _=>none
 ZCu:∀ f args h v A,ZNb f args h=some (v,A) ->∀ ρ args' (w:World),Rel ρ h w ->UE ρ args args' ->CallsIn base 0 P f args' w (fun e w'=>∃ v' p l,e= .returned v'∧
  RowKit.Below w.heap.size w w'∧w.heap.size <=p∧p < w'.heap.size∧VR (ρ.add h.size (p,0) l) v v'∧Jr (ρ.add h.size (p,0) l) w' p 0 l A):=by intros;contradiction
def Zi3{X:Ctx}{f:GX}{fn:Func}(h:X.fns.get f=some fn):f<nfs:=by have:=(X.ok f fn h).1;rw[<-X.sz];exact(Jn.1 this).1
def evs(ev:GV->O N):U GV->O (U N)
 | []=>some []
 | x::xs=>match ev x,evs ev xs with|some v,some vs=>some (v::vs)|_,_=>none
def evp(ev:GV->O N):U (Nat×GV)->O (U (Nat×N))
 | []=>some []
 | (i,x)::xs=>match ev x,evp ev xs with|some v,some vs=>some ((i,v)::vs)|_,_=>none
def evo(ev:GV->O N):O GV->O (O N)
 | none=>some none
 | some x=>match ev x with|some v=>some (some v)|none=>none
def EvR(ρ:Ren)(ev:GV->O N)(h:GV->N):Prop:=∀x v,ev x=some v->VR ρ v (h x)
def ZaP{h:GV->N}(he:EvR ρ ev h):∀(xs:U GV) vs,evs ev xs=some vs->LR ρ vs (xs.map h):=by
 intro xs
 induction xs with|nil=>intro vs hv;simp[evs,G2]at hv;subst hv;exact LR.nil|cons x xs ih=>
   intro vs hv;simp[evs]at hv;split at hv;next v vs' m l=>cases hv;exact LR.cons (he x v m) (ih vs' l)
   cases hv
def Zpx{h:GV->N}(he:EvR ρ ev h):∀(xs:U (Nat×GV)) vs,evp ev xs=some vs ->
 vs.length=(xs.map fun p:Nat×GV=>(p.1,h p.2)).length/\∀(i:Nat) p l,vs[i]? =some p->(xs.map fun p:Nat×GV=>(p.1,h p.2))[i]? =some l->l.1=p.1/\VR ρ p.2 l.2:=by
 intro xs;induction xs with
 | nil=>intro vs hv;simp[evp,G2]at hv;subst hv;exact⟨rfl,fun i p l a=>by simp at a⟩
 | cons x xs ih=>
   intro vs hv;have⟨j,x⟩:=x;simp[evp]at hv;split at hv;.rename_i v vs' q m;cases hv;have⟨i1,i2⟩:=ih vs' m;refine⟨by simpa using i1,fun i p l a b=>?_⟩;cases i with|zero=>simp at a b;subst a b;exact⟨rfl,he x v q⟩|succ i=>exact i2 i p l (by simpa using a) (by simpa using b)
   cases hv
def Zjr{h:GV->N}(he:EvR ρ ev h){x:O GV}{v:O N}(hv:evo ev x=some v):ZgJ ρ v (x.map h):=by
 cases x with|none=>simp[evo,G2]at hv;subst hv;trivial|some x=>
   simp[evo]at hv;split at hv;next u e=>cases hv;exact he x u e
   cases hv
def WB(X:Ctx)(h:H)(f:N)(args:U N):O (AN×Eff):=
 match f with
 | .func (.func g) first cap=>match X.fns.get g with
   | some _=>some (.enter g (first.toList++args++cap.toList).toArray,.none)
   | none=>none
 | .func (.yield l) _ _=>match h.at l with|.loop _ _ _ _ m _ _ _=>bif Nat.beq args.length m.toList.length then some (.round l args.toArray,.none) else none|_=>none
 | _=>none
def ZaD {X:Ctx} {f:GX} {fn:Func} {args:GZ N} (hf:X.fns.get f=some fn):(callFunc f args).run X.P w= .ok (.enter f args) w:=by
 obtain⟨h1,h2,h3⟩:=X.ok f fn hf;have hb:¬ fn.body=none:=by intro hh;rw [hh] at h2;cases h2
 have hn:¬ fn.name= "runtime.NumGoroutine" :=by simpa using h3
 simp [callFunc,h1,hn,hb]
def ZwZ{X:Ctx}{f f':N}{m:U N}{F:AN}(r:Rel ρ h w)(L:VR ρ f f')(q:LR ρ args m)(t:WB X h f args=some (F,E)):
 Ja X.P ρ h w (do let d <-Deferred.ofValue f' m.toArray;invoke d.target d.args) F E:=by
 unfold WB at t;split at t
 .rename_i g first cap;split at t
  .rename_i fn C;cases t;cases L with|func _ _ _ p cap' G A y h1 h2=>
     refine⟨ρ,w,Same.refl w,⟨rfl,rfl⟩,(p.toList++m++cap'.toList).toArray,?_,?_⟩;.have W:LR ρ first.toList p.toList:=UE.list ⟨A,h1⟩;have V:LR ρ cap.toList cap'.toList:=UE.list ⟨y,h2⟩;exact((W.append q).append V).arr
     have:=ZaD (w:=w) (args:=p++m.toArray++cap') C;have e:(p.toList++m++cap'.toList).toArray=p++m.toArray++cap':=by apply Array.toList_inj.1;simp
     rw[e,<-this];simp[Deferred.ofValue,invoke]
  cases t
 .rename_i l u1 u2;split at t
  .rename_i Q S fr n x YK bd df D;cases hn:Nat.beq args.length x.toList.length<;>rw[show x.toList.length=x.size from Gc]at hn<;>simp[hn]at t
   obtain⟨rfl,rfl⟩:=t;have hn:=Nb0 hn;cases L with|func _ _ _ p cap' G=>exact absurd rfl (G l)|yield K=>
     rename_i b;have I:=r.obj _ _ _ K;rw[D]at I;have⟨_,fn,tmps,df',hw,hfr,hdf,_⟩:=I;refine⟨ρ,w,Same.refl w,⟨rfl,rfl⟩,b,_,m.toArray,K,hw,q.arr,?_⟩;have B:¬ (m.length≠x.size):=by rw[<-q.1];omega
     have T:(getObj b).run X.P w=.ok (.loop {state:=Q,pending:=S,fn:=fn,tmps:=tmps,params:=x,assign:=YK,body:=bd,defers:=df'}) w:=by
      simp[getObj,Sem.run,hw]
     simp only[Deferred.ofValue,invoke,Instr.yield,Instr.getLoop,Sem.run_bind,Sem.run_pure,Gs,T];rw[if_neg (by simpa using B)];simp
  cases t
 cases t
def ZaJ(P:GW)(x:N)(t:J)(ok:Z):O N:=
 match P.underlying t with
 | some (.interface _)=>none
 | some _=>
   match x with
   | .iface u v=>bif Nat.beq u t then some (bif ok then .tuple #[v,.bool true] else v) else bif ok then(match Xl P t with|some z=>some (.tuple #[z,.bool false]) | none=>none) else none
   | .nilIface=>bif ok then(match Xl P t with|some z=>some (.tuple #[z,.bool false]) | none=>none) else none
   | _=>none
 | none=>none
def ZrO{x A:N}{D t:J}{ok:Z}(C:VR ρ x A)(h:ZaJ P x t ok=some v):∃v',VR ρ v v'/\(Instr.typeAssert A D t ok).run P w=.ok v' w:=by
 unfold ZaJ at h;split at h;.cases h
 .rename_i d m hu;split at h
  .rename_i u y;cases C with|iface _ _ r B=>
     cases l:Nat.beq u t<;>rw[l]at h<;>simp at h
     .cases ok<;>simp at h;split at h
      .rename_i z p;cases h;have⟨z1,z2,z3⟩:=JS p;have q:u≠t:=fun e=>by rw[e,Nat.beq_refl]at l;cases l
       refine⟨_,VR.pair (VR.Yk z3) (.bool false),?_⟩;cases d<;>simp[Instr.typeAssert,run_underlying hu,q,z1]at m ⊢
      cases h
     subst h;obtain rfl:=Nb0 l;refine⟨if ok then .tuple #[r,.bool true] else r,?_,?_⟩
     .cases ok;.exact B
      exact VR.pair B (.bool true)
     cases d<;>cases ok<;>simp[Instr.typeAssert,run_underlying hu]at m ⊢
  .cases C;cases ok<;>simp at h;split at h;next z p=>cases h;have⟨z1,z2,z3⟩:=JS p;refine⟨_,VR.pair (VR.Yk z3) (.bool false),?_⟩;cases d<;>simp[Instr.typeAssert,run_underlying hu,z1]at m ⊢
   cases h
  cases h
 cases h
def vN(v:O N):O (AN×Eff):=
 match v with|some v=>some (.val v,.none)|none=>none
def vE(v:O (N×Eff)):O (AN×Eff):=
 match v with|some (v,E)=>some (.val v,E)|none=>none
def sE(v:O Eff):O (AN×Eff):=
 match v with|some E=>some (.skip,E)|none=>none
def pN(v:O AN):O (AN×Eff):=
 match v with|some v=>some (v,.none)|none=>none
def J3{v:O N}{p:AN}{s:Sem N}(l:vN v=some (p,E))(q:∀x,v=some x->∃m,VR ρ x m/\s.run P w=.ok m w):
 Ja P ρ h w (do pure (.value (<-s))) p E:=by
 unfold vN at l;split at l;.cases l;have⟨m,h1,h2⟩:=q _ rfl;exact Ja.KT h1 h2
 cases l
def Q0(P:GW)(h:BinOp)(t:J)(x y:GV)(a b:N):O (AN×Eff):=
 bif plain a&&plain b then pN (KC P (do eqGuard h t x y a b;binOp h t a b))
 else match h with
 | .eql=>match ZdH P t a b with|some r=>some (.val (.bool r),.none)|none=>none
 | .neq=>match ZdH P t a b with|some r=>some (.val (.bool (!r)),.none)|none=>none
 | _=>none
def Zj3{t:J}{a m b l:N}{r:Z}(A:VR ρ a m)(q:VR ρ b l)(hn:ZdH P t a b=some r)(h:BinOp)(x y:GV)(p:(plain a&&plain b)=false):
 (eqGuard h t x y m l).run P w=.ok () w/\(h=.eql->binOp h t m l=do pure (.bool (<-Op.equal t m l)))/\(h=.neq->binOp h t m l=do pure (.bool (!(<-Op.equal t m l)))):=by
 unfold ZdH at hn;split at hn
 all_goals first
  | (cases hn;done)
  | (cases A<;>cases q<;>first
      | (exfalso;simp[plain,scalar]at p;done)
      | (refine⟨?_,fun e=>?_,fun e=>?_⟩
         .unfold eqGuard;cases h<;>rfl
         .subst e;rfl
         subst e;rfl))
def ZA5{A:BinOp}{t:J}{x y:GV}{a C b B:N}{D:AN}(q:VR ρ a C)(p:VR ρ b B)(l:Q0 P A t x y a b=some (D,E)):
 Ja P ρ h w (do pure (.value (<-(do eqGuard A t x y C B;binOp A t C B:Sem N)))) D E:=by
 unfold Q0 at l;cases m:(plain a&&plain b)<;>rw[m]at l
 .simp only[Cq0]at l;split at l
  .split at l;next r hn=>cases l;have⟨g1,g2,_⟩:=Zj3 (w:=w) q p hn .eql x y m;have he:=Zj2 (w:=w) q p hn;exact Ja.KT (.bool r) (by simp only[Sem.run_bind,g1,Gs,g2 rfl,he];rfl)
   cases l
  .split at l;next r hn=>cases l;have⟨g1,_,g2⟩:=Zj3 (w:=w) q p hn .neq x y m;have he:=Zj2 (w:=w) q p hn;exact Ja.KT (.bool (!r)) (by simp only[Sem.run_bind,g1,Gs,g2 rfl,he];rfl)
   cases l
  cases l
 simp only[Cq1]at l;rw[Ba0]at m;rw[VR.XA m.1 q,VR.XA m.2 p];unfold pN at l;split at l;next v e=>cases l;exact Wd e
 cases l
def Jq(vs:U N):Z:=vs.all plain
def LR.XA{xs:U N}(hv:LR ρ xs ys)(h:Jq xs=true):ys=xs:=by apply List.ext_getElem hv.1.symm;intro i h1 h2;unfold Jq at h;rw[KB]at h;exact VR.XA (h _ (GG h2)) (hv.2 i _ _ (G4 h2) (G4 h1))
def K6(P:GW)(h:H)(b:Builtin)(ts:GZ J)(ty:J)(args:U N):O (AN×Eff):=
 match b,args with
 | .append,[s,x]=>vE (J2 P h ts s x)
 | .len,[x]=>match ts.toList with|t::_=>vN (Zxk P h t x)|[]=>none
 | .delete,[m,k]=>match ts.toList with
   | t::_=>match ZrX P h t m k with|some E=>some (.val (.tuple #[]),E)|none=>none
   | []=>none
 | .min,vs=>bif Jq vs then pN (KC P (Builtin.min_ ts ty vs.toArray)) else none
 | .max,vs=>bif Jq vs then pN (KC P (Builtin.max_ ts ty vs.toArray)) else none
 | .recover,[]=>some (.ZoP,.none)
 | _,_=>none
def ZgQ{v:O (N×Eff)}(l:vE v=some (m,E))(p:∀x E,v=some (x,E)->Ja P ρ h w s (.val x) E):Ja P ρ h w s m E:=by
 unfold vE at l;split at l;.cases l;exact p _ _ rfl
 cases l
def Zli{v:O Eff}(l:sE v=some (m,E))(p:∀E,v=some E->Ja P ρ h w s .skip E):Ja P ρ h w s m E:=by
 unfold sE at l;split at l;.cases l;exact p _ rfl
 cases l
def ZbZ{v:O AN}(l:pN v=some (m,E))(p:∀x,v=some x->Ja P ρ h w s x .none):Ja P ρ h w s m E:=by
 unfold pN at l;split at l;.cases l;exact p _ rfl
 cases l
def LR.one{x:N}(h:LR ρ [x] ys):∃y,ys=[y]/\VR ρ x y:=by match ys,h with|[y],h=>exact⟨y,rfl,h.2 0 x y rfl rfl⟩|[],h=>exact absurd h.1 Vd|_::_::_,h=>exact absurd h.1 Vd
def LR.two{x l:N}(h:LR ρ [x,l] ys):∃y y2,ys=[y,y2]/\VR ρ x y/\VR ρ l y2:=by match ys,h with|[y,y2],h=>exact⟨y,y2,rfl,h.2 0 x y rfl rfl,h.2 1 l y2 rfl rfl⟩|[],h=>exact absurd h.1 Vd|[_],h=>exact absurd h.1 Vd|_::_::_::_,h=>exact absurd h.1 Vd
def ZoA{b:Builtin}{ts:GZ J}{ty:J}{cs:GZ Z}{p:U N}{A:AN}(r:Rel ρ h w)(l:LR ρ args p)
 (m:K6 P h b ts ty args=some (A,E)):Ja P ρ h w (builtin b ts ty cs p.toArray) A E:=by
 unfold K6 at m;split at m;.obtain⟨s',y,rfl,h1,h2⟩:=LR.two l;exact ZgQ m fun _ _ e=>ZrP r h1 h2 e
 .obtain⟨y,rfl,h1⟩:=LR.one l;split at m
  .rename_i t rest e;have x:ts[0]? =some t:=by rw[<-Gg,e];rfl
   exact J3 m fun _ e=>ZAl x r h1 e
  cases m
 .obtain⟨s',y,rfl,h1,h2⟩:=LR.two l;split at m
  .rename_i t rest e;have x:ts[0]? =some t:=by rw[<-Gg,e];rfl
   split at m;next E e=>cases m;exact Zrz x r h1 h2 e
   cases m
  cases m
 .cases q:Jq args<;>rw[q]at m<;>simp at m;rw[l.XA q];exact ZbZ m fun _ e=>Wd e
 .cases q:Jq args<;>rw[q]at m<;>simp at m;rw[l.XA q];exact ZbZ m fun _ e=>Wd e
 .cases m;exact⟨ρ,w,Same.refl w,⟨rfl,rfl⟩,rfl⟩
 cases m
def Zqz:Fn->Z
 | .yield _=>true
 | _=>false
def bytesOf:U N->O (U UInt8)
 | []=>some []
 | .int .u8 n::r=>match bytesOf r with|some l=>some (UInt8.ofNat n.toNat::l)|none=>none
 | _=>none
def ZjL(P:GW)(h:H)(s d:J)(x:N):O N:=
 match P.underlying s,P.underlying d,x with
 | some (.slice e),some .string,.slice (some ⟨i,o,none⟩) n _=>match P.underlying e,h.at i with
   | some (.int .u8),.row cs _ _=>bif Nat.ble 1 n&&Nat.ble (o+n) cs.length then(match bytesOf ((cs.drop o).take n) with|some l=>some (.string ⟨l.toArray⟩)|none=>none) else none
   | _,_=>none
 | _,_,_=>none
def Zlj{β:Type}(f:N->β->Sem (ForInStep β))(g:β->N->β):∀(l:U N)(b:β),(∀c∈l,∀b,(f c b).run P w=.ok (.yield (g b c)) w)->(forIn l b f).run P w=.ok (l.foldl g b) w:=by
 intro l
 induction l with|nil=>intro b _;simp|cons a l ih=>
   intro b h;rw[List.forIn_cons];simp[Sem.run_bind,h a Vd b,Gs];exact ih (g b a) fun c m=>h c (by simp[m])
def ZuN:∀{cs:U N}{l:U UInt8},bytesOf cs=some l->(∀c∈cs,∃n,c=.int .u8 n)/\∀m:Y,cs.foldl (fun(b:Y) c=>match c with|.int .u8 n=>b.push (UInt8.ofNat n.toNat)|_=>b) m=⟨m.data++l.toArray⟩:=by
 intro cs;induction cs with
 | nil=>intro l h;cases h;exact⟨fun c p=>(by cases p),fun m=>Vd⟩
 | cons c cs ih=>
   intro l h;unfold bytesOf at h;split at h;next h1=>cases h1
   .rename_i n r h1;cases h1;split at h
    .rename_i q e;cases h;have⟨i1,i2⟩:=ih e;refine⟨fun c p=>?_,fun m=>?_⟩
     .rcases Ks.1 p with z|z
      .exact⟨n,z⟩
      exact i1 c z
     rw[Gh,i2];show ByteArray.mk ((m.data.push _)++_)=_;simp
    cases h
   cases h
def ZuM {s d:J} {x x':N} (r:Rel ρ h w) (hx:VR ρ x x') (ha:ZjL P h s d x=some v):∃ v',VR ρ v v'∧(convert s d x').run P w= .ok v' w:=by
 unfold ZjL at ha;split at ha
 ·rename_i e i o n c hs hd;split at ha
  ·rename_i cs own k he hat;cases hc:(Nat.ble 1 n && Nat.ble (o + n) cs.length) <;> rw [hc] at ha <;> simp only [Cq1,Cq0] at ha
   ·cases ha
   ·rw [Ba0] at hc;have hn1:=Nl0 hc.1;have hle:=Nl0 hc.2;split at ha
    ·rename_i l hl;cases ha;cases hx with
     | QX _ o' _ hi hc1=>omega
     | slice _ _ _ c' hi hcap=>
       rename_i b dd;have ho:=r.obj _ _ _ hi;rw [hat] at ho;obtain⟨vs',hl',hcell,hvs⟩:=ZeF (o:=o) (n:=n) ho hle;have hlc:=run_loadCellsFrom (P:=P) (w:=w) ⟨b,dd + o,none⟩ (fun j=>vs'.getD j undef) n 0 #[] (fun j hj=>by rw [addr_add];have:=hcell j hj;rw [G6];exact this)
       have e1:(List.range n).map (fun j=>vs'.getD (0 + j) undef)=vs':=by
        apply List.ext_getElem (by simp [hl']);intro j h1 h2;simp [h2]
       rw [e1] at hlc;obtain⟨b1,b2⟩:=ZuN hl;have hvl:=hvs.list
       have heq:vs'= (cs.drop o).take n:=by
        apply GO;intro j;cases hj:((cs.drop o).take n)[j]? with
        | none=>
          rw [List.getElem?_eq_none_iff] at hj ⊢;have:=hvl.1;simp at this hj ⊢;omega
        | some u=>
          have hjl:j < vs'.length:=by
           have h1:= (Li0 hj).1;have:=hvl.1;simp at this h1 ⊢;omega
          obtain⟨z,hz⟩:∃ z,vs'[j]? =some z:= ⟨vs'[j],by simp [hjl]⟩
          have h3:=hvl.2 j u z (by simpa using hj) (by simpa using hz);obtain⟨n',en⟩:=b1 u (List.mem_of_getElem? hj);subst en;cases h3;exact hz
       refine⟨.string ⟨l.toArray⟩,.string _,?_⟩
       have hrun:=Zlj (P:=P) (w:=w) (fun c (r:Y)=>(match c with
        | .int .u8 n=>pure (.yield (r.push (UInt8.ofNat n.toNat)))
        | _=>do
          stuck "bytesToString: byte expected"
          pure (.yield r):Sem (ForInStep Y))) (fun(b:Y) c=>match c with
        | .int .u8 n=>b.push (UInt8.ofNat n.toNat)
        | _=>b) vs' ByteArray.empty (fun c hc b=>by
          rw [heq] at hc;obtain⟨n',rfl⟩:=b1 c hc;simp)
       rw [heq,b2] at hrun
       have e2:(⟨ByteArray.empty.data ++ l.toArray⟩:Y)= ⟨l.toArray⟩:=by
        show ByteArray.mk (#[] ++ l.toArray)=_;simp
       rw [e2,← heq] at hrun;simp only [convert,run_underlying hs,run_underlying hd,run_underlying he,Sem.run_bind,Sem.run_pure,Gs,Conv.bytesToString,loadCells,hlc];simp only [List.append_toArray,Jx,List.forIn_toArray] at hrun ⊢;exact Eq.trans (congrArg (fun z:Result Y=>z.andThen fun a w'=>Result.ok (Value.string a) w') hrun) Vd
    ·cases ha
  ·cases ha
 ·cases ha
def ZrS(P:GW)(t:J)(h:String):O GX:=
 match P.info? t,P.underlying t with
 | some i,some (.struct _)=>match i.methods.find? (·.name==h) with
   | some m=>match m.path.toList,m.func with|[],some (f,false)=>some f|_,_=>none
   | none=>none
 | _,_=>none
def ZcZ(X:Ctx)(r:N)(h:String)(args:U N):O (AN×Eff):=
 match r with
 | .iface t v=>match ZrS X.P t h with
   | some f=>match X.fns.get f with|some _=>some (.enter f (v::args).toArray,.none)|none=>none
   | none=>none
 | _=>none
def ZqA{X:Ctx}{r K:N}{p:String}{l:U N}{L:AN}(W:VR ρ r K)(y:LR ρ args l)(x:ZcZ X r p args=some (L,E)):
 Ja X.P ρ h w (invoke (.fn (.method p) #[]) (#[K]++l.toArray)) L E:=by
 unfold ZcZ at x;split at x
 .rename_i t v;split at x
  .rename_i f q;split at x
   .rename_i fn F;cases x;cases W with|iface _ _ v' hv=>
    refine⟨ρ,w,Same.refl w,⟨rfl,rfl⟩,(v'::l).toArray,?_,?_⟩
    .have:LR ρ ([v]++args) ([v']++l):=LR.append ⟨rfl,fun i a b I Q=>by
      cases i with|zero=>simp at I Q;subst I Q;exact hv|succ i=>simp at I⟩ y
     exact this.arr
    unfold ZrS at q;split at q
    .rename_i A fs hi hu;split at q
     .rename_i m G;split at q
      .rename_i f' hp D;cases q;have hc:=ZaD (w:=w) (args:=(v'::l).toArray) F;have V:(typeInfo t).run X.P w=.ok A w:=by simp[typeInfo,program,Sem.run,hi]
       have T:(#[Value.iface t v']++l.toArray).extract 1 (#[Value.iface t v']++l.toArray).size=l.toArray:=by
        apply Array.toList_inj.1;simp
       have S:(#[Value.iface t v']++l.toArray)[0]? =some (Value.iface t v'):=by simp
       have ZTQ:#[v']++l.toArray=(v'::l).toArray:=by simp
       obtain⟨k,hk⟩:∃k,X.P.types.size+Made.depth=k+1:=⟨X.P.types.size+99,rfl⟩
       have C:(method (k+1) t v' p).run X.P w=.ok (f,v') w:=by
        unfold method;simp[V,G,hp,D,follow,receiverAt,run_underlying hu,Place.get]
       simp[invoke,S,callMethod,Sem.run_bind,Sem.run_pure,Gs];have B:(program).run X.P w=.ok X.P w:=by simp[program,Sem.run]
       simp[B,Gs,hk,C,T,ZTQ];exact hc
      cases q
     cases q
    cases q
   cases x
  cases x
 cases x
def Qd(X:Ctx)(h:H)(ev:GV->O N)(o:Oper):O (AN×Eff):=
 match o.op with
 | .move x | .assign x=>vN (ev x)
 | .pick c a b=>match ev c with|some (.bool true)=>vN (ev a)|some (.bool false)=>vN (ev b)|_=>none
 | .alloc t=>match Xl X.P t with|some z=>some (.val (J7 h),.new (.row z.cells.toList true 0))|none=>none
 | .box _ x=>match ev x with|some v=>some (.val (J7 h),.new (.row v.cells.toList true 0))|none=>none
 | .build t l=>match evp ev l.toList with|some l=>vN (ZnD X.P t l)|none=>none
 | .buildSlice t n l=>match evp ev l.toList with|some l=>vE (ZuZ X.P h t n l)|none=>none
 | .load t x=>match ev x with|some v=>vN (Zaz X.P h t v)|none=>none
 | .store t a x=>match ev a,ev x with|some a,some x=>sE (ZjD X.P h t a x)|_,_=>none
 | .nilCheck x=>match ev x with|some (.pointer (some a))=>some (.val (.pointer (some a)),.none)|_=>none
 | .binOp A t x y _=>match ev x,ev y with|some a,some b=>Q0 X.P A t x y a b|_,_=>none
 | .unOp A _ x=>match ev x with|some a=>bif plain a then pN (KC X.P (Op.unary A a)) else none|none=>none
 | .convert s d x=>match ev x with|some a=>bif plain a then pN (KC X.P (convert s d a)) else vN (ZjL X.P h s d a)|none=>none
 | .makeInterface t x=>match ev x,X.P.underlying t with|some _,some (.interface _)=>none|some v,some _=>some (.val (.iface t v),.none)|_,_=>none
 | .makeFunc fn first cap=>bif Zqz fn then none else match evs ev first.toList,evs ev cap.toList with|some vs,some us=>some (.val (.func fn vs.toArray us.toArray),.none)|_,_=>none
 | .makeMap _ none=>some (.val (.map (some h.size)),.new (.map [] 0))
 | .slice t x lo q mx=>match ev x,evo ev lo,evo ev q,evo ev mx with
   | some x,some lo,some q,some mx=>bif plain x&&not (Zs2 x) then(match lo,q,mx with|lo,q,mx=>bif Jq (lo.toList++q.toList++mx.toList) then pN (KC X.P (Instr.sliceAt t x lo q mx)) else none)
     else vN (aslice X.P h t x lo q mx)
   | _,_,_,_=>none
 | .fieldAddr s x f=>match ev x with|some v=>vN (Zel X.P s v f)|none=>none
 | .field t x f=>match ev x with|some v=>vN (ZrV X.P t v f)|none=>none
 | .indexAddr t x i=>match ev x,ev i with|some x,some i=>vN (ZgF X.P t x i)|_,_=>none
 | .index t x i=>match ev x,ev i with|some x,some i=>bif plain x&&plain i then pN (KC X.P (Instr.index t x i)) else vN (ZkU X.P t x i)|_,_=>none
 | .lookup t m k ok=>match ev m,ev k with|some m,some k=>vN (U6 X.P h t m k ok)|_,_=>none
 | .mapUpdate t m k x | .insert t m k x=>match ev m,ev k,ev x with|some m,some k,some x=>sE (Qo X.P h t m k x)|_,_,_=>none
 | .typeAssert x _ t ok=>match ev x with|some x=>vN (ZaJ X.P x t ok)|none=>none
 | .extract x k=>match ev x with|some x=>vN (Zem x k)|none=>none
 | .call c=>match c.callee,evs ev c.args.toList with
   | .builtin b,some args=>K6 X.P h b c.argTypes o.type args
   | .value f,some args=>match ev f with|some f=>WB X h f args|none=>none
   | .invoke r name,some args=>match ev r with|some r=>ZcZ X r name args|none=>none
   | _,_=>none
 | .defer c=>match c.callee,evs ev c.args.toList with
   | .value f,some args=>match ev f with
     | some (.func (.func g) first cap)=>some (.dfr {target:=.fn (.func g) cap,args:=first++args.toArray},.none)
     | _=>none
   | _,_=>none
 | .panic x=>match ev x with|some (.iface t v)=>some (.panic (.iface t v),.none)|_=>none
 | .range t x=>match ev x with|some x=>vE (Znv X.P h t x)|none=>none
 | .next p b=>match ev p with|some p=>vE (ZF0 h p b)|none=>none
 | .entry p=>match ev p with|some p=>vN (ZgG h p)|none=>none
 | _=>none
def Zg9{h β:Type}(f:h->β)(xs:GZ h):(xs.toList.map f).toArray=xs.map f:=by cases xs;simp
def ZgJ.XA{v v':O N}(h:ZgJ ρ v v')(l:Jq v.toList=true):v'=v:=by cases v<;>cases v'<;>simp[ZgJ,Jq]at h l ⊢;exact VR.XA l h
set_option maxHeartbeats 1000000 in
theorem Zcj {X:Ctx} {ev:Operand ->Option Value} {ev':Operand ->Value} {o:Oper} {nx:AN} {E:Eff} (r:Rel ρ h w) (he:EvR ρ ev ev') (ha:Qd X h ev o=some (nx,E)):
 Ja X.P ρ h w (execOp ev' o) nx E:=by
 unfold Qd at ha;split at ha
 ·rename_i x ho;unfold vN at ha;split at ha
  ·rename_i v e;cases ha;exact Ja.val (he x v e) (by simp [execOp,ho])
  ·cases ha
 ·rename_i x ho;unfold vN at ha;split at ha
  ·rename_i v e;cases ha;exact Ja.val (he x v e) (by simp [execOp,ho])
  ·cases ha
 ·rename_i c a b ho;split at ha
  ·rename_i e;have hc:=he c _ e;generalize hcc:ev' c=cv at hc;cases hc;unfold vN at ha;split at ha
   ·rename_i v e;cases ha;exact Ja.val (he a v e) (by simp [execOp,ho,hcc,asBool])
   ·cases ha
  ·rename_i e;have hc:=he c _ e;generalize hcc:ev' c=cv at hc;cases hc;unfold vN at ha;split at ha
   ·rename_i v e;cases ha;exact Ja.val (he b v e) (by simp [execOp,ho,hcc,asBool])
   ·cases ha
  ·cases ha
 ·-- alloc
  rename_i t ho;split at ha
  ·rename_i z hz;cases ha;unfold execOp;rw [ho];exact Zu4 r hz
  ·cases ha
 ·rename_i t x ho;split at ha
  ·rename_i v e;cases ha;unfold execOp;rw [ho];exact ZA3 r t (he x v e)
  ·cases ha
 ·rename_i t ps ho;split at ha
  ·rename_i vs e;obtain⟨q1,q2⟩:=Zpx he _ _ e;unfold execOp;rw [ho];refine J3 ha fun x hx=>?_
   obtain⟨x',h1,h2⟩:=ZuO (w:=w) q1 q2 hx;have e3:(ps.toList.map fun p:Nat×Operand=>(p.1,ev' p.2)).toArray=ps.map fun p:Nat×Operand=>(p.1,ev' p.2):=Zg9 _ _
   rw [e3] at h2;exact⟨x',h1,h2⟩
  ·cases ha
 ·rename_i t n ps ho;split at ha
  ·rename_i vs e;obtain⟨q1,q2⟩:=Zpx he _ _ e;unfold execOp;rw [ho];refine ZgQ ha fun x E hx=>?_
   have:=ZvG r q1 q2 hx;have e3:(ps.toList.map fun p:Nat×Operand=>(p.1,ev' p.2)).toArray=ps.map fun p:Nat×Operand=>(p.1,ev' p.2):=Zg9 _ _
   rw [e3] at this;exact this
  ·cases ha
 ·rename_i t x ho;split at ha
  ·rename_i v e;unfold execOp;rw [ho];exact J3 ha fun _ hx=>ZlN r (he x v e) hx
  ·cases ha
 ·rename_i t a x ho;split at ha
  ·rename_i u v e1 e2;unfold execOp;rw [ho];exact Zli ha fun _ hx=>Zsk r (he a u e1) (he x v e2) hx
  ·cases ha
 ·rename_i x ho;split at ha
  ·rename_i a e;cases ha;have hx:=he x _ e;generalize hxx:ev' x=xv at hx;cases hx with
   | ptr o hi=>exact Ja.val (.ptr o hi) (by simp [execOp,ho,hxx])
  ·cases ha
 ·rename_i op t x y yt ho;split at ha
  ·rename_i a b e1 e2;unfold execOp;rw [ho];exact ZA5 (he x a e1) (he y b e2) ha
  ·cases ha
 ·rename_i op t x ho;split at ha
  ·rename_i a e;cases hp:plain a <;> rw [hp] at ha <;> simp at ha
   unfold execOp;rw [ho];dsimp only;rw [VR.XA hp (he x a e)];exact ZbZ ha fun _ hx=>Wd hx
  ·cases ha
 ·rename_i s d x ho;split at ha
  ·rename_i a e;cases hp:plain a <;> rw [hp] at ha <;> simp at ha
   ·unfold vN at ha;split at ha
    ·rename_i v e2;cases ha;obtain⟨v',h1,h2⟩:=ZuM r (he x a e) e2;exact Ja.val h1 (by simp [execOp,ho,h2])
    ·cases ha
   ·unfold execOp;rw [ho];dsimp only;rw [VR.XA hp (he x a e)];exact ZbZ ha fun _ hx=>Wd hx
  ·cases ha
 ·rename_i t x ho;split at ha
  ·cases ha
  ·rename_i v d hni e1 e2;cases ha;refine Ja.val (.iface t _ _ (he x v e1)) ?_;cases d <;> simp [execOp,ho,Instr.makeInterface,run_underlying e2] at hni ⊢
  ·cases ha
 ·rename_i fn first cap ho;cases hy:Zqz fn <;> rw [hy] at ha <;> simp at ha
  split at ha
  ·rename_i vs us e1 e2;cases ha;have q1:= (ZaP he _ _ e1).arr;have q2:= (ZaP he _ _ e2).arr
   refine Ja.val (.func fn _ _ (first.map ev') (cap.map ev') (fun l hl=>by subst hl;cases hy) (by simpa using q1.1) (by simpa using q2.1)
    (fun i v v' a b=>q1.2 i v v' a (by simpa using b)) (fun i v v' a b=>q2.2 i v v' a (by simpa using b))) (by simp [execOp,ho,Instr.makeFunc])
  ·cases ha
 ·rename_i t ho;cases ha;refine⟨ρ.add h.size (w.heap.size,0) (0,0),World.push w (.map #[] 0),ZbW _,⟨_,rfl,⟨_,rfl⟩,rfl,#[],ZxW _,.nil⟩,.map (some w.heap.size),.map (Ren.add_same ρ h.size _ _),?_⟩;simp [execOp,ho,Instr.makeMap];rfl
 ·rename_i t x lo hi mx ho;split at ha
  ·rename_i v lo' hi' mx' e1 e2 e3 e4;have q1:=he x v e1;have q2:=Zjr he e2;have q3:=Zjr he e3;have q4:=Zjr he e4;unfold execOp;rw [ho];cases hp:(plain v && not (Zs2 v)) <;> rw [hp] at ha
   ·simp only [Cq0] at ha;exact J3 ha fun _ hx=>Zso r q1 q2 q3 q4 hx
   ·simp only [Cq1] at ha;rw [Ba0] at hp;cases hq:Jq (lo'.toList ++ hi'.toList ++ mx'.toList) <;> rw [hq] at ha <;> simp only [Cq0,Cq1] at ha
    ·cases ha
    ·simp only [Jq,List.all_append,Ba0] at hq;dsimp only;rw [VR.XA hp.1 q1,ZgJ.XA q2 hq.1.1,ZgJ.XA q3 hq.1.2,ZgJ.XA q4 hq.2];exact ZbZ ha fun _ hx=>Wd hx
  ·cases ha
 ·rename_i s x f ho;split at ha
  ·rename_i v e;unfold execOp;rw [ho];exact J3 ha fun _ hx=>Zt2 (he x v e) hx
  ·cases ha
 ·rename_i t x f ho;split at ha
  ·rename_i v e;unfold execOp;rw [ho];exact J3 ha fun _ hx=>ZqY (he x v e) hx
  ·cases ha
 ·rename_i t x i ho;split at ha
  ·rename_i u v e1 e2;unfold execOp;rw [ho];exact J3 ha fun _ hx=>Zs3 (he x u e1) (he i v e2) hx
  ·cases ha
 ·rename_i t x i ho;split at ha
  ·rename_i u v e1 e2;unfold execOp;rw [ho];cases hp:(plain u && plain v) <;> rw [hp] at ha <;> simp only [Cq0,Cq1] at ha
   ·exact J3 ha fun _ hx=>ZqB (he x u e1) (he i v e2) hx
   ·rw [Ba0] at hp;dsimp only;rw [VR.XA hp.1 (he x u e1),VR.XA hp.2 (he i v e2)];exact ZbZ ha fun _ hx=>Wd hx
  ·cases ha
 ·rename_i t m k ok ho;split at ha
  ·rename_i u v e1 e2;unfold execOp;rw [ho];exact J3 ha fun _ hx=>Zqx r (he m u e1) (he k v e2) hx
  ·cases ha
 ·rename_i t m k x ho;split at ha
  ·rename_i u v y e1 e2 e3;unfold execOp;rw [ho];exact Zli ha fun _ hx=>Zc6 r (he m u e1) (he k v e2) (he x y e3) hx
  ·cases ha
 ·rename_i t m k x ho;split at ha
  ·rename_i u v y e1 e2 e3;unfold execOp;rw [ho];exact Zli ha fun _ hx=>Zc6 r (he m u e1) (he k v e2) (he x y e3) hx
  ·cases ha
 ·rename_i x xt t ok ho;split at ha
  ·rename_i v e;unfold execOp;rw [ho];exact J3 ha fun _ hx=>ZrO (he x v e) hx
  ·cases ha
 ·rename_i x k ho;split at ha
  ·rename_i v e;unfold execOp;rw [ho];exact J3 ha fun _ hx=>Zoo (he x v e) hx
  ·cases ha
 ·rename_i c ho;split at ha
  ·rename_i b args e1 e2;have q:=ZaP he _ _ e2;have:=ZoA (ts:=c.argTypes) (ty:=o.type) (cs:=c.args.map fun | .const _=>true | _=>false) r q ha;unfold execOp;rw [ho];have e3:(c.args.toList.map ev').toArray=c.args.map ev':=Zg9 _ _;rw [e3] at this;show Ja X.P ρ h w (do let d ← resolve ev' c o.type;invoke d.target d.args) nx E;unfold resolve;rw [e1];exact this
  ·rename_i f args e1 e2;have q:=ZaP he _ _ e2;split at ha
   ·rename_i fv e4;have:=ZwZ r (he f fv e4) q ha;unfold execOp;rw [ho];have e3:(c.args.toList.map ev').toArray=c.args.map ev':=Zg9 _ _;rw [e3] at this;show Ja X.P ρ h w (do let d ← resolve ev' c o.type;invoke d.target d.args) nx E;unfold resolve;rw [e1];exact this
   ·cases ha
  ·rename_i rr name args e1 e2;have q:=ZaP he _ _ e2;split at ha
   ·rename_i rv e4;have:=ZqA (w:=w) (h:=h) (he rr rv e4) q ha;unfold execOp;rw [ho];have e3:(c.args.toList.map ev').toArray=c.args.map ev':=Zg9 _ _;rw [e3] at this;show Ja X.P ρ h w (do let d ← resolve ev' c o.type;invoke d.target d.args) nx E;unfold resolve;rw [e1];exact this
   ·cases ha
  ·cases ha
 ·rename_i c ho;split at ha
  ·rename_i f args e1 e2;have q:=ZaP he _ _ e2;split at ha
   ·rename_i g first cap e4;cases ha;have hf:=he f _ e4;generalize hff:ev' f=fv at hf;cases hf with
    | func _ _ _ first' cap' hy hx1 hx2 h1 h2=>
      refine⟨ρ,w,Same.refl w,⟨rfl,rfl⟩,{target:= .fn (.func g) cap',args:=first' ++ c.args.map ev'},⟨⟨g,cap,cap',rfl,rfl,hx2,h2⟩,?_⟩,?_⟩
      ·have e5:LR ρ first.toList first'.toList:=UE.list ⟨hx1,h1⟩;have:= (e5.append q).arr;have e6:(first.toList ++ args).toArray=first ++ args.toArray:=by apply Array.toList_inj.1;simp
       have e7:(first'.toList ++ c.args.toList.map ev').toArray=first' ++ c.args.map ev':=by apply Array.toList_inj.1;simp
       rwa [e6,e7] at this
      ·simp [execOp,ho,resolve,e1,hff,Deferred.ofValue]
   ·cases ha
  ·cases ha
 ·rename_i x ho;split at ha
  ·rename_i t v e;cases ha;have hx:=he x _ e;generalize hxx:ev' x=xv at hx;cases hx with
   | iface _ _ v' hv=>exact⟨ρ,w,Same.refl w,⟨rfl,rfl⟩,.iface t v',.iface t v v' hv,by simp [execOp,ho,hxx,Instr.panic]⟩
  ·cases ha
 ·rename_i t x ho;split at ha
  ·rename_i v e;unfold execOp;rw [ho];exact ZgQ ha fun _ _ hx=>Zsy r (he x v e) hx
  ·cases ha
 ·rename_i it b ho;split at ha
  ·rename_i v e;unfold execOp;rw [ho];exact ZgQ ha fun _ _ hx=>ZvU r o.type (he it v e) hx
  ·cases ha
 ·rename_i it ho;split at ha
  ·rename_i v e;unfold execOp;rw [ho];exact J3 ha fun _ hx=>Zut r (he it v e) hx
  ·cases ha
 ·cases ha
end Go.Z9
end
noncomputable section
namespace Go.Z9
variable{c:Code}{fr:Fr}{l ρ:Ren}
inductive XX where
 | normal
 | exit (id:Nat)
 | goto (l:Nat)
 | ret
 | panic (v:Value)
inductive Kn where
 | ret (v:Value)
 | Yq (v:Value)
def bit(m n:Nat):Z:=Nat.beq (Nat.mod (Nat.div m (Nat.pow 2 n)) 2) 1
def Zno(m n:Nat):bit m n=m.testBit n:=by unfold bit;rw[Nat.testBit_eq_decide_div_mod_eq,Uz];rfl
def allowed(wr:O Nat)(t:Nat):Z:=
 match wr with|none=>true|some m=>bit m t
structure Fs where
 fr:Fr
 ds:List Deferred
 h:H
 wr:Option Nat:=none
inductive PM where
 | ret
 | Yq (v:Value)
 | rcv (v:Value)
inductive Jz where
 | code (c:Code) (n:Nat) (L:Nat) (rd:Option Nat) (s:Fs)
 | loop (c:Code) (n:Nat) (L:Nat) (rd:Option Nat) (s:Fs)
 | call (f:FuncId) (args:Array Value) (L:Nat) (h:H)
 | round (l:Nat) (args:Array Value) (L:Nat) (h:H)
 | dcall (f:FuncId) (args:Array Value) (pm:PM) (L:Nat) (h:H)
 | Qn (c:Code) (n:Nat) (L:Nat) (pm:PM) (s:Fs)
 | leave (fn:Func) (L:Nat) (pm:PM) (s:Fs)
inductive Xr where
 | code (e:XX) (s:Fs)
 | fin (e:Kn) (h:H)
 | Zfi (pm:PM) (h:H)
 | Qn (e:XX) (pm:PM) (s:Fs)
def YM(fr:Fr):GV->O N
 | .tmp t=>bif Qv (fr.at t) then none else some (fr.at t)
 | .const v=>bif plain v then some v else none
 | .func f=>some (.func (.func f) #[] #[])
 | .global _=>none
def ZjF(n:Nat)(s:Fs)(l:O Tmp)(v:N):O Fs:=
 match l with|none=>some s|some d=>Fs.casesOn (motive:=fun _=>O Fs) s fun fr ds h wr=>bif Nat.blt d n&&allowed wr d then some ⟨Tr.set fr d v,ds,h,wr⟩ else none
def ZkS(n:Nat)(s:Fs)(h:O Tmp)(v:N):ZjF n s h v=match h with|none=>some s|some d=>bif Nat.blt d n&&allowed s.wr d then some {s with fr:=Tr.set s.fr d v} else none:=rfl
def ZoJ(s:Fs)(h:H):Fs:=Fs.casesOn (motive:=fun _=>Fs) s fun fr ds _ wr=>⟨fr,ds,h,wr⟩
def Uo(s:Fs)(h:H):ZoJ s h= {s with h:=h}:=rfl
def Zao(V:U Oper)(fr:Fr)(j:Nat):O Z:=
 match V[j]? with
 | some o=>match o.dst with
   | some d=>match fr.at d with|.bool b=>some b|_=>none
   | none=>none
 | none=>none
def XD(V:U Oper)(o:Oper)(fr:Fr):Z:=
 match o.guard with
 | none=>true
 | some (j,want)=>match Zao V fr j with|some b=>b==want|none=>false
def ZjW(v:N):Z:=match v with|.func (.func f) _ _=>Nat.blt f nfs|.tuple _=>true|_=>false
def ZoN(h:Op)(fr:Fr):Z:=match h with
 | .call c=>match c.callee with
   | .value x=>match x with|.func f=>Nat.blt f nfs|.tmp t=>ZjW (fr.at t)|_=>false
   | .builtin _=>true
   | .invoke _ _=>false
 | _=>true
def okG(V:U Oper)(o:Oper)(fr:Fr):Z:=
 match o.guard with
 | none=>true
 | some (j,_)=>(match V[j]? with
   | some o=>match o.dst with|some d=>!Qv (fr.at d)|none=>true
   | none=>true)&&(XD V o fr||ZoN o.op fr)
def Zay(Qq:GX->Z)(ih:Jz->O Xr)(n L:Nat)(rd:O Nat)(m:O Tmp)(s:Fs)(p:AN)(h:H):O (XX×Fs):=
 let s':Fs:=ZoJ s h
 let go (s:Fs) (v:N):O (XX×Fs):=match ZjF n s m v with|some s=>some (.normal,s)|none=>none
 match p with
 | .val v=>go s' v
 | .skip=>go s' undef
 | .enter f args=>
   bif Qq f then
    match ih (.call f args h.size h) with|some (.fin (.ret v) _)=>bif plain v then go s' v else none|_=>none
   else match ih (.call f args L h) with|some (.fin (.ret v) h2)=>go (ZoJ s h2) v|some (.fin (.Yq v) h2)=>some (.panic v,ZoJ s h2)|_=>none
 | .round l args=>match ih (.round l args L h) with|some (.fin (.ret v) h2)=>go (ZoJ s h2) v|some (.fin (.Yq v) h2)=>some (.panic v,ZoJ s h2)|_=>none
 | .dfr d=>match rd with
   | none=>go {s' with ds:=d::s.ds} undef
   | some _=>none
 | .ZoP=>none
 | .panic v=>some (.panic v,s')
def UN(X:Ctx)(Qq:GX->Z)(ih:Jz->O Xr)(n L:Nat)(rd:O Nat)(V:U Oper)(o:Oper)(s:Fs):O (XX×Fs):=
 bif !okG V o s.fr then none else bif XD V o s.fr then
  match Qd X s.h (YM s.fr) o with
  | some (nx,E)=>match E.apply L s.h with|some l=>Zay Qq ih n L rd o.dst s nx l|none=>none
  | none=>none
 else match ZjF n s o.dst undef with|some s=>some (.normal,s)|none=>none
def ZoB(X:Ctx)(Qq:GX->Z)(ih:Jz->O Xr)(n L:Nat)(rd:O Nat)(V:U Oper):U Oper->Fs->O (XX×Fs)
 | [],s=>some (.normal,s)
 | o::rest,s=>match UN X Qq ih n L rd V o s with|some (.normal,s)=>ZoB X Qq ih n L rd V rest s|some (.panic v,s)=>some (.panic v,s)|_=>none
variable{P:GW}{F:Fence}{n:Nat}{Q:Exit->Act->GY->Prop}{a:Act}{w:GY}
def Wq{b:Frame}{k:U Item}{cs:U Frame}:step P (lone (b.atR a (.code (.scope c)::k)) cs w)=.next (lone (b.atR a (.code c:: .inScope c::k)) cs w):=
 step_lone_go (by simp[stepG,stepG.exec,Frame.atR])
def Zn4{b:Frame}{k:U Item}{cs:U Frame}:step P (lone (b.atR a (.inScope c::k)) cs w)=.next (lone (b.atR a k) cs w):=
 step_lone_go (by simp[stepG,stepG.exec,Frame.atR])
def Zcr(h:c.wpIn F n P (Exit.noGoto Q) a w):(Code.scope c).wpIn F n P Q a w:=by
 intro b k cs p x r;have m:(lone (b.atR a (.code (.scope c)::k)) cs w).fenced P F:=fenced_calm x r rfl;have⟨e,a₁,w₁,hq,harr⟩:=h b (.inScope c::k) cs p x r;cases e with
 | normal=>exact⟨.normal,a₁,w₁,hq,.head m Wq (StepsIn.trans harr (.one (fenced_calm x r rfl) Zn4))⟩
 | exit id=>
   have y:exitTo id (.inScope c::k)=exitTo id k:=by simp[exitTo]
   exact⟨.exit id,a₁,w₁,hq,fun A t=>.head m Wq (harr.1 A (by rw[y];exact t)),
    fun q t=>let⟨k₁,h1,h2⟩:=harr.2 q (by rw[y];exact t);⟨k₁,h1,.head m Wq h2⟩⟩
 | goto l=>exact hq.elim
 | ret=>exact⟨_,a₁,w₁,hq,.of_steps (.one m Wq) harr⟩
 | panic B=>exact⟨_,a₁,w₁,hq,.of_steps (.one m Wq) harr⟩
 | outgrown=>exact⟨_,a₁,w₁,hq,.of_steps (.one m Wq) harr⟩
def LoopIn(F:Fence)(n:Nat)(P:GW)(c:Code)(Q:Exit->Act->GY->Prop)(a:Act)(w:GY):Prop:=
 ∀(b:Frame)(k:U Item)(cs:U Frame),b.roundOf=F.round->F.fn b.fn->F.room (cs.length+1+n) ->
   ∃e h w',Q e h w'/\ArrivesIn (Machine.fenced P F) P (lone (b.atR a (.code c:: .inLoop c::k)) cs w) b k cs e h w'
def Zdm(h:LoopIn F n P c Q a w):(Code.loop c).wpIn F n P Q a w:=by intro b k cs l p m;have⟨e,a',w',hq,harr⟩:=h b k cs l p m;exact⟨e,a',w',hq,.of_steps (.one (fenced_calm p m rfl) stepR_loop) harr⟩
def QJ(h:c.wpIn F n P (Exit.then (fun r w'=>LoopIn F n P c Q r w') Q) a w):LoopIn F n P c Q a w:=by
 intro b k cs m q p;have⟨e,a₁,w₁,hq,harr⟩:=h b (.inLoop c::k) cs m q p;cases e with
 | normal=>
   have⟨e₂,a₂,w₂,hq₂,harr₂⟩:=hq b k cs m q p;exact⟨e₂,a₂,w₂,hq₂,.of_steps (StepsIn.trans harr (.one (fenced_calm q p rfl) stepR_inLoop)) harr₂⟩
 | exit id=>exact⟨_,a₁,w₁,hq,.pass (x:=.inLoop c) rfl (fun _ _=>.inl Vd) harr⟩
 | goto l=>exact⟨_,a₁,w₁,hq,.pass (x:=.inLoop c) rfl (fun _ _=>.inl Vd) harr⟩
 | ret=>exact⟨_,a₁,w₁,hq,.pass (x:=.inLoop c) rfl (fun _ _=>.inl Vd) harr⟩
 | panic t=>exact⟨_,a₁,w₁,hq,.pass (x:=.inLoop c) rfl (fun _ _=>.inl Vd) harr⟩
 | outgrown=>exact⟨_,a₁,w₁,hq,.pass (x:=.inLoop c) rfl (fun _ _=>.inl Vd) harr⟩
inductive DsR(ρ:Ren):List Deferred->List Deferred->Prop
 | nil:DsR ρ [] []
 | cons {d d':Deferred} {ds ds':List Deferred} (h:Zr4 ρ d d') (t:DsR ρ ds ds'):DsR ρ (d::ds) (d'::ds')
 | mark {r r':Nat} {ds ds':List Deferred} (h:ρ r=some (r',0)) (t:DsR ρ ds ds'):DsR ρ ({target:=.collected r,args:=#[]}::ds) ({target:=.collected r',args:=#[]}::ds')
def Zr4.mono(m:ρ.le l){d d':V2}(h:Zr4 ρ d d'):Zr4 l d d':=by have⟨⟨f,c,c',h1,h2,h3⟩,h4⟩:=h;exact⟨⟨f,c,c',h1,h2,h3.mono m⟩,h4.mono m⟩
def DsR.mono(m:ρ.le l){ds ds':U V2}(h:DsR ρ ds ds'):DsR l ds ds':=by induction h with|nil=>exact .nil|cons h _ ih=>exact .cons (h.mono m) ih|mark h _ ih=>exact .mark (m _ _ h).1 ih
structure Inv(ρ:Ren)(n:Nat)(s:Fs)(a:Act)(w:World):Prop where
 rel:Rel ρ s.h w
 fr:FrR ρ s.fr n a.tmps
 ds:DsR ρ s.ds a.defers
def chainOf(v:N):U PanicEntry:=[{v,recovered:=false}]
inductive ExR(ρ:Ren):XX->Exit->Prop
 | normal:ExR ρ .normal .normal
 | exit (id:Nat):ExR ρ (.exit id) (.exit id)
 | goto (l:Nat):ExR ρ (.goto l) (.goto l)
 | ret:ExR ρ .ret .ret
 | panic {v v':Value} (h:VR ρ v v'):ExR ρ (.panic v) (.panic (chainOf v'))
inductive PmR(ρ:Ren):PM->FrameMode->Prop
 | ret:PmR ρ .ret .returning
 | Yq {v v':Value} (h:VR ρ v v'):PmR ρ (.Yq v) (.panicking (chainOf v'))
 | rcv {v v':Value} (h:VR ρ v v'):PmR ρ (.rcv v) (.panicking [{v:=v',recovered:=true}])
def PmR.mono(m:ρ.le l){p:PM}{u:FrameMode}(h:PmR ρ p u):PmR l p u:=by cases h with|ret=>exact .ret|Yq h=>exact .Yq (h.mono m)|rcv h=>exact .rcv (h.mono m)
inductive ZQ9(ρ:Ren):Kn->Ending->Prop
 | ret {v v':Value} (h:VR ρ v v'):ZQ9 ρ (.ret v) (.returned v')
 | Yq {v v':Value} (h:VR ρ v v'):ZQ9 ρ (.Yq v) (.panicked (chainOf v'))
def Qx(L n:Nat)(ρ:Ren)(h:H)(w:GY)(e:XX)(s:Fs):Exit->Act->GY->Prop:=fun m p w'=>
 ∃l,ExR l e m/\Inv l n s p w'/\Stp L ρ h w l s.h w'
def Kk(L:Nat)(ρ:Ren)(h:H)(w:GY)(e:Kn)(m:H):Ending->GY->Prop:=fun p w'=>
 ∃l,ZQ9 l e p/\Rel l m w'/\Stp L ρ h w l m w'
def FR'(ρ:Ren)(rd:O Nat)(F:Fence):Prop:=
 match rd with|none=>F=base|some l=>∃h,ρ l=some (h,0)/\F=base.inRound h
def YW(X:Ctx):Jz->Xr->Prop
 | .code c n L rd s,.code e s'=>∀ρ a w F,L<=s.h.size->Inv ρ n s a w->FR' ρ rd F->c.wpIn F 0 X.P (Qx L n ρ s.h w e s') a w
 | .loop c n L rd s,.code e s'=>∀ρ a w F,L<=s.h.size->Inv ρ n s a w->FR' ρ rd F->LoopIn F 0 X.P c (Qx L n ρ s.h w e s') a w
 | .call f args L h,.fin e h'=>∀ρ m w,L<=h.size->Rel ρ h w->UE ρ args m->CallsIn base 0 X.P f m w (Kk L ρ h w e h')
 | .round l args L h,.fin e h'=>∀ρ y k m w,L<=h.size->Rel ρ h w->UE ρ args m->ρ l=some (y,0)->w.heap[y]? =some (.loop k) ->
     RoundIn base 0 X.P y k.fn ((k.params.zip m).foldl (fun q (t,a)=>q.setIfInBounds t a) k.tmps) k.assign k.body w (Kk L ρ h w e h')
 | .dcall f args pm L h,.Zfi pm' h'=>∀ρ m u w,L<=h.size->Rel ρ h w->UE ρ args m->PmR ρ pm u ->
     CallsDIn base 0 X.P f m u w (fun e r w'=>∃v,e=.returned v/\∃p,PmR p pm' r/\Rel p h' w'/\Stp L ρ h w p h' w')
 | .Qn c n L pm s,.Qn e pm' s'=>∀ρ a c0 cs w,L<=s.h.size->Inv ρ n s a w->PmR ρ pm c0.mode ->
     c.wpSIn base 0 X.P (fun x A cs' w'=>∃p r,cs'= {c0 with mode:=r}::cs/\PmR p pm' r/\ExR p e x/\Inv p n s' A w'/\Stp L ρ s.h w p s'.h w') a (c0::cs) w
 | .leave fn L pm s,.fin e h'=>∀ρ n a u w (R:Ending->GY->Prop),L<=s.h.size->Inv ρ n s a w->PmR ρ pm u->(∀x w',Kk L ρ s.h w e h' x w'->R x w')->LeavesInM base 0 X.P fn a.tmps R a.defers u w
 | _,_=>False
def KJ(q:FrR ρ fr n a.tmps):EvR ρ (YM fr) a.eval:=by
 intro x v h;cases x with
 | tmp t=>
   simp only[YM]at h;cases m:Qv (fr.at t)<;>rw[m]at h<;>simp only[Cq1,Cq0]at h;.cases h;exact q.val t m
   cases h
 | const u=>
   simp only[YM]at h;cases p:plain u<;>rw[p]at h<;>simp at h;subst h;exact VR.Yk p
 | func f=>
   simp only[YM,G2]at h;subst h;exact .func (.func f) #[] #[] #[] #[] (fun l e=>by cases e) rfl rfl (fun i v v' e=>by simp at e) (fun i v v' e=>by simp at e)
 | global g=>cases h
def ZrM(q:FrR ρ fr n a.tmps)(V:GZ Oper)(j:Nat)(h:∀o d,V.toList[j]? =some o->o.dst=some d->Qv (fr.at d)=false):yielded V a.tmps j=Zao V.toList fr j:=by
 unfold yielded Zao;rw[<-Gg];cases p:V.toList[j]? with|none=>rfl|some o=>
   cases l:o.dst with|none=>simp[l]|some d=>
     have:=q.val d (h o d p l);simp only[Bq0,l];cases m:a.tmps[d]? with
     | none=>
       rw[Q3,m]at this;simp only[Option.getD_none]at this;generalize fr.at d=x at this;unfold undef at this;cases this;rfl
     | some y=>
       rw[Q3,m]at this;simp only[Option.getD_some]at this;generalize fr.at d=x at this;cases this<;>rfl
def ZfG(r:FrR ρ fr n a.tmps)(V:GZ Oper)(o:Oper)(h:okG V.toList o fr=true):Region.wanted o (yielded V a.tmps)=XD V.toList o fr:=by
 unfold Region.wanted XD;cases q:o.guard with|none=>rfl|some p=>
   have⟨j,want⟩:=p
   have l:=ZrM r V j (fun x d m t=>by
    unfold okG at h;rw[q]at h;simp only[m,t,Ba0]at h;simpa using h.1)
   simp only[l];cases Zao V.toList fr j with|none=>rfl|some b=>cases want<;>cases b<;>rfl
def JZ{s s':Fs}{p:O Tmp}{v v':N}(q:Inv ρ n s a w)(hv:VR ρ v v')(l:ZjF n s p v=some s'):
 Inv ρ n s' (a.put p v') w/\s'.h=s.h:=by
 rw[ZkS]at l;split at l;.cases l;exact⟨q,rfl⟩
 rename_i d;cases m:(Nat.blt d n&&allowed s.wr d)<;>rw[m]at l<;>simp only[Cq1,Cq0]at l;.cases l
 cases l;rw[Ba0,G5]at m;have m:=m.1;exact⟨⟨q.rel,q.fr.set m hv,q.ds⟩,rfl⟩
def Inv.step{L:Nat}{s:Fs}{m:H}{w':GY}(q:Inv ρ n s a w)(r:Rel l m w')(p:Stp L ρ s.h w l m w'):Inv l n {s with h:=m} a w':=
 ⟨r,q.fr.mono p.ext,q.ds.mono p.ext⟩
def Rel.lt{h:H}(r:Rel ρ h w):∀i p,ρ i=some p->i<h.size:=fun i p e=>(r.dom i p.1 p.2 e).1
end Go.Z9
end
noncomputable section
namespace Go.Z9
variable{F:Fence}{L n:Nat}{P:GW}{Qq:GX->Z}{R:Ending->GY->Prop}{X:Ctx}{a:Act}{args:GZ N}{f:GX}{h:H}{ih:Jz->O Xr}{rd:O Nat}{w':GY}
variable{ρ:Ren}{w:GY}
def Zch{p:Ren}{y:H}(r:Rel ρ h w)(m:Stp h.size ρ h w p y w'):Rel ρ h w'/\∀L,Stp L ρ h w ρ h w':=by
 have l:∀b,b<w.heap.size->w'.heap[b]? =w.heap[b]?:=fun b q=>m.frame b q fun i d A e _=>by have:=r.lt i _ e;omega
 refine⟨⟨fun i b d e=>?_,fun i b d e=>?_,r.inj⟩,fun L=>⟨Ren.le_refl _,K2 _,fun _ _=>rfl,fun _ _ x=>x,fun _ _ x=>x,m.os,m.tape,m.output,m.X0,fun b q _=>l b q,fun i b d e t=>by rw[e]at t;cases t⟩⟩;.have:=r.dom i b d e;have:=m.X0;omega
 exact(r.obj i b d e).world (l b (r.dom i b d e).2)
def Zbb(h:FR' ρ rd F)(f:GX):F.fn f↔f<nfs:=by
 unfold FR' at h;split at h;.subst h;exact Iff.rfl
 obtain⟨l,_,rfl⟩:=h;exact Iff.rfl
def ZgH{fr:Fr}{V:U Oper}{o:Oper}(D:∀t,o.op=.call {callee:=.value (.tmp t),args:=(match o.op with | .call c=>c.args|_=>#[]),argTypes:=(match o.op with | .call c=>c.argTypes|_=>#[])}->Qv (fr.at t)=false->VR ρ (fr.at t) (a.tmps.getD t undef))(m:okG V o fr=true)(hw:XD V o fr=false)(h:o.about P w a.eval=some f):f<nfs:=by
 have A:ZoN o.op fr=true:=by
  unfold okG at m;cases C:o.guard with|none=>unfold XD at hw;rw[C]at hw;cases hw|some p=>rw[C]at m;simp only[hw,Ba0,Gk]at m;exact m.2
 have⟨dst,op,ty,ps,af,gd⟩:=o;unfold Oper.about at h;dsimp only at h A D;split at h
 .rename_i c;have⟨callee,args,ats⟩:=c;cases callee with
  | value x=>
    cases x with
    | func g=>
      simp only[resolve,Act.eval,Deferred.ofValue,Sem.run_pure,Target.leads]at h;cases h;simpa[ZoN]using A
    | tmp t=>
      have l:ZjW (fr.at t)=true:=A;have q:=D t rfl;generalize fr.at t=x at l q;unfold ZjW at l;split at l
      .rename_i g u1 F;have hv:=q rfl;simp only[resolve,Act.eval]at h;generalize a.tmps.getD t undef=y at hv h;cases hv with|func _ _ _ B E I=>
         simp only[Deferred.ofValue,Sem.run_pure,Target.leads]at h;cases h;simpa using l
      .have hv:=q rfl;simp only[resolve,Act.eval]at h;generalize a.tmps.getD t undef=y at hv h;cases hv with|tuple=>simp[Deferred.ofValue,stuck,Sem.run]at h
      cases l
    | const v=>cases A
    | global g=>cases A
  | builtin b=>
    simp only[resolve,Sem.run_pure,Target.leads]at h;cases h
  | invoke r G=>cases A
 cases h
def Zov(h:CallsIn base n P f args w R):Calls P f args w R:=
 fun cs=>let⟨e,w',fr,r,s,x⟩:=h.2 cs (ZiM _);⟨e,w',fr,r,s.comes,x⟩
def ZpC{m:Nat}(h:CallsIn base n P f args w R):CallsIn base m P f args w R:=
 ⟨h.1,fun cs _=>h.2 cs (ZiM _)⟩
def ZfE{k:Nat}{p:U GX}(C:p.all (fun g=>Nat.blt g nfs)=true)(h:∀D,CallsIn (Fence.list p (some D)) k P f args w R):CallsIn base n P f args w R:=by
 have l:∀g∈p,g<nfs:=fun g q=>by simpa using KB.1 C g q
 refine⟨l _ (h 0).1,fun cs _=>?_⟩;have⟨e,w',fr,r,s,x⟩:=(h (cs.length+1+k)).2 cs fun d B=>by cases B;exact K2 _
 have t:∀m,Machine.fenced P (Fence.list p (some (cs.length+1+k))) m->Machine.fenced P base m:=fun m y g q=>by
  have⟨_,h2,h3,_⟩:=y g q;exact⟨fun z=>(by cases z),h2.imp (l _) id,fun f A=>l _ (h3 f A),ZiM _⟩
 refine⟨e,w',fr,r,?_,x⟩;cases e with|returned v=>exact StepsIn.mono t s|panicked c=>exact StepsIn.mono t s|outgrown=>exact s
def inB(h:Nat.blt f nfs=true):base.fn f:=by rw[G5]at h;exact h
def ZuH{l:Next}(h:(callFunc f args).run P w=.ok l w'):f<P.funcs.size:=by refine Nat.lt_of_not_le fun hn=>?_;have:P.funcs[f]? =none:=GU hn;unfold callFunc at h;simp only[Sem.run_bind,run_program,Gs,this]at h;simp[stuck,Sem.run]at h
def ZGa{o:Oper}{A:Next}(he:(execOp a.eval o).run P w=.ok A w')(h:o.about P w a.eval=some f):f<P.funcs.size:=by
 unfold Oper.about at h;split at h
 .rename_i c y;split at h
  .rename_i d q r
   have l:(invoke d.target d.args).run P q=.ok A w':=by
    unfold execOp at he;rw[y]at he;simp only[Sem.run_bind,r,Gs]at he;exact he
   have x:=invoke_tie P q d.target d.args;generalize d.target=t at h x l
   have fin:(∃f m p,Target.leads P q t d.args=some f/\(invoke t d.args).run P q=(callFunc f m).run P p)\/(∃h w',(invoke t d.args).run P q=.halt h w')->f<P.funcs.size:=by
    rintro(⟨g,m,p,B,C⟩|⟨D,p,e⟩);.rw[h]at B;cases B;rw[C]at l;exact ZuH l
    rw[e]at l;cases l
   split at x<;>first|exact fin x | (rw[x]at h;cases h)
  cases h
 cases h
def Zby(h:FR' ρ rd F):F.depth=none:=by
 unfold FR' at h;split at h;.subst h;rfl
 obtain⟨l,_,rfl⟩:=h;rfl
def JR(h:FR' ρ rd F)(l:CallsIn base 0 P f args w R):CallsIn F 0 P f args w R:=by
 unfold FR' at h;split at h;.subst h;exact l
 obtain⟨m,_,rfl⟩:=h;exact l.inRound m
def ZdV(h:FR' ρ rd F){l:Nat}{t:GZ N}{YK p:Code}(m:RoundIn base 0 P l f t YK p w R):RoundIn F 0 P l f t YK p w R:=by
 unfold FR' at h;split at h;.subst h;exact m
 obtain⟨q,_,rfl⟩:=h;exact m
def FR'.mono{l:Ren}(m:ρ.le l)(h:FR' ρ rd F):FR' l rd F:=by
 unfold FR' at h ⊢;split at h;.exact h
 have⟨l',h1,h2⟩:=h;exact⟨l',(m _ _ h1).1,h2⟩
def Zc2{ev:GV->O N}{o:Oper}{B:AN}{E:Eff}{C:GY}(m:Qd X h ev o=some (B,E))(hn:ZGo ρ C B ((execOp a.eval o).run X.P w))(p:o.about X.P w a.eval=some f):f<nfs:=by
 have ok:∀{y:Next}{w':GY},(execOp a.eval o).run X.P w=.ok y w'->f<nfs:=fun e=>by
  have:=ZGa e p;rwa[X.sz]at this
 cases B with|val v=>have⟨v',_,e⟩:=hn;exact ok e|skip=>exact ok hn|enter g args=>have⟨v',_,e⟩:=hn;exact ok e|round l args=>have⟨l',k,args',_,_,_,e⟩:=hn;exact ok e|dfr d=>have⟨d',_,e⟩:=hn;exact ok e|ZoP=>exact ok hn|panic v=>
   exfalso;unfold Oper.about at p;split at p
   .rename_i c t;have⟨callee,args,ats⟩:=c;cases callee with
    | builtin b=>simp only[resolve,Sem.run_pure,Target.leads]at p;cases p
    | value x=>
      unfold Qd at m;rw[t]at m;dsimp only at m;split at m;next q A=>cases q
      .split at m
       .unfold WB at m;split at m;.split at m<;>cases m
        .split at m;.revert m;generalize Nat.beq _ _=bb;cases bb<;>simp
         cases m
        cases m
       cases m
      next q A=>cases q
      cases m
    | invoke r D=>
      unfold Qd at m;rw[t]at m;dsimp only at m;split at m;next q A=>cases q
      next q A=>cases q
      .split at m
       .unfold ZcZ at m;split at m
        .split at m;.split at m<;>cases m
         cases m
        cases m
       cases m
      cases m
   cases p
def ZjI{ev:GV->O N}{o:Oper}{m:AN}{E:Eff}(l:Qd X h ev o=some (m,E)){c:Call}(p:o.op=.defer c):∃d,m=.dfr d:=by
 unfold Qd at l;rw[p]at l;dsimp only at l;split at l
 .split at l;.cases l;exact⟨_,rfl⟩
  cases l
 cases l
def ZuY(A:∀j r,ih j=some r->YW X j r){o:Oper}{s s':Fs}{nx:AN}{h1:H}{e:XX}
 (q:Zay Qq ih n L rd o.dst s nx h1=some (e,s')) {w1:GY} {r:Result Next} (y:Inv ρ n {s with h:=h1} a w1) (ZA:L<=h1.size) (I:FR' ρ rd F)
 (hn:ZGo ρ w1 nx r) {K:Act->GY->Prop} {Q:Exit->Act->GY->Prop}
 (hK:e=.normal->∀m V w',Inv m n s' V w'->Stp L ρ h1 w1 m s'.h w'->K V w')
 (hQ:∀v,e=.panic v->∀m v' V w',VR m v v'->Inv m n s' V w'->Stp L ρ h1 w1 m s'.h w'->Q (.panic (chainOf v')) V w'):
 o.uponIn F 0 X.P a K Q r:=by
 have hd:F.depth.isSome=true->1<=0:=by rw[Zby I];intro hh;cases hh
 have T:∀{m:Ren}{h2:H}{w2:GY}{v v':N},Inv m n {s with h:=h2} a w2->Stp L ρ h1 w1 m h2 w2->VR m v v' ->
  (match ZjF n {s with h:=h2} o.dst v with|some s=>some (XX.normal,s) | none=>none)=some (e,s')->K (a.put o.dst v') w2:=by
  intro m h2 w2 v v' G p hv S;split at S;next s2 E=>cases S;have⟨q1,q2⟩:=JZ G hv E;refine hK rfl m _ _ q1 ?_;rw[q2];exact p
  cases S
 unfold Zay at q;dsimp only[Uo]at q;split at q;.obtain⟨v',hv,rfl⟩:=hn;exact T y (Stp.refl _ _ _ _) hv q
 .subst hn;exact T y (Stp.refl _ _ _ _) (VR.undef ρ) q
 .rename_i f args;obtain⟨t,hv,rfl⟩:=hn;cases S:Qq f<;>rw[S]at q<;>simp only[Cq1,Cq0]at q
  .refine⟨hd,?_⟩;split at q;.rename_i v h2 B;refine(JR I (A _ _ B ρ t w1 ZA y.rel hv)).mono ?_;rintro W w' ⟨m,he,C,p⟩;cases he with|ret x=>exact T (y.step C p) p x q
   .rename_i v h2 B;cases q;refine(JR I (A _ _ B ρ t w1 ZA y.rel hv)).mono ?_;rintro W w' ⟨m,he,C,p⟩;cases he with|Yq x=>exact hQ v rfl m _ _ _ x (y.step C p) p
   cases q
  refine⟨hd,?_⟩;split at q
  .rename_i v h2 B;cases D:plain v<;>rw[D]at q<;>simp only[Cq1,Cq0]at q;.cases q
   refine(JR I (A _ _ B ρ t w1 V7 y.rel hv)).mono ?_;rintro W w' ⟨m,he,C,p⟩;cases he with|ret x=>
     rw[VR.XA D x];have⟨q1,q2⟩:=Zch y.rel p;exact T (y.step q1 (q2 L)) (q2 L) (VR.Yk D) q
  cases q
 .rename_i l args;obtain⟨l',k,t,hl,hw,hv,rfl⟩:=hn;refine⟨hd,?_⟩;split at q;.rename_i v h2 B;refine(ZdV I (A _ _ B ρ l' k t w1 ZA y.rel hv hl hw)).mono ?_;rintro W w' ⟨m,he,C,p⟩;cases he with|ret x=>exact T (y.step C p) p x q
  .rename_i v h2 B;cases q;refine(ZdV I (A _ _ B ρ l' k t w1 ZA y.rel hv hl hw)).mono ?_;rintro W w' ⟨m,he,C,p⟩;cases he with|Yq x=>exact hQ v rfl m _ _ _ x (y.step C p) p
  cases q
 .rename_i d;obtain⟨d',hdd,rfl⟩:=hn;split at q
  .have G:Inv ρ n {s with h:=h1,ds:=d::s.ds} {a with defers:=d'::a.defers} w1:=⟨y.rel,y.fr,.cons hdd y.ds⟩;split at q;next s2 E=>cases q;have⟨q1,q2⟩:=JZ G (VR.undef ρ) E;refine hK rfl ρ _ _ q1 ?_;rw[q2];exact Stp.refl _ _ _ _
   cases q
  cases q
 .cases q
 rename_i v;obtain⟨v',hv,rfl⟩:=hn;cases q;exact hQ v rfl ρ v' a w1 hv y (Stp.refl _ _ _ _)
def Wz(T:∀j r,ih j=some r->YW X j r){V:GZ Oper}{o:Oper}{s s':Fs}{e:XX}
 (p:UN X Qq ih n L rd V.toList o s=some (e,s')) (q:Inv ρ n s a w) (ZA:L<=s.h.size) (D:FR' ρ rd F) {K:Act->GY->Prop} {Q:Exit->Act->GY->Prop}
 (hK:e=.normal->∀m x w',Inv m n s' x w'->Stp L ρ s.h w m s'.h w'->K x w')
 (hQ:∀v,e=.panic v->∀m v' x w',VR m v v'->Inv m n s' x w'->Stp L ρ s.h w m s'.h w'->Q (.panic (chainOf v')) x w'):
 if Region.wanted o (yielded V a.tmps) then o.wpIn F 0 X.P a w K Q else(∀f,o.about X.P w a.eval=some f->F.fn f)/\K (a.put o.dst undef) w:=by
 unfold UN at p;cases A:okG V.toList o s.fr<;>rw[A]at p<;>simp only[G9,Q1,Cq1,Cq0]at p;.cases p
 rw[ZfG q.fr V o A];cases G:XD V.toList o s.fr<;>rw[G]at p<;>simp only[Cq1,Cq0]at p
 .rw[if_neg Vd];refine⟨fun f C=>(Zbb D f).2 (ZgH (ρ:=ρ) (fun t _ hx=>by have:=q.fr.val t hx;exact this) A G C),?_⟩;split at p;next s2 S=>cases p;have⟨q1,q2⟩:=JZ q (VR.undef ρ) S;refine hK rfl ρ _ _ q1 ?_;rw[q2];exact Stp.refl _ _ _ _
  cases p
 rw[if_pos rfl];split at p
 .rename_i nx E W;split at p
  .rename_i h1 hE;have⟨ρ1,w1,p1,p2,p3⟩:=Zcj q.rel (KJ q.fr) W;have⟨r1,st1⟩:=Eff.sound q.rel ZA p1 hE p2;refine⟨fun f C=>(Zbb D f).2 (Zc2 W p3 C),?_⟩
   have ZqG:o.semAt F.round a.eval=execOp a.eval o:=by
    cases I:rd with|none=>rw[I]at D;unfold FR' at D;subst D;rfl|some l=>
      refine Oper.semAt_eq _ _ _ fun c hc=>?_;obtain⟨d,rfl⟩:=ZjI W hc;rw[I]at p;simp[Zay]at p
   rw[ZqG];refine ZuY T p (q.step r1 st1) (KK ZA st1.size) (D.mono st1.ext) p3 (fun he m x w' B y=>?_) (fun v he m v' x w' hv B y=>?_);.exact hK he m x w' B (st1.trans q.rel.lt y)
   exact hQ v he m v' x w' hv B (st1.trans q.rel.lt y)
  cases p
 cases p
def Znu(x:∀j r,ih j=some r->YW X j r){V:GZ Oper}(Q:Exit->Act->GY->Prop):
 ∀(l:U Oper)(s s':Fs)(e:XX),ZoB X Qq ih n L rd V.toList l s=some (e,s')->∀{ρ:Ren}{F:Fence}{a:Act}{w:GY},Inv ρ n s a w->L<=s.h.size->FR' ρ rd F ->
   (∀D A w',Qx L n ρ s.h w e s' D A w'->Q D A w')->wpListIn F 0 X.P V Q l a w:=by
 intro l;induction l with
 | nil=>
   intro s s' e p ρ F a w y E C B;simp only[ZoB,G2,Prod.mk.injEq]at p;obtain⟨rfl,rfl⟩:=p;exact B .normal a w ⟨ρ,.normal,y,Stp.refl _ _ _ _⟩
 | cons o l G=>
   intro s s' e p ρ F a w y E C B;simp only[ZoB]at p;split at p;.rename_i s1 h1;refine Wz x h1 y E C (fun _ t A w' q m=>?_) (fun v he=>by cases he);refine G s1 s' e p q (KK E m.size) (C.mono m.ext) fun D K w2 I=>?_;have⟨ρ2,q1,q2,q3⟩:=I;exact B D K w2 ⟨ρ2,q1,q2,m.trans y.rel.lt q3⟩
   next v s1 h1=>cases p;refine Wz x h1 y E C (fun he=>by cases he) (fun v' he t S A w' hv q m=>?_);cases he;exact B _ A w' ⟨t,.panic hv,q,m⟩
   cases p
def Ze4{ev h:GV->O N}:∀(l:U GV),(∀x∈l,ev x=h x)->evs ev l=evs h l:=by intro l;induction l with|nil=>intro _;rfl|cons x l ih=>intro m;simp only[evs,m x Vd,ih (fun y p=>m y (by simp[p]))]
def Zpy{ev h:GV->O N}:∀(l:U (Nat×GV)),(∀x∈l.map (·.2),ev x=h x)->evp ev l=evp h l:=by intro l;induction l with|nil=>intro _;rfl|cons x l ih=>intro p;have⟨i,x⟩:=x;simp only[evp,p x Vd,ih (fun y m=>p y (by simp at m ⊢;exact .inr m))]
def Zjs{ev l:GV->O N}(x:O GV)(h:∀y∈x.toArray,ev y=l y):evo ev x=evo l x:=by cases x with|none=>rfl|some x=>simp only[evo,h x Vd]
def ZpH(X:Ctx)(h:H){ev l:GV->O N}(o:Oper)(he:∀x∈o.op.operands,ev x=l x):Qd X h ev o=Qd X h l o:=by
 unfold Qd;cases C:o.op<;>rw[C]at he<;>simp only[Op.operands]at he<;>dsimp only;case build t ps=>rw[Zpy ps.toList (fun x p=>he x (by simpa using p))]
 case buildSlice t n ps=>rw[Zpy ps.toList (fun x p=>he x (by simpa using p))]
 case makeFunc fn a b=>rw[Ze4 a.toList (fun x p=>he x (by simp at p ⊢;exact .inl p)),Ze4 b.toList (fun x p=>he x (by simp at p ⊢;exact .inr p))]
 case slice t x lo hi mx=>
  rw[he x Vd,Zjs lo (fun y q=>he y (by simp at q ⊢;simp[q])),Zjs hi (fun y q=>he y (by simp at q ⊢;simp[q])),Zjs mx (fun y q=>he y (by simp at q ⊢;simp[q]))]
 case call c=>
  rw[Ze4 c.args.toList (fun x p=>he x (by unfold Call.operands;simp at p ⊢;exact .inr p))];cases B:c.callee with
  | value f=>
    have A:=he f (by unfold Call.operands;rw[B];simp);cases evs l c.args.toList<;>simp only[A]
  | invoke r m=>
    have A:=he r (by unfold Call.operands;rw[B];simp);cases evs l c.args.toList<;>simp only[A]
  | builtin b=>cases evs l c.args.toList<;>rfl
 case defer c=>
  rw[Ze4 c.args.toList (fun x p=>he x (by unfold Call.operands;simp at p ⊢;exact .inr p))];cases B:c.callee with
  | value f=>
    have A:=he f (by unfold Call.operands;rw[B];simp);cases evs l c.args.toList<;>simp only[A]
  | invoke r m=>cases evs l c.args.toList<;>rfl
  | builtin b=>cases evs l c.args.toList<;>rfl
 case makeMap t r=>cases r<;>rfl
 all_goals first
  | rfl
  | (simp at he;simp only[he];done)
  | (simp at he;simp only[he.1,he.2];done)
  | (simp at he;simp only[he.1,he.2.1,he.2.2];done)
def Zu0(P:GW)(fr:Fr)(h:H):ResultVar->O N
 | .tmp t=>bif Qv (fr.at t) then none else some (fr.at t)
 | .cell a t=>Zaz P h t (fr.at a)
def Zeh(P:GW)(fr:Fr)(h:H):U ResultVar->O (U N)
 | []=>some []
 | r::rs=>match Zu0 P fr h r,Zeh P fr h rs with|some v,some vs=>some (v::vs)|_,_=>none
def JB(P:GW)(fn:Func)(fr:Fr)(h:H):O N:=
 match Zeh P fr h fn.results.toList with|some [v]=>some v|some vs=>some (.tuple vs.toArray)|none=>none
def QN:U N->Nat->Fr->Fr
 | [],_,fr=>fr
 | v::vs,i,fr=>QN vs (i+1) (Tr.set fr i v)
def Qz:U (Tmp×N)->Nat->Fr->O Fr
 | [],_,fr=>some fr
 | (t,v)::r,n,fr=>bif Nat.blt t n then Qz r n (Tr.set fr t v) else none
structure Cfg where
 X:Ctx
 Qq:FuncId->Bool
 draw:(Jz->Option Xr)->Nat->Nat->Option Nat->List Oper->Fs->Option Fs
def Zie(k:XX->Fs->O Xr)(r:O Xr):O Xr:=
 match r with|some (.code e s)=>k e s|_=>none
def ZL1(ih:Jz->O Xr)(a b:Code)(n L:Nat)(rd:O Nat)(s:Fs):O Xr:=
 Zie (fun e s=>match e with|.normal=>ih (.code b n L rd s)|e=>some (.code e s)) (ih (.code a n L rd s))
def Zna(ih:Jz->O Xr)(c:GV)(a b:Code)(n L:Nat)(rd:O Nat)(s:Fs):O Xr:=
 match YM s.fr c with|some (.bool t)=>bif t then ih (.code a n L rd s) else ih (.code b n L rd s)|_=>none
def Zzg(ih:Jz->O Xr)(id:Nat)(c:Code)(n L:Nat)(rd:O Nat)(s:Fs):O Xr:=
 Zie (fun e s=>match e with|.exit k=>bif Nat.beq k id then some (.code .normal s) else some (.code (.exit k) s)|e=>some (.code e s)) (ih (.code c n L rd s))
def Zzf(ih:Jz->O Xr)(c:Code)(n L:Nat)(rd:O Nat)(s:Fs):O Xr:=
 Zie (fun e s=>match e with|.goto _=>none|e=>some (.code e s)) (ih (.code c n L rd s))
def Zm9(ih:Jz->O Xr)(c:Code)(n L:Nat)(rd:O Nat)(s:Fs):O Xr:=
 Zie (fun e s=>match e with|.normal=>ih (.loop c n L rd s)|e=>some (.code e s)) (ih (.code c n L rd s))
structure MI where
 id:Nat
 o:Oper
 l:List Oper
 ops:Array Oper
 rest:Code
 t:Tmp
 it:Nat
 m:Nat
 since:Nat
 QW:Nat
 es:List MapEntry
 clock:Nat
def ZC4(id:Nat)(o:Oper)(l:List Oper)(V:Array Oper)(rest:Code)(t:Tmp)(s:Fs):Option MI:=
 match s.fr.at t with
 | .pointer (some ⟨it,0,none⟩)=>match s.h.at it with
   | .iter m p r none=>match s.h.at m with|.map es q=>some ⟨id,o,l,V,rest,t,it,m,p,r,es,q⟩|_=>none
   | _=>none
 | _=>none
def ZC5(id:Nat)(V:GZ Oper)(rest:Code)(s:Fs):O MI:=
 match V.toList with
 | o::l=>match o.op,o.guard with|.next (.tmp t) false,none=>ZC4 id o l V rest t s|_,_=>none
 | []=>none
def ZsS(c:Code)(s:Fs):O MI:=
 match c with|.seq (.region id V false) rest=>ZC5 id V rest s|_=>none
def Zjt:Code->U Nat
 | .seq a b=>Zjt a++Zjt b
 | .cond _ a b=>Zjt a++Zjt b
 | .block _ c=>Zjt c
 | .scope c=>Zjt c
 | .loop c=>Zjt c
 | .region _ V _=>V.toList.filterMap (·.dst)
 | _=>[]
def ZdJ:U Nat->Nat
 | []=>0
 | t::ts=>Nat.lor (Nat.pow 2 t) (ZdJ ts)
def Y1:U Nat->Fr->Fr
 | [],fr=>fr
 | t::ts,fr=>Y1 ts (Tr.set fr t ZrR)
def Zcv(b:Nat):U V0->Z
 | []=>true
 | e::es=>bif Nat.beq e.born b then false else Zcv b es
def JA(h:Nat):U V0->Z
 | []=>true
 | e::es=>Nat.blt e.born h&&Zcv e.born es&&JA h es
def UO(fr:Fr)(d:O Tmp)(v:N):Fr:=
 match d with|none=>fr|some d=>Tr.set fr d v
def Zbg(C:Cfg)(ih:Jz->O Xr)(h:MI)(n L:Nat)(rd:O Nat)(s:Fs):O Xr:=
 match ZoB C.X C.Qq ih n L rd h.ops.toList h.l s with|some (.normal,s1)=>ih (.code h.rest n L rd s1)|some (e,s1)=>some (.code e s1)|none=>none
def ZcB(C:Cfg)(ih:Jz->O Xr)(l:MI)(n:Nat)(rd:O Nat)(wr:Nat)(fr:Fr)(s:Fs):U V0->Z
 | []=>true
 | e::es=>(match Zbg C ih l n s.h.size rd {fr:=UO fr l.o.dst (.tuple #[.bool true,e.key,e.val]),ds:=s.ds,h:=s.h.put l.it (.iter l.m l.since l.clock (some e.born)),wr:=some wr} with|some (.code .normal s2)=>Nat.beq s2.ds.length s.ds.length|_=>false)&&ZcB C ih l n rd wr fr s es
def Zo3(h:MI)(n L:Nat)(T:U Nat):Z:=
 Nat.beq h.since h.clock&&Nat.ble h.clock h.QW&&JA h.clock h.es&&Nat.ble L h.it && !T.contains h.t&&(match h.o.dst with|some d=>Nat.blt d n&&T.contains d|none=>false)
def Zf7{l:MI}{T:U Nat}(h:Zo3 l n L T=true):l.since=l.clock/\l.clock<=l.QW/\JA l.clock l.es=true/\L<=l.it/\l.t∉T/\∃d,l.o.dst=some d/\d<n/\d∈T:=by
 unfold Zo3 at h;simp only[Ba0,Bool.not_eq_true']at h;obtain⟨⟨⟨⟨⟨h1,h2⟩,x⟩,r⟩,q⟩,m⟩:=h;refine⟨Nb0 h1,Nl0 h2,x,Nl0 r,fun z=>?_,?_⟩;.rw[<-GL]at z;rw[z]at q;cases q
 cases p:l.o.dst with|none=>rw[p]at m;cases m|some d=>
   rw[p]at m;simp only[Ba0,G5,GL]at m;exact⟨d,rfl,m⟩
def Zrl(C:Cfg)(ih:Jz->O Xr)(l:MI)(n L:Nat)(rd:O Nat)(s:Fs)(T:U Nat):O Xr:=
 bif Zo3 l n L T then
  bif ZcB C ih l n rd (ZdJ T) (Y1 T s.fr) s l.es then
   match Zbg C ih l n L rd {s with fr:=UO (Y1 T s.fr) l.o.dst UK,h:=s.h.put l.it .dead} with
   | some (.code e s2)=>match e with|.normal=>none|e=>some (.code e s2)
   | _=>none
  else none
 else none
def Zm8(C:Cfg)(ih:Jz->O Xr)(h:MI)(c:Code)(n L:Nat)(rd:O Nat)(s:Fs):O Xr:=
 Zrl C ih h n L rd s ((Zjt c).filter (allowed s.wr))
def Zh4(C:Cfg)(ih:Jz->O Xr)(c:Code)(n L:Nat)(rd:O Nat)(s:Fs):O Xr:=
 match ZsS c s with
 | some h=>match Zm8 C ih h c n L rd s with|some r=>some r|none=>Zm9 ih c n L rd s
 | none=>Zm9 ih c n L rd s
def Zh1(C:Cfg)(ih:Jz->O Xr)(V:GZ Oper)(n L:Nat)(rd:O Nat)(s:Fs):O Xr:=
 match ZoB C.X C.Qq ih n L rd V.toList V.toList s with|some (e,s)=>some (.code e s)|none=>none
def Zro(C:Cfg)(ih:Jz->O Xr)(V:GZ Oper)(n L:Nat)(rd:O Nat)(s:Fs):O Xr:=
 match C.draw ih n L rd V.toList s with|some s=>some (.code .normal s)|none=>none
def J8(ih:Jz->O Xr)(n L:Nat)(rd:O Nat)(l:Nat)(s:Fs)(r:O Xr):O Xr:=
 match r with
 | some (.fin (.ret _) h2)=>match h2.at l with
   | .loop y m fr q p YK x t=>
     bif y==.busy then none else
     match m with
     | none=>some (.code .normal {s with h:=h2.put l (.loop .exhausted m fr q p YK x t)})
     | some c=>ih (.code c n L rd {s with h:=h2.put l (.loop .exhausted m fr q p YK x t)})
   | _=>none
 | some (.fin (.Yq v) h2)=>some (.code (.panic v) {s with h:=h2})
 | _=>none
def Qm(C:Cfg)(ih:Jz->O Xr)(g:GV)(n L:Nat)(rd:O Nat)(l:Nat)(s:Fs):O Xr:=
 match YM s.fr g with
 | some gv=>match WB C.X s.h gv [.func (.yield l) #[] #[]] with|some (.enter f args,.none)=>J8 ih n L rd l s (ih (.call f args L s.h))|_=>none
 | none=>none
def Zh2(C:Cfg)(ih:Jz->O Xr)(g:GV)(m:GZ Tmp)(YK p:Code)(n L:Nat)(rd:O Nat)(s:Fs):O Xr:=
 match rd with
 | none=>Qm C ih g n L rd (s.h.size+1) {s with ds:= {target:=.collected s.h.size,args:=#[]}::s.ds,h:=(s.h.push .deferred).push (.loop .ready none s.fr n m YK p s.h.size)}
 | some l=>match s.h.at l with
   | .loop _ _ _ _ _ _ _ q=>Qm C ih g n L rd s.h.size {s with h:=s.h.push (.loop .ready none s.fr n m YK p q)}
   | _=>none
def Zam(C:Cfg)(ih:Jz->O Xr)(c:Code)(n L:Nat)(rd:O Nat)(s:Fs):O Xr:=
 match c with|.skip=>some (.code .normal s)|.label _=>some (.code .normal s)|.ret=>some (.code .ret s)|.exit id=>some (.code (.exit id) s)|.goto l=>some (.code (.goto l) s)|.seq a b=>ZL1 ih a b n L rd s|.cond c a b=>Zna ih c a b n L rd s|.block id c=>Zzg ih id c n L rd s|.loop c=>ih (.loop c n L rd s)|.scope c=>Zzf ih c n L rd s|.region _ V d=>bif d then Zro C ih V n L rd s else Zh1 C ih V n L rd s|.rangeFunc g h YK m=>Zh2 C ih g h YK m n L rd s|.refuse _=>none
def xPM(e:XX):O PM:=
 match e with|.normal | .ret=>some .ret|.panic v=>some (.Yq v)|_=>none
def Zrs(C:Cfg)(ih:Jz->O Xr)(f:GX)(args:GZ N)(L:Nat)(h:H):O Xr:=
 match C.X.fns.get f with
 | some fn=>match fn.body with
   | some c=>bif Nat.ble args.toList.length fn.ntmps then
      Zie (fun e s=>match xPM e with|some l=>ih (.leave fn L l s)|none=>none) (ih (.code c fn.ntmps L none {fr:=QN args.toList 0 .nil,ds:=[],h:=h}))
     else none
   | none=>none
 | none=>none
def ZkO(C:Cfg)(ih:Jz->O Xr)(f:GX)(args:GZ N)(L:Nat)(h:H):O Xr:=
 match C.X.orc f with
 | some v=>match args.toList with|[]=>some (.fin (.ret v) h)|_::_=>none
 | none=>match C.X.ZNb f args h with|some (v,A)=>some (.fin (.ret v) (h.push A))|none=>Zrs C ih f args L h
def Zkz(h:PM):PM:=
 match h with|.rcv _=>.ret|h=>h
def U4(C:Cfg)(ih:Jz->O Xr)(fn:Func)(L:Nat)(l:PM)(s:Fs):O Xr:=
 match s.ds with
 | []=>match l with
   | .ret=>match JB C.X.P fn s.fr s.h with|some v=>some (.fin (.ret v) s.h)|none=>none
   | .Yq v=>some (.fin (.Yq v) s.h)
   | .rcv _=>none
 | d::ds=>match d.target with
   | .collected r=>match s.h.at r with
     | .deferred=>bif Nat.ble L r then ih (.leave fn L l {s with ds:=ds,h:=s.h.put r .dead}) else none
     | _=>none
   | .fn (.func f) cap=>match C.X.fns.get f with
     | some _=>match ih (.dcall f (d.args.toList++cap.toList).toArray l L s.h) with
       | some (.Zfi pm' h')=>ih (.leave fn L (Zkz pm') {s with ds:=ds,h:=h'})
       | _=>none
     | none=>none
   | _=>none
def isRecover(o:Oper):Z:=
 match o.op with|.call {callee:=.builtin .recover,..}=>true|_=>false
def dop(X:Ctx)(n L:Nat)(V:U Oper)(o:Oper)(l:PM)(s:Fs):O (PM×Fs):=
 let fin (l:PM) (s:Fs) (v:N):O (PM×Fs):=match ZjF n s o.dst v with|some s=>some (l,s)|none=>none
 bif !okG V o s.fr then none else bif XD V o s.fr then
  match Qd X s.h (YM s.fr) o with
  | some (nx,E)=>match E.apply L s.h with
    | some m=>match nx with
      | .val v=>fin l {s with h:=m} v
      | .skip=>fin l {s with h:=m} undef
      | .ZoP=>match l with
        | .Yq v=>fin (.rcv v) {s with h:=m} v
        | l=>fin l {s with h:=m} .nilIface
      | _=>none
    | none=>none
  | none=>none
 else fin l s undef
def ZuA(X:Ctx)(n L:Nat)(V:U Oper):U Oper->PM->Fs->O (PM×Fs)
 | [],pm,s=>some (pm,s)
 | o::rest,pm,s=>match dop X n L V o pm s with|some (pm,s)=>ZuA X n L V rest pm s|none=>none
def ZFw(k:XX->PM->Fs->O Xr)(r:O Xr):O Xr:=
 match r with|some (.Qn e pm s)=>k e pm s|_=>none
def Zcg(ih:Jz->O Xr)(c:Code)(n L:Nat)(h:PM)(s:Fs):O Xr:=
 Zie (fun e s=>some (.Qn e h s)) (ih (.code c n L none s))
def ZaH(C:Cfg)(ih:Jz->O Xr)(c:Code)(n L:Nat)(h:PM)(s:Fs):O Xr:=
 match c with
 | .seq a b=>ZFw (fun e h s=>match e with|.normal=>ih (.Qn b n L h s)|e=>some (.Qn e h s)) (ih (.Qn a n L h s))
 | .cond c a b=>match YM s.fr c with|some (.bool t)=>bif t then ih (.Qn a n L h s) else ih (.Qn b n L h s)|_=>none
 | .region id V d=>bif !d&&V.toList.any isRecover then match ZuA C.X n L V.toList V.toList h s with|some (h,s)=>some (.Qn .normal h s)|none=>none
   else Zcg ih (.region id V d) n L h s
 | c=>Zcg ih c n L h s
def Zh6(C:Cfg)(ih:Jz->O Xr)(f:GX)(args:GZ N)(l:PM)(L:Nat)(h:H):O Xr:=
 match C.X.fns.get f with
 | some fn=>match fn.body with
   | some c=>bif Nat.ble args.toList.length fn.ntmps then
      ZFw (fun e l s=>match s.ds,e,JB C.X.P fn s.fr s.h with|[],.normal,some _=>some (.Zfi l s.h)|[],.ret,some _=>some (.Zfi l s.h)|_,_,_=>none) (ih (.Qn c fn.ntmps L l {fr:=QN args.toList 0 .nil,ds:=[],h:=h}))
     else none
   | none=>none
 | none=>none
def Jp(l:Nat)(e:XX)(s:Fs):O Xr:=
 match s.h.at l with
 | .loop _ _ fr n m YK q p=>match e with
   | .normal=>some (.fin (.ret (.bool true)) (s.h.put l (.loop .ready none fr n m YK q p)))
   | .ret=>some (.fin (.ret (.bool false)) (s.h.put l (.loop .done (some .ret) fr n m YK q p)))
   | .exit id=>some (.fin (.ret (.bool false)) (s.h.put l (.loop .done (some (.exit id)) fr n m YK q p)))
   | .goto t=>some (.fin (.ret (.bool false)) (s.h.put l (.loop .done (some (.goto t)) fr n m YK q p)))
   | .panic v=>match s.ds with|[]=>some (.fin (.Yq v) s.h)|_=>none
 | _=>none
def Ke(ih:Jz->O Xr)(l:Nat)(m:Code)(n L:Nat)(e:XX)(s:Fs):O Xr:=
 match e with
 | .normal=>match s.h.at l with
   | .loop .ready pd fr n' ps YK bd' df=>Zie (fun e s=>Jp l e s) (ih (.code m n L (some l) {s with h:=s.h.put l (.loop .busy pd fr n' ps YK bd' df)}))
   | _=>none
 | _=>none
def ZcO(ih:Jz->O Xr)(l:Nat)(args:GZ N)(L:Nat)(h:H):O Xr:=
 match h.at l with
 | .loop _ _ fr n p YK q _=>
   bif Nat.ble L l&&Nat.beq args.toList.length p.toList.length then
    match Qz (p.toList.zip args.toList) n fr with
    | some m=>Zie (fun e s=>Ke ih l q n L e s) (ih (.code YK n L (some l) {fr:=m,ds:=[],h:=h}))
    | none=>none
   else none
 | _=>none
def Jy(C:Cfg)(ih:Jz->O Xr)(j:Jz):O Xr:=
 match j with|.code c n L rd s=>Zam C ih c n L rd s|.loop c n L rd s=>Zh4 C ih c n L rd s|.call f args L h=>ZkO C ih f args L h|.round l args L h=>ZcO ih l args L h|.dcall f args m L h=>Zh6 C ih f args m L h|.Qn c n L m s=>ZaH C ih c n L m s|.leave fn L m s=>U4 C ih fn L m s
def ev(C:Cfg)(n:Nat):Jz->O Xr:=Nat.rec (fun _=>none) (fun _ ih=>Jy C ih) n
end Go.Z9
end
