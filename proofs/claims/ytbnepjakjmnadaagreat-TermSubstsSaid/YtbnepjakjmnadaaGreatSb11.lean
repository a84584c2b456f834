/- Part 11. -/
import Derived.Shelf.SlIter.Nil
import Derived.Test.YtbnepjakjmnadaaGreatSb10
set_option linter.all false
set_option maxHeartbeats 2000000
section
noncomputable section
namespace Go.Proofs.YtbnepjakjmnadaaGreat
open Go.ZU Go.RowKit Go.Maps Go.Sort Go.Shelf
def ZBc:N->O (U UInt8)
 | .string s=>bif Nat.ble s.data.toList.length 1000000 then some s.data.toList else none
 | _=>none
def ZeY:U V6->O (U (U UInt8))
 | []=>some []
 | e::es=>match ZBc e.key,ZeY es with|some k,some ks=>some (k::ks)|_,_=>none
def Zno(k:U UInt8):U (U UInt8)->Z
 | []=>true
 | x::xs=>bif decide (k=x) then false else Zno k xs
def nodupB:U (U UInt8)->Z
 | []=>true
 | x::xs=>Zno x xs&&nodupB xs
def WM(ks:U (U UInt8)):DataW Unit:=.map ((ks.map fun k=>(Lit.string k,DataW.nil)).foldr DataW.insert [])
section
variable{ρ:ZU.Ren}{es es':U V6}
def ZxJ(e:EL ρ es es'):es'.map (·.key)=es.map (·.key):=by induction e with|nil=>rfl|cons h _ _ _ _ ih=>simp[h,ih]
def Ztc(e:EL ρ es es'):es'.map (·.born)=es.map (·.born):=by induction e with|nil=>rfl|cons _ _ h _ _ ih=>simp[h,ih]
end
def Zq8{b:Nat}:∀{es:U V6},Zaz b es=true->b∉es.map (·.born):=by
 intro es
 induction es with|nil=>intro _ h;cases h|cons e es ih=>
   intro h p;simp only[Zaz]at h;cases l:Nat.beq e.born b<;>rw[l]at h<;>simp only[Cq1,Cq0]at h
   .rcases K2.1 p with h1|h1
    .rw[h1]at l;simp at l
    exact ih h h1
   cases h
def ZsN{l:Nat}:∀{es:U V6},Qr l es=true->(es.map (·.born)).Nodup:=by
 intro es
 induction es with|nil=>intro _;exact List.nodup_nil|cons e es ih=>
   intro h;simp only[Qr,Ba0]at h;exact GA.2 ⟨Zq8 h.1.2,ih h.2⟩
def ZtX{k:U UInt8}:∀{xs},Zno k xs=true->k∉xs:=by
 intro xs
 induction xs with|nil=>intro _ h;cases h|cons x xs ih=>
   intro h p;simp only[Zno]at h;by_cases l:k=x;.rw[decide_eq_true l]at h;cases h
   rw[decide_eq_false l]at h;rcases K2.1 p with h1|h1
   .exact l h1
   exact ih h h1
def Zq9:∀{xs},nodupB xs=true->xs.Nodup:=by
 intro xs
 induction xs with|nil=>intro _;exact List.nodup_nil|cons x xs ih=>
   intro h;simp only[nodupB,Ba0]at h;exact GA.2 ⟨ZtX h.1,ih h.2⟩
def Zyq{v:N}{k:U UInt8}(h:ZBc v=some k):v=encStr k/\k.length<=1000000:=by
 unfold ZBc at h;split at h
 .rename_i s;cases l:Nat.ble s.data.toList.length 1000000<;>rw[l]at h<;>simp only[Cq1,Cq0]at h;.cases h
  cases h;exact⟨by simp[encStr],Nl0 l⟩
 cases h
def Zuc:∀{es:U V6}{ks},ZeY es=some ks->es.map (·.key)=ks.map encStr/\∀k∈ks,k.length<=1000000:=by
 intro es;induction es with
 | nil=>intro ks h;cases h;exact⟨rfl,fun k h=>by cases h⟩
 | cons e es ih=>
   intro ks h;simp only[ZeY]at h;split at h;next k l h1 h2=>cases h;have⟨a,b⟩:=Zyq h1;have⟨c,d⟩:=ih h2;exact⟨by simp[a,c],fun x p=>by exact(K2.1 p).elim (fun e=>e▸b) (d x)⟩
   cases h
def ZEC:N->O (DataW Unit×U MemPlace):=fun _=>some (.nil,[])
def ZAC{ρ:ZU.Ren}{w:V4}{es:U V6}{es':V5 V6}{b q:Nat}{ks:U (U UInt8)}(hw:w.heap[b]? =some (.map es' q))(he:EL ρ es es'.toList)(F:Qr q es=true)(G:es.length<=1000000)
 (C:ZeY es=some ks) (hn:nodupB ks=true):w.ownsMap Tryz.prog 9 ZEC b es'.size (WM ks):=by
 have⟨k1,k2⟩:=Zuc C;have p:es'.toList.map (·.key)=ks.map encStr:=(ZxJ he).trans k1
 have B:∀x∈es'.toList,∃k:U UInt8,x.key=encStr k/\k.length<=1000000:=by
  intro x r;have:x.key∈es'.toList.map (·.key):=Gs r;rw[p,JT]at this;have⟨k,h1,h2⟩:=this;exact⟨k,h2.symm,k2 k h1⟩
 have t:∀{x:V6}{k:U UInt8},x.key=encStr k->k.length<=1000000->Go.WideElems.rd (H:=Unit) Tryz.prog 9 ZEC x=some (.string k,.nil):=by
  intro x k h1 h2
  have:keyOf Tryz.prog 9 x.key=some (.string k):=by
   rw[h1];simp[keyOf,Tryz.underlying9,mapKey,encStr];have I:(1000000:Nat)<=maxLen:=by decide
   show k.toArray.size<=maxLen;rw[List.size_toArray];omega
  simp[Go.WideElems.rd,this,ZEC]
 have A:es'.size<=1000000:=by
  have h1:=congrArg List.length (ZxJ he);simp at h1;omega
 refine⟨es',q,hw,⟨KK A (by decide),⟨fun x r=>?_,?_,?_⟩,fun x r=>?_⟩,K1 _,?_⟩;.have:x.born∈es'.toList.map (·.born):=Gs r;rw[Ztc he,JT]at this;have⟨y,h1,h2⟩:=this;rw[<-h2];exact Zb4 F y h1
 .rw[Ztc he];exact ZsN F
 .rw[p];exact List.Pairwise.map encStr (fun a b D e=>D (encStr_inj e)) (Zq9 hn)
 .have⟨k,h1,h2⟩:=B x r;exact⟨_,t h1 h2⟩
 have:es'.toList.map (Go.WideElems.rg (H:=Unit) Tryz.prog 9 ZEC)=ks.map fun k=>(Lit.string k,DataW.nil):=by
  have gen:∀(l:U V6)(ks:U (U UInt8)),l.map (·.key)=ks.map encStr->(∀k∈ks,k.length<=1000000)->l.map (Go.WideElems.rg (H:=Unit) Tryz.prog 9 ZEC)=ks.map fun k=>(Lit.string k,DataW.nil):=by
   intro l;induction l with
   | nil=>intro ks h _;cases ks with|nil=>rfl|cons _ _=>simp at h
   | cons x l ih=>
     intro ks h E;cases ks with|nil=>simp at h|cons k ks=>
       simp only[G7,List.cons.injEq]at h;simp only[G7];rw[Go.WideElems.rg_of (t h.1 (E k (by simp))),ih ks h.2 fun k C=>E k (by simp[C])]
  exact gen _ _ p k2
 unfold WM;rw[this]
end Go.Proofs.YtbnepjakjmnadaaGreat
end
end
