/- Part 12. -/
import Derived.Shelf.SlIter.Nil
import Derived.Test.YtbnepjakjmnadaaGreatFp11
set_option linter.all false
set_option maxHeartbeats 2000000
section
noncomputable section
namespace Go.Proofs.YtbnepjakjmnadaaGreat
open Go.ZF Go.RowKit Go.Maps Go.Sort Go.Shelf
def Zy2:N->O (U UInt8)
 | .string s=>bif Nat.ble s.data.toList.length 1000000 then some s.data.toList else none
 | _=>none
def ZbI:U Vb->O (U (U UInt8))
 | []=>some []
 | e::es=>match Zy2 e.key,ZbI es with
   | some k,some ks=>some (k::ks)
   | _,_=>none
def ZlY(k:U UInt8):U (U UInt8)->Z
 | []=>true
 | x::xs=>bif decide (k=x) then false else ZlY k xs
def nodupB:U (U UInt8)->Z
 | []=>true
 | x::xs=>ZlY x xs&&nodupB xs
def ZnP(k:U UInt8):U (U UInt8)->Z
 | []=>true
 | x::xs=>decide (k<=x)&&ZnP k xs
def Zc4:U (U UInt8)->Z
 | []=>true
 | x::xs=>ZnP x xs&&Zc4 xs
def Jq(ks:U (U UInt8)):DataW Unit:=.map ((ks.map fun k=>(Lit.string k,DataW.nil)).foldr DataW.insert [])
def Zpj(h:H)(D:DataW Unit)(L:U (U UInt8)):O (N×YD):=
 match L with
 | []=>none
 | _::_=>bif Zc4 L&&Nat.ble (Maps.size D) 1000000 then some (.slice (some ⟨h.size,0,none⟩) L.length 1,.row (L.map encStr) true 1) else none
def ZCZ(m:Nat)(h:H):O (N×YD):=
 match h.at m with
 | .map es clock=>bif Xq clock es&&Nat.ble es.length 1000000 then match ZbI es with
     | some ks=>bif nodupB ks then Zpj h (Jq ks) (strKeys (Jq ks)) else none
     | none=>none
   else none
 | _=>none
def ZHt(f:FuncId)(args:Array Value)(h:H):Option (Value×YD):=
 bif Nat.beq f 67 then
  match args.toList with
  | [.map (some m)]=>some (.func (.func 111) #[] #[.pointer (some ⟨h.size,0,none⟩)],.box m)
  | _=>none
 else bif Nat.beq f 66 then
  match args.toList with
  | [.func (.func g) cap lb]=>match cap.toList,lb.toList with
    | [],[.pointer (some ⟨i,0,none⟩)]=>bif Nat.beq g 111 then(match h.at i with
      | .box m=>ZCZ m h
      | _=>none) else none
    | _,_=>none
  | _=>none
 else none
section
variable{ρ:ZF.Ren}{es es':U Vb}
def ZvC(e:EL ρ es es'):es'.map (·.key)=es.map (·.key):=by
 induction e with
 | nil=>rfl
 | cons hk _ _ _ _ ih=>simp[hk,ih]
def ZrH(e:EL ρ es es'):es'.map (·.born)=es.map (·.born):=by
 induction e with
 | nil=>rfl
 | cons _ _ hb _ _ ih=>simp[hb,ih]
end
def ZpE{b:Nat}:∀{es:U Vb},K4 b es=true->b∉es.map (·.born):=by
 intro es
 induction es with
 | nil=>intro _ h;cases h
 | cons e es ih=>
   intro h hm;simp only[K4]at h;cases hc:Nat.beq e.born b<;>rw[hc]at h<;>simp only[Cq1,Cq0]at h
   ·rcases Kd.1 hm with h1|h1
    ·rw[h1]at hc;simp at hc
    ·exact ih h h1
   ·cases h
def Zrk{clock:Nat}:∀{es:U Vb},Xq clock es=true->(es.map (·.born)).Nodup:=by
 intro es
 induction es with
 | nil=>intro _;exact List.nodup_nil
 | cons e es ih=>
   intro h;simp only[Xq,Ba0]at h;exact GC.2 ⟨ZpE h.1.2,ih h.2⟩
def Zsq{k:U UInt8}:∀{xs},ZlY k xs=true->k∉xs:=by
 intro xs
 induction xs with
 | nil=>intro _ h;cases h
 | cons x xs ih=>
   intro h hm;simp only[ZlY]at h;by_cases hx:k=x
   ·rw[decide_eq_true hx]at h;cases h
   ·rw[decide_eq_false hx]at h;rcases Kd.1 hm with h1|h1
    ·exact hx h1
    ·exact ih h h1
def ZpF:∀{xs},nodupB xs=true->xs.Nodup:=by
 intro xs
 induction xs with
 | nil=>intro _;exact List.nodup_nil
 | cons x xs ih=>
   intro h;simp only[nodupB,Ba0]at h;exact GC.2 ⟨Zsq h.1,ih h.2⟩
def Zp7{k:U UInt8}:∀{xs},ZnP k xs=true->∀x∈xs,k<=x:=by
 intro xs
 induction xs with
 | nil=>intro _ x h;cases h
 | cons x xs ih=>
   intro h y hm;simp only[ZnP,Ba0,decide_eq_true_eq]at h;rcases Kd.1 hm with rfl|h1
   ·exact h.1
   ·exact ih h.2 y h1
def Znc:∀{xs},Zc4 xs=true->xs.Pairwise (fun x y=>leB x y=true):=by
 intro xs
 induction xs with
 | nil=>intro _;exact List.Pairwise.nil
 | cons x xs ih=>
   intro h;simp only[Zc4,Ba0]at h;exact GW.2 ⟨fun y hy=>by simpa[leB]using Zp7 h.1 y hy,ih h.2⟩
def Zwm{v:N}{k:U UInt8}(h:Zy2 v=some k):v=encStr k/\k.length<=1000000:=by
 unfold Zy2 at h;split at h
 ·rename_i s;cases hc:Nat.ble s.data.toList.length 1000000<;>rw[hc]at h<;>simp only[Cq1,Cq0]at h
  ·cases h
  ·cases h;exact⟨by simp[encStr],Nl0 hc⟩
 ·cases h
def ZsC:∀{es:U Vb}{ks},ZbI es=some ks->es.map (·.key)=ks.map encStr/\∀k∈ks,k.length<=1000000:=by
 intro es
 induction es with
 | nil=>intro ks h;cases h;exact⟨rfl,fun k h=>by cases h⟩
 | cons e es ih=>
   intro ks h;simp only[ZbI]at h;split at h
   ·rename_i k ks' h1 h2;cases h;obtain⟨a,b⟩:=Zwm h1;obtain⟨c,d⟩:=ih h2;exact⟨by simp[a,c],fun x hx=>by exact(Kd.1 hx).elim (fun e=>e▸b) (d x)⟩
   ·cases h
def ZBy:N->O (DataW Unit×U MemPlace):=fun _=>some (.nil,[])
def Zsn{ρ:ZF.Ren}{w:V9}{es:U Vb}{es':Va Vb}{b clock:Nat}{ks:U (U UInt8)}(hw:w.heap[b]? =some (.map es' clock))(he:EL ρ es es'.toList)(hb:Xq clock es=true)(hl:es.length<=1000000)
 (hk:ZbI es=some ks) (hn:nodupB ks=true):w.ownsMap Tryz.prog 9 ZBy b es'.size (Jq ks):=by
 obtain⟨k1,k2⟩:=ZsC hk;have hkeys:es'.toList.map (·.key)=ks.map encStr:=(ZvC he).trans k1
 have hrd:∀x∈es'.toList,∃k:U UInt8,x.key=encStr k/\k.length<=1000000:=by
  intro x hx;have:x.key∈es'.toList.map (·.key):=Gl hx;rw[hkeys,G5]at this;obtain⟨k,h1,h2⟩:=this;exact⟨k,h2.symm,k2 k h1⟩
 have hkl:∀{x:Vb}{k:U UInt8},x.key=encStr k->k.length<=1000000->Go.WideElems.rd (H:=Unit) Tryz.prog 9 ZBy x=some (.string k,.nil):=by
  intro x k h1 h2
  have:keyOf Tryz.prog 9 x.key=some (.string k):=by
   rw[h1];simp[keyOf,Tryz.underlying9,mapKey,encStr];have h5:(1000000:Nat)<=maxLen:=by decide
   show k.toArray.size<=maxLen;rw[List.size_toArray];omega
  simp[Go.WideElems.rd,this,ZBy]
 have hsz:es'.size<=1000000:=by
  have h1:=congrArg List.length (ZvC he);simp at h1;omega
 refine⟨es',clock,hw,⟨KB hsz (by decide),⟨fun x hx=>?_,?_,?_⟩,fun x hx=>?_⟩,K1 _,?_⟩
 ·have:x.born∈es'.toList.map (·.born):=Gl hx;rw[ZrH he,G5]at this;obtain⟨y,h1,h2⟩:=this;rw[<-h2];exact Zag hb y h1
 ·rw[ZrH he];exact Zrk hb
 ·rw[hkeys];exact List.Pairwise.map encStr (fun a b hab e=>hab (encStr_inj e)) (ZpF hn)
 ·obtain⟨k,h1,h2⟩:=hrd x hx;exact⟨_,hkl h1 h2⟩
 ·have:es'.toList.map (Go.WideElems.rg (H:=Unit) Tryz.prog 9 ZBy)=ks.map fun k=>(Lit.string k,DataW.nil):=by
   have gen:∀(l:U Vb)(ks:U (U UInt8)),l.map (·.key)=ks.map encStr->(∀k∈ks,k.length<=1000000)->l.map (Go.WideElems.rg (H:=Unit) Tryz.prog 9 ZBy)=ks.map fun k=>(Lit.string k,DataW.nil):=by
    intro l
    induction l with
    | nil=>intro ks h _;cases ks with|nil=>rfl|cons _ _=>simp at h
    | cons x l ih=>
      intro ks h hh;cases ks with
      | nil=>simp at h
      | cons k ks=>
        simp only[Gd,List.cons.injEq]at h;simp only[Gd];rw[Go.WideElems.rg_of (hkl h.1 (hh k (by simp))),ih ks h.2 fun k hk=>hh k (by simp[hk])]
   exact gen _ _ hkeys k2
  unfold Jq;rw[this]
def ZiV{h:H}{D:DataW Unit}{L:U (U UInt8)}{r:N×YD}(hr:Zpj h D L=some r):L≠[]/\Zc4 L=true/\Maps.size D<=1000000/\r=(.slice (some ⟨h.size,0,none⟩) L.length 1,.row (L.map encStr) true 1):=by
 unfold Zpj at hr;split at hr
 ·cases hr
 ·rename_i a b;generalize hc:(Zc4 (a::b)&&Nat.ble (Maps.size D) 1000000)=c at hr;cases c with
  | false=>cases hr
  | true=>
    cases hr;rw[Ba0]at hc;exact⟨by simp,hc.1,Nl0 hc.2,rfl⟩
def row_of{ρ:ZF.Ren}{h:H}{w w':V9}{v:N}{ss L:U (U UInt8)}{D:DataW Unit}{r:N×YD}(hr:Zpj h D L=some r)(hp:ss.Perm L)
 (ho:w'.ownsRow w.heap.size 9 1 v ss.length ((ss.mergeSort fun x y=>decide (x<=y)).map encStr)):
 ∃p l,w.heap.size<=p/\p<w'.heap.size/\VR (ρ.add h.size (p,0) l) r.1 v/\Qd (ρ.add h.size (p,0) l) w' p 0 l r.2:=by
 obtain⟨h1,h2,h3,rfl⟩:=ZiV hr
 have hm:(ss.mergeSort fun x y=>decide (x<=y))=L:=by
  have e1:ss.mergeSort leB=L.mergeSort leB:=mergeSort_of_perm hp;have e2:L.mergeSort leB=L:=List.mergeSort_of_pairwise (Znc h2);exact e1.trans e2
 rw[hm,hp.length_eq]at ho;obtain⟨_,⟨_,h0⟩|⟨g,cap,cur,rfl,hb,hg,c1,c2,c3,c4⟩⟩:=ho
 ·exact absurd (G7 h0) h1
 ·have hlt:g<w'.heap.size:=(Jn.1 hg).1;refine⟨g,(cur.size,1),hb,hlt,?_,?_⟩
  ·have:=VR.slice (ρ:=ρ.add h.size (g,0) (cur.size,1)) (i:=h.size) (b:=g) (d:=0) 0 L.length 1 cap (Ren.add_same _ _ _ _) ?_
   ·exact this
   ·rw[Ren.ZaF];refine⟨KB c2 (by decide),?_⟩;simp;omega
  ·refine⟨cur,9,(0,0),hg,fun _=>⟨rfl,fun _=>rfl⟩,by simp;omega,fun k v v' a b=>?_⟩;rw[Nat.mul_one]at c4
   have:cur.toList[k]? =some v:=by
    have hk:(L.map encStr)[k]? =some v:=a;rw[<-c4,List.getElem?_take]at hk;split at hk
    ·exact hk
    ·cases hk
   rw[G4]at b;rw[<-G8,this]at b;cases b;rw[GN,Option.map_eq_some_iff]at a;obtain⟨x,_,rfl⟩:=a;exact VR.string _
end Go.Proofs.YtbnepjakjmnadaaGreat
end
end
