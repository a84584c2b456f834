/- The law of checks holds for every input: which processes and expressions are formed, how many nodes, how deep. -/
import Derived.WalkKit
import Derived.OpenShut
import Derived.Carry
import Derived.Test.YtbnepjakjmnadaaGreatCa18
set_option linter.all false
set_option maxHeartbeats 2000000
theorem Go.Ne0{n:Nat}(h:n ≠ 0):∃k,n=Nat.succ k:=Nat.exists_eq_succ_of_ne_zero h
section
noncomputable section
namespace Go.Yj
open Go.Lf
variable {P:Program}
def Uj (P:Program) {α:Type} (e:Wv α) (V:α ->Prop) (t:TypeId):Prop:=P.cellsOf t=e.sz∧∀ {E:Type} {h:H} {cs:List Value} {d:DataW E},AR P h t cs d ->∃ p x,cs=e.sh p x∧V x∧∀ wm,e.F wm h p x
theorem Uj.int {t:TypeId} {k:IntKind} (hu:P.underlying t=some (.int k)) (hc:P.cellsOf t=1):Uj P (Xy k) (fun n=>(Lit.int k n).wf=true) t:= ⟨hc,fun a=>by
 cases a with
 | int hu' wf=>rw [hu] at hu';cases hu';exact⟨(),_,rfl,wf,fun _=>trivial⟩
 | bool hu'=>rw [hu] at hu';cases hu'
 | string hu' _=>rw [hu] at hu';cases hu'
 | nil hu'=>rw [hu] at hu';cases hu'
 | empty hu'=>rw [hu] at hu';cases hu'
 | slice hu'=>rw [hu] at hu';cases hu'
 | struct hu'=>rw [hu] at hu';cases hu'⟩
theorem Uj.str {t:TypeId} (hu:P.underlying t=some .string) (hc:P.cellsOf t=1):Uj P YJ (fun s=>s.size <=maxLen) t:= ⟨hc,fun a=>by
 cases a with
 | string hu' hs=>exact⟨(),_,rfl,hs,fun _=>trivial⟩
 | bool hu'=>rw [hu] at hu';cases hu'
 | int hu' _=>rw [hu] at hu';cases hu'
 | nil hu'=>rw [hu] at hu';cases hu'
 | empty hu'=>rw [hu] at hu';cases hu'
 | slice hu'=>rw [hu] at hu';cases hu'
 | struct hu'=>rw [hu] at hu';cases hu'⟩
theorem Zby {α:Type} {e:Wv α} {V:α ->Prop} {h:H} {β:Type}:∀ (els:List (List Value×β)),(∀ x ∈ els,∃ p y,x.1=e.sh p y∧V y∧∀ wm,e.F wm h p y) ->
 ∃ ys:List α,ys.length=els.length∧(∀ y ∈ ys,V y)∧∀ (k:Nat) (y:α),ys[k]? =some y ->∃ x p,els[k]? =some x∧x.1=e.sh p y∧∀ wm,e.F wm h p y
 | [],_=>⟨[],rfl,by simp,fun k y hk=>by simp at hk⟩
 | x::els,hx=>by
   obtain⟨ys,h1,hv,h2⟩:=Zby els (fun z hz=>hx z (by simp [hz]));obtain⟨p,y,h3,hvy,h4⟩:=hx x (by simp);refine⟨y::ys,by simp [h1],fun z hz=>?_,fun k z hk=>?_⟩
   ·rcases List.mem_cons.1 hz with q | q
    ·rw [q];exact hvy
    ·exact hv z q
   ·cases k with
    | zero=>simp at hk;subst hk;exact⟨x,p,rfl,h3,h4⟩
    | succ k=>
      obtain⟨x',p',q1,q2⟩:=h2 k z (by simpa using hk);exact⟨x',p',by simpa using q1,q2⟩
theorem ZgT {α β:Type} {f:α ->List β} {sz:Nat} (l:List α) (hl:∀ x ∈ l,(f x).length=sz) {k:Nat} {x:α} (hk:l[k]? =some x):((l.flatMap f).drop (k * sz)).take sz=f x:=by
 have hfx:(f x).length=sz:=hl x (List.mem_of_getElem? hk);refine List.ext_getElem? fun j=>?_
 by_cases hj:j < sz
 ·rw [List.getElem?_take_of_lt hj,List.getElem?_drop,flat_get l hl k j hj,hk];rfl
 ·rw [List.getElem?_eq_none (by rw [List.length_take];omega),List.getElem?_eq_none (by omega)]
theorem Uj.slice {α:Type} {e:Wv α} {V:α ->Prop} {t el:TypeId} (hu:P.underlying t=some (.slice el)) (hc:P.cellsOf t=1) (he:Uj P e V el):Uj P (XJ e) (fun l=>∀ x ∈ l,V x) t:= ⟨hc,fun a=>by
 cases a with
 | bool hu'=>rw [hu] at hu';cases hu'
 | int hu' _=>rw [hu] at hu';cases hu'
 | string hu' _=>rw [hu] at hu';cases hu'
 | nil hu'=>exact⟨(none,0),[],rfl,by simp,fun _=>Sl.nil⟩
 | empty hu'=>exact⟨(some ⟨0,0,some 0⟩,0),[],rfl,by simp,fun _=>⟨by simp,by simp,.inr (.inl ⟨rfl,rfl⟩),.inl rfl⟩⟩
 | @slice t' e' els rest i cap hu' hl hcap hat hsz hel=>
   rw [hu] at hu';cases hu';obtain⟨ys,h1,hv,h2⟩:=Zby (e:=e) els (fun x hx=>he.2 (hel x hx));have hsz':∀ x ∈ els,x.1.length=e.sz:=fun x hx=>(hsz x hx).trans he.1
   refine⟨(some ⟨i,0,none⟩,2 * cap),ys,by show [Value.slice _ _ _]= [Value.slice _ _ _];rw [h1],hv,fun wm=>⟨?_,?_,.inr (.inr ⟨_,_,rfl⟩),.inr ⟨i,0,_,false,0,rfl,hat,.inr rfl,?_,fun k y hk=>?_⟩⟩⟩
   ·rw [h1];exact Nat.le_trans (Nat.le_trans hl hcap) (by decide)
   ·rw [h1];omega
   ·rw [h1,Nat.zero_add,Zdz els hsz'];exact Nat.le_refl _
   ·obtain⟨x,p,q1,q2,q3⟩:=h2 k y hk;refine⟨p,?_,q3 wm⟩;rw [Nat.zero_add,ZgT els hsz' q1,q2]
 | struct hu'=>rw [hu] at hu';cases hu'⟩
theorem AR.ZpW {E:Type} {h:H} {t:TypeId} {cs:List Value} {d:DataW E} {fs:Array Field} (hu:P.underlying t=some (.struct fs)) (a:AR P h t cs d):
 ∃ els:List (List Value×DataW E),cs=els.flatMap (·.1)∧els.length=fs.toList.length∧∀ (i:Nat) (x:List Value×DataW E) (f:Field),els[i]? =some x ->fs.toList[i]? =some f ->AR P h f.type x.1 x.2:=by
 cases a with
 | bool hu'=>rw [hu] at hu';cases hu'
 | int hu' _=>rw [hu] at hu';cases hu'
 | string hu' _=>rw [hu] at hu';cases hu'
 | nil hu'=>rw [hu] at hu';cases hu'
 | empty hu'=>rw [hu] at hu';cases hu'
 | slice hu'=>rw [hu] at hu';cases hu'
 | struct hu' hl hsz hel=>rw [hu] at hu';cases hu';exact⟨_,rfl,hl,hel⟩
theorem Zyf {ρ:Ren} {acs cs:List Value} (h:LR ρ acs cs):VR ρ (.agg acs.toArray) (.agg cs.toArray):=
 .agg _ _ (by simpa using h.1) (fun i v v' e1 e2=>h.2 i v v' (by simpa using e1) (by simpa using e2))
theorem Zoz {ρ:Ren} {acs:List Value} {cs:Array Value} (h:LR ρ acs (Value.agg cs).cells.toList):VR ρ (.agg acs.toArray) (.agg cs):=by
 have:=Zyf h
 rwa [Array.toArray_toList] at this
def Zma:Ren:= ⟨fun _=>none,fun _=>(0,0)⟩
theorem Zm0:Zea ⟨.nil,0⟩:=fun i=>by
 have:(⟨.nil,0⟩:H).at i= .dead:=H.KU (Nat.zero_le _);rw [this];rfl
theorem Zrx (w:World):Rel Zma ⟨.nil,0⟩ w:= ⟨fun _ _ _ e=>(by cases e),fun _ _ _ e=>(by cases e),fun _ _ _ _ _ e=>(by cases e)⟩
theorem Zwg {E:Type} {W:World} (l:List (TypeId×List Value×DataW E)) (hl:∀ x ∈ l,ZiT P W x.1 x.2.1 x.2.2):
 ∃ (ρ:Ren) (h:H) (els:List (List Value×DataW E)),Rel ρ h W∧Zea h∧els.length=l.length∧
   ∀ (i:Nat) (x:List Value×DataW E) (y:TypeId×List Value×DataW E),els[i]? =some x ->l[i]? =some y ->LR ρ x.1 y.2.1∧AR P h y.1 x.1 x.2:=by
 obtain⟨ρ,h,els,q1,q2,q3,q4,q5,q6,q7⟩:=Zj8 l hl Zma ⟨.nil,0⟩ (Zrx W) Zm0;exact⟨ρ,h,els,q3,q4,q6,q7⟩
end Go.Yj
end
end
section
noncomputable section
namespace Go.Yj
variable {P:Program} {W:World} {E:Type}
def ZjK (P:Program) (T:List TypeId) (t:TypeId):Bool:=
 match P.underlying t with
 | some .bool=>true
 | some (.int _)=>true
 | some .string=>true
 | some (.slice e)=>T.contains e && Nat.ble 1 (P.cellsOf e)
 | some (.struct fs)=>fs.toList.all (fun x=>T.contains x.type) && Zal P fs.toList 0 (P.cellsOf t)
 | _=>false
theorem ZEp {enc:TypeId×Value ->E} {T:List TypeId} (hT:T.all (ZjK P T)=true):∀ (fuel:Nat) (t:TypeId) (cs:List Value) (d:DataW E) (ps:List MemPlace),T.contains t=true ->DataW.trod enc P W 0 (fun _=>true) true fuel t cs=some (d,ps) ->ZiT P W t cs d:=by
 intro fuel
 induction fuel with
 | zero=>intro t cs d ps _ h;unfold DataW.trod at h;cases h
 | succ fuel ih=>
   intro t cs d ps hg h;have hg:ZjK P T t=true:= (List.all_eq_true.1 hT) t (List.contains_iff_mem.1 hg);unfold ZjK at hg;unfold DataW.trod at h;cases hu:P.underlying t with
   | none=>rw [hu] at hg;cases hg
   | some u=>
     rw [hu] at hg h;cases u with
     | bool=>
       split at h <;> try (first | (cases h;done) | (have hx:=‹some TypeDesc.bool=some _›;cases hx;done))
       cases h;exact Zb3 rfl fun h=>.bool hu
     | int k=>
       split at h <;> try (first | (cases h;done) | (have hx:=‹some (TypeDesc.int k)=some _›;cases hx;done))
       rename_i hk;cases hk;split at h
       ·rename_i hw;cases h;obtain⟨rfl,hw⟩:=hw;exact Zb3 rfl fun h=>.int hu hw
       ·cases h
     | string=>
       split at h <;> try (first | (cases h;done) | (have hx:=‹some TypeDesc.string=some _›;cases hx;done))
       split at h
       ·rename_i hw;cases h;exact Zb3 rfl fun h=>.string hu hw
       ·cases h
     | slice e=>
       rw [Ba0] at hg;have hsz:=Nl0 hg.2;split at h <;> try (first | (cases h;done) | (have hx:=‹some (TypeDesc.slice e)=some _›;cases hx;done))
       ·cases h;exact Zb3 rfl fun h=>.nil hu
       ·rename_i e' a len cap he;cases he;dsimp only at h;split at h
        ·rename_i hc;obtain⟨-,hlc,hcm⟩:=hc;rw [Option.bind_eq_some_iff] at h;obtain⟨elems,e1,h⟩:=h;rw [if_pos rfl,Option.map_eq_some_iff] at h;obtain⟨rest,e2,h⟩:=h;cases h;obtain⟨l1,g1⟩:=Zdn e1;obtain⟨l2,g2⟩:=Zdn e2;rw [List.length_range] at l1 l2;by_cases hcap:cap=0
         ·subst hcap;have hlen:len=0:=by omega
          subst hlen;cases elems with
          | cons _ _=>simp at l1
          | nil=>
            cases rest with
            | cons _ _=>simp at l2
            | nil=>
              intro ρ h hr hn;exact⟨ρ,h,_,Ren.le_refl ρ,Grow.refl h,hr,hn,LR.single (.Ub a),.empty hu⟩
         ·have hel:∀ i,i < len ->∃ cs x,W.cells? 0 (a.add (i * P.cellsOf e)) (P.cellsOf e)=some cs∧DataW.trod enc P W 0 (fun _=>true) true fuel e cs=some x∧elems[i]? =some x:=by
           intro i hi;have hx:i < elems.length:=by omega
           have:=g1 i i elems[i] (by simp [hi]) (by simp [hx]);rw [Option.bind_eq_some_iff] at this;obtain⟨cs,q1,q2⟩:=this;exact⟨cs,_,q1,q2,by simp [hx]⟩
          have h0:∃ cs,W.cells? 0 a (P.cellsOf e)=some cs:=by
           have ha:a.add (0 * P.cellsOf e)=a:=by rw [Nat.zero_mul];unfold Addr.add;rw [if_pos rfl]
           rcases Nat.eq_zero_or_pos len with hl | hl
           ·subst hl;have hx:0 < rest.length:=by omega
            have:=g2 0 0 rest[0] (by rw [List.getElem?_range (by omega)]) (by simp [hx]);rw [Option.bind_eq_some_iff] at this;obtain⟨cs,q1,q2⟩:=this;rw [Nat.add_zero,ha] at q1;exact⟨cs,q1⟩
           ·obtain⟨cs,_,q,_⟩:=hel 0 hl;rw [ha] at q;exact⟨cs,q⟩
          have hcs:∀ i,i < len ->W.cells? 0 (a.add (i * P.cellsOf e)) (P.cellsOf e)=some ((W.cells? 0 (a.add (i * P.cellsOf e)) (P.cellsOf e)).getD []):=by
           intro i hi;obtain⟨cs,_,q,_⟩:=hel i hi;rw [q];rfl
          generalize ZGQ:(fun i=>(W.cells? 0 (a.add (i * P.cellsOf e)) (P.cellsOf e)).getD [])=css;have hcs:∀ i,i < len ->W.cells? 0 (a.add (i * P.cellsOf e)) (P.cellsOf e)=some (css i):=fun i hi=>by rw [← ZGQ];exact hcs i hi
          obtain⟨hsp,c,el,fz,hb,hlim,hcell⟩:=ZnU hsz h0 hcs
          have hlg:∀ i y,((List.range len).map fun i=>(e,css i,((elems[i]?).map (·.1)).getD .nil))[i]? =some y ->i < len∧y= (e,css i,((elems[i]?).map (·.1)).getD .nil):=by
           intro i y hy;rw [List.getElem?_map] at hy;rcases Nat.lt_or_ge i len with q | q
           ·rw [List.getElem?_range q] at hy;exact⟨q,(Oi0 hy).symm⟩
           ·rw [List.getElem?_eq_none (by simpa using q)] at hy;cases hy
          generalize hl:(List.range len).map (fun i=>(e,css i,((elems[i]?).map (·.1)).getD .nil))=l at hlg;have hll:l.length=len:=by rw [← hl];simp
          have hm:l.map (·.2.2)=elems.map (·.1):=by
           apply List.ext_getElem?;intro i;rw [← hl,List.map_map,List.getElem?_map,List.getElem?_map];rcases Nat.lt_or_ge i len with q | q
           ·rw [List.getElem?_range q];obtain⟨_,x,_,_,q2⟩:=hel i q;simp [q2]
           ·rw [List.getElem?_eq_none (by simpa using q),List.getElem?_eq_none (by omega)];rfl
          have hlE:∀ x ∈ l,ZiT P W x.1 x.2.1 x.2.2:=by
           intro x hx;obtain⟨i,hi⟩:=List.getElem?_of_mem hx;obtain⟨hi2,rfl⟩:=hlg i x hi;obtain⟨cs,y,q1,q2,q3⟩:=hel i hi2;rw [hcs i hi2] at q1;cases q1;rw [q3];exact ih e _ _ y.2 hg.1 q2
          intro ρ h hr hn;obtain⟨ρ1,h1,els,p1,p2,p3,p4,p5,p6,p7⟩:=Zj8 l hlE ρ h hr hn
          have hec:∀ (i:Nat) (x:List Value×DataW E),els[i]? =some x ->i < len∧LR ρ1 x.1 (css i)∧x.1.length=P.cellsOf e∧AR P h1 e x.1 x.2:=by
           intro i x hx;have hi:i < els.length:= (Li0 hx).1;have hi2:i < l.length:=by omega
           obtain⟨q,hy⟩:=hlg i l[i] (by simp [hi2]);have:=p7 i x l[i] hx (by simp [hi2]);rw [hy] at this;refine⟨q,this.1,?_,this.2⟩;rw [this.1.1];exact(ZeV (hcs i q) hsz).1
          have hsize:∀ x ∈ els,x.1.length=P.cellsOf e:=fun x hx=>by
           obtain⟨i,hi⟩:=List.getElem?_of_mem hx;exact(hec i x hi).2.2.1
          obtain⟨r1,r2,r3,r4⟩:=Zu2 (cs:=els.flatMap (·.1)) p3 p4 hb (by rw [Zdz els hsize,p6,hll];exact hlim) (by
           intro k v v' k1 k2
           have hk:k < els.length * P.cellsOf e:=by
            rw [← Zdz els hsize];exact(Li0 k1).1
           have hd:k / P.cellsOf e * P.cellsOf e + k % P.cellsOf e=k:=by rw [Nat.mul_comm];exact Nat.div_add_mod _ _
           have hj:k % P.cellsOf e < P.cellsOf e:=Nat.mod_lt _ hsz;rw [← hd,flat_get els hsize _ _ hj,Option.bind_eq_some_iff] at k1;obtain⟨x,x1,x2⟩:=k1;obtain⟨y1,y2,_,_⟩:=hec _ x x1;obtain⟨u,z1,z2⟩:=hcell _ _ y1 hj;rw [hd,k2] at z1;cases z1;exact y2.2 _ _ _ x2 z2)
          refine⟨_,_,[.slice (some ⟨h1.size,0,none⟩) els.length (2 * cap)],Ren.le_trans p1 r1,p2.trans r2,r3,r4,LR.single ?_,?_⟩
          ·obtain⟨blk,off,spot⟩:=a;dsimp only at hsp;subst hsp;have ZGH:els.length=len:=by omega
           rw [ZGH];exact VR.slice 0 len (2 * cap) cap (Ren.add_same _ _ _ _) ⟨Nat.le_trans hcm (by decide),by rw [if_pos (by omega)];omega⟩
          ·rw [← hm,← p5]
           exact .slice hu (by omega) hcm (by rw [H.XR,if_pos rfl]) hsize fun x hx=>by
            obtain⟨i,hi⟩:=List.getElem?_of_mem hx;exact((hec i x hi).2.2.2).grow r2
        ·cases h
     | struct fs=>
       rw [Ba0] at hg;dsimp only at h;split at h
       ·rename_i hlen;rw [Option.map_eq_some_iff] at h;obtain⟨xs,e1,h⟩:=h;cases h;obtain⟨l1,g1⟩:=Zdn e1
        have hlg:∀ (i:Nat) (y:TypeId×List Value×DataW E),(List.zipWith (fun(f:Field) (x:DataW E×List MemPlace)=>(f.type,(cs.drop f.offset).take (P.cellsOf f.type),x.1)) fs.toList xs)[i]? =some y ->
         ∃ (f:Field) (x:DataW E×List MemPlace),fs.toList[i]? =some f∧xs[i]? =some x∧y= (f.type,(cs.drop f.offset).take (P.cellsOf f.type),x.1):=by
         intro i y hy;rw [List.getElem?_zipWith] at hy;split at hy
         ·rename_i f x hf hx;exact⟨f,x,hf,hx,(Oi0 hy).symm⟩
         ·cases hy
        generalize hl:List.zipWith (fun(f:Field) (x:DataW E×List MemPlace)=>(f.type,(cs.drop f.offset).take (P.cellsOf f.type),x.1)) fs.toList xs=l at hlg;have hll:l.length=fs.toList.length:=by rw [← hl,List.length_zipWith,l1];exact Nat.min_self _
        have hget:∀ (i:Nat) (f:Field),fs.toList[i]? =some f ->∃ x,xs[i]? =some x∧l[i]? =some (f.type,(cs.drop f.offset).take (P.cellsOf f.type),x.1)∧DataW.trod enc P W 0 (fun _=>true) true fuel f.type ((cs.drop f.offset).take (P.cellsOf f.type))=some x:=by
         intro i f hf;have hi:i < xs.length:=by rw [l1];exact(Li0 hf).1
         have hx:xs[i]? =some xs[i]:=by simp [hi]
         refine⟨xs[i],hx,?_,g1 i f _ hf hx⟩;rw [← hl,List.getElem?_zipWith,hf,hx]
        have hm:l.map (·.2.2)=xs.map (·.1):=by
         apply List.ext_getElem?;intro i;rw [List.getElem?_map,List.getElem?_map];cases hf:fs.toList[i]? with
         | some f=>
           obtain⟨x,q1,q2,_⟩:=hget i f hf;rw [q1,q2];rfl
         | none=>
           have:=List.getElem?_eq_none_iff.1 hf;rw [List.getElem?_eq_none (by omega),List.getElem?_eq_none (by omega)];rfl
        have hlE:∀ x ∈ l,ZiT P W x.1 x.2.1 x.2.2:=by
         intro y hy;obtain⟨i,hi⟩:=List.getElem?_of_mem hy;obtain⟨f,x,hf,hx,rfl⟩:=hlg i y hi;have hgf:= (List.all_eq_true.1 hg.1) f (List.mem_of_getElem? hf);exact ih f.type _ _ x.2 hgf (g1 i f x hf hx)
        have hseg:cs=l.flatMap (·.2.1):=by
         have:=Zqo (P:=P) (cs:=cs) fs.toList 0 (by rw [hlen];exact hg.2);rw [List.drop_zero] at this
         have h3:l.map (·.2.1)=fs.toList.map fun(f:Field)=>(cs.drop f.offset).take (P.cellsOf f.type):=by
          apply List.ext_getElem?;intro i;rw [List.getElem?_map,List.getElem?_map];cases hf:fs.toList[i]? with
          | some f=>
            obtain⟨x,q1,q2,_⟩:=hget i f hf;rw [q2];rfl
          | none=>
            have:=List.getElem?_eq_none_iff.1 hf;rw [List.getElem?_eq_none (by omega)];rfl
         rw [List.flatMap_def,h3,← List.flatMap_def];exact this
        intro ρ h hr hn;obtain⟨ρ1,h1,els,p1,p2,p3,p4,p5,p6,p7⟩:=Zj8 l hlE ρ h hr hn
        have hlr:LR ρ1 (els.flatMap (·.1)) cs:=by
         rw [hseg];exact LR.flat els l p6 fun i x y e1 e2=>(p7 i x y e1 e2).1
        refine⟨ρ1,h1,els.flatMap (·.1),p1,p2,p3,p4,hlr,?_⟩;rw [← hm,← p5];refine .struct hu (by omega) (fun i x f hx hf=>?_) fun i x f hx hf=>?_
        ·obtain⟨y,q1,q2,_⟩:=hget i f hf;rw [(p7 i x _ hx q2).1.1];have hmem:Zal P fs.toList 0 cs.length=true:=by rw [hlen];exact hg.2
         obtain⟨c1,c2⟩:=Zn5 _ _ _ hmem;have c3:=c2 i f hf;have hi:= (Li0 hf).1
         have c4:((fs.toList.take i).map fun f=>P.cellsOf f.type).sum + P.cellsOf f.type + ((fs.toList.drop (i + 1)).map fun f=>P.cellsOf f.type).sum= (fs.toList.map fun f=>P.cellsOf f.type).sum:=by
          have:fs.toList=fs.toList.take i ++ f::fs.toList.drop (i + 1):=by
           have h5:fs.toList[i]=f:= (Li0 hf).2;rw [← h5,List.getElem_cons_drop,List.take_append_drop]
          conv=>rhs;rw [this]
          simp only [List.map_append,List.map_cons,List.sum_append,List.sum_cons];omega
         dsimp only;rw [List.length_take,List.length_drop];omega
        ·obtain⟨y,q1,q2,_⟩:=hget i f hf;exact(p7 i x _ hx q2).2
       ·cases h
     | _=>cases hg
end Go.Yj
end
end
section
noncomputable section
namespace Go.Yj
open Go.Lf
variable {P:Program}
theorem ZmU {α:Type} {e:Wv α} {V:α ->Prop} {E:Type} {h:H} {els:List (List Value×DataW E)} {i cap:Nat} (hl:els.length <=cap) (hcap:cap <=maxLen) (hat:h.at i= .row (els.flatMap (·.1)) false 0) (hsz:∀ x ∈ els,x.1.length=e.sz)
 (hel:∀ x ∈ els,∃ p y,x.1=e.sh p y∧V y∧∀ wm,e.F wm h p y):
 ∃ (p:Option Addr×Nat) (ys:List α),[Value.slice (some ⟨i,0,none⟩) els.length (2 * cap)]= (XJ e).sh p ys∧(∀ y ∈ ys,V y)∧∀ wm,(XJ e).F wm h p ys:=by
 obtain⟨ys,h1,hv,h2⟩:=Zby (e:=e) els hel;refine⟨(some ⟨i,0,none⟩,2 * cap),ys,by show [Value.slice _ _ _]= [Value.slice _ _ _];rw [h1],hv,fun wm=>⟨?_,?_,.inr (.inr ⟨_,_,rfl⟩),.inr ⟨i,0,_,false,0,rfl,hat,.inr rfl,?_,fun k y hk=>?_⟩⟩⟩
 ·rw [h1];exact Nat.le_trans (Nat.le_trans hl hcap) (by decide)
 ·rw [h1];omega
 ·rw [h1,Nat.zero_add,Zdz els hsz];exact Nat.le_refl _
 ·obtain⟨x,p,q1,q2,q3⟩:=h2 k y hk;refine⟨p,?_,q3 wm⟩;rw [Nat.zero_add,ZgT els hsz q1,q2]
end Go.Yj
namespace Go.Proofs.YtbnepjakjmnadaaGreat
open Go.Yj Go.Lf
def wfI (n:Int):Prop:= (Lit.int .i64 n).wf=true
inductive Zku:ZU ->Prop
 | mk {x:ZU} (ho:wfI x.op) (hn:wfI x.n) (ht:x.text.size <=maxLen) (hk:∀ y ∈ x.kids,Zku y):Zku x
def ZwN (x:Xw):Prop:=x.text.size <=maxLen∧∀ s ∈ x.names,s.size <=maxLen
mutual
inductive Zd9:Term ->Prop
 | mk {x:Term} (ho:wfI x.op) (ht:x.text.size <=maxLen) (ha:∀ y ∈ x.args,Zku y) (hd:∀ y ∈ x.defs,Zb9 y) (hk:∀ y ∈ x.kids,Zd9 y):Zd9 x
inductive Zb9:Zg ->Prop
 | mk {x:Zg} (ho:wfI x.form) (ht:x.text.size <=maxLen) (ha:∀ y ∈ x.joins,ZwN y) (hd:∀ y ∈ x.defs,Zb9 y) (hk:∀ y ∈ x.kids,Zd9 y):Zb9 x
end
theorem ZBH:Uj XX.P (Xy .i64) wfI 34:= .int Kq0 Kq0
theorem ZBI:Uj XX.P (Xy .i64) wfI 28:= .int Kq0 Kq0
theorem Zyq:Uj XX.P (Xy .i64) wfI 127:= .int Kq0 Kq0
theorem ZFZ:Uj XX.P (Xy .i64) wfI 3:= .int Kq0 Kq0
theorem Zru:Uj XX.P YJ (fun s=>s.size <=maxLen) 9:= .str Kq0 Kq0
theorem ZBG:Uj XX.P (XJ YJ) (fun l=>∀ x ∈ l,x.size <=maxLen) 22:= .slice Kq0 Kq0 Zru
theorem Zyo:Uj XX.P Yk ZwN 136:= ⟨by kernel_rfl,fun a=>by
 obtain⟨els,rfl,hl,hel⟩:=a.ZpW Tryz.underlying136
 match els,hl,hel with
 | [x0,x1],_,hel=>
   obtain⟨p0,y0,e0,v0,f0⟩:=Zru.2 (hel 0 x0 _ rfl rfl);obtain⟨p1,y1,e1,v1,f1⟩:=ZBG.2 (hel 1 x1 _ rfl rfl);exact⟨p1,⟨y0,y1⟩,by simp only [List.flatMap_cons,List.flatMap_nil,e0,e1];rfl,⟨v0,v1⟩,fun wm=>f1 wm⟩⟩
theorem Zyp:Uj XX.P (XJ Yk) (fun l=>∀ x ∈ l,ZwN x) 128:= .slice Kq0 Kq0 Zyo
def ZmG (h:H) (cs:List Value) {α:Type} (e:Wv α) (V:α ->Prop):Prop:=∃ p x,cs=e.sh p x∧V x∧∀ wm,e.F wm h p x
structure Zuq (h:H) (t:TypeId) (cs:List Value):Prop where
 fe:t=36 ->ZmG h cs ZI Zku
 fel:t=29 ->ZmG h cs (XJ ZI) (fun l=>∀ x ∈ l,Zku x)
 ft:t=33 ->ZmG h cs Yb Zd9
 ftl:t=31 ->ZmG h cs (XJ Yb) (fun l=>∀ x ∈ l,Zd9 x)
 fc:t=130 ->ZmG h cs Zi Zb9
 fcl:t=30 ->ZmG h cs (XJ Zi) (fun l=>∀ x ∈ l,Zb9 x)
theorem ZrL {h:H} {α:Type} {e:Wv α} {V:α ->Prop}:ZmG h [.slice none 0 0] (XJ e) (fun l=>∀ x ∈ l,V x):= ⟨(none,0),[],rfl,by simp,fun _=>Sl.nil⟩
theorem Zj7 {h:H} {α:Type} {e:Wv α} {V:α ->Prop}:ZmG h [.slice (some ⟨0,0,some 0⟩) 0 0] (XJ e) (fun l=>∀ x ∈ l,V x):=
 ⟨(some ⟨0,0,some 0⟩,0),[],rfl,by simp,fun _=>⟨by simp,by simp,.inr (.inl ⟨rfl,rfl⟩),.inl rfl⟩⟩
theorem Zrf {E:Type} {h:H} {t:TypeId} {cs:List Value} {d:DataW E} (a:AR XX.P h t cs d):Zuq h t cs:=by
 have no:∀ {t:TypeId} {cs:List Value},t ≠ 36 ->t ≠ 29 ->t ≠ 33 ->t ≠ 31 ->t ≠ 130 ->t ≠ 30 ->Zuq h t cs:=fun a b c d e f=>⟨fun x=>absurd x a,fun x=>absurd x b,fun x=>absurd x c,fun x=>absurd x d,fun x=>absurd x e,fun x=>absurd x f⟩
 have u36:=Tryz.underlying36;have u29:=Tryz.underlying29;have u33:=Tryz.underlying33;have u31:=Tryz.underlying31;have Zre:=Tryz.underlying130;have u30:=Tryz.underlying30
 have Zjb:∀ {t:TypeId} {u:TypeDesc},XX.P.underlying t=some u ->(∀ e,u ≠ .slice e) ->(∀ f,u ≠ .struct f) ->∀ cs,Zuq h t cs:=by
  intro t u hu h1 h2 cs;refine no ?_ ?_ ?_ ?_ ?_ ?_ <;> (rintro rfl)
  ·rw [show XX.P.underlying 36=_ from u36] at hu;cases hu;exact h2 _ rfl
  ·rw [show XX.P.underlying 29=_ from u29] at hu;cases hu;exact h1 _ rfl
  ·rw [show XX.P.underlying 33=_ from u33] at hu;cases hu;exact h2 _ rfl
  ·rw [show XX.P.underlying 31=_ from u31] at hu;cases hu;exact h1 _ rfl
  ·rw [show XX.P.underlying 130=_ from Zre] at hu;cases hu;exact h2 _ rfl
  ·rw [show XX.P.underlying 30=_ from u30] at hu;cases hu;exact h1 _ rfl
 induction a with
 | bool hu=>exact Zjb hu (fun _=>by simp) (fun _=>by simp) _
 | int hu _=>exact Zjb hu (fun _=>by simp) (fun _=>by simp) _
 | string hu _=>exact Zjb hu (fun _=>by simp) (fun _=>by simp) _
 | nil hu=>
   refine⟨?_,fun _=>ZrL,?_,fun _=>ZrL,?_,fun _=>ZrL⟩
   ·rintro rfl;rw [show XX.P.underlying 36=_ from u36] at hu;cases hu
   ·rintro rfl;rw [show XX.P.underlying 33=_ from u33] at hu;cases hu
   ·rintro rfl;rw [show XX.P.underlying 130=_ from Zre] at hu;cases hu
 | empty hu=>
   refine⟨?_,fun _=>Zj7,?_,fun _=>Zj7,?_,fun _=>Zj7⟩
   ·rintro rfl;rw [show XX.P.underlying 36=_ from u36] at hu;cases hu
   ·rintro rfl;rw [show XX.P.underlying 33=_ from u33] at hu;cases hu
   ·rintro rfl;rw [show XX.P.underlying 130=_ from Zre] at hu;cases hu
 | slice hu hl hc hat hsz _ ih=>
   refine⟨?_,?_,?_,?_,?_,?_⟩
   ·rintro rfl;rw [show XX.P.underlying 36=_ from u36] at hu;cases hu
   ·rintro rfl;rw [show XX.P.underlying 29=_ from u29] at hu;cases hu;exact ZmU hl hc hat (fun x hx=>(hsz x hx).trans Kq0) fun x hx=>(ih x hx).fe rfl
   ·rintro rfl;rw [show XX.P.underlying 33=_ from u33] at hu;cases hu
   ·rintro rfl;rw [show XX.P.underlying 31=_ from u31] at hu;cases hu;exact ZmU hl hc hat (fun x hx=>(hsz x hx).trans Kq0) fun x hx=>(ih x hx).ft rfl
   ·rintro rfl;rw [show XX.P.underlying 130=_ from Zre] at hu;cases hu
   ·rintro rfl;rw [show XX.P.underlying 30=_ from u30] at hu;cases hu;exact ZmU hl hc hat (fun x hx=>(hsz x hx).trans Kq0) fun x hx=>(ih x hx).fc rfl
 | @struct t fs els hu hl hsz hel ih=>
   refine⟨?_,?_,?_,?_,?_,?_⟩
   ·rintro rfl;rw [show XX.P.underlying 36=_ from u36] at hu;cases hu
    match els,hl,hel,ih with
    | [x0,x1,x2,x3],_,hel,ih=>
      obtain⟨p0,y0,e0,v0,f0⟩:=ZBH.2 (hel 0 x0 _ rfl rfl);obtain⟨p1,y1,e1,v1,f1⟩:=ZFZ.2 (hel 1 x1 _ rfl rfl);obtain⟨p2,y2,e2,v2,f2⟩:=Zru.2 (hel 2 x2 _ rfl rfl);obtain⟨p3,y3,e3,v3,f3⟩:= (ih 3 x3 _ rfl rfl).fel rfl;exact⟨p3,⟨y0,y1,y2,y3⟩,by simp only [List.flatMap_cons,List.flatMap_nil,e0,e1,e2,e3];rfl,.mk v0 v1 v2 v3,fun wm=>Qo.2 (f3 wm)⟩
   ·rintro rfl;rw [show XX.P.underlying 29=_ from u29] at hu;cases hu
   ·rintro rfl;rw [show XX.P.underlying 33=_ from u33] at hu;cases hu
    match els,hl,hel,ih with
    | [x0,x1,x2,x3,x4],_,hel,ih=>
      obtain⟨p0,y0,e0,v0,f0⟩:=ZBI.2 (hel 0 x0 _ rfl rfl);obtain⟨p1,y1,e1,v1,f1⟩:=Zru.2 (hel 1 x1 _ rfl rfl);obtain⟨p2,y2,e2,v2,f2⟩:= (ih 2 x2 _ rfl rfl).fel rfl;obtain⟨p3,y3,e3,v3,f3⟩:= (ih 3 x3 _ rfl rfl).fcl rfl;obtain⟨p4,y4,e4,v4,f4⟩:= (ih 4 x4 _ rfl rfl).ftl rfl;exact⟨(p2,p3,p4),⟨y0,y1,y2,y3,y4⟩,by simp only [List.flatMap_cons,List.flatMap_nil,e0,e1,e2,e3,e4];rfl,.mk v0 v1 v2 v3 v4,fun wm=>Uc.2 ⟨f2 wm,f3 wm,f4 wm⟩⟩
   ·rintro rfl;rw [show XX.P.underlying 31=_ from u31] at hu;cases hu
   ·rintro rfl;rw [show XX.P.underlying 130=_ from Zre] at hu;cases hu
    match els,hl,hel,ih with
    | [x0,x1,x2,x3,x4],_,hel,ih=>
      obtain⟨p0,y0,e0,v0,f0⟩:=Zyq.2 (hel 0 x0 _ rfl rfl);obtain⟨p1,y1,e1,v1,f1⟩:=Zru.2 (hel 1 x1 _ rfl rfl);obtain⟨p2,y2,e2,v2,f2⟩:=Zyp.2 (hel 2 x2 _ rfl rfl);obtain⟨p3,y3,e3,v3,f3⟩:= (ih 3 x3 _ rfl rfl).fcl rfl;obtain⟨p4,y4,e4,v4,f4⟩:= (ih 4 x4 _ rfl rfl).ftl rfl;exact⟨(p2,p3,p4),⟨y0,y1,y2,y3,y4⟩,by simp only [List.flatMap_cons,List.flatMap_nil,e0,e1,e2,e3,e4];rfl,.mk v0 v1 v2 v3 v4,fun wm=>Z9.2 ⟨f2 wm,f3 wm,f4 wm⟩⟩
   ·rintro rfl;rw [show XX.P.underlying 30=_ from u30] at hu;cases hu
theorem ZBJ:Uj XX.P ZI Zku 36:= ⟨by kernel_rfl,fun a=>(Zrf a).fe rfl⟩
theorem ZBF:Uj XX.P Yb Zd9 33:= ⟨by kernel_rfl,fun a=>(Zrf a).ft rfl⟩
def Zw3:List TypeId:= [33,28,9,29,30,31,36,34,3,130,127,128,136,22]
theorem ZkJ:Zw3.all (ZjK XX.P Zw3)=true:=Kq0
end Go.Proofs.YtbnepjakjmnadaaGreat
end
section
end
section
namespace Go.Lf
theorem ZkE {k:Nat} (h:k < 4611686018427387904):Xm ((k:Int) + 1)= ((k + 1:Nat):Int):=by
 rw [ZfZ (by omega) (by omega)];rfl
theorem ZAP {α:Type} {WW:Nat} {xs ys:List α} (h:xs.length + ys.length <=1000000) (hb:WW <=1000):app WW xs ys=some (xs ++ ys):=
 Zt8 (Nat.le_trans (Nat.mul_le_mul (show 2 * (xs.length + ys.length) + 1000 <=2001000 by omega) hb) (by decide))
def iter {α β σ:Type} (g:Nat ->α ->σ ->(σ ->Option β) ->Option β) (d:σ ->Option β):Nat ->List α ->σ ->Option β
 | _,[],s=>d s
 | i,x::l,s=>g i x s (fun s'=>iter g d (i + 1) l s')
theorem Yz {α β σ γ:Type} (l:List α) (mk:Int ->σ ->γ) (body:γ ->(γ ->Option β) ->Option β) (g:Nat ->α ->σ ->(σ ->Option β) ->Option β) (d:σ ->Option β)
 (hl:l.length < 4611686018427387904)
 (hb:∀ (k:Nat) x s next,l[k]? =some x ->((k:Int) < (l.length:Int)) ->body (mk k s) next=g k x s (fun s'=>next (mk (Xm (k + 1)) s')))
 (he:∀ s next,body (mk l.length s) next=d s) {F:Nat} (hF:l.length < F) (s:σ):loop F body (mk 0 s)=iter g d 0 l s:=by
 have key:∀ (m k F:Nat) s,k + m=l.length ->m < F ->loop F body (mk k s)=iter g d k (l.drop k) s:=by
  intro m
  induction m with
  | zero=>
    intro k F s hk hF;obtain⟨F,rfl⟩:=Ne0 (n:=F) (by omega);have:k=l.length:=by omega
    subst this;rw [YE,he,List.drop_length];rfl
  | succ m ih=>
    intro k F s hk hF;obtain⟨F,rfl⟩:=Ne0 (n:=F) (by omega);have hlt:k < l.length:=by omega
    rw [YE,hb k l[k] s _ (by simp [hlt]) (by omega),List.drop_eq_getElem_cons hlt,iter];congr 1;funext s';rw [ZkE (by omega)];exact ih (k + 1) F s' (by omega) (by omega)
 have:=key l.length 0 F s (by omega) (by omega)
 simpa using this
end Go.Lf
end
section
namespace Go.Proofs.YtbnepjakjmnadaaGreat
open Go.Lf
section
variable {β γ:Type}
theorem Zin {body:γ ->(γ ->Option β) ->Option β} {r:Option β} (S:Nat ->γ) {n F:Nat} (hF:n < F) (hb:∀ k,k < n ->∀ next,body (S k) next=next (S (k + 1))) (he:∀ next,body (S n) next=r):loop F body (S 0)=r:=by
 have:∀ j F,j <=n ->n - j < F ->loop F body (S j)=r:=by
  intro j F hj hF;obtain⟨d,hd⟩:∃ d,d=n - j:= ⟨_,rfl⟩
  induction d generalizing j F with
  | zero=>
    have:j=n:=by omega
    subst this;cases F with
    | zero=>omega
    | succ F=>rw [YE];exact he _
  | succ d ih=>
    cases F with
    | zero=>omega
    | succ F=>rw [YE,hb j (by omega)];exact ih (j + 1) F (by omega) (by omega) (by omega)
 exact this 0 F (Nat.zero_le _) (by omega)
theorem Zgu {body:γ ->(γ ->Option β) ->Option β} {r1 r2:Option β} (S:Nat ->γ) (c:Nat ->Bool) {n F:Nat} (hF:n < F) (hb:∀ k,k < n ->∀ next,body (S k) next=bif c k then r1 else next (S (k + 1))) (he:∀ next,body (S n) next=r2):loop F body (S 0)=bif(List.range n).any c then r1 else r2:=by
 cases h:(List.range n).any c with
 | false=>
   rw [List.any_eq_false] at h;refine Zin S hF (fun k hk next=>?_) he;have:=h k (List.mem_range.2 hk);rw [hb k hk,Bool.eq_false_iff.2 this];rfl
 | true=>
   have hex:∃ k,k < n∧c k=true:=by
    obtain⟨k,h1,h2⟩:=List.any_eq_true.1 h;exact⟨k,List.mem_range.1 h1,h2⟩
   have hm:∃ m,(m < n∧c m=true)∧∀ k,k < m ->c k=false:=by
    obtain⟨k,hk⟩:=hex
    induction k using Nat.strongRecOn with
    | _ k ih=>
      by_cases hz:∃ j,j < k∧c j=true
      ·obtain⟨j,h1,h2⟩:=hz;exact ih j h1 ⟨by omega,h2⟩
      ·exact⟨k,hk,fun j hj=>Bool.eq_false_iff.2 fun q=>hz ⟨j,hj,q⟩⟩
   obtain⟨m,⟨h1,h2⟩,h3⟩:=hm;refine Zin S (n:=m) (by omega) (fun k hk next=>?_) (fun next=>?_)
   ·rw [hb k (by omega),h3 k hk];rfl
   ·rw [hb m h1,h2];rfl
end
theorem ZBs {k:Nat} (h:k < 4611686018427387904):Xm ((k:Int) + 1)= ((k + 1:Nat):Int):=ZkE h
theorem JU {k:Nat} (h:k < 9223372036854775807):Xm ((k:Int) + 1)= ((k + 1:Nat):Int):=by rw [ZfZ (by omega) (by omega)];omega
theorem YD {k n:Nat} (h:k < n):decide ((k:Int) < (n:Int))=true:=decide_eq_true (by omega)
theorem Z6 (n:Nat):decide ((n:Int) < (n:Int))=false:=decide_eq_false (by omega)
theorem Znw {α:Type} {l:List α} {k:Nat} (h:k < l.length):YB l (k:Int)=some l[k]:=by rw [ZlQ,List.getElem?_eq_getElem h]
theorem app1 {α:Type} {b:Nat} {l:List α} {x:α} (h:l.length <=900000) (hb:b <=1000):app b l [x]=some (l ++ [x]):=ZAP (by simp;omega) hb
end Go.Proofs.YtbnepjakjmnadaaGreat
end
section
namespace Go.Proofs.YtbnepjakjmnadaaGreat
open Go.Lf
instance:LawfulBEq ByteArray where
 eq_of_beq {a b} h:=by
  cases a with | mk a=>cases b with | mk b=>
  have h:(a==b)=true:=h;rw [eq_of_beq h]
 rfl {a}:=by
  cases a with | mk a=>
  show(a==a)=true;simp
def kws:List ByteArray:= [(⟨#[97,110,100]⟩:ByteArray),(⟨#[100,101,102]⟩:ByteArray),(⟨#[101,108,115,101]⟩:ByteArray),(⟨#[103,111]⟩:ByteArray),(⟨#[105,102]⟩:ByteArray),(⟨#[105,110]⟩:ByteArray),(⟨#[112,108,97,99,101]⟩:ByteArray),(⟨#[115,116,111,112]⟩:ByteArray),(⟨#[116,104,101,110]⟩:ByteArray),(⟨#[119,97,116,99,104]⟩:ByteArray)]
def Zhp (s:ByteArray) (k:Nat):Bool:=decide (((s.data.getD k 0).toNat:Int) < 97) || decide (((s.data.getD k 0).toNat:Int) > 122)
def Qv (s:ByteArray):Bool:=decide (0 < s.size) && decide (s.size <=8) && !((List.range s.size).any (Zhp s)) && !decide (s ∈ kws)
theorem ZoB {s:ByteArray} {k:Nat} (h:k < s.size):Ze6 s (k:Int)=some ((s.data.getD k 0).toNat:Int):=by
 have hk:k < s.data.size:=h
 have e:s[((k:Int)).toNat]? =some (s.data[k]):=by
  rw [Int.toNat_natCast];show s.data[k]? =_;rw [Array.getElem?_eq_getElem hk]
 unfold Ze6;rw [if_pos (by omega),e,Array.getD_eq_getD_getElem?,Array.getElem?_eq_getElem hk]
 rfl
theorem has_eq (F:Nat) (l:List ByteArray) (s:ByteArray) (h:l.length < F) (hl:l.length < 4000000000000000000):Zg8 F l s=some (decide (s ∈ l)):=by
 have:=Zgu (body:=ZeM l s) (r1:=some true) (r2:=some false) (fun k:Nat=>(k:Int)) (fun k=>decide (l[k]? =some s)) (n:=l.length) h
  (fun k hk next=>by
    simp only [ZeM,YD hk,Cq1,Znw hk,Bq0,ZBs (show k < 4611686018427387904 by omega)];rw [List.getElem?_eq_getElem hk];simp)
  (fun next=>by simp [ZeM])
 rw [show Zg8 F l s=loop F (ZeM l s) 0 from rfl];rw [show(0:Int)= ((0:Nat):Int) from rfl,this]
 have e:(List.range l.length).any (fun k=>decide (l[k]? =some s))=decide (s ∈ l):=by
  rw [Bool.eq_iff_iff,List.any_eq_true,decide_eq_true_iff]
  constructor
  ·rintro⟨k,_,hk⟩;rw [decide_eq_true_iff] at hk;exact List.mem_of_getElem? hk
  ·intro hm;obtain⟨k,hk,hs⟩:=List.getElem_of_mem hm;exact⟨k,List.mem_range.2 hk,by rw [decide_eq_true_iff,List.getElem?_eq_getElem hk,hs]⟩
 rw [e];cases decide (s ∈ l) <;> rfl
def setOf (l:List ByteArray):List (ByteArray×Bool):=l.foldl (fun m s=>QR m s true) []
theorem Zp1 (l:List ByteArray) (s:ByteArray):(Y0 (setOf l) s).getD false=decide (s ∈ l):=by
 have gen:∀ (l:List ByteArray) (m:List (ByteArray×Bool)),(Y0 (l.foldl (fun m s=>QR m s true) m) s).getD false= (decide (s ∈ l) || (Y0 m s).getD false):=by
  intro l
  induction l with
  | nil=>intro m;simp
  | cons x l ih=>
    intro m;rw [List.foldl_cons,ih,Zer];by_cases h:s=x
    ·subst h;simp
    ·rw [if_neg h];simp [h]
 have:=gen l [];unfold setOf;rw [this];simp [Y0,YA]
theorem ZyE (s:ByteArray):(Ztx.bind fun m=>(Zjj m s false).bind fun x=>some (!x))=some (!decide (s ∈ kws)):=by
 have e:Ztx=some (setOf kws):=rfl;rw [e];show some (!((Y0 (setOf kws) s).getD false))=_;rw [Zp1]
theorem Zr3 (F:Nat) (s:ByteArray) (h:s.size < F) (hl:s.size <=9223372036854775807):Zhb F s=some (Qv s):=by
 have:=Zgu (body:=ZeO s) (r1:=some false) (r2:=some (decide (0 < s.size) && decide (s.size <=8) && !decide (s ∈ kws))) (fun k:Nat=>(k:Int)) (Zhp s) (n:=s.size) h
  (fun k hk next=>by
    simp only [ZeO,YD hk,Cq1,ZoB hk,Bq0,JU (show k < 9223372036854775807 by omega)];unfold Zhp;cases h1:decide (((s.data.getD k 0).toNat:Int) < 97) <;> simp [gd])
  (fun next=>by
    simp only [ZeO,Z6,Cq0];rw [ZyE]
    have e1:decide ((s.size:Int) > 0)=decide (0 < s.size):=by
     by_cases hz:0 < s.size
     ·rw [decide_eq_true hz,decide_eq_true (by omega)]
     ·rw [decide_eq_false hz,decide_eq_false (by omega)]
    have e2:decide ((s.size:Int) <=8)=decide (s.size <=8):=by
     by_cases hz:s.size <=8
     ·rw [decide_eq_true hz,decide_eq_true (by omega)]
     ·rw [decide_eq_false hz,decide_eq_false (by omega)]
    rw [e1,e2];cases (decide (0 < s.size) && decide (s.size <=8)) <;> simp)
 show loop F (ZeO s) ((0:Nat):Int)=_;rw [this];unfold Qv;cases (List.range s.size).any (Zhp s) <;> simp
theorem Zr1 (F:Nat) (s:ByteArray) (h:s.size < F) (h2:20 <=F):ZjY F s=some (Qv s):=by
 unfold ZjY;by_cases hz:0 < s.size∧s.size <=8
 ·obtain⟨z1,z2⟩:=hz;rw [decide_eq_false (by omega),decide_eq_false (by omega)];simp only [Bool.or_false,Cq0]
  have:=Zgu (body:=ZeN F s) (r1:=some false) (r2:=some (!decide (s ∈ kws))) (fun k:Nat=>(k:Int)) (Zhp s) (n:=s.size) h
   (fun k hk next=>by
     simp only [ZeN,YD hk,Cq1,ZoB hk,Bq0,ZBs (show k < 4611686018427387904 by omega)];unfold Zhp;cases h1:decide (((s.data.getD k 0).toNat:Int) < 97) <;> simp [gd])
   (fun next=>by
     simp only [ZeN,Z6,Cq0];have e:=has_eq F kws s (by show 10 < F;omega) (by decide);unfold kws at e;rw [e];rfl)
  show loop F (ZeN F s) ((0:Nat):Int)=_;rw [this];unfold Qv;rw [decide_eq_true z1,decide_eq_true z2];cases (List.range s.size).any (Zhp s) <;> simp
 ·have:Qv s=false:=by
   unfold Qv;by_cases z1:0 < s.size
   ·rw [decide_eq_false (show ¬ s.size <=8 by omega)];simp
   ·rw [decide_eq_false z1];simp
  rw [this];by_cases z1:s.size < 1
  ·rw [decide_eq_true (by omega)];rfl
  ·rw [decide_eq_true (show(s.size:Int) > 8 by omega)];simp
end Go.Proofs.YtbnepjakjmnadaaGreat
end
section
noncomputable section
namespace Go.Proofs.YtbnepjakjmnadaaGreat
open Go.Lf
def Yo:Part ->List Part
 | .pr t=>t.args.map .ex ++ t.defs.map .cl ++ t.kids.map .pr
 | .ex e=>e.kids.map .ex
 | .cl c=>c.defs.map .cl ++ c.kids.map .pr
def pz:Part ->Nat
 | .pr t=>SizeOf.sizeOf t
 | .ex e=>SizeOf.sizeOf e
 | .cl c=>SizeOf.sizeOf c
theorem Zjy {k p:Part} (h:k ∈ Yo p):pz k < pz p:=by
 cases p with
 | pr t=>
   obtain⟨op,tx,Yr,ds,ks⟩:=t;simp only [Yo,List.mem_append,List.mem_map] at h;rcases h with(⟨x,hx,rfl⟩ | ⟨x,hx,rfl⟩) | ⟨x,hx,rfl⟩ <;> (have:=List.sizeOf_lt_of_mem hx;simp only [pz,Term.mk.sizeOf_spec];omega)
 | ex e=>
   obtain⟨op,n,tx,ks⟩:=e;simp only [Yo,List.mem_map] at h;obtain⟨x,hx,rfl⟩:=h;have:=List.sizeOf_lt_of_mem hx;simp only [pz,ZU.mk.sizeOf_spec];omega
 | cl c=>
   obtain⟨fm,tx,js,ds,ks⟩:=c;simp only [Yo,List.mem_append,List.mem_map] at h;rcases h with⟨x,hx,rfl⟩ | ⟨x,hx,rfl⟩ <;> (have:=List.sizeOf_lt_of_mem hx;simp only [pz,Zg.mk.sizeOf_spec];omega)
theorem KE {P:Part ->Prop} (h:∀ p,(∀ k ∈ Yo p,P k) ->P p) (p:Part):P p:=by
 have:∀ n p,pz p < n ->P p:=by
  intro n
  induction n with
  | zero=>intro p hp;omega
  | succ n ih=>intro p hp;exact h p fun k hk=>ih k (by have:=Zjy hk;omega)
 exact this _ p (Nat.lt_succ_self _)
theorem Zfs {α β:Type} (l:List α) (f:α ->List β):(l.attach.flatMap fun k=>f k.1)=l.flatMap f:=by
 conv=>rhs;rw [← List.attach_map_subtype_val l]
 rw [List.flatMap_map]
theorem attach_map {α β:Type} (l:List α) (f:α ->β):(l.attach.map fun k=>f k.1)=l.map f:=by
 conv=>rhs;rw [← List.attach_map_subtype_val l]
 rw [List.map_map];rfl
def pre (p:Part):List Part:=p::(Yo p).attach.flatMap fun k=>pre k.1
termination_by pz p
decreasing_by exact Zjy k.2
theorem pre_eq (p:Part):pre p=p::(Yo p).flatMap pre:=by rw [pre,Zfs (Yo p) pre]
def Zdk (l:List Nat):Nat:=l.foldr max 0
def dep (p:Part):Nat:=Zdk ((Yo p).attach.map fun k=>dep k.1) + 1
termination_by pz p
decreasing_by exact Zjy k.2
theorem Zn0 (p:Part):dep p=Zdk ((Yo p).map dep) + 1:=by rw [dep,attach_map (Yo p) dep]
theorem ZbT (x:Nat) (l:List Nat):Zdk (x::l)=max x (Zdk l):=rfl
theorem QH (p:Part):(pre p).length= ((Yo p).flatMap pre).length + 1:=by rw [pre_eq];rfl
theorem Q8 (p:Part):1 <= (pre p).length:=by rw [QH];omega
theorem Zfm {k:Part} {l:List Part} (h:k ∈ l):(pre k).length <= (l.flatMap pre).length:=by
 induction l with
 | nil=>cases h
 | cons x l ih=>
   rw [List.flatMap_cons,List.length_append];rcases List.mem_cons.1 h with rfl | h
   ·omega
   ·have:=ih h;omega
theorem Xk {k p:Part} (h:k ∈ Yo p):(pre k).length < (pre p).length:=by
 have:=Zfm h;rw [QH p];omega
theorem Zfn (l:List Part):l.length <= (l.flatMap pre).length:=by
 induction l with
 | nil=>simp
 | cons x l ih=>rw [List.flatMap_cons,List.length_append,List.length_cons];have:=Q8 x;omega
theorem Zlg (p:Part):(Yo p).length < (pre p).length:=by
 have:=Zfn (Yo p);rw [QH p];omega
theorem ZAt (p:Part):dep p <= (pre p).length:=by
 induction p using KE with
 | h p ih=>
   rw [Zn0,QH]
   have:∀ l:List Part,(∀ k ∈ l,dep k <= (pre k).length) ->Zdk (l.map dep) <= (l.flatMap pre).length:=by
    intro l
    induction l with
    | nil=>intro _;simp [Zdk]
    | cons x l ihl=>
      intro h;rw [List.map_cons,ZbT,List.flatMap_cons,List.length_append];have h1:=h x (by simp);have h2:=ihl fun k hk=>h k (List.mem_cons_of_mem _ hk)
      omega
   have:=this _ ih;omega
theorem YW {x k p:Part} (hk:k ∈ Yo p) (hx:x ∈ pre k):x ∈ pre p:=by
 rw [pre_eq p];exact List.mem_cons_of_mem _ (List.mem_flatMap.2 ⟨k,hk,hx⟩)
theorem X4 (p:Part):p ∈ pre p:=by rw [pre_eq];exact List.mem_cons_self
theorem Yz {α σ β γ:Type} {body:γ ->(γ ->Option β) ->Option β} (st:Nat ->σ ->γ) (l:List α) (Pre:List α ->σ ->Prop) (run:List α ->σ ->Option β)
 (h0:∀ s nx,Pre [] s ->body (st l.length s) nx=run [] s)
 (h1:∀ (k:Nat) x rest s nx,x ∈ l ->k < l.length ->YB l (k:Int)=some x ->Pre (x::rest) s ->(∀ s',Pre rest s' ->nx (st (k + 1) s')=run rest s') ->body (st k s) nx=run (x::rest) s) {F:Nat} (hF:l.length < F) (s:σ) (hp:Pre l s):loop F body (st 0 s)=run l s:=by
 have key:∀ (d j F:Nat) (s:σ),j + d=l.length ->d < F ->Pre (l.drop j) s ->loop F body (st j s)=run (l.drop j) s:=by
  intro d
  induction d with
  | zero=>
    intro j F s hj hF hp;obtain⟨F,rfl⟩:∃ G,F=G + 1:= ⟨F - 1,by omega⟩
    obtain rfl:j=l.length:=by omega
    rw [List.drop_length] at hp ⊢;rw [YE,h0 _ _ hp]
  | succ d ih=>
    intro j F s hj hF hp;obtain⟨F,rfl⟩:∃ G,F=G + 1:= ⟨F - 1,by omega⟩
    have hjl:j < l.length:=by omega
    rw [List.drop_eq_getElem_cons hjl] at hp ⊢;rw [YE];exact h1 j _ _ s _ (List.getElem_mem hjl) hjl (Znw hjl) hp fun s' hp'=>ih (j + 1) F s' (by omega) (by omega) hp'
 have:=key l.length 0 F s (by omega) hF (by simpa using hp)
 simpa using this
abbrev E0:ByteArray:= ⟨#[]⟩
def BB:Nat:=9223372036854775807
def Zc8 (e:ZU):Bool:=
 bif e.op==1 then decide (e.n >=-1000000000) && decide (e.n <=1000000000) && decide (e.text=E0) && (e.kids.length==0)
 else bif e.op==2 then Qv e.text && (e.n==0) && (e.kids.length==0)
 else decide (e.op >=3) && decide (e.op <=7) && decide (e.text=E0) && (e.n==0) && (e.kids.length==2)
def szs (t:Term) (a d k:Nat):Bool:= (t.args.length==a) && (t.defs.length==d) && (t.kids.length==k)
def Zel (t:Term):Bool:=
 (bif(t.op==1) || (t.op==7) then szs t 0 0 0
  else bif t.op==2 then decide (t.args.length <=3) && szs t t.args.length 0 0
  else bif t.op==3 then szs t 0 0 2
  else bif t.op==4 then decide (0 < t.defs.length) && decide (t.defs.length <=5) && szs t 0 t.defs.length 1
  else bif t.op==5 then szs t 1 0 2
  else((t.op==6) || (t.op==8)) && szs t 0 0 1) &&
 (bif((t.op==2) || (t.op==6)) || (t.op==8) then Qv t.text else decide (t.text=E0))
def nWb (hn:ByteArray ->Bool):List ByteArray ->Bool
 | []=>true
 | x::xs=>(Qv x && !hn x) && nWb (fun s=>hn s || decide (s=x)) xs
def jW (ht hn:ByteArray ->Bool):List Xw ->Bool
 | []=>true
 | m::js=>(Qv m.text && !ht m.text && decide (m.names.length <=3)) && (nWb hn m.names && jW (fun s=>ht s || decide (s=m.text)) (fun s=>hn s || decide (s ∈ m.names)) js)
def Zca (c:Zg):Bool:=
 (c.kids.length==1) && (bif c.form==2 then Qv c.text && (c.joins.length==0) && decide (c.defs.length <=5)
 else(c.form==1) && decide (c.text=E0) && (c.defs.length==0) && decide (0 < c.joins.length) && decide (c.joins.length <=3) && jW (fun _=>false) (fun _=>false) c.joins)
def shp:Part ->Bool
 | .pr t=>Zel t
 | .ex e=>Zc8 e
 | .cl c=>Zca c
def Loc:Part ->Prop
 | .pr t=>t.text.size <=BB∧t.args.length <=BB∧t.defs.length <=BB∧t.kids.length <=BB
 | .ex e=>e.text.size <=BB∧e.kids.length <=BB
 | .cl c=>c.text.size <=BB∧c.joins.length <=BB∧c.defs.length <=BB∧c.kids.length <=BB∧∀ m ∈ c.joins,m.text.size <=BB∧m.names.length <=BB∧∀ s ∈ m.names,s.size <=BB
def BS:Nat:=1048576
def Lo (p:Part):Prop:=∀ x ∈ pre p,Loc x
def Sm (p:Part):Prop:= (pre p).length <=BS∧Lo p
theorem Lo.kid {k p:Part} (h:Lo p) (hk:k ∈ Yo p):Lo k:=fun x hx=>h x (YW hk hx)
theorem Lo.loc {p:Part} (h:Lo p):Loc p:=h p (X4 p)
theorem Sm.kid {k p:Part} (h:Sm p) (hk:k ∈ Yo p):Sm k:= ⟨by have:=Xk hk;have:=h.1;omega,fun x hx=>h.2 x (YW hk hx)⟩
theorem Sm.loc {p:Part} (h:Sm p):Loc p:=h.2 p (X4 p)
theorem Q6 (b:Bool):Jk b=some (bif b then .ok () else .Yn 2):=by cases b <;> rfl
theorem JR (a b:Nat):((a:Int)== (b:Int))= (a==b):=by rw [Bool.eq_iff_iff,beq_iff_eq,beq_iff_eq];omega
theorem ZoL {α β:Type} {e:Int} {p:Int ->Option β} {k:α ->Option β}:Ut (.Yn e) p k=p e:=rfl
theorem nameP {F:Nat} (hF:10000000000000000000 <=F) {s:ByteArray} (h:s.size <=BB):Zhb F s=some (Qv s):=Zr3 F s (by unfold BB at h;omega) (by unfold BB at h;omega)
theorem Zr2 {F:Nat} (hF:10000000000000000000 <=F) {s:ByteArray} (h:s.size <=BB):ZjY F s=some (Qv s):=Zr1 F s (by unfold BB at h;omega) (by omega)
theorem Zyz {F:Nat} (hF:10000000000000000000 <=F) {s:ByteArray} (h:s.size <=BB) (b:Bool):ZdS F s b=some (bif b then Qv s else decide (s=E0)):=by
 unfold ZdS;cases b
 ·simp [gd,E0]
 ·simp [gd,Zr2 hF h]
theorem ZkP {F:Nat} (hF:10000000000000000000 <=F) (e:ZU) (h:Loc (.ex e)):ZiB F e=some (bif Zc8 e then .ok () else .Yn 2):=by
 obtain⟨op,n,tx,ks⟩:=e;have hn:=nameP hF h.1;dsimp only at hn;have h2:((ks.length:Int)==2)= (ks.length==2):=JR _ 2;have h0:((ks.length:Int)==0)= (ks.length==0):=JR _ 0;have hc:op=1∨op=2∨op=3∨op=4∨op=5∨op=6∨op=7∨op < 1∨7 < op:=by omega
 unfold ZiB Zc8;dsimp only
 have j:∀ op:Int,Wj ⟨op,n,tx,ks⟩ true=some (bif decide (tx=E0) && (n==0) && (ks.length==2) then .ok () else .Yn 2):=fun op=>by
  simp only [Wj,Cq1,Q6,h2,Bq0];cases (decide (tx=E0) && (n==0) && (ks.length==2)) <;> rfl
 rcases hc with rfl | rfl | rfl | rfl | rfl | rfl | rfl | hc
 ·simp only [Q6,h0,Bq0];cases (decide (n >=-1000000000) && decide (n <=1000000000) && decide (tx=E0) && (ks.length==0)) <;> rfl
 ·show(Zhb F tx).bind _=some (bif(Qv tx && (n==0) && (ks.length==0)) then _ else _);rw [hn];simp only [Q6,h0,Bq0];cases (Qv tx && (n==0) && (ks.length==0)) <;> rfl
 ·exact j 3
 ·exact j 4
 ·exact j 5
 ·exact j 6
 ·exact j 7
 have e1:(op==1)=false:=by simp;omega
 have e2:(op==2)=false:=by simp;omega
 have e3:(op==3)=false:=by simp;omega
 have e4:(op==4)=false:=by simp;omega
 have e5:(op==5)=false:=by simp;omega
 have e6:(op==6)=false:=by simp;omega
 have e7:(op==7)=false:=by simp;omega
 have e8:(decide (op >=3) && decide (op <=7))=false:=by
  rcases hc with hc | hc
  ·rw [decide_eq_false (show ¬ op >=3 by omega)];rfl
  ·rw [decide_eq_false (show ¬ op <=7 by omega)];simp
 rw [e1,e2,e3,e4,e5,e6,e7,e8]
 rfl
theorem KC (t:Term) (a d k:Nat):U6 t (a:Int) (d:Int) (k:Int)=some (bif szs t a d k then .ok () else .Yn 2):=by
 unfold U6 szs;rw [Q6,JR,JR,JR,Bq0];cases ((t.args.length==a) && (t.defs.length==d) && (t.kids.length==k)) <;> rfl
theorem ZuV {F:Nat} (hF:10000000000000000000 <=F) (t:Term) (h:t.text.size <=BB):(Ug F t) ()=some (bif(bif((t.op==2) || (t.op==6)) || (t.op==8) then Qv t.text else decide (t.text=E0)) then .ok () else .Yn 2):=by
 unfold Ug ZbY;rw [nameP hF h];simp only [Q6,Bq0,E0];cases t.op==2 <;> cases t.op==6 <;> cases t.op==8 <;> cases Qv t.text <;> cases decide (t.text= (⟨#[]⟩:ByteArray)) <;> rfl
theorem seq2 {a b:Bool}:(Ut (bif a then PR.ok () else PR.Yn 2) (fun e=>some (.Yn e)) (fun _=>some (bif b then PR.ok () else PR.Yn 2)):Option (PR Unit))=some (bif a && b then .ok () else .Yn 2):=by cases a <;> rfl
theorem ZBC {a b:Bool}:(Ut (bif a then PR.ok () else PR.Yn 2) (fun _=>some (.Yn 2)) (fun _=>some (bif b then PR.ok () else PR.Yn 2)):Option (PR Unit))=some (bif a && b then .ok () else .Yn 2):=by cases a <;> rfl
theorem Zfv {F:Nat} (hF:10000000000000000000 <=F) (t:Term) (h:Loc (.pr t)):ZiC F t=some (bif Zel t then .ok () else .Yn 2):=by
 have ht:=ZuV hF t h.1
 have hg:decide ((t.args.length:Int) <=3)=decide (t.args.length <=3):=by
  by_cases z:t.args.length <=3
  ·rw [decide_eq_true z,decide_eq_true (by omega)]
  ·rw [decide_eq_false z,decide_eq_false (by omega)]
 have hd1:decide ((t.defs.length:Int) > 0)=decide (0 < t.defs.length):=by
  by_cases z:0 < t.defs.length
  ·rw [decide_eq_true z,decide_eq_true (by omega)]
  ·rw [decide_eq_false z,decide_eq_false (by omega)]
 have hd5:decide ((t.defs.length:Int) <=5)=decide (t.defs.length <=5):=by
  by_cases z:t.defs.length <=5
  ·rw [decide_eq_true z,decide_eq_true (by omega)]
  ·rw [decide_eq_false z,decide_eq_false (by omega)]
 have ZFY:U6 t 0 0 0=_:=KC t 0 0 0;have ZFX:U6 t 0 0 1=_:=KC t 0 0 1;have ZFW:U6 t 0 0 2=_:=KC t 0 0 2;have ZFV:U6 t 1 0 2=_:=KC t 1 0 2;have sa:U6 t t.args.length 0 0=_:=KC t t.args.length 0 0;have sd:U6 t 0 t.defs.length 1=_:=KC t 0 t.defs.length 1
 have j2:∀ b,(ZbX F t) b=some (bif(bif b then szs t 0 0 0
  else bif t.op==2 then decide (t.args.length <=3) && szs t t.args.length 0 0
  else bif t.op==3 then szs t 0 0 2
  else bif t.op==4 then decide (0 < t.defs.length) && decide (t.defs.length <=5) && szs t 0 t.defs.length 1
  else bif t.op==5 then szs t 1 0 2
  else((t.op==6) || (t.op==8)) && szs t 0 0 1) &&
 (bif((t.op==2) || (t.op==6)) || (t.op==8) then Qv t.text else decide (t.text=E0)) then .ok () else .Yn 2):=by
   intro b;unfold ZbX ZdG;simp only [Q6,ZFY,ZFX,ZFW,ZFV,sa,sd,Bq0,hg,hd1,hd5,ht,seq2,ZlY];cases b <;> cases t.op==2 <;> cases t.op==3 <;> cases t.op==4 <;> cases t.op==5 <;> cases t.op==6 <;> cases t.op==8 <;> simp only [Cq1,Cq0,Bool.true_or,Bool.or_true,Bool.or_false,Bool.false_or,Bool.true_and,Bool.false_and,ZoL,seq2,ZBC,Bool.and_assoc]
 unfold ZiC Zel;rw [j2,j2];cases t.op==1 <;> cases t.op==7 <;> rfl
def has (m:List (ByteArray×Bool)):ByteArray ->Bool:=fun s=>(Y0 m s).getD false
theorem Zdu (m:List (ByteArray×Bool)) (x:ByteArray):has (QR m x true)=fun s=>has m s || decide (s=x):=by
 funext s;unfold has;rw [Zer];by_cases h:s=x
 ·subst h;simp
 ·rw [if_neg h];simp [h]
def UW (m:List (ByteArray×Bool)) (l:List ByteArray):List (ByteArray×Bool):=l.foldl (fun m s=>QR m s true) m
theorem ZgF (l:List ByteArray):∀ m,has (UW m l)=fun s=>has m s || decide (s ∈ l):=by
 induction l with
 | nil=>intro m;funext s;simp [UW]
 | cons x l ih=>
   intro m;have:UW m (x::l)=UW (QR m x true) l:=rfl;rw [this,ih,Zdu];funext s;by_cases h1:s=x <;> by_cases h2:s ∈ l <;> simp [h1,h2]
theorem ZjH:has []=fun _=>false:=by funext s;rfl
theorem Zdf (m:List (ByteArray×Bool)) (x:ByteArray):Zjj m x false=some (has m x):=rfl
theorem Zde {β:Type} {b:Bool} {p:Int ->Option β} {k:Unit ->Option β}:Ut (bif b then PR.ok () else PR.Yn 2) p k=bif b then k () else p 2:=by cases b <;> rfl
theorem le3 (n:Nat):decide ((n:Int) <=3)=decide (n <=3):=by
 by_cases z:n <=3
 ·rw [decide_eq_true z,decide_eq_true (by omega)]
 ·rw [decide_eq_false z,decide_eq_false (by omega)]
theorem gt0 (n:Nat):decide ((n:Int) > 0)=decide (0 < n):=by
 by_cases z:0 < n
 ·rw [decide_eq_true z,decide_eq_true (by omega)]
 ·rw [decide_eq_false z,decide_eq_false (by omega)]
theorem le5 (n:Nat):decide ((n:Int) <=5)=decide (n <=5):=by
 by_cases z:n <=5
 ·rw [decide_eq_true z,decide_eq_true (by omega)]
 ·rw [decide_eq_false z,decide_eq_false (by omega)]
theorem Zm2 {F:Nat} (hF:10000000000000000000 <=F) (k:Int) (m1:List (ByteArray×Bool)) (nx:Int×(List (ByteArray×Bool))×(List (ByteArray×Bool)) ->Option (PR Unit)) (x:Xw) (hx:x.names.length <=BB) (hs:∀ s ∈ x.names,s.size <=BB) (m:List (ByteArray×Bool)):
 loop F (ZdE F k m1 nx x) (0,m)=bif nWb (has m) x.names then nx (Xm (k + 1),QR m1 x.text true,UW m x.names) else some (.Yn 2):=by
 refine Yz (fun(k:Nat) (m:List (ByteArray×Bool))=>((k:Int),m)) x.names (fun _ _=>True) (fun rest m=>bif nWb (has m) rest then nx (Xm (k + 1),QR m1 x.text true,UW m rest) else some (.Yn 2)) ?_ ?_ (by unfold BB at hx;omega) m trivial
 ·intro s nx' _;simp only [ZdE,Z6,Cq0];rfl
 ·intro j y rest s nx' hy hj hg _ ih;simp only [ZdE,YD hj,Cq1,hg,Bq0,nameP hF (hs y hy),Q6,Zde,Zdf];rw [JU (by unfold BB at hx;omega)];simp only [ih _ trivial,nWb,Zdu];cases hn:Qv y
  ·simp [gd]
  ·cases hh:has s y
   ·simp only [Zdx,Bq0,Bool.not_false,Bool.true_and,Cq1];rfl
   ·simp [gd]
  all_goals omega
theorem Zna {F:Nat} (hF:10000000000000000000 <=F) (c:Zg) (h:Loc (.cl c)):(ZdD F c) ()=some (bif jW (fun _=>false) (fun _=>false) c.joins then .ok () else .Yn 2):=by
 obtain⟨h1,h2,h3,h4,h5⟩:=h;have:=Yz (body:=ZdF F c) (fun(k:Nat) (m:List (ByteArray×Bool)×List (ByteArray×Bool))=>((k:Int),m.1,m.2)) c.joins (fun _ _=>True) (fun rest m=>some (bif jW (has m.1) (has m.2) rest then PR.ok () else .Yn 2)) (F:=F) ?_ ?_ (by unfold BB at h2;omega) ([],[]) trivial
 ·rw [ZjH] at this;exact this
 ·intro s nx' _;simp only [ZdF,Z6,Cq0];rfl
 ·intro j y rest s nx' hy hj hg _ ih;obtain⟨q1,q2,q3⟩:=h5 y hy;simp only [ZdF,YD hj,Cq1,hg,Bq0,nameP hF q1,Q6,Zde,Zdf,le3,Zm2 hF _ _ _ y q2 q3];rw [JU (by unfold BB at h2;omega)];have ih':=fun a b=>ih (a,b) trivial
  simp only at ih';simp only [ih',jW,Zdu,ZgF];cases hn:Qv y.text
  ·simp [gd]
  ·cases hh:has s.1 y.text
   ·simp only [Zdx,Bq0,Bool.not_false,Bool.true_and,Cq1];cases decide (y.names.length <=3) <;> cases nWb (has s.2) y.names <;> rfl
   ·simp [gd]
theorem Zf3 {F:Nat} (hF:10000000000000000000 <=F) (c:Zg) (h:Loc (.cl c)):ZiA F c=some (bif Zca c then .ok () else .Yn 2):=by
 have hj:=Zna hF c h;obtain⟨h1,h2,h3,h4,h5⟩:=h;have e0:((c.joins.length:Int)==0)= (c.joins.length==0):=JR _ 0;have e1:((c.kids.length:Int)==1)= (c.kids.length==1):=JR _ 1;have e2:((c.defs.length:Int)==0)= (c.defs.length==0):=JR _ 0;unfold ZiA Zca;simp only [Q6,Bq0,Zde,hj,nameP hF h1,e0,e1,e2,le5,le3,gt0,ZlY,ZoL];cases c.kids.length==1
 ·rfl
 ·by_cases f2:c.form=2
  ·rw [f2];simp only [Int.reduceBEq,Cq1,Bool.true_and];cases (Qv c.text && (c.joins.length==0) && decide (c.defs.length <=5)) <;> rfl
  ·have:(c.form==2)=false:=by simpa using f2
   rw [this];cases c.form==1 <;> cases (decide (c.text=E0)) <;> cases (c.defs.length==0) <;> cases (decide (0 < c.joins.length)) <;> cases (decide (c.joins.length <=3)) <;> cases (jW (fun _=>false) (fun _=>false) c.joins) <;> rfl
theorem Zro {F:Nat} (hF:10000000000000000000 <=F) (p:Part) (h:Loc p):Zl2 F p=some (bif shp p then .ok () else .Yn 2):=by
 unfold Zl2;cases p with
 | pr t=>
   show(ZiC F t).bind _=_;rw [Zfv hF t h];show Ut _ _ _=some (bif Zel t then _ else _);cases Zel t <;> rfl
 | ex e=>
   show(ZiB F e).bind _=_;rw [ZkP hF e h];show Ut _ _ _=some (bif Zc8 e then _ else _);cases Zc8 e <;> rfl
 | cl c=>
   show(ZiA F c).bind _=_;rw [Zf3 hF c h];show Ut _ _ _=some (bif Zca c then _ else _);cases Zca c <;> rfl
theorem ZyC (ns:List ByteArray) (x:ByteArray):(fun s=>decide (s ∈ ns ++ [x]))=fun s=>decide (s ∈ ns) || decide (s=x):=by
 funext s;by_cases h1:s ∈ ns <;> by_cases h2:s=x <;> simp [h1,h2]
theorem ZF7 (ns l:List ByteArray):(fun s=>decide (s ∈ ns ++ l))=fun s=>decide (s ∈ ns) || decide (s ∈ l):=by
 funext s;by_cases h1:s ∈ ns <;> by_cases h2:s ∈ l <;> simp [h1,h2]
theorem Zp5 {F:Nat} (hF:10000000000000000000 <=F) (js:List Xw) (k:Nat) (y:Xw) (hg:YB js (k:Int)=some y) (hx:y.names.length <=3) (hs:∀ s ∈ y.names,s.size <=BB) (nx:(List ByteArray)×(List ByteArray)×Int ->Option Bool) (z:List ByteArray) (ns:List ByteArray) (hns:ns.length <=100):
 loop F (ZdH F js (k:Int) nx z) (ns,0)=bif nWb (fun s=>decide (s ∈ ns)) y.names then nx (z,ns ++ y.names,Xm ((k:Int) + 1)) else some false:=by
 refine Yz (fun(k:Nat) (m:List ByteArray)=>(m,(k:Int))) y.names (fun rest m=>m.length + rest.length <=200) (fun rest m=>bif nWb (fun s=>decide (s ∈ m)) rest then nx (z,m ++ rest,Xm ((k:Int) + 1)) else some false) ?_ ?_ (by omega) ns (by omega)
 ·intro s nx' _;simp only [ZdH,hg,Bq0,Z6,Cq0,List.append_nil];rfl
 ·intro j x rest s nx' hy hj hgx hp ih;have hp':s.length + rest.length + 1 <=200:=by have:=hp;simp only [List.length_cons] at this;omega
  simp only [ZdH,hg,YD hj,Cq1,hgx,Bq0,Zr2 hF (hs x hy)];rw [JU (by omega),app1 (by omega) (by omega)];simp only [Bq0,nWb];cases hn:Qv x
  ·simp [gd]
  ·simp only [Bool.not_true,Bool.not_false,gd,Cq1,Bq0,hgx];rw [has_eq F s x (by omega) (by omega)];by_cases hm:x ∈ s
   ·simp [hm]
   ·have e:decide (x ∈ s)=false:=decide_eq_false hm;simp only [gd,e,Bool.not_true,Bool.not_false,Bool.or_false,Cq1,Cq0,Bq0,Bool.and_true,Bool.true_and];rw [ih (s ++ [x]) (by simp;omega),ZyC,List.append_assoc];rfl
theorem Zqe {F:Nat} (hF:10000000000000000000 <=F) (js:List Xw) (h2:js.length <=BB) (h5:∀ m ∈ js,m.text.size <=BB∧m.names.length <=BB∧∀ s ∈ m.names,s.size <=BB):ZiD F js=some (decide (0 < js.length) && decide (js.length <=3) && jW (fun _=>false) (fun _=>false) js):=by
 unfold ZiD;by_cases hl:0 < js.length∧js.length <=3
 ·rw [decide_eq_false (show ¬ (js.length:Int) < 1 by omega),decide_eq_false (show ¬ (js.length:Int) > 3 by omega),decide_eq_true hl.1,decide_eq_true hl.2];simp only [Bool.or_false,Cq0,Bool.true_and];have:=Yz (body:=ZdI F js) (fun(k:Nat) (m:List ByteArray×List ByteArray)=>(m.1,m.2,(k:Int))) js (fun rest m=>m.1.length + rest.length <=3∧m.2.length + 3 * rest.length <=9) (fun rest m=>some (jW (fun s=>decide (s ∈ m.1)) (fun s=>decide (s ∈ m.2)) rest)) (F:=F) ?_ ?_ (by omega) ([],[]) ⟨by simp;omega,by simp;omega⟩
  ·simpa using this
  ·intro s nx' _;simp only [ZdI,Z6,Cq0];rfl
  ·intro j y rest s nx' hy hj hg hp ih;obtain⟨q1,q2,q3⟩:=h5 y hy;obtain⟨p1,p2⟩:=hp;simp only [List.length_cons] at p1 p2;simp only [ZdI,YD hj,Cq1,hg,Bq0,Zr2 hF q1];rw [app1 (by omega) (by omega)];simp only [Bq0,jW];cases hn:Qv y.text
   ·simp [gd]
   ·simp only [Bool.not_true,Bool.not_false,gd,Cq1,Bq0,hg];rw [has_eq F s.1 y.text (by omega) (by omega)];by_cases hm:y.text ∈ s.1
    ·simp [hm]
    ·have e:decide (y.text ∈ s.1)=false:=decide_eq_false hm;simp only [gd,e,Bool.not_true,Bool.not_false,Bool.or_false,Cq1,Cq0,Bq0,Bool.and_true,Bool.true_and,Bool.false_or];by_cases h3:y.names.length <=3
     ·rw [decide_eq_false (show ¬ (y.names.length:Int) > 3 by omega),decide_eq_true h3,Cq0,Zp5 hF js j y hg h3 q3 nx' _ s.2 (by omega),JU (by omega)];have:=ih (s.1 ++ [y.text],s.2 ++ y.names) ⟨by simp;omega,by simp;omega⟩;simp only at this;rw [this,ZyC,ZF7];cases nWb (fun s_1=>decide (s_1 ∈ s.2)) y.names <;> rfl
     ·rw [decide_eq_true (show(y.names.length:Int) > 3 by omega),decide_eq_false h3];rfl
 ·have:(decide ((js.length:Int) < 1) || decide ((js.length:Int) > 3))=true:=by
   by_cases z:0 < js.length
   ·rw [decide_eq_true (show(js.length:Int) > 3 by omega)];simp
   ·rw [decide_eq_true (show(js.length:Int) < 1 by omega)];rfl
  rw [this,Cq1];by_cases z:0 < js.length
  ·rw [decide_eq_true z,decide_eq_false (show ¬ js.length <=3 by omega)];rfl
  ·rw [decide_eq_false z];rfl
abbrev NDB:=Nat×Nat×Bool
def Ua (s:Bool×Nat×Nat) (r:NDB):Bool×Nat×Nat:= (s.1 && r.2.2,s.2.1 + r.1,max s.2.2 r.2.1)
def ZeC (s:Bool×Nat×Nat):NDB:= (s.2.1,s.2.2 + 1,s.1)
def R (p:Part):NDB:=bif shp p then ZeC (((Yo p).attach.map fun k=>R k.1).foldl Ua (true,1,0)) else(1,1,false)
termination_by pz p
decreasing_by exact Zjy k.2
theorem ZwQ (p:Part):R p=bif shp p then ZeC (((Yo p).map R).foldl Ua (true,1,0)) else(1,1,false):=by rw [R,attach_map (Yo p) R]
theorem ZzR (l:List NDB):∀ s,l.foldl Ua s= (s.1 && l.all (·.2.2),s.2.1 + (l.map (·.1)).sum,max s.2.2 (Zdk (l.map (·.2.1)))):=by
 induction l with
 | nil=>intro s;simp [Zdk]
 | cons x l ih=>
   intro s;rw [List.foldl_cons,ih];simp only [Ua,List.all_cons,List.map_cons,List.sum_cons,ZbT,Bool.and_assoc,Nat.add_assoc,Nat.max_assoc]
theorem ZiQ (p:Part):(R p).2.2= (pre p).all shp∧((pre p).all shp=true ->(R p).1= (pre p).length∧(R p).2.1=dep p)∧(R p).1 <= (pre p).length∧(R p).2.1 <= (pre p).length:=by
 induction p using KE with
 | h p ih=>
   have key:∀ l:List Part,(∀ k ∈ l,(R k).2.2= (pre k).all shp∧((pre k).all shp=true ->(R k).1= (pre k).length∧(R k).2.1=dep k)∧(R k).1 <= (pre k).length∧(R k).2.1 <= (pre k).length) ->
    (l.map R).all (·.2.2)= (l.flatMap pre).all shp∧((l.flatMap pre).all shp=true ->((l.map R).map (·.1)).sum= (l.flatMap pre).length∧Zdk ((l.map R).map (·.2.1))=Zdk (l.map dep))∧((l.map R).map (·.1)).sum <= (l.flatMap pre).length∧Zdk ((l.map R).map (·.2.1)) <= (l.flatMap pre).length:=by
    intro l
    induction l with
    | nil=>intro _;simp [Zdk]
    | cons x l ihl=>
      intro h;obtain⟨a1,a2,a3,a4⟩:=h x (by simp);obtain⟨b1,b2,b3,b4⟩:=ihl fun k hk=>h k (List.mem_cons_of_mem _ hk)
      simp only [List.map_cons,List.all_cons,List.flatMap_cons,List.all_append,List.sum_cons,ZbT,List.length_append,a1,b1];refine⟨trivial,fun hh=>?_,by omega,by omega⟩;rw [Ba0] at hh;obtain⟨c1,c2⟩:=a2 hh.1;obtain⟨d1,d2⟩:=b2 hh.2;exact⟨by rw [c1,d1],by rw [c2,d2]⟩
   obtain⟨k1,k2,k3,k4⟩:=key (Yo p) ih;rw [ZwQ,ZzR,pre_eq p];simp only [List.all_cons,List.length_cons];cases hs:shp p
   ·simp
   ·simp only [Cq1,ZeC,Bool.true_and,k1,Nat.zero_max];refine⟨trivial,fun hh=>?_,by omega,by omega⟩;obtain⟨c1,c2⟩:=k2 hh;exact⟨by rw [c1];omega,by rw [c2,Zn0]⟩
theorem UK {x p:Part} (h:x ∈ pre p):(pre x).length <= (pre p).length:=by
 induction p using KE with
 | h p ih=>
   rw [pre_eq p] at h;rcases List.mem_cons.1 h with rfl | h
   ·exact Nat.le_refl _
   ·obtain⟨k,hk,hx⟩:=List.mem_flatMap.1 h;have:=ih k hk hx;have:=Xk hk;omega
theorem UF {x y p:Part} (h:x ∈ pre y) (hy:y ∈ pre p):x ∈ pre p:=by
 induction p using KE with
 | h p ih=>
   rw [pre_eq p] at hy;rcases List.mem_cons.1 hy with rfl | hy
   ·exact h
   ·obtain⟨k,hk,hyk⟩:=List.mem_flatMap.1 hy;exact YW hk (ih k hk hyk)
theorem Sm.mem {x p:Part} (h:Sm p) (hx:x ∈ pre p):Sm x:= ⟨by have:=UK hx;have:=h.1;omega,fun y hy=>h.2 y (UF hy hx)⟩
def out (r:NDB):Int×Int×Bool:= ((r.1:Int),(r.2.1:Int),r.2.2)
theorem Zjv (a b:Nat) {i:Decidable ((b:Int) > (a:Int))}:@ite Int ((b:Int) > (a:Int)) i (b:Int) (a:Int)= ((max a b:Nat):Int):=by
 by_cases h:b > a
 ·rw [if_pos (by omega),Nat.max_eq_right (by omega)]
 ·rw [if_neg (by omega),Nat.max_eq_left (by omega)]
theorem ZFL {n:Nat} (h:n <=4000000000000000000):Xm (n:Int)= (n:Int):=ZfZ (by omega) (by omega)
theorem Zra {a b:Nat} (h:a + b <=4000000000000000000):Xm ((a:Int) + (b:Int))= ((a + b:Nat):Int):=by rw [← ZFL h,Int.natCast_add]
def ZEY {α:Type} (c:α ->Part) (B0:Nat) (rest:List α) (s:Bool×Nat×Nat):Prop:=s.2.1 + ((rest.map c).flatMap pre).length <=B0∧s.2.2 <=1000000000
theorem Zgv {α:Type} {body:Bool×Int×Int×Int ->(Bool×Int×Int×Int ->Option (Int×Int×Bool)) ->Option (Int×Int×Bool)} (l:List α) (c:α ->Part) (g:α ->Option (Int×Int×Bool)) (fin:Bool×Nat×Nat ->Option (Int×Int×Bool)) (hl:l.length <=BB) {B0:Nat} (hB:B0 <=1000000000)
 (hg:∀ x ∈ l,g x=some (out (R (c x))))
 (hb:∀ b (n d i:Int) nx,body (b,n,d,i) nx=bif decide (i < (l.length:Int)) then(YB l i).bind fun x=>(g x).bind fun y=>nx ((b && y.2.2),Xm (n + y.1),(if y.2.1 > d then y.2.1 else d),Xm (i + 1)) else body (b,n,d,(l.length:Int)) nx)
 (he:∀ s nx,s.2.1 <=B0 ->s.2.2 <=1000000000 ->body (s.1,(s.2.1:Int),(s.2.2:Int),(l.length:Int)) nx=fin s) {F:Nat} (hF:10000000000000000000 <=F) (s:Bool×Nat×Nat) (hp:ZEY c B0 l s) (hp2:∀ x ∈ l,(pre (c x)).length <=BS):loop F body (s.1,(s.2.1:Int),(s.2.2:Int),0)=fin ((l.map fun x=>R (c x)).foldl Ua s):=by
 refine Yz (fun(k:Nat) (s:Bool×Nat×Nat)=>(s.1,(s.2.1:Int),(s.2.2:Int),(k:Int))) l (ZEY c B0) (fun rest s=>fin ((rest.map fun x=>R (c x)).foldl Ua s)) ?_ ?_ (by unfold BB at hl;omega) s hp
 ·intro s nx hp;exact he s nx (by have:=hp.1;omega) hp.2
 ·intro k x rest s nx hx hk hgi hp ih;obtain⟨p1,p2⟩:=hp;simp only [List.map_cons,List.flatMap_cons,List.length_append] at p1;obtain⟨_,_,r1,r2⟩:=ZiQ (c x);have h2:=hp2 x hx;unfold BS at h2;unfold BB at hl;show body (s.1,(s.2.1:Int),(s.2.2:Int),(k:Int)) nx=_;rw [hb,YD hk,Cq1,hgi,Bq0,hg x hx,Bq0];show nx (s.1 && (R (c x)).2.2,Xm ((s.2.1:Int) + ((R (c x)).1:Int)),(if((R (c x)).2.1:Int) > (s.2.2:Int) then((R (c x)).2.1:Int) else(s.2.2:Int)),Xm ((k:Int) + 1))=_;rw [Zra (by omega),Zjv,JU (by omega)];have:=ih (Ua s (R (c x))) ⟨by simp only [Ua];omega,by simp only [Ua];omega⟩;simp only [Ua] at this;rw [this]
  rfl
theorem Zmr (a:Nat):((a:Int)==0)= (a==0):=JR a 0
theorem Zmq (a:Nat):((a:Int)==1)= (a==1):=JR a 1
theorem ZtZ (a:Nat):((a:Int)==2)= (a==2):=JR a 2
theorem Zwx (a:Nat):((a:Int)==-1)=false:=by rw [beq_eq_false_iff_ne];omega
def nmW (g b:Bool) (s:ByteArray):Bool:=g && (bif b then Qv s else decide (s=E0))
theorem Znx {F:Nat} (hF:10000000000000000000 <=F) {s:ByteArray} (h:s.size <=BB) (g b:Bool):gd g (ZdS F s b) default=some (nmW g b s):=by
 rw [Zyz hF h];cases g <;> rfl
theorem ZAk (e:ZU) (v:Nat) (hv:v= (if 3 <=e.op∧e.op <=7 then 2 else 0)):(((((((decide (e.op >=1)) && (decide (e.op <=7))) && nmW ((decide (e.op >=1)) && (decide (e.op <=7))) (e.op==2) e.text) && ((e.kids.length:Int)== (v:Int))) && ((e.op==1) || (e.n==0))) && (decide (e.n >= (-1000000000)))) && (decide (e.n <=1000000000)))=Zc8 e:=by
 obtain⟨op,n,tx,ks⟩:=e;dsimp only at hv ⊢;rw [JR];have hc:op=1∨op=2∨op=3∨op=4∨op=5∨op=6∨op=7∨op < 1∨7 < op:=by omega
 have hz:∀ X:Bool,((X && (n==0)) && decide (n >=-1000000000) && decide (n <=1000000000))= (X && (n==0)):=fun X=>by
  by_cases h:n=0
  ·subst h;simp
  ·have:(n==0)=false:=by simpa using h
   rw [this];simp
 rcases hc with rfl | rfl | rfl | rfl | rfl | rfl | rfl | hc
 ·rw [if_neg (by omega)] at hv;subst hv;unfold Zc8 nmW;simp only [Int.reduceBEq,Cq1,Cq0,Bool.true_or,Bool.and_true];have a1:(decide ((1:Int) >=1) && decide ((1:Int) <=7))=true:=by decide
  rw [a1];cases decide (n >=-1000000000) <;> cases decide (n <=1000000000) <;> cases decide (tx=E0) <;> cases ks.length==0 <;> rfl
 ·rw [if_neg (by omega)] at hv;subst hv;unfold Zc8 nmW;simp only [Int.reduceBEq,Cq1,Cq0,Bool.false_or];have a1:(decide ((2:Int) >=1) && decide ((2:Int) <=7))=true:=by decide
  rw [a1,hz];cases Qv tx <;> cases n==0 <;> cases ks.length==0 <;> rfl
 all_goals first
  | (rw [if_pos (by omega)] at hv;subst hv
     unfold Zc8 nmW;simp only [Int.reduceBEq,Cq1,Cq0,Bool.false_or];rw [hz];simp only [ge_iff_le,Int.reduceLE,decide_true,Bool.and_self,Bool.true_and];cases decide (tx=E0) <;> cases n==0 <;> cases ks.length==2 <;> rfl)
  | (have q:(decide (op >=1) && decide (op <=7))=false:=by
      rcases hc with hc | hc
      ·rw [decide_eq_false (show ¬ op >=1 by omega)];rfl
      ·rw [decide_eq_false (show ¬ op <=7 by omega)];simp
     have q1:(op==1)=false:=by simp;omega
     have q2:(op==2)=false:=by simp;omega
     have q3:(decide (op >=3) && decide (op <=7))=false:=by
      rcases hc with hc | hc
      ·rw [decide_eq_false (show ¬ op >=3 by omega)];rfl
      ·rw [decide_eq_false (show ¬ op <=7 by omega)];simp
     unfold Zc8;rw [q,q1,q2,q3];rfl)
theorem UL {e x:ZU} (h:x ∈ e.kids):Part.ex x ∈ Yo (.ex e):=List.mem_map_of_mem h
theorem Za8 {t:Term} {x:ZU} (h:x ∈ t.args):Part.ex x ∈ Yo (.pr t):=List.mem_append_left _ (List.mem_append_left _ (List.mem_map_of_mem h))
theorem X6 {t:Term} {x:Zg} (h:x ∈ t.defs):Part.cl x ∈ Yo (.pr t):=List.mem_append_left _ (List.mem_append_right _ (List.mem_map_of_mem h))
theorem WH {t x:Term} (h:x ∈ t.kids):Part.pr x ∈ Yo (.pr t):=List.mem_append_right _ (List.mem_map_of_mem h)
theorem XV {c x:Zg} (h:x ∈ c.defs):Part.cl x ∈ Yo (.cl c):=List.mem_append_left _ (List.mem_map_of_mem h)
theorem Zet {c:Zg} {x:Term} (h:x ∈ c.kids):Part.pr x ∈ Yo (.cl c):=List.mem_append_right _ (List.mem_map_of_mem h)
theorem Zpg (s:Bool×Nat×Nat) (h:s.2.2 <=1000000000):(some ((s.2.1:Int),Xm ((s.2.2:Int) + 1),s.1):Option (Int×Int×Bool))=some (out (ZeC s)):=by
 rw [JU (by omega)];rfl
theorem Zpq {F:Nat} (hF:10000000000000000000 <=F):∀ n e,Sm (.ex e) ->(pre (.ex e)).length <=n ->∀ Fr,n <=Fr ->loop Fr (ZdA F) e=some (out (R (.ex e))):=by
 intro n
 induction n with
 | zero=>intro e hs hn;have:=Q8 (.ex e);omega
 | succ n ih=>
   intro e hs hn Fr hFr;obtain⟨G,rfl⟩:∃ G,Fr=G + 1:= ⟨Fr - 1,by omega⟩
   rw [YE];have hl:=hs.loc;have hlen:=QH (.ex e);have hBB:=hs.1
   have j:∀ v:Nat,v= (if 3 <=e.op∧e.op <=7 then 2 else 0) ->(ZeG F e (loop G (ZdA F))) (v:Int)=some (out (R (.ex e))):=by
    intro v hv;unfold ZeG;rw [Znx hF hl.1,Bq0,ZAk e v hv,ZwQ];show _=some (out (bif Zc8 e then _ else _));cases hsh:Zc8 e
    ·rfl
    ·simp only [Bool.not_true,Cq0,Cq1]
     have:=Zgv (body:=ZeH e (loop G (ZdA F))) e.kids .ex (loop G (ZdA F)) (fun s=>some (out (ZeC s))) hl.2 (Nat.le_refl _) (fun x hx=>ih x (hs.kid (UL hx)) (by have:=Xk (UL hx);omega) G (by omega))
      (fun b n d i nx=>by simp only [ZeH,Z6,Cq0]) (fun s nx _ h2=>by simp only [ZeH,Z6,Cq0];exact Zpg s h2) hF (true,1,0) ⟨by show 1 + ((Yo (.ex e)).flatMap pre).length <=_;unfold BS at hBB;omega,Nat.zero_le _⟩ (fun x hx=>(hs.kid (UL hx)).1)
     show loop F (ZeH e (loop G (ZdA F))) (true,((1:Nat):Int),((0:Nat):Int),0)=_;rw [this];show some (out (ZeC ((e.kids.map fun x=>R (.ex x)).foldl Ua (true,1,0))))=some (out (ZeC (((e.kids.map .ex).map R).foldl Ua (true,1,0))));rw [List.map_map];rfl
   unfold ZdA;by_cases h:3 <=e.op∧e.op <=7
   ·rw [decide_eq_true (show e.op >=3 from h.1),decide_eq_true h.2];exact j 2 (by rw [if_pos h])
   ·have:(decide (e.op >=3) && decide (e.op <=7))=false:=by
     rw [Bool.eq_false_iff,Ne,Ba0,decide_eq_true_iff,decide_eq_true_iff];exact h
    rw [this];exact j 0 (by rw [if_neg h])
theorem Zqz (c:Zg) (x5:Bool) (h5:c.form=1 ->x5= (decide (0 < c.joins.length) && decide (c.joins.length <=3) && jW (fun _=>false) (fun _=>false) c.joins)∨((((((((c.form==1) || (c.form==2)) && nmW ((c.form==1) || (c.form==2)) (!(c.form==1)) c.text) && ((c.kids.length:Int)==1)) && (decide ((c.defs.length:Int) <=5))) && (!(!(c.form==1)))) && ((c.defs.length:Int)==0))=false)):
 (((((((c.form==1) || (c.form==2)) && nmW ((c.form==1) || (c.form==2)) (!(c.form==1)) c.text) && ((c.kids.length:Int)==1)) && (decide ((c.defs.length:Int) <=5))) && ((!(c.form==1)) || (((c.defs.length:Int)==0) && x5))) && ((c.form==1) || ((c.joins.length:Int)==0)))=Zca c:=by
 unfold Zca nmW;simp only [Zmq,Zmr,le5] at h5 ⊢;by_cases f1:c.form=1
 ·have h5:=h5 f1;rw [f1] at h5 ⊢;simp only [Int.reduceBEq,Bool.true_or,Bool.not_true,Bool.false_or,Cq1,Cq0,Bool.true_and,Bool.and_true,nmW,Bool.not_false] at h5 ⊢;rcases h5 with rfl | h5
  ·cases decide (c.text=E0) <;> cases c.kids.length==1 <;> cases hd:(c.defs.length==0) <;> simp
   intro _;have:c.defs.length=0:=by simpa using hd
   omega
  ·cases hk:(c.kids.length==1) <;> cases ht:decide (c.text=E0) <;> cases hd:(c.defs.length==0) <;> rw [hk,ht,hd] at h5 <;> simp at h5 ⊢
   have:c.defs.length=0:=by simpa using hd
   omega
 ·have e1:(c.form==1)=false:=by simpa using f1
  by_cases f2:c.form=2
  ·rw [f2];simp only [Int.reduceBEq,Bool.false_or,Bool.not_false,Bool.true_or,Cq1,Bool.true_and,Bool.and_true];cases Qv c.text <;> cases c.kids.length==1 <;> cases decide (c.defs.length <=5) <;> cases c.joins.length==0 <;> rfl
  ·have e2:(c.form==2)=false:=by simpa using f2
   rw [e1,e2];cases c.kids.length==1 <;> rfl
def ZaM (op:Int):Int×Int×Int:=
 bif op==2 then(-1,0,0) else bif op==3 then(0,2,0) else bif op==4 then(0,1,-1) else bif op==5 then(1,2,0) else bif(op==6) || (op==8) then(0,1,0) else(0,0,0)
theorem ZuW (t:Term):((((((decide (t.op >=1)) && (decide (t.op <=8))) && nmW ((decide (t.op >=1)) && (decide (t.op <=8))) (((t.op==2) || (t.op==6)) || (t.op==8)) t.text) && ((t.kids.length:Int)== (ZaM t.op).2.1)) && (((decide ((ZaM t.op).1 < 0)) && (decide ((t.args.length:Int) <=3))) || ((t.args.length:Int)== (ZaM t.op).1))) && ((((decide ((ZaM t.op).2.2 < 0)) && (decide ((t.defs.length:Int) > 0))) && (decide ((t.defs.length:Int) <=5))) || ((t.defs.length:Int)== (ZaM t.op).2.2)))=Zel t:=by
 have hc:t.op=1∨t.op=2∨t.op=3∨t.op=4∨t.op=5∨t.op=6∨t.op=7∨t.op=8∨t.op < 1∨8 < t.op:=by omega
 unfold Zel szs nmW;rcases hc with h | h | h | h | h | h | h | h | h
 case inr.inr.inr.inr.inr.inr.inr.inr=>
  have q:(decide (t.op >=1) && decide (t.op <=8))=false:=by
   rcases h with h | h
   ·rw [decide_eq_false (show ¬ t.op >=1 by omega)];rfl
   ·rw [decide_eq_false (show ¬ t.op <=8 by omega)];simp
  have e1:(t.op==1)=false:=by simp;omega
  have e2:(t.op==2)=false:=by simp;omega
  have e3:(t.op==3)=false:=by simp;omega
  have e4:(t.op==4)=false:=by simp;omega
  have e5:(t.op==5)=false:=by simp;omega
  have e6:(t.op==6)=false:=by simp;omega
  have e7:(t.op==7)=false:=by simp;omega
  have e8:(t.op==8)=false:=by simp;omega
  rw [q,e1,e2,e3,e4,e5,e6,e7,e8];rfl
 all_goals
  rw [h];simp only [ZaM,Int.reduceBEq,Cq1,Cq0,Bool.true_or,Bool.or_true,Bool.false_or,Bool.or_false,ge_iff_le,Int.reduceLE,Int.reduceLT,decide_true,decide_false,Bool.true_and,Bool.false_and,Bool.and_true,Zmr,Zmq,ZtZ,Zwx,le3,le5,gt0,beq_self_eq_true,Int.reduceNeg]
  ac_rfl
theorem ZpI {α:Type} (c:α ->Part) (l:List α):(l.map fun x=>R (c x))= (l.map c).map R:=by rw [List.map_map];rfl
theorem Zq9 (F:Nat) (t:Term) (nx:Term ->Option (Int×Int×Bool)):Zg5 F t nx= (Ku F t nx) (ZaM t.op):=by
 unfold Zg5 Zg6 ZaM;cases t.op==2 <;> cases t.op==3 <;> cases t.op==4 <;> cases t.op==5 <;> cases t.op==6 <;> cases t.op==8 <;> rfl
def CT (F n:Nat):Prop:=∀ t,Sm (.pr t) ->(pre (.pr t)).length <=n ->∀ Fr,n <=Fr ->loop Fr (Zg5 F) t=some (out (R (.pr t)))
def CC (F n:Nat):Prop:=∀ c next,Sm (.cl c) ->(pre (.cl c)).length <=n ->(∀ t,Part.pr t ∈ pre (.cl c) ->next t=some (out (R (.pr t)))) ->∀ Fr,n <=Fr ->loop Fr (ZcN F next) c=some (out (R (.cl c)))
def c0W (c:Zg):Bool:= ((((((((c.form==1) || (c.form==2)) && nmW ((c.form==1) || (c.form==2)) (!(c.form==1)) c.text) && ((c.kids.length:Int)==1)) && (decide ((c.defs.length:Int) <=5))) && (!(!(c.form==1)))) && ((c.defs.length:Int)==0)))
theorem ZwW {F n:Nat} (hF:10000000000000000000 <=F) (ih:CC F n):CC F (n + 1):=by
 intro c next hs hn hnext Fr hFr;obtain⟨G,rfl⟩:∃ G,Fr=G + 1:= ⟨Fr - 1,by omega⟩
 rw [YE];obtain⟨l1,l2,l3,l4,l5⟩:=hs.loc;have hlen:=QH (.cl c);have hBB:=hs.1;have hih:∀ x ∈ c.defs,loop G (ZcN F next) x=some (out (R (.cl x))):=fun x hx=>ih x next (hs.kid (XV hx)) (by have:=Xk (XV hx);omega) (fun t ht=>hnext t (YW (XV hx) ht)) G (by omega)
 generalize loop G (ZcN F next)=K3 at hih;unfold ZcN;rw [Znx hF l1,Bq0,Zqe hF c.joins l2 l5];have hgd:∀ (b:Bool) (x:Bool),gd b (some x) default=some (b && x):=fun b x=>by cases b <;> rfl
 rw [hgd,Bq0]
 have h5:=Zqz c (c0W c && (decide (0 < c.joins.length) && decide (c.joins.length <=3) && jW (fun _=>false) (fun _=>false) c.joins)) (fun _=>by
  cases hc:c0W c
  ·exact .inr hc
  ·exact .inl rfl)
 unfold c0W at h5;rw [h5,ZwQ];show _=some (out (bif Zca c then _ else _));cases hsh:Zca c
 ·rfl
 ·simp only [Bool.not_true,Cq0,Cq1]
  obtain⟨k0,hk0⟩:∃ k0,c.kids= [k0]:=by
   unfold Zca at hsh;rw [Ba0] at hsh;have:=hsh.1;rw [beq_iff_eq] at this
   match hk:c.kids,this with
   | [k0],_=>exact⟨k0,rfl⟩
  have ZGK:Part.pr k0 ∈ Yo (.cl c):=Zet (by rw [hk0];simp);have hkp:Yo (.cl c)=c.defs.map .cl ++ [.pr k0]:=by show c.defs.map Part.cl ++ c.kids.map Part.pr=_;rw [hk0];rfl
  have hfl:(pre (.cl c)).length= ((c.defs.map Part.cl).flatMap pre).length + (pre (.pr k0)).length + 1:=by rw [hlen,hkp,List.flatMap_append];simp
  obtain⟨_,_,r1,r2⟩:=ZiQ (.pr k0)
  have:=Zgv (body:=Zb0 c next K3) c.defs .cl K3 (fun s=>some (out (ZeC (Ua s (R (.pr k0)))))) l3 (B0:=1 + ((c.defs.map Part.cl).flatMap pre).length) (by unfold BS at hBB;omega)
   hih
   (fun b n d i nx=>by simp only [Zb0,Z6,Cq0])
   (fun s nx h1 h2=>by
     simp only [Zb0,Z6,Cq0];have hg0:YB c.kids 0=some k0:=by rw [hk0];rfl
     rw [hg0,Bq0,hnext k0 (YW ZGK (X4 _)),Bq0];unfold BS at hBB;show some (Xm ((s.2.1:Int) + ((R (.pr k0)).1:Int)),Xm ((if((R (.pr k0)).2.1:Int) > (s.2.2:Int) then((R (.pr k0)).2.1:Int) else(s.2.2:Int)) + 1),(s.1 && (R (.pr k0)).2.2))=_;rw [Zra (by omega),Zjv,JU (by omega)];rfl)
   hF (true,1,0) ⟨Nat.le_refl _,Nat.zero_le _⟩ (fun x hx=>(hs.kid (XV hx)).1)
  show loop F (Zb0 c next K3) (true,((1:Nat):Int),((0:Nat):Int),0)=_;rw [this,hkp,List.map_append,List.foldl_append,ZpI];rfl
theorem ZwV {F n:Nat} (hF:10000000000000000000 <=F) (hnF:n <=F) (ih:CT F n) (ihc:CC F n):CT F (n + 1):=by
 intro t hs hn Fr hFr;obtain⟨G,rfl⟩:∃ G,Fr=G + 1:= ⟨Fr - 1,by omega⟩
 rw [YE,Zq9];obtain⟨l1,l2,l3,l4⟩:=hs.loc;have hlen:=QH (.pr t);have hBB:=hs.1;have hkp:Yo (.pr t)=t.args.map .ex ++ t.defs.map .cl ++ t.kids.map .pr:=rfl;have hfl:(pre (.pr t)).length= ((t.args.map Part.ex).flatMap pre).length + ((t.defs.map Part.cl).flatMap pre).length + ((t.kids.map Part.pr).flatMap pre).length + 1:=by rw [hlen,hkp,List.flatMap_append,List.flatMap_append,List.length_append,List.length_append]
 unfold Ku;dsimp only;rw [Znx hF l1,Bq0];rw [ZuW t,ZwQ];show _=some (out (bif Zel t then _ else _));cases hsh:Zel t
 ·rfl
 ·simp only [Bool.not_true,Cq0,Cq1];generalize hnx:loop G (Zg5 F)=next;have hnext:∀ x,Part.pr x ∈ pre (.pr t) ->(pre (.pr x)).length <=n ->next x=some (out (R (.pr x))):=fun x hx hl=>by rw [← hnx];exact ih x (hs.mem hx) hl G (by omega)
  unfold BS at hBB
  have hk:∀ s:Bool×Nat×Nat,s.2.1 + ((t.kids.map Part.pr).flatMap pre).length <=1000000000 ->s.2.2 <=1000000000 ->loop F (ZeJ t next) (s.1,(s.2.1:Int),(s.2.2:Int),0)=some (out (ZeC (((t.kids.map .pr).map R).foldl Ua s))):=by
   intro s h1 h2
   have:=Zgv (body:=ZeJ t next) t.kids .pr next (fun s=>some (out (ZeC s))) l4 (Nat.le_refl _) (fun x hx=>hnext x (YW (WH hx) (X4 _)) (by have:=Xk (WH hx);omega))
    (fun b n d i nx=>by simp only [ZeJ,Z6,Cq0]) (fun s nx _ h2=>by simp only [ZeJ,Z6,Cq0];exact Zpg s h2) hF s ⟨h1,h2⟩ (fun x hx=>(hs.kid (WH hx)).1)
   rw [this,ZpI]
  have hd:∀ s:Bool×Nat×Nat,s.2.1 + ((t.defs.map Part.cl).flatMap pre).length + ((t.kids.map Part.pr).flatMap pre).length <=1000000000 ->s.2.2 <=1000000000 ->loop F (ZeK F t next) (s.1,(s.2.1:Int),(s.2.2:Int),0)=some (out (ZeC (((t.kids.map .pr).map R).foldl Ua (((t.defs.map .cl).map R).foldl Ua s)))):=by
   intro s h1 h2
   have:=Zgv (body:=ZeK F t next) t.defs .cl (fun x=>ZtH F next x) (fun s=>some (out (ZeC (((t.kids.map .pr).map R).foldl Ua s)))) l3 (B0:=s.2.1 + ((t.defs.map Part.cl).flatMap pre).length) (by omega)
    (fun x hx=>ihc x next (hs.kid (X6 hx)) (by have:=Xk (X6 hx);omega) (fun y hy=>hnext y (YW (X6 hx) hy) (by have:=UK hy;have:=Xk (X6 hx);omega)) F hnF)
    (fun b n d i nx=>by simp only [ZeK,Z6,Cq0]) (fun s' nx h3 h4=>by simp only [ZeK,Z6,Cq0];exact hk s' (by omega) h4) hF s ⟨Nat.le_refl _,h2⟩ (fun x hx=>(hs.kid (X6 hx)).1)
   rw [this,ZpI]
  have:=Zgv (body:=ZeL F t next) t.args .ex (fun x=>Zqp F x) (fun s=>some (out (ZeC (((t.kids.map .pr).map R).foldl Ua (((t.defs.map .cl).map R).foldl Ua s))))) l2 (B0:=1 + ((t.args.map Part.ex).flatMap pre).length) (by omega)
   (fun x hx=>Zpq hF _ x (hs.kid (Za8 hx)) (Nat.le_refl _) F (by have:= (hs.kid (Za8 hx)).1;unfold BS at this;omega))
   (fun b n d i nx=>by simp only [ZeL,Z6,Cq0]) (fun s' nx h3 h4=>by simp only [ZeL,Z6,Cq0];exact hd s' (by omega) h4) hF (true,1,0) ⟨Nat.le_refl _,Nat.zero_le _⟩ (fun x hx=>(hs.kid (Za8 hx)).1)
  show loop F (ZeL F t next) (true,((1:Nat):Int),((0:Nat):Int),0)=_;rw [this,hkp,List.map_append,List.map_append,List.foldl_append,List.foldl_append,ZpI]
theorem CTC {F:Nat} (hF:10000000000000000000 <=F):∀ n,n <=F ->CT F n∧CC F n:=by
 intro n
 induction n with
 | zero=>intro _;exact⟨fun t hs hn=>by have:=Q8 (.pr t);omega,fun c nx hs hn=>by have:=Q8 (.cl c);omega⟩
 | succ n ih=>intro hn;obtain⟨a,b⟩:=ih (by omega);exact⟨ZwV hF (by omega) a b,ZwW hF b⟩
theorem Zf1 {F:Nat} (hF:10000000000000000000 <=F) (t:Term) (hs:Sm (.pr t)):ZlZ F t=some (out (R (.pr t))):=
 (CTC hF _ (by have:=hs.1;unfold BS at this;omega)).1 t hs (Nat.le_refl _) F (by have:=hs.1;unfold BS at this;omega)
theorem ZHD {α:Type} {b:Nat} {l:List α} {x:α} (h:l.length <=4000000) (hb:b <=1000):app b l [x]=some (l ++ [x]):=by
 refine Zt8 ?_;have:(2 * (l.length + [x].length) + 1000) * b <=8001002 * 1000:=Nat.mul_le_mul (by simp;omega) hb;have e:(2:Nat) ^ 47=140737488355328:=by decide
 rw [e];omega
theorem Zdo {α γ:Type} {body:List γ×Int ->(List γ×Int ->Option (List γ)) ->Option (List γ)} (l:List α) (c:α ->γ) (fin:List γ ->Option (List γ)) (hl:l.length <=BS) (b:Nat) (hb:b <=1000)
 (h:∀ s (k:Int) nx,body (s,k) nx=bif decide (k < (l.length:Int)) then(YB l k).bind fun x=>(app b s [c x]).bind fun z=>nx (z,Xm (k + 1)) else fin s) {F:Nat} (hF:10000000000000000000 <=F) (s:List γ) (hs:s.length <=2500000):loop F body (s,0)=fin (s ++ l.map c):=by
 unfold BS at hl;refine Yz (fun(k:Nat) (s:List γ)=>(s,(k:Int))) l (fun rest s=>s.length + rest.length <=3600000) (fun rest s=>fin (s ++ rest.map c)) ?_ ?_ (by omega) s (by omega)
 ·intro s nx _;rw [h,Z6,Cq0];simp
 ·intro k x rest s nx hx hk hg hp ih;have hp':s.length + rest.length + 1 <=3600000:=by have:=hp;simp only [List.length_cons] at this;omega
  show body (s,(k:Int)) nx=_;rw [h,YD hk,Cq1,hg,Bq0,ZHD (by omega) hb,Bq0,JU (by omega),ih _ (by simp;omega)];simp
theorem ZiN {F:Nat} (hF:10000000000000000000 <=F) (s:List Part) (hs:s.length <=2500000) (l:List Zg) (hl:l.length <=BS):Ziy F s l=some (s ++ l.map .cl):=
 Zdo (body:=ZjV l) l .cl some hl 16 (by omega) (fun s k nx=>rfl) hF s hs
theorem Zms {F:Nat} (hF:10000000000000000000 <=F) (s:List Part) (hs:s.length <=2500000) (l:List Term) (hl:l.length <=BS):Ziz F s l=some (s ++ l.map .pr):=
 Zdo (body:=ZjW l) l .pr some hl 16 (by omega) (fun s k nx=>rfl) hF s hs
theorem parts_eq {F:Nat} (hF:10000000000000000000 <=F) (p:Part) (h:(Yo p).length <=BS):Za7 F p=some (Yo p):=by
 unfold Za7;cases p with
 | pr t=>
   simp only [Yo,List.length_append,List.length_map] at h;have l2:t.args.length <=BS:=by omega
   have l3:t.defs.length <=BS:=by omega
   have l4:t.kids.length <=BS:=by omega
   have e1:=ZiN hF (t.args.map Part.ex) (by unfold BS at l2;simp;omega) t.defs l3;have e2:=Zms hF (t.args.map Part.ex ++ t.defs.map Part.cl) (by unfold BS at l2 l3;simp;omega) t.kids l4;have:=Zdo (body:=ZjX F ⟨t⟩) t.args .ex (fun s=>(Ziy F s t.defs).bind fun x=>(Ziz F x t.kids).bind fun y=>some y) l2 16 (by omega) (fun s k nx=>rfl) hF [] (by simp);show Zl1 F ⟨t⟩=_;unfold Zl1;rw [this,List.nil_append,e1,Bq0,e2];rfl
 | ex e=>
   exact Zdo (body:=ZjU ⟨e⟩) e.kids .ex some (by simpa [Yo] using h) 16 (by omega) (fun s k nx=>rfl) hF [] (by simp)
 | cl c=>
   simp only [Yo,List.length_append,List.length_map] at h;have l3:c.defs.length <=BS:=by omega
   have l4:c.kids.length <=BS:=by omega
   have e1:=ZiN hF [] (by simp) c.defs l3;have e2:=Zms hF ([] ++ c.defs.map Part.cl) (by unfold BS at l3;simp;omega) c.kids l4;show Zl0 F ⟨c⟩=_;unfold Zl0;rw [e1,Bq0,e2];rfl
theorem Zjx {p:Part} (hs:Sm p):(Yo p).length <=BS:=by have:=Zlg p;have:=hs.1;omega
theorem Zrn {p:Part} (h:shp p=true) (hl:Loc p):(Yo p).length <=100:=by
 cases p with
 | pr t=>
   have h:Zel t=true:=h;have e:(Yo (.pr t)).length=t.args.length + t.defs.length + t.kids.length:=by simp [Yo,Nat.add_assoc]
   rw [e];unfold Zel at h;rw [Ba0] at h;replace h:=h.1
   have sz:∀ {a d k:Nat},szs t a d k=true ->t.args.length=a∧t.defs.length=d∧t.kids.length=k:=fun h=>by
    unfold szs at h;simp only [Ba0,beq_iff_eq] at h;exact⟨h.1.1,h.1.2,h.2⟩
   cases c1:(t.op==1 || t.op==7) <;> rw [c1] at h
   case true=>have:=sz h;omega
   cases c2:t.op==2 <;> rw [c2] at h
   case true=>simp only [Cq1,Cq0,Ba0,decide_eq_true_eq] at h;have:=sz h.2;omega
   cases c3:t.op==3 <;> rw [c3] at h
   case true=>have:=sz h;omega
   cases c4:t.op==4 <;> rw [c4] at h
   case true=>simp only [Cq1,Cq0,Ba0,decide_eq_true_eq] at h;have:=sz h.2;omega
   cases c5:t.op==5 <;> rw [c5] at h
   case true=>have:=sz h;omega
   simp only [Cq0,Ba0] at h;have:=sz h.2;omega
 | ex e=>
   have h:Zc8 e=true:=h;have el:(Yo (.ex e)).length=e.kids.length:=by simp [Yo]
   rw [el];unfold Zc8 at h;cases c1:e.op==1 <;> rw [c1] at h
   case true=>simp only [Cq1,Ba0,beq_iff_eq] at h;omega
   cases c2:e.op==2 <;> rw [c2] at h
   case true=>simp only [Cq1,Cq0,Ba0,beq_iff_eq] at h;omega
   simp only [Cq0,Ba0,beq_iff_eq] at h;omega
 | cl c=>
   have h:Zca c=true:=h;have el:(Yo (.cl c)).length=c.defs.length + c.kids.length:=by simp [Yo]
   rw [el];unfold Zca at h;rw [Ba0,beq_iff_eq] at h;obtain⟨h1,h⟩:=h;cases c1:c.form==2 <;> rw [c1] at h
   ·simp only [Cq0,Ba0,beq_iff_eq,decide_eq_true_eq] at h;omega
   ·simp only [Cq1,Ba0,beq_iff_eq,decide_eq_true_eq] at h;omega
theorem Zpw {F:Nat} (hF:10000000000000000000 <=F):∀ n p,Sm p ->(pre p).length <=n ->∀ Fr,n <=Fr ->loop Fr (Zg3 F) p=some (dep p:Int):=by
 intro n
 induction n with
 | zero=>intro p hs hn;have:=Q8 p;omega
 | succ n ih=>
   intro p hs hn Fr hFr;obtain⟨G,rfl⟩:∃ G,Fr=G + 1:= ⟨Fr - 1,by omega⟩
   rw [YE];have hK:=Zjx hs;have hih:∀ k ∈ Yo p,loop G (Zg3 F) k=some (dep k:Int):=fun k hk=>ih k (hs.kid hk) (by have:=Xk hk;omega) G (by omega)
   generalize loop G (Zg3 F)=K3 at hih;unfold Zg3;rw [parts_eq hF p hK,Bq0];unfold BS at hK;have:=Yz (body:=Zg4 K3 (Yo p)) (fun(k:Nat) (s:Nat)=>((s:Int),(k:Int))) (Yo p) (fun _ s=>s <=BS) (fun rest s=>some (((max s (Zdk (rest.map dep)) + 1:Nat)):Int)) (F:=F) ?_ ?_ (by omega) 0 (Nat.zero_le _)
   ·rw [Zn0];rw [Nat.zero_max] at this;exact this
   ·intro s nx hs';unfold BS at hs';simp only [Zg4,Z6,Cq0];rw [JU (by omega)];simp [Zdk]
   ·intro k x rest s nx hx hk hg hs' ih;unfold BS at hs';simp only [Zg4,YD hk,Cq1,hg,Bq0,hih x hx];rw [Zjv,JU (by omega)];have hd:=ZAt x;have hx2:= (hs.kid hx).1;have:=ih (max s (dep x)) (by unfold BS at hx2 ⊢;omega);rw [this,List.map_cons,ZbT,Nat.max_assoc]
def V1 (m:Nat) (l:List Part):PR (Bool×Int):=bif decide (m + l.length <=60) && l.all shp then .ok (true,((m + l.length:Nat):Int)) else .Yn 2
theorem ZF8 (n:Nat):decide ((n:Int) <=60)=decide (n <=60):=by
 by_cases z:n <=60
 ·rw [decide_eq_true z,decide_eq_true (by omega)]
 ·rw [decide_eq_false z,decide_eq_false (by omega)]
theorem ZBM {F:Nat} (hF:10000000000000000000 <=F):∀ n p,Lo p ->(pre p).length <=n ->∀ Fr,n <=Fr ->∀ m:Nat,m <=60 ->loop Fr (Zbn F) (p,(m:Int))=some (V1 m (pre p)):=by
 intro n
 induction n with
 | zero=>intro p hs hn;have:=Q8 p;omega
 | succ n ih=>
   intro p hs hn Fr hFr m hm;obtain⟨G,rfl⟩:∃ G,Fr=G + 1:= ⟨Fr - 1,by omega⟩
   rw [YE];have hih:∀ k ∈ Yo p,∀ m:Nat,m <=60 ->loop G (Zbn F) (k,(m:Int))=some (V1 m (pre k)):=fun k hk=>ih k (hs.kid hk) (by have:=Xk hk;omega) G (by omega)
   generalize loop G (Zbn F)=K3 at hih;unfold Zbn;dsimp only;rw [JU (by omega),ZF8,Q6,Bq0,Zde,Zro hF p hs.loc,Bq0,Zde];by_cases h60:m + 1 <=60
   ·rw [decide_eq_true h60,Cq1];cases hsh:shp p
    ·show some (PR.Yn 2)=_;rw [pre_eq];unfold V1;simp [hsh]
    ·simp only [Cq1,Bool.not_true,Cq0];have hK:=Zrn hsh hs.loc;rw [parts_eq hF p (by unfold BS;omega),Bq0];have:=Yz (body:=Zg1 K3 (Yo p)) (fun(k:Nat) (s:Nat)=>((k:Int),(s:Int))) (Yo p) (fun _ s=>s <=60) (fun rest s=>some (V1 s (rest.flatMap pre))) (F:=F) ?_ ?_ (by omega) (m + 1) h60
     ·have e:V1 (m + 1) ((Yo p).flatMap pre)=V1 m (pre p):=by
       rw [pre_eq p];unfold V1;simp only [List.length_cons,List.all_cons,hsh,Bool.true_and];rw [show m + 1 + ((Yo p).flatMap pre).length=m + (((Yo p).flatMap pre).length + 1) by omega]
      rw [← e];exact this
     ·intro s nx hs';simp only [Zg1,Z6,Cq0];unfold V1;rw [decide_eq_true (show s + (([]:List Part).flatMap pre).length <=60 by simpa using hs')];simp
     ·intro k x rest s nx hx hk hg hs' ih;simp only [Zg1,YD hk,Cq1,hg,Bq0,hih x hx s hs'];rw [JU (by omega),List.flatMap_cons];by_cases hb:s + (pre x).length <=60
      ·cases ha:(pre x).all shp
       ·have e1:V1 s (pre x)= .Yn 2:=by unfold V1;rw [ha,Bool.and_false];rfl
        have e2:V1 s (pre x ++ rest.flatMap pre)= .Yn 2:=by unfold V1;rw [List.all_append,ha,Bool.false_and,Bool.and_false];rfl
        rw [e1,e2,ZoL]
       ·have e1:V1 s (pre x)= .ok (true,((s + (pre x).length:Nat):Int)):=by unfold V1;rw [ha,decide_eq_true hb];rfl
        rw [e1];show nx (((k + 1:Nat):Int),((s + (pre x).length:Nat):Int))=_;rw [ih (s + (pre x).length) hb];unfold V1;rw [List.all_append,ha,List.length_append,Bool.true_and,Nat.add_assoc]
      ·have e1:V1 s (pre x)= .Yn 2:=by unfold V1;rw [decide_eq_false hb];rfl
       have e2:V1 s (pre x ++ rest.flatMap pre)= .Yn 2:=by unfold V1;rw [List.length_append,decide_eq_false (by omega)];rfl
       rw [e1,e2,ZoL]
   ·rw [decide_eq_false h60,Cq0,pre_eq];unfold V1;rw [List.length_cons,decide_eq_false (by omega)];rfl
def Ju (A:List Zg ->Bool):Part ->Bool
 | .pr t=>!(t.op==4) || A t.defs
 | _=>true
theorem ZBL {F:Nat} (hF:10000000000000000000 <=F) (A:List Zg ->Bool):∀ n p,Sm p ->(∀ t,Part.pr t ∈ pre p ->t.op=4 ->Zbo F t.defs=some (bif A t.defs then .ok () else .Yn 2)) ->(pre p).length <=n ->∀ Fr,n <=Fr ->loop Fr (ZcI F) p=some (bif(pre p).all (Ju A) then .ok true else .Yn 2):=by
 intro n
 induction n with
 | zero=>intro p hs hA hn;have:=Q8 p;omega
 | succ n ih=>
   intro p hs hA hn Fr hFr;obtain⟨G,rfl⟩:∃ G,Fr=G + 1:= ⟨Fr - 1,by omega⟩
   rw [YE];have hK:=Zjx hs;have hih:∀ k ∈ Yo p,loop G (ZcI F) k=some (bif(pre k).all (Ju A) then .ok true else .Yn 2):=fun k hk=>ih k (hs.kid hk) (fun t ht=>hA t (YW hk ht)) (by have:=Xk hk;omega) G (by omega)
   generalize loop G (ZcI F)=K3 at hih
   have j2:(WQ F p K3) ()=some (bif((Yo p).flatMap pre).all (Ju A) then .ok true else .Yn 2):=by
    unfold WQ;simp only [Bool.not_true,Cq0];rw [parts_eq hF p hK,Bq0];unfold BS at hK;refine Yz (body:=Zg2 K3 (Yo p)) (fun(k:Nat) (_:Unit)=>(k:Int)) (Yo p) (fun _ _=>True) (fun rest _=>some (bif(rest.flatMap pre).all (Ju A) then .ok true else .Yn 2)) (F:=F) ?_ ?_ (by omega) () trivial
    ·intro s nx _;simp only [Zg2,Z6,Cq0];rfl
    ·intro k x rest s nx hx hk hg _ ih;simp only [Zg2,YD hk,Cq1,hg,Bq0,hih x hx];rw [JU (by omega),List.flatMap_cons,List.all_append];cases (pre x).all (Ju A)
     ·rfl
     ·exact ih () trivial
   rw [pre_eq p,List.all_cons];unfold ZcI;cases p with
   | pr t=>
     show(bif(true && (t.op==4)) then _ else _)=_;rw [Bool.true_and];by_cases h4:t.op=4
     ·rw [hA t (X4 _) h4,h4];simp only [Int.reduceBEq,Cq1,Bq0,Ju,h4,Bool.not_true,Bool.false_or];cases A t.defs
      ·rfl
      ·show(WQ F (.pr t) K3) ()=_;rw [j2];rfl
     ·have:(t.op==4)=false:=by simpa using h4
      simp only [this,Cq0,Ju,Bool.not_false,Bool.true_or,Bool.true_and];exact j2
   | ex e=>exact j2
   | cl c=>exact j2
def Jc (A:List Zg ->Bool) (p:Part):Bool:=decide ((pre p).length <=60) && (pre p).all shp && decide (dep p <=12) && (pre p).all (Ju A)
theorem ZGb (n:Nat):decide ((n:Int) <=12)=decide (n <=12):=by
 by_cases z:n <=12
 ·rw [decide_eq_true z,decide_eq_true (by omega)]
 ·rw [decide_eq_false z,decide_eq_false (by omega)]
theorem Zix {F:Nat} (hF:10000000000000000000 <=F) (A:List Zg ->Bool) (p:Part) (hs:Lo p) (hFp:(pre p).length <=F) (hA:(pre p).length <=60 ->(pre p).all shp=true ->∀ t,Part.pr t ∈ pre p ->t.op=4 ->Zbo F t.defs=some (bif A t.defs then .ok () else .Yn 2)):Zqq F p=some (bif Jc A p then .ok () else .Yn 2):=by
 unfold Zqq Jc;have h1:=ZBM hF _ p hs (Nat.le_refl _) F (by omega) 0 (by omega);have h1':loop F (Zbn F) (p,0)=some (V1 0 (pre p)):=h1;rw [h1',Bq0];unfold V1;rw [Nat.zero_add];by_cases hl:(pre p).length <=60
 ·cases ha:(pre p).all shp
  ·rw [Bool.and_false];simp [Ut]
  ·rw [decide_eq_true hl];have hs:Sm p:= ⟨by unfold BS;omega,hs⟩
   show(Zg0 F p) ((pre p).length:Int)=_;unfold Zg0;rw [show ZnL F p=some (dep p:Int) from Zpw hF _ p hs (Nat.le_refl _) F (by omega),Bq0,ZGb,Q6,Bq0,Zde,ZBL hF A _ p hs (hA hl ha) (Nat.le_refl _) F (by omega),Bq0];cases decide (dep p <=12) <;> cases (pre p).all (Ju A) <;> rfl
 ·rw [decide_eq_false hl];simp [Ut]
theorem Zn6 {F:Nat} (hF:10000000000000000000 <=F) (A:List Zg ->Bool) (t:Term) (hs:Lo (.pr t)) (hFp:(pre (.pr t)).length <=F) (hA:(pre (.pr t)).length <=60 ->(pre (.pr t)).all shp=true ->∀ x,Part.pr x ∈ pre (.pr t) ->x.op=4 ->Zbo F x.defs=some (bif A x.defs then .ok () else .Yn 2)):ZjT F t=some (bif Jc A (.pr t) then 0 else 2):=by
 unfold ZjT;rw [Zix hF A _ hs hFp hA,Bq0];cases Jc A (.pr t) <;> rfl
theorem Zh2 {F:Nat} (hF:10000000000000000000 <=F) (A:List Zg ->Bool) (e:ZU) (hs:Lo (.ex e)) (hFp:(pre (.ex e)).length <=F) (hA:(pre (.ex e)).length <=60 ->(pre (.ex e)).all shp=true ->∀ x,Part.pr x ∈ pre (.ex e) ->x.op=4 ->Zbo F x.defs=some (bif A x.defs then .ok () else .Yn 2)):ZnO F e=some (bif Jc A (.ex e) then 0 else 2):=by
 unfold ZnO;rw [Zix hF A _ hs hFp hA,Bq0];cases Jc A (.ex e) <;> rfl
theorem count_eq {F:Nat} (hF:10000000000000000000 <=F):∀ n p,Sm p ->(pre p).length <=n ->∀ Fr,n <=Fr ->∀ m:Nat,m + (pre p).length <=1000000000 ->loop Fr (Zah F) (p,(m:Int))=some (true,((m + (pre p).length:Nat):Int)):=by
 intro n
 induction n with
 | zero=>intro p hs hn;have:=Q8 p;omega
 | succ n ih=>
   intro p hs hn Fr hFr m hm;obtain⟨G,rfl⟩:∃ G,Fr=G + 1:= ⟨Fr - 1,by omega⟩
   rw [YE];have hK:=Zjx hs;have hlen:=QH p;have hih:∀ k ∈ Yo p,∀ m:Nat,m + (pre k).length <=1000000000 ->loop G (Zah F) (k,(m:Int))=some (true,((m + (pre k).length:Nat):Int)):=fun k hk=>ih k (hs.kid hk) (by have:=Xk hk;omega) G (by omega)
   generalize loop G (Zah F)=K3 at hih;unfold Zah;simp only [Bool.not_true,Cq0];rw [JU (by omega),parts_eq hF p hK,Bq0];unfold BS at hK;have:=Yz (body:=Zg9 K3 (Yo p)) (fun(k:Nat) (s:Nat)=>((k:Int),(s:Int))) (Yo p) (fun rest s=>s + (rest.flatMap pre).length <=1000000000) (fun rest s=>some (true,((s + (rest.flatMap pre).length:Nat):Int))) (F:=F) ?_ ?_ (by omega) (m + 1) (by omega)
   ·rw [show m + (pre p).length=m + 1 + ((Yo p).flatMap pre).length by omega];exact this
   ·intro s nx hs';simp only [Zg9,Z6,Cq0];simp
   ·intro k x rest s nx hx hk hg hs' ih;simp only [List.flatMap_cons,List.length_append] at hs';simp only [Zg9,YD hk,Cq1,hg,Bq0,hih x hx s (by omega),Bool.not_true,Cq0];rw [JU (by omega)];have:=ih (s + (pre x).length) (by omega);rw [this,List.flatMap_cons,List.length_append,Nat.add_assoc]
def JE:Option Nat ->Int
 | some a=>a
 | none=>-1
def dec (o:Option Nat) (n:Nat):Option Nat:=match o with
 | some a=>if n <=a then some (a - n) else none
 | none=>none
theorem ZtO (o:Option Nat):dec o 0=o:=by cases o <;> simp [dec]
theorem Zak (o:Option Nat) (a b:Nat):dec (dec o a) b=dec o (a + b):=by
 cases o with
 | none=>rfl
 | some x=>
   show dec (if a <=x then some (x - a) else none) b= (if a + b <=x then some (x - (a + b)) else none);by_cases h:a <=x
   ·rw [if_pos h];show(if b <=x - a then some (x - a - b) else none)=_;by_cases h2:b <=x - a
    ·rw [if_pos h2,if_pos (by omega),Nat.sub_sub]
    ·rw [if_neg h2,if_neg (by omega)]
   ·rw [if_neg h,if_neg (by omega)];rfl
theorem ZoN (o:Option Nat):decide (JE o >=0)=o.isSome:=by
 cases o with
 | none=>rfl
 | some a=>exact decide_eq_true (by show(a:Int) >=0;omega)
theorem ZAu (a:Nat) (h:a <=1000):Xm ((a:Int) - 1)=JE (dec (some a) 1):=by
 by_cases h0:1 <=a
 ·rw [ZfZ (by omega) (by omega)];simp only [dec,if_pos h0,JE];omega
 ·obtain rfl:a=0:=by omega
  rw [ZfZ (by omega) (by omega)];rfl
theorem ZcP {o:Option Nat} {n a:Nat} (h:dec o n=some a) {b:Nat} (hb:∀ x,o=some x ->x <=b):a <=b:=by
 cases o with
 | none=>cases h
 | some x=>
   have h':(if n <=x then some (x - n) else none)=some a:=h;have:=hb x rfl;by_cases hn:n <=x
   ·rw [if_pos hn] at h';cases h';omega
   ·rw [if_neg hn] at h';cases h'
theorem KJ {α β:Type} {body:Int×Int ->(Int×Int ->Option β) ->Option β} (l:List α) (c:α ->Part) (g:α ->Int ->Option Int) (fin:Option Nat ->Option β) (hl:l.length <=BB)
 (hg:∀ x ∈ l,∀ a:Nat,a <=1000 ->g x (a:Int)=some (JE (dec (some a) (pre (c x)).length)))
 (hb:∀ (i v:Int) nx,body (i,v) nx=bif(decide (i < (l.length:Int)) && decide (v >=0)) then(YB l i).bind fun x=>(g x v).bind fun y=>nx (Xm (i + 1),y) else body ((l.length:Int),v) nx)
 (he:∀ o nx,body ((l.length:Int),JE o) nx=fin o) {F:Nat} (hF:10000000000000000000 <=F) (o:Option Nat) (ho:∀ x,o=some x ->x <=1000):loop F body (0,JE o)=fin (dec o ((l.map c).flatMap pre).length):=by
 unfold BB at hl;refine Yz (fun(k:Nat) (o:Option Nat)=>((k:Int),JE o)) l (fun _ o=>∀ x,o=some x ->x <=1000) (fun rest o=>fin (dec o ((rest.map c).flatMap pre).length)) ?_ ?_ (by omega) o ho
 ·intro s nx _;rw [he];simp [ZtO]
 ·intro k x rest s nx hx hk hgi hs ih;show body ((k:Int),JE s) nx=_;rw [hb,YD hk,ZoN,Bool.true_and];cases s with
  | none=>
    show body ((l.length:Int),JE none) nx=_;rw [he];rfl
  | some a=>
    show((YB l (k:Int)).bind fun x=>_)=_;rw [hgi,Bq0];show(g x (a:Int)).bind _=_;rw [hg x hx a (hs a rfl),Bq0,JU (by omega),ih _ (fun y hy=>ZcP hy hs),Zak];simp
theorem Lo.mem {x p:Part} (h:Lo p) (hx:x ∈ pre p):Lo x:=fun y hy=>h y (UF hy hx)
theorem Ze9 {F:Nat} (hF:10000000000000000000 <=F):∀ n e,Lo (.ex e) ->(pre (.ex e)).length <=n ->∀ Fr,n <=Fr ->∀ a:Nat,a <=1000 ->loop Fr (ZgV F) (e,(a:Int))=some (JE (dec (some a) (pre (.ex e)).length)):=by
 intro n
 induction n with
 | zero=>intro e hs hn;have:=Q8 (.ex e);omega
 | succ n ih=>
   intro e hs hn Fr hFr a ha;obtain⟨G,rfl⟩:∃ G,Fr=G + 1:= ⟨Fr - 1,by omega⟩
   rw [YE];have hih:∀ x ∈ e.kids,∀ a:Nat,a <=1000 ->(fun x v=>loop G (ZgV F) (x,v)) x (a:Int)=some (JE (dec (some a) (pre (.ex x)).length)):=fun x hx a ha=>ih x (hs.kid (UL hx)) (by have:=Xk (UL hx);omega) G (by omega) a ha
   generalize loop G (ZgV F)=K3 at hih;unfold ZgV;dsimp only
   rw [ZAu a ha,KJ (body:=ZgW e K3) e.kids .ex (fun x v=>K3 (x,v)) (fun o=>some (JE o)) hs.loc.2 hih
    (fun i v nx=>by simp only [ZgW,Z6,Bool.false_and,Cq0]) (fun o nx=>by simp only [ZgW,Z6,Bool.false_and,Cq0]) hF _ (fun x hx=>ZcP hx (fun y hy=>by cases hy;exact ha)),Zak]
   rw [QH];show some (JE (dec (some a) (1 + ((Yo (.ex e)).flatMap pre).length)))=_;rw [Nat.add_comm]
def ST (F n:Nat):Prop:=∀ t,Lo (.pr t) ->(pre (.pr t)).length <=n ->∀ Fr,n <=Fr ->∀ a:Nat,a <=1000 ->loop Fr (Zfo F) (t,(a:Int))=some (JE (dec (some a) (pre (.pr t)).length),(dec (some a) (pre (.pr t)).length).isSome)
def SC (F n:Nat):Prop:=∀ c next,Lo (.cl c) ->(pre (.cl c)).length <=n ->(∀ t,Part.pr t ∈ pre (.cl c) ->∀ a:Nat,a <=1000 ->next (t,(a:Int))=some (JE (dec (some a) (pre (.pr t)).length),(dec (some a) (pre (.pr t)).length).isSome)) ->∀ Fr,n <=Fr ->∀ a:Nat,a <=1000 ->loop Fr (ZcM F next) (c,(a:Int))=some (JE (dec (some a) (pre (.cl c)).length))
theorem ZwP {F n:Nat} (hF:10000000000000000000 <=F) (ih:SC F n):SC F (n + 1):=by
 intro c next hs hn hnext Fr hFr a ha;obtain⟨G,rfl⟩:∃ G,Fr=G + 1:= ⟨Fr - 1,by omega⟩
 rw [YE];obtain⟨l1,l2,l3,l4,l5⟩:=hs.loc;have hih:∀ x ∈ c.defs,∀ a:Nat,a <=1000 ->(fun x v=>loop G (ZcM F next) (x,v)) x (a:Int)=some (JE (dec (some a) (pre (.cl x)).length)):=fun x hx a ha=>ih x next (hs.kid (XV hx)) (by have:=Xk (XV hx);omega) (fun t ht=>hnext t (YW (XV hx) ht)) G (by omega) a ha
 generalize loop G (ZcM F next)=K3 at hih;unfold ZcM;dsimp only
 have hk:∀ o:Option Nat,(∀ x,o=some x ->x <=1000) ->loop F (Zai c next) (0,JE o)=some (JE (dec o ((c.kids.map Part.pr).flatMap pre).length)):=fun o ho=>
  KJ (body:=Zai c next) c.kids .pr (fun x v=>(next (x,v)).bind fun y=>some y.1) (fun o=>some (JE o)) l4 (fun x hx a ha=>by
   show(next (x,(a:Int))).bind _=_;rw [hnext x (YW (Zet hx) (X4 _)) a ha];rfl)
   (fun i v nx=>by
     simp only [Zai,Z6,Bool.false_and,Cq0];cases YB c.kids i with
     | none=>rfl
     | some x=>dsimp only [Bq0];cases next (x,v) <;> rfl) (fun o nx=>by simp only [Zai,Z6,Bool.false_and,Cq0]) hF o ho
 have ho1:∀ x,dec (some a) 1=some x ->x <=1000:=fun x hx=>ZcP hx (fun y hy=>by cases hy;exact ha)
 rw [ZAu a ha]
 have:=KJ (body:=ZdN F c next K3) c.defs .cl (fun x v=>K3 (x,v)) (fun o=>loop F (Zai c next) (0,JE o)) l3 hih
  (fun i v nx=>by simp only [ZdN,Z6,Bool.false_and,Cq0]) (fun o nx=>by simp only [ZdN,Z6,Bool.false_and,Cq0]) hF _ ho1
 rw [this,hk _ (fun x hx=>ZcP hx ho1),Zak,Zak]
 have e:(pre (.cl c)).length=1 + (((c.defs.map Part.cl).flatMap pre).length + ((c.kids.map Part.pr).flatMap pre).length):=by
  rw [QH];show((c.defs.map Part.cl ++ c.kids.map Part.pr).flatMap pre).length + 1=_;rw [List.flatMap_append,List.length_append];omega
 rw [e]
theorem ZwO {F n:Nat} (hF:10000000000000000000 <=F) (hnF:n + 1 <=F) (ih:ST F n) (ihc:SC F n):ST F (n + 1):=by
 intro t hs hn Fr hFr a ha;obtain⟨G,rfl⟩:∃ G,Fr=G + 1:= ⟨Fr - 1,by omega⟩
 rw [YE];obtain⟨l1,l2,l3,l4⟩:=hs.loc;have hnext:∀ x,Part.pr x ∈ pre (.pr t) ->(pre (.pr x)).length <=n ->∀ a:Nat,a <=1000 ->loop G (Zfo F) (x,(a:Int))=some (JE (dec (some a) (pre (.pr x)).length),(dec (some a) (pre (.pr x)).length).isSome):=fun x hx hl a ha=>ih x (Lo.mem hs hx) hl G (by omega) a ha
 generalize loop G (Zfo F)=K3 at hnext;unfold Zfo;dsimp only
 have hk:∀ o:Option Nat,(∀ x,o=some x ->x <=1000) ->loop F (ZcG t K3) (0,JE o)=some (JE (dec o ((t.kids.map Part.pr).flatMap pre).length),(dec o ((t.kids.map Part.pr).flatMap pre).length).isSome):=fun o ho=>
  KJ (body:=ZcG t K3) t.kids .pr (fun x v=>(K3 (x,v)).bind fun y=>some y.1) (fun o=>some (JE o,o.isSome)) l4 (fun x hx a ha=>by
   show(K3 (x,(a:Int))).bind _=_;rw [hnext x (YW (WH hx) (X4 _)) (by have:=Xk (WH hx);omega) a ha];rfl)
   (fun i v nx=>by
     simp only [ZcG,Z6,Bool.false_and,Cq0];cases YB t.kids i with
     | none=>rfl
     | some x=>dsimp only [Bq0];cases K3 (x,v) <;> rfl) (fun o nx=>by simp only [ZcG,Z6,Bool.false_and,Cq0,ZoN]) hF o ho
 have hd:∀ o:Option Nat,(∀ x,o=some x ->x <=1000) ->loop F (ZcH F t K3) (0,JE o)=some (JE (dec (dec o ((t.defs.map Part.cl).flatMap pre).length) ((t.kids.map Part.pr).flatMap pre).length),(dec (dec o ((t.defs.map Part.cl).flatMap pre).length) ((t.kids.map Part.pr).flatMap pre).length).isSome):=fun o ho=>by
  rw [KJ (body:=ZcH F t K3) t.defs .cl (fun x v=>ZtF F K3 x v) (fun o=>loop F (ZcG t K3) (0,JE o)) l3 (fun x hx a ha=>ihc x K3 (hs.kid (X6 hx)) (by have:=Xk (X6 hx);omega) (fun y hy a ha=>hnext y (YW (X6 hx) hy) (by have:=UK hy;have:=Xk (X6 hx);omega) a ha) F (by omega) a ha)
   (fun i v nx=>by simp only [ZcH,Z6,Bool.false_and,Cq0]) (fun o nx=>by simp only [ZcH,Z6,Bool.false_and,Cq0]) hF o ho,hk _ (fun x hx=>ZcP hx ho)]
 have ho1:∀ x,dec (some a) 1=some x ->x <=1000:=fun x hx=>ZcP hx (fun y hy=>by cases hy;exact ha)
 rw [ZAu a ha,KJ (body:=ZgZ F t K3) t.args .ex (fun x v=>Ztv F x v) (fun o=>loop F (ZcH F t K3) (0,JE o)) l2 (fun x hx a ha=>Ze9 hF _ x (hs.kid (Za8 hx)) (Nat.le_refl _) F (by have:=Xk (Za8 hx);omega) a ha)
     (fun i v nx=>by simp only [ZgZ,Z6,Bool.false_and,Cq0]) (fun o nx=>by simp only [ZgZ,Z6,Bool.false_and,Cq0]) hF _ ho1,hd _ (fun x hx=>ZcP hx ho1),Zak,Zak,Zak]
 have e:(pre (.pr t)).length=1 + (((t.args.map Part.ex).flatMap pre).length + (((t.defs.map Part.cl).flatMap pre).length + ((t.kids.map Part.pr).flatMap pre).length)):=by
  rw [QH];show((t.args.map Part.ex ++ t.defs.map Part.cl ++ t.kids.map Part.pr).flatMap pre).length + 1=_;rw [List.flatMap_append,List.flatMap_append,List.length_append,List.length_append];omega
 rw [e]
theorem STC {F:Nat} (hF:10000000000000000000 <=F):∀ n,n <=F ->ST F n∧SC F n:=by
 intro n
 induction n with
 | zero=>intro _;exact⟨fun t hs hn=>by have:=Q8 (.pr t);omega,fun c nx hs hn=>by have:=Q8 (.cl c);omega⟩
 | succ n ih=>intro hn;obtain⟨a,b⟩:=ih (by omega);exact⟨ZwO hF (by omega) a b,ZwP hF b⟩
theorem Zrk {F:Nat} (hF:10000000000000000000 <=F) (t:Term) (hs:Lo (.pr t)) (hFp:(pre (.pr t)).length <=F):ZzX F t 60=some (JE (dec (some 60) (pre (.pr t)).length),decide ((pre (.pr t)).length <=60)):=by
 have:= (STC hF _ hFp).1 t hs (Nat.le_refl _) F hFp 60 (by omega);show loop F (Zfo F) (t,((60:Nat):Int))=_;rw [this];congr 2;unfold dec;by_cases h:(pre (.pr t)).length <=60
 ·show(if _ then _ else _:Option Nat).isSome=_;rw [if_pos h,decide_eq_true h];rfl
 ·show(if _ then _ else _:Option Nat).isSome=_;rw [if_neg h,decide_eq_false h];rfl
def DT (F:Nat) (A:List Zg ->Bool) (n:Nat):Prop:=∀ t,Sm (.pr t) ->(pre (.pr t)).all shp=true ->(∀ x,Part.pr x ∈ pre (.pr t) ->x.op=4 ->∃ s,ZnJ F x.defs=some (s,A x.defs)) ->(pre (.pr t)).length <=n ->∀ Fr,n <=Fr ->loop Fr (ZgX F) t=some ((pre (.pr t)).all (Ju A))
def DC (F:Nat) (A:List Zg ->Bool) (n:Nat):Prop:=∀ (l:List Zg) next,l.length <=BB ->(∀ c ∈ l,Sm (.cl c)∧(pre (.cl c)).all shp=true) ->((l.map Part.cl).flatMap pre).length <=n ->(∀ t,Part.pr t ∈ (l.map Part.cl).flatMap pre ->next t=some ((pre (.pr t)).all (Ju A))) ->∀ Fr,n < Fr ->loop Fr (ZcL F next) l=some (((l.map Part.cl).flatMap pre).all (Ju A))
theorem ZwU {F:Nat} (hF:10000000000000000000 <=F) (A:List Zg ->Bool) {n:Nat} (ih:∀ m,m < n ->DC F A m):DC F A n:=by
 intro l next hl hc hn hnext Fr hFr;obtain⟨G,rfl⟩:∃ G,Fr=G + 1:= ⟨Fr - 1,by omega⟩
 rw [YE]
 have hmem:∀ c ∈ l,(pre (.cl c)).length <=n∧∀ x ∈ pre (.cl c),x ∈ (l.map Part.cl).flatMap pre:=fun c hcl=>
  ⟨Nat.le_trans (Zfm (List.mem_map_of_mem hcl)) hn,fun x hx=>List.mem_flatMap.2 ⟨_,List.mem_map_of_mem hcl,hx⟩⟩
 have hih:∀ c ∈ l,loop G (ZcL F next) c.defs=some (((c.defs.map Part.cl).flatMap pre).all (Ju A)):=fun c hcl=>by
  obtain⟨h1,h2⟩:=hmem c hcl;obtain⟨hsm,hsh⟩:=hc c hcl
  have hd:((c.defs.map Part.cl).flatMap pre).length < (pre (.cl c)).length:=by
   rw [QH];show _ < ((c.defs.map Part.cl ++ c.kids.map Part.pr).flatMap pre).length + 1;rw [List.flatMap_append,List.length_append];omega
  refine ih (n - 1) (by omega) c.defs next hsm.loc.2.2.1 (fun x hx=>⟨hsm.kid (XV hx),?_⟩) (by omega) (fun t ht=>hnext t (h2 _ ?_)) G (by omega)
  ·rw [List.all_eq_true] at hsh ⊢;exact fun y hy=>hsh y (YW (XV hx) hy)
  ·obtain⟨y,hy,ht⟩:=List.mem_flatMap.1 ht;obtain⟨x,hx,rfl⟩:=List.mem_map.1 hy;exact YW (XV hx) ht
 generalize loop G (ZcL F next)=K3 at hih;unfold ZcL;unfold BB at hl;refine Yz (body:=ZdM l next K3) (fun(k:Nat) (_:Unit)=>(k:Int)) l (fun _ _=>True) (fun rest _=>some (((rest.map Part.cl).flatMap pre).all (Ju A))) (F:=F) ?_ ?_ (by omega) () trivial
 ·intro s nx _;simp only [ZdM,Z6,Cq0];rfl
 ·intro k c rest s nx hx hk hg _ ihl;obtain⟨hsm,hsh⟩:=hc c hx;have hsc:Zca c=true:=by rw [List.all_eq_true] at hsh;exact hsh _ (X4 _)
  obtain⟨k0,hk0⟩:∃ k0,c.kids= [k0]:=by
   unfold Zca at hsc;rw [Ba0] at hsc;have:=hsc.1;rw [beq_iff_eq] at this
   match hk:c.kids,this with
   | [k0],_=>exact⟨k0,rfl⟩
  have hkm:Part.pr k0 ∈ pre (.cl c):=YW (Zet (by rw [hk0];simp)) (X4 _)
  have e:(pre (.cl c)).all (Ju A)= (((c.defs.map Part.cl).flatMap pre).all (Ju A) && (pre (.pr k0)).all (Ju A)):=by
   rw [pre_eq,List.all_cons];show(true && ((c.defs.map Part.cl ++ c.kids.map Part.pr).flatMap pre).all (Ju A))=_;rw [hk0,List.flatMap_append,List.all_append];simp
  have hg0:YB c.kids 0=some k0:=by rw [hk0];rfl
  simp only [ZdM,YD hk,Cq1,hg,Bq0,hih c hx,List.map_cons,List.flatMap_cons,List.all_append];rw [JU (by omega),e];cases ((c.defs.map Part.cl).flatMap pre).all (Ju A)
  ·rfl
  ·simp only [Bool.not_true,Bool.not_false,gd,Cq1,Bq0,hg0,hnext k0 ((hmem c hx).2 _ hkm),Bool.true_and];cases (pre (.pr k0)).all (Ju A)
   ·rfl
   ·exact ihl () trivial
theorem ZwT {F:Nat} (hF:10000000000000000000 <=F) (A:List Zg ->Bool) {n:Nat} (hnF:n < F) (ih:DT F A n) (ihc:DC F A n):DT F A (n + 1):=by
 intro t hs hsh hA hn Fr hFr;obtain⟨G,rfl⟩:∃ G,Fr=G + 1:= ⟨Fr - 1,by omega⟩
 rw [YE];obtain⟨l1,l2,l3,l4⟩:=hs.loc;have hall:∀ {x y},x ∈ pre (.pr t) ->y ∈ pre x ->y ∈ pre (.pr t):=fun hx hy=>UF hy hx
 have ZCo:∀ x,x ∈ pre (.pr t) ->(pre x).all shp=true:=fun x hx=>by
  rw [List.all_eq_true] at hsh ⊢;exact fun y hy=>hsh y (hall hx hy)
 have hnext:∀ x,Part.pr x ∈ pre (.pr t) ->(pre (.pr x)).length <=n ->loop G (ZgX F) x=some ((pre (.pr x)).all (Ju A)):=fun x hx hl=>ih x (hs.mem hx) (ZCo _ hx) (fun y hy=>hA y (hall hx hy)) hl G (by omega)
 generalize loop G (ZgX F)=K3 at hnext;unfold BB at l4
 have j:(ZeI F t K3) ()=some (((t.kids.map Part.pr).flatMap pre).all (Ju A)):=by
  unfold ZeI;refine Yz (body:=ZgY t K3) (fun(k:Nat) (_:Unit)=>(k:Int)) t.kids (fun _ _=>True) (fun rest _=>some (((rest.map Part.pr).flatMap pre).all (Ju A))) (F:=F) ?_ ?_ (by omega) () trivial
  ·intro s nx _;simp only [ZgY,Z6,Cq0];rfl
  ·intro k x rest s nx hx hk hg _ ihl;simp only [ZgY,YD hk,Cq1,hg,Bq0,hnext x (YW (WH hx) (X4 _)) (by have:=Xk (WH hx);omega),List.map_cons,List.flatMap_cons,List.all_append];rw [JU (by omega)];cases (pre (.pr x)).all (Ju A)
   ·rfl
   ·exact ihl () trivial
 have hex:∀ l:List ZU,((l.map Part.ex).flatMap pre).all (Ju A)=true:=by
  have:∀ p:Part,∀ e,p= .ex e ->(pre p).all (Ju A)=true:=by
   intro p
   induction p using KE with
   | h p ihp=>
     rintro e rfl;rw [pre_eq,List.all_cons,Ba0];refine⟨rfl,?_⟩;rw [List.all_eq_true];intro y hy;obtain⟨k,hk,hy⟩:=List.mem_flatMap.1 hy;obtain⟨x,hx,rfl⟩:=List.mem_map.1 hk;exact List.all_eq_true.1 (ihp _ hk x rfl) y hy
  intro l;rw [List.all_eq_true];intro y hy;obtain⟨k,hk,hy⟩:=List.mem_flatMap.1 hy;obtain⟨x,hx,rfl⟩:=List.mem_map.1 hk;exact List.all_eq_true.1 (this _ x rfl) y hy
 have e:(pre (.pr t)).all (Ju A)= ((!(t.op==4) || A t.defs) && (((t.defs.map Part.cl).flatMap pre).all (Ju A) && ((t.kids.map Part.pr).flatMap pre).all (Ju A))):=by
  rw [pre_eq,List.all_cons];show((!(t.op==4) || A t.defs) && ((t.args.map Part.ex ++ t.defs.map Part.cl ++ t.kids.map Part.pr).flatMap pre).all (Ju A))=_;rw [List.flatMap_append,List.flatMap_append,List.all_append,List.all_append,hex,Bool.true_and]
 unfold ZgX;rw [j,e];by_cases h4:t.op=4
 ·obtain⟨s,ZGy⟩:=hA t (X4 _) h4
  have hlt:((t.defs.map Part.cl).flatMap pre).length < (pre (.pr t)).length:=by
   rw [QH];show _ < ((t.args.map Part.ex ++ t.defs.map Part.cl ++ t.kids.map Part.pr).flatMap pre).length + 1;rw [List.flatMap_append,List.flatMap_append,List.length_append,List.length_append];omega
  have hw:=ihc t.defs K3 l3 (fun c hc=>⟨hs.kid (X6 hc),ZCo _ (YW (X6 hc) (X4 _))⟩) (by omega) (fun x hx=>by
   obtain⟨k,hk,hx⟩:=List.mem_flatMap.1 hx;obtain⟨c,hc,rfl⟩:=List.mem_map.1 hk;exact hnext x (YW (X6 hc) hx) (by have:=UK hx;have:=Xk (X6 hc);omega)) F hnF
  rw [h4,ZGy];simp only [Int.reduceBEq,Cq1,Bq0,Bool.not_true,Bool.false_or];cases A t.defs
  ·rfl
  ·show(Zpo F K3 t.defs).bind _=_;rw [show Zpo F K3 t.defs=_ from hw,Bq0];cases ((t.defs.map Part.cl).flatMap pre).all (Ju A) <;> rfl
 ·have h4':(t.op==4)=false:=by simpa using h4
  have hd:t.defs= []:=by
   have:=List.all_eq_true.1 hsh _ (X4 _);have hsT:Zel t=true:=this;unfold Zel szs at hsT;rw [h4'] at hsT
   have:t.defs.length=0:=by
    revert hsT
    cases t.op==1 <;> cases t.op==7 <;> cases t.op==2 <;> cases t.op==3 <;> cases t.op==5 <;> cases hd:t.defs.length==0 <;> simp_all
   exact List.eq_nil_of_length_eq_zero this
  rw [h4',hd];simp
theorem DTC {F:Nat} (hF:10000000000000000000 <=F) (A:List Zg ->Bool):∀ n,n <=F ->DT F A n:=by
 have hc:∀ n,DC F A n:=fun n=>by
  induction n using Nat.strongRecOn with
  | _ n ih=>exact ZwU hF A ih
 intro n
 induction n with
 | zero=>intro _ t hs _ _ hn;have:=Q8 (.pr t);omega
 | succ n ih=>intro hn;exact ZwT hF A (by omega) (ih (by omega)) (hc n)
theorem ZEj (n:Nat):decide ((n:Int) > 12)= !decide (n <=12):=by
 by_cases z:n <=12
 ·rw [decide_eq_true z,decide_eq_false (by omega)];rfl
 ·rw [decide_eq_false z,decide_eq_true (by omega)];rfl
theorem ZqA {F:Nat} (hF:10000000000000000000 <=F) (A:List Zg ->Bool) (t:Term) (hs:Lo (.pr t)) (hFp:(pre (.pr t)).length <=F) (hA:(pre (.pr t)).length <=60 ->(pre (.pr t)).all shp=true ->∀ x,Part.pr x ∈ pre (.pr t) ->x.op=4 ->∃ s,ZnJ F x.defs=some (s,A x.defs)):ZjS F t=some (bif Jc A (.pr t) then 0 else 2):=by
 unfold ZjS;rw [Zrk hF t hs hFp,Bq0];unfold Jc;by_cases hl:(pre (.pr t)).length <=60
 ·rw [decide_eq_true hl];have hs:Sm (.pr t):= ⟨by unfold BS;omega,hs⟩
  simp only [Bool.not_true,Cq0,Bool.true_and];rw [Zf1 hF t hs,Bq0];obtain⟨r1,r2,_,_⟩:=ZiQ (.pr t);simp only [out,r1];cases ha:(pre (.pr t)).all shp
  ·rfl
  ·obtain⟨_,r3⟩:=r2 ha;rw [r3,ZEj];simp only [Bool.not_true,Bool.false_or,Bool.true_and,Bool.not_not];cases decide (dep (.pr t) <=12)
   ·rfl
   ·simp only [gd,Cq1,Bool.true_and];rw [show ZvW F t=_ from DTC hF A _ (by omega) t hs ha (hA hl ha) (Nat.le_refl _) F (by omega),Bq0];cases (pre (.pr t)).all (Ju A) <;> rfl
 ·rw [decide_eq_false hl];rfl
theorem Zke {F:Nat} (hF:10000000000000000000 <=F) (A:List Zg ->Bool) (e:ZU) (hs:Lo (.ex e)) (hFp:(pre (.ex e)).length <=F):ZnN F e=some (bif Jc A (.ex e) then 0 else 2):=by
 unfold ZnN;have h1:Ztv F e 60=_:=Ze9 hF _ e hs (Nat.le_refl _) F (by omega) 60 (by omega)
 have hex:(pre (.ex e)).all (Ju A)=true:=by
  have:∀ p:Part,∀ e,p= .ex e ->(pre p).all (Ju A)=true:=by
   intro p
   induction p using KE with
   | h p ihp=>
     rintro e rfl;rw [pre_eq,List.all_cons,Ba0];refine⟨rfl,?_⟩;rw [List.all_eq_true];intro y hy;obtain⟨k,hk,hy⟩:=List.mem_flatMap.1 hy;obtain⟨x,hx,rfl⟩:=List.mem_map.1 hk;exact List.all_eq_true.1 (ihp _ hk x rfl) y hy
  exact this _ e rfl
 rw [h1,Bq0];unfold Jc;rw [hex,Bool.and_true];by_cases hl:(pre (.ex e)).length <=60
 ·have:decide (JE (dec (some 60) (pre (.ex e)).length) < 0)=false:=by
   have:dec (some 60) (pre (.ex e)).length=some (60 - (pre (.ex e)).length):=by show(if _ then _ else _)=_;rw [if_pos hl]
   rw [this];exact decide_eq_false (by show ¬ ((60 - (pre (.ex e)).length:Nat):Int) < 0;omega)
  have h2:Zqp F e=_:=Zpq hF _ e (⟨by unfold BS;omega,hs⟩:Sm (.ex e)) (Nat.le_refl _) F (by omega);rw [this,Cq0,h2,Bq0,decide_eq_true hl];obtain⟨r1,r2,_,_⟩:=ZiQ (.ex e);simp only [out,r1];cases ha:(pre (.ex e)).all shp
  ·rfl
  ·obtain⟨_,r3⟩:=r2 ha;rw [r3,ZEj];cases decide (dep (.ex e) <=12) <;> rfl
 ·have:decide (JE (dec (some 60) (pre (.ex e)).length) < 0)=true:=by
   have:dec (some 60) (pre (.ex e)).length=none:=by show(if _ then _ else _)=_;rw [if_neg hl]
   rw [this];rfl
  rw [this,decide_eq_false hl];rfl
abbrev Spt:=ByteArray×List Zg
def X5 (c:Zg):List Spt:=bif c.form==2 then(c.text,c.defs)::c.defs.attach.flatMap (fun d=>X5 d.1) else []
termination_by SizeOf.sizeOf c
decreasing_by
 obtain⟨fm,tx,js,ds,ks⟩:=c;have:=List.sizeOf_lt_of_mem d.2;simp only [Zg.mk.sizeOf_spec] at this ⊢;omega
theorem WB (c:Zg):X5 c=bif c.form==2 then(c.text,c.defs)::c.defs.flatMap X5 else []:=by rw [X5,Zfs c.defs X5]
def Xc (l:List Zg):List ByteArray:= (l.flatMap X5).map (·.1)
def ev (a:Nat) (m:Xw):ByteArray×ZR:= (m.text,ZR.mk (a:Int) (m.names.length:Int))
def jns (l:List Zg):List Xw:=l.flatMap (·.joins)
def evJ:Nat ->List Spt ->List (ByteArray×ZR)
 | _,[]=>[]
 | a,sp::r=>(jns sp.2).map (ev a) ++ evJ (a + 1) r
def upd (f:ByteArray ->Option ZR) (e:ByteArray×ZR):ByteArray ->Option ZR:=fun x=>if x=e.1 then some e.2 else f x
def okE (f:ByteArray ->Option ZR) (e:ByteArray×ZR):Bool:= !(f e.1).isSome || JK ((f e.1).getD ⟨0,0⟩) e.2
def JW (f:ByteArray ->Option ZR):List (ByteArray×ZR) ->Bool
 | []=>true
 | e::r=>okE f e && JW (upd f e) r
def Wd (h:ByteArray ->Bool):List ByteArray ->Bool
 | []=>true
 | x::xs=>!h x && Wd (fun s=>h s || decide (s=x)) xs
theorem ZiR (a b:List (ByteArray×ZR)):∀ f,JW f (a ++ b)= (JW f a && JW (a.foldl upd f) b):=by
 induction a with
 | nil=>intro f;simp [JW]
 | cons e a ih=>intro f;simp only [List.cons_append,JW,ih,List.foldl_cons,Bool.and_assoc]
theorem Zk6 (a b:List ByteArray):∀ h,Wd h (a ++ b)= (Wd h a && Wd (fun s=>h s || decide (s ∈ a)) b):=by
 induction a with
 | nil=>intro f;simp [Wd]
 | cons e a ih=>
   intro h;simp only [List.cons_append,Wd,ih,Bool.and_assoc];congr 2
   have:(fun s=>(h s || decide (s=e)) || decide (s ∈ a))=fun s=>h s || decide (s ∈ e::a):=by
    funext s;by_cases h1:s=e <;> by_cases h2:s ∈ a <;> simp [h1,h2]
   rw [this]
theorem eqS (x y:ZR):JK x y=true↔x=y:=by
 obtain⟨a,b⟩:=x;obtain⟨c,d⟩:=y;simp [JK]
def AgW (l:List Zg):Bool:=Wd (fun _=>false) (Xc l) && JW (fun _=>none) (evJ 0 ((E0,l)::l.flatMap X5)) && !((evJ 0 ((E0,l)::l.flatMap X5)).any fun e=>decide (e.1 ∈ Xc l))
def OkC (c:Zg):Prop:=c.joins.length <=3∧(c.form=1∨c.form=2∧c.joins= [])
def OkS (sp:Spt):Prop:=sp.2.length <=60∧∀ c ∈ sp.2,OkC c
theorem ZrH {c:Zg} (h:Zca c=true):OkC c:=by
 unfold Zca at h;rw [Ba0] at h;obtain⟨_,h⟩:=h;by_cases f2:c.form=2
 ·rw [f2] at h;simp only [Int.reduceBEq,Cq1,Ba0,beq_iff_eq,decide_eq_true_eq] at h;have:c.joins= []:=List.eq_nil_of_length_eq_zero h.1.2;exact⟨by rw [this];simp,.inr ⟨f2,this⟩⟩
 ·have:(c.form==2)=false:=by simpa using f2
  rw [this] at h;simp only [Cq0,Ba0,beq_iff_eq,decide_eq_true_eq] at h;exact⟨h.1.2,.inl h.1.1.1.1.1⟩
theorem Zu5:∀ n (c:Zg),(pre (.cl c)).length <=n ->(X5 c).length <= (pre (.cl c)).length:=by
 intro n
 induction n with
 | zero=>intro c h;have:=Q8 (.cl c);omega
 | succ n ih=>
   intro c hn;rw [WB];have h0:=QH (.cl c)
   have h1:((Yo (.cl c)).flatMap pre).length= ((c.defs.map Part.cl).flatMap pre).length + ((c.kids.map Part.pr).flatMap pre).length:=by
    show((c.defs.map Part.cl ++ c.kids.map Part.pr).flatMap pre).length=_;rw [List.flatMap_append,List.length_append]
   have:∀ l:List Zg,(∀ d ∈ l,(X5 d).length <= (pre (.cl d)).length) ->(l.flatMap X5).length <= ((l.map Part.cl).flatMap pre).length:=by
    intro l
    induction l with
    | nil=>simp
    | cons d l ihl=>
      intro h;have a:=h d (by simp);have b:=ihl fun x hx=>h x (List.mem_cons_of_mem _ hx)
      simp only [List.flatMap_cons,List.map_cons,List.length_append];omega
   have h2:=this c.defs fun d hd=>ih d (by have:=Xk (XV hd);omega)
   cases c.form==2
   ·show 0 <=_;omega
   ·show(c.defs.flatMap X5).length + 1 <=_;omega
theorem ZrB (l:List Zg):(l.flatMap X5).length <= ((l.map Part.cl).flatMap pre).length:=by
 induction l with
 | nil=>simp
 | cons d l ihl=>simp only [List.flatMap_cons,List.map_cons,List.length_append];have:=Zu5 _ d (Nat.le_refl _);omega
theorem Zcw {c:Zg} {l:List Zg} (h:c ∈ l):(X5 c).length <= (l.flatMap X5).length:=by
 induction l with
 | nil=>cases h
 | cons x l ih=>
   rw [List.flatMap_cons,List.length_append];rcases List.mem_cons.1 h with rfl | h
   ·omega
   ·have:=ih h;omega
theorem Zmh (l:List Zg):l.length <= ((l.map Part.cl).flatMap pre).length:=by
 have:=Zfn (l.map Part.cl)
 simpa using this
theorem Zu8:∀ n (c:Zg),(pre (.cl c)).length <=n ->n <=60 ->(pre (.cl c)).all shp=true ->∀ sp ∈ X5 c,OkS sp:=by
 intro n
 induction n with
 | zero=>intro c h;have:=Q8 (.cl c);omega
 | succ n ih=>
   intro c hn h60 hs sp hsp;rw [WB] at hsp;cases hf:c.form==2
   ·rw [hf] at hsp;cases hsp
   rw [hf] at hsp;simp only [Cq1] at hsp
   have hd:∀ d ∈ c.defs,(pre (.cl d)).all shp=true:=fun d hd=>by
    rw [List.all_eq_true] at hs ⊢;exact fun y hy=>hs y (YW (XV hd) hy)
   rcases List.mem_cons.1 hsp with rfl | hsp
   ·refine⟨?_,fun d hdm=>ZrH ?_⟩
    ·have:=Zlg (.cl c);simp only [Yo,List.length_append,List.length_map] at this;show c.defs.length <=60;omega
    ·exact List.all_eq_true.1 (hd d hdm) _ (X4 _)
   ·obtain⟨d,hdm,hsp⟩:=List.mem_flatMap.1 hsp;exact ih d (by have:=Xk (XV hdm);omega) (by omega) (hd d hdm) sp hsp
theorem Zm5 {α σ β γ:Type} {body:γ ->(γ ->Option β) ->Option β} (st:Nat ->σ ->γ) (l:List α) (Pre:Nat ->List α ->σ ->Prop) (run:Nat ->List α ->σ ->Option β)
 (h0:∀ s nx,Pre l.length [] s ->body (st l.length s) nx=run l.length [] s)
 (h1:∀ (k:Nat) x rest s nx,x ∈ l ->k < l.length ->YB l (k:Int)=some x ->Pre k (x::rest) s ->(∀ s',Pre (k + 1) rest s' ->nx (st (k + 1) s')=run (k + 1) rest s') ->body (st k s) nx=run k (x::rest) s) {F:Nat} (hF:l.length < F) (s:σ) (hp:Pre 0 l s):loop F body (st 0 s)=run 0 l s:=by
 have key:∀ (d j F:Nat) (s:σ),j + d=l.length ->d < F ->Pre j (l.drop j) s ->loop F body (st j s)=run j (l.drop j) s:=by
  intro d
  induction d with
  | zero=>
    intro j F s hj hF hp;obtain⟨F,rfl⟩:∃ G,F=G + 1:= ⟨F - 1,by omega⟩
    obtain rfl:j=l.length:=by omega
    rw [List.drop_length] at hp ⊢;rw [YE,h0 _ _ hp]
  | succ d ih=>
    intro j F s hj hF hp;obtain⟨F,rfl⟩:∃ G,F=G + 1:= ⟨F - 1,by omega⟩
    have hjl:j < l.length:=by omega
    rw [List.drop_eq_getElem_cons hjl] at hp ⊢;rw [YE];exact h1 j _ _ s _ (List.getElem_mem hjl) hjl (Znw hjl) hp fun s' hp'=>ih (j + 1) F s' (by omega) (by omega) hp'
 have:=key l.length 0 F s (by omega) hF (by simpa using hp)
 simpa using this
abbrev MM:=List (ByteArray×ZR)
abbrev MN:=List (ByteArray×Bool)
abbrev SS:=Nat×MM×MN
def ZaF:MM ->List (ByteArray×ZR) ->Option MM
 | m,[]=>some m
 | m,e::r=>bif okE (Y0 m) e then ZaF (QR m e.1 e.2) r else none
theorem Zlh (a b:List (ByteArray×ZR)):∀ m,ZaF m (a ++ b)= (ZaF m a).bind fun x=>ZaF x b:=by
 induction a with
 | nil=>intro m;rfl
 | cons e a ih=>
   intro m;simp only [List.cons_append,ZaF];cases okE (Y0 m) e
   ·rfl
   ·exact ih _
def Zcf (s:SS) (sp:Spt):Option SS:=bif decide (0 < s.1) && has s.2.2 sp.1 then none else(ZaF s.2.1 ((jns sp.2).map (ev s.1))).map fun m=>(s.1 + 1,m,bif decide (0 < s.1) then QR s.2.2 sp.1 true else s.2.2)
def Zcu:SS ->List Spt ->Option SS
 | s,[]=>some s
 | s,x::r=>(Zcf s x).bind fun s=>Zcu s r
theorem ZkU (a b:List Spt):∀ s,Zcu s (a ++ b)= (Zcu s a).bind fun x=>Zcu x b:=by
 induction a with
 | nil=>intro m;rfl
 | cons e a ih=>
   intro s;simp only [List.cons_append,Zcu];cases Zcf s e with
   | none=>rfl
   | some s'=>exact ih _
theorem Zrh {s s':SS} {x:Spt} (h:Zcf s x=some s'):s'.1=s.1 + 1:=by
 unfold Zcf at h;cases hb:(decide (0 < s.1) && has s.2.2 x.1) with
 | true=>rw [hb] at h;cases h
 | false=>
   rw [hb] at h;simp only [Cq0,Option.map_eq_some_iff] at h;obtain⟨m,_,rfl⟩:=h;rfl
theorem ZoI:∀ {l:List Spt} {s s':SS},Zcu s l=some s' ->s'.1=s.1 + l.length
 | [],s,s',h=>by cases h;rfl
 | x::r,s,s',h=>by
   obtain⟨s1,h1,h2⟩:=bind_some (by exact h);have:=Zrh h1;have:=ZoI h2;simp only [List.length_cons];omega
def Zor:Option SS ->PR (Bool×Int×MM×MN)
 | some s=>.ok (true,(s.1:Int),s.2.1,s.2.2)
 | none=>.Yn 2
theorem Znb {F:Nat} (hF:10000000000000000000 <=F) (a:Nat) (i:Int) (nx:Int×MM ->Option (PR (Bool×Int×MM×MN))) (x:Zg) (hx:x.joins.length <=BB) (m:MM):
 loop F (ZdP (a:Int) i nx x) (0,m)=opt (ZaF m (x.joins.map (ev a))) (some (.Yn 2)) fun m=>nx (Xm (i + 1),m):=by
 unfold BB at hx;refine Yz (fun(k:Nat) (m:MM)=>((k:Int),m)) x.joins (fun _ _=>True) (fun rest m=>opt (ZaF m (rest.map (ev a))) (some (.Yn 2)) fun m=>nx (Xm (i + 1),m)) ?_ ?_ (by omega) m trivial
 ·intro s nx' _;simp only [ZdP,Z6,Cq0];rfl
 ·intro j y rest s nx' hy hj hg _ ih;simp only [ZdP,YD hj,Cq1,hg,Bq0,ZrD,Q6,Zde];rw [JU (by omega)];simp only [ih _ trivial,List.map_cons,ZaF,okE,ev];cases (!(Y0 s y.text).isSome || JK ((Y0 s y.text).getD ⟨0,0⟩) ⟨(a:Int),(y.names.length:Int)⟩) <;> rfl
theorem ZmW {F:Nat} (hF:10000000000000000000 <=F) (l rules:List Zg) (a:Nat) (ha:a <=2000) (n1:ByteArray×(List Zg)×Int×MM×MN ->Option (PR (Bool×Int×MM×MN))) (ns:MN) (hr:rules.length <=BB) (hx:∀ x ∈ rules,x.joins.length <=BB) (m:MM):
 loop F (ZdQ F l (a:Int) n1 rules ns) (0,m)=opt (ZaF m ((jns rules).map (ev a))) (some (.Yn 2)) fun m=>loop F (Zaj l n1) (0,((a + 1:Nat):Int),m,ns):=by
 unfold BB at hr;refine Yz (fun(k:Nat) (m:MM)=>((k:Int),m)) rules (fun _ _=>True) (fun rest m=>opt (ZaF m ((jns rest).map (ev a))) (some (.Yn 2)) fun m=>loop F (Zaj l n1) (0,((a + 1:Nat):Int),m,ns)) ?_ ?_ (by omega) m trivial
 ·intro s nx' _;simp only [ZdQ,Z6,Cq0,Bool.not_true];rw [JU (by omega)];rfl
 ·intro j y rest s nx' hy hj hg _ ih;simp only [ZdQ,YD hj,Cq1,hg,Bq0,Znb hF a _ _ y (hx y hy)];rw [JU (by omega)];simp only [ih _ trivial,jns,List.flatMap_cons,List.map_append,Zlh];cases ZaF s (y.joins.map (ev a)) <;> rfl
theorem Znc {l:List Zg} (h:∀ c ∈ l,OkC c):jns (l.filter fun c=>c.form==1)=jns l:=by
 induction l with
 | nil=>rfl
 | cons c l ih=>
   have i:=ih fun d hd=>h d (List.mem_cons_of_mem _ hd)
   obtain⟨_,h1 | ⟨h2,h3⟩⟩:=h c (by simp)
   ·rw [List.filter_cons_of_pos (by simp [h1])];unfold jns at i ⊢;rw [List.flatMap_cons,List.flatMap_cons,i]
   ·rw [List.filter_cons_of_neg (by simp [h2]),i];unfold jns;rw [List.flatMap_cons,h3,List.nil_append]
theorem ZqP {F:Nat} (hF:10000000000000000000 <=F):∀ n (nm:ByteArray) (l:List Zg) (s:SS),(l.flatMap X5).length <=n ->OkS (nm,l) ->(∀ sp ∈ l.flatMap X5,OkS sp) ->s.1 + (l.flatMap X5).length <=1000 ->∀ Fr,n < Fr ->
 loop Fr (Kc F) (nm,l,(s.1:Int),s.2.1,s.2.2)=some (Zor (Zcu s ((nm,l)::l.flatMap X5))):=by
 intro n
 induction n using Nat.strongRecOn with
 | _ n ih=>
   intro nm l s hn hok Zst hs1 Fr hFr;obtain⟨G,rfl⟩:∃ G,Fr=G + 1:= ⟨Fr - 1,by omega⟩
   rw [YE]
   have hih:∀ c ∈ l,c.form=2 ->∀ s:SS,s.1 + (X5 c).length <=1001 ->loop G (Kc F) (c.text,c.defs,(s.1:Int),s.2.1,s.2.2)=some (Zor (Zcu s (X5 c))):=fun c hc hf s hs=>by
    have e:X5 c= (c.text,c.defs)::c.defs.flatMap X5:=by rw [WB,hf];rfl
    have hle:(X5 c).length <= (l.flatMap X5).length:=Zcw hc;have hm:∀ sp ∈ X5 c,OkS sp:=fun sp hsp=>Zst sp (List.mem_flatMap.2 ⟨c,hc,hsp⟩)
    rw [e] at hle hm hs ⊢;simp only [List.length_cons] at hle hs;exact ih (n - 1) (by omega) c.text c.defs s (by omega) (hm _ (by simp)) (fun sp hsp=>hm sp (by simp [hsp])) (by omega) G (by omega)
   generalize loop G (Kc F)=n1 at hih;obtain⟨hl,hoc⟩:=hok;dsimp only at hl hoc
   have hb3:∀ s:SS,s.1 + (l.flatMap X5).length <=1001 ->0 < s.1 ->loop F (Zaj l n1) (0,(s.1:Int),s.2.1,s.2.2)=some (Zor (Zcu s (l.flatMap X5))):=fun s hs h0=>by
    refine Yz (fun(k:Nat) (s:SS)=>((k:Int),(s.1:Int),s.2.1,s.2.2)) l (fun rest s=>s.1 + (rest.flatMap X5).length <=1001) (fun rest s=>some (Zor (Zcu s (rest.flatMap X5)))) ?_ ?_ (by omega) s hs
    ·intro s nx _;simp only [Zaj,Z6,Cq0];rfl
    ·intro k c rest s nx hc hk hg hp ihl;simp only [Zaj,YD hk,Cq1,hg,Bq0];rw [JU (by omega)];rw [List.flatMap_cons,List.length_append] at hp;rw [List.flatMap_cons,ZkU];rcases(hoc c hc).2 with h1 | ⟨h2,_⟩
     ·rw [h1];have e:X5 c= []:=by rw [WB,h1];rfl
      rw [e] at hp ⊢;exact ihl s (by simpa using hp)
     ·rw [h2];have hpos:1 <= (X5 c).length:=by rw [WB,h2];simp
      simp only [Int.reduceBEq,Cq1];rw [hih c hc h2 s (by omega),Bq0];cases hr:Zcu s (X5 c) with
      | none=>rfl
      | some s'=>
        have:=ZoI hr;exact ihl s' (by omega)
   have hj2:∀ ns,(Ke F l (s.1:Int) s.2.1 n1 (l.filter fun c=>c.form==1)) ns=some (Zor ((ZaF s.2.1 ((jns l).map (ev s.1))).bind fun m=>Zcu (s.1 + 1,m,ns) (l.flatMap X5))):=fun ns=>by
    unfold Ke;have hfl:(l.filter fun c=>c.form==1).length <=l.length:=List.length_filter_le _ _;rw [ZmW hF l _ s.1 (by omega) n1 ns (by unfold BB;omega) (fun x hx=>by have:= (hoc x (List.mem_filter.1 hx).1).1;unfold BB;omega) s.2.1,Znc hoc];cases ZaF s.2.1 ((jns l).map (ev s.1)) with
    | none=>rfl
    | some m=>exact hb3 (s.1 + 1,m,ns) (by show s.1 + 1 + _ <=1001;omega) (Nat.succ_pos _)
   unfold Kc;dsimp only;have:=Yz (body:=ZdR F nm l (s.1:Int) s.2.1 s.2.2 n1) (fun(k:Nat) (a:List Zg)=>((k:Int),a)) l (fun rest a=>a.length + rest.length <=60) (fun rest a=>(bif decide ((s.1:Int) > 0) then(Zjj s.2.2 nm false).bind fun Zq6=>(Jk (!Zq6)).bind fun Zq5=>Ut Zq5 (fun e267=>some (.Yn 2)) (fun ZBo=>(Ke F l (s.1:Int) s.2.1 n1 (a ++ rest.filter fun c=>c.form==1)) (QR s.2.2 nm true)) else(Ke F l (s.1:Int) s.2.1 n1 (a ++ rest.filter fun c=>c.form==1)) s.2.2)) (F:=F) ?_ ?_ (by omega) [] (by simpa using hl)
   ·refine this.trans ?_;simp only [List.nil_append,Zdf,Bq0,Q6,Zde,hj2,gt0];show _=some (Zor ((Zcf s (nm,l)).bind fun s=>Zcu s (l.flatMap X5)));unfold Zcf;cases decide (0 < s.1)
    ·simp only [Cq0,Bool.false_and];cases ZaF s.2.1 ((jns l).map (ev s.1)) <;> rfl
    ·simp only [Cq1,Bool.true_and];cases has s.2.2 nm
     ·simp only [Bool.not_false,Cq1,Cq0];cases ZaF s.2.1 ((jns l).map (ev s.1)) <;> rfl
     ·rfl
   ·intro a nx _;simp only [ZdR,Z6,Cq0,List.filter_nil,List.append_nil]
   ·intro k c rest a nx hc hk hg hp ihl;simp only [List.length_cons] at hp;simp only [ZdR,YD hk,Cq1,hg,Bq0,ZdO];rw [JU (by omega)];cases hf:c.form==1
    ·rw [List.filter_cons_of_neg (by simp [hf])];exact ihl a (by omega)
    ·rw [List.filter_cons_of_pos (p:=fun c:Zg=>c.form==1) hf];simp only [Cq1];rw [app1 (by omega) (by omega),Bq0,ihl _ (by simp;omega),List.append_assoc];rfl
def ZhJ (m:MM) (l:List (ByteArray×ZR)):MM:=l.foldl (fun m e=>QR m e.1 e.2) m
theorem Zci (m:MM) (e:ByteArray×ZR):Y0 (QR m e.1 e.2)=upd (Y0 m) e:=by
 funext x;rw [Zer];rfl
theorem Zeq (l:List (ByteArray×ZR)):∀ m,Y0 (ZhJ m l)=l.foldl upd (Y0 m):=by
 induction l with
 | nil=>intro m;rfl
 | cons e l ih=>
   intro m;show Y0 (ZhJ (QR m e.1 e.2) l)=_;rw [ih,Zci];rfl
theorem ZoY (l:List (ByteArray×ZR)):∀ m,ZaF m l=bif JW (Y0 m) l then some (ZhJ m l) else none:=by
 induction l with
 | nil=>intro m;rfl
 | cons e l ih=>
   intro m;simp only [ZaF,JW,ih,Zci];cases okE (Y0 m) e <;> rfl
theorem Zfb (a b:List (ByteArray×ZR)) (m:MM):ZhJ m (a ++ b)=ZhJ (ZhJ m a) b:=List.foldl_append
theorem Zu1 (l:List Spt):∀ a,0 < a ->∀ m ns,Zcu (a,m,ns) l=bif Wd (has ns) (l.map (·.1)) && JW (Y0 m) (evJ a l) then some (a + l.length,ZhJ m (evJ a l),UW ns (l.map (·.1))) else none:=by
 induction l with
 | nil=>intro a ha m ns;rfl
 | cons x l ih=>
   intro a ha m ns;show(Zcf (a,m,ns) x).bind _=_;unfold Zcf;simp only [decide_eq_true ha,Bool.true_and,List.map_cons,Wd,evJ,ZiR,ZoY,← Zeq,Cq1];cases has ns x.1
   ·simp only [Cq0,Bool.not_false,Bool.true_and];cases JW (Y0 m) ((jns x.2).map (ev a))
    ·simp
    ·simp only [Cq1,Option.map_some,Bq0,Bool.true_and];rw [ih (a + 1) (by omega),Zdu,Zfb];have:UW ns (x.1::l.map (·.1))=UW (QR ns x.1 true) (l.map (·.1)):=rfl;rw [this,List.length_cons,show a + 1 + l.length=a + (l.length + 1) by omega]
   ·rfl
theorem ZpC {ν:Type} (m:List (ByteArray×ν)) (g:ByteArray ->Bool):(m.any fun e=>g e.1)=true↔∃ k,(Y0 m k).isSome=true∧g k=true:=by
 rw [List.any_eq_true]
 constructor
 ·rintro⟨e,he,hg⟩;refine⟨e.1,?_,hg⟩;cases h:Y0 m e.1 with
  | some v=>rfl
  | none=>
    unfold Y0 at h
    have:YA m e.1=none:=by cases h':YA m e.1 with
     | none=>rfl
     | some q=>rw [h'] at h;cases h
    exact absurd rfl (Zcx.1 this e he)
 ·rintro⟨k,hk,hg⟩;cases h:YA m k with
  | none=>unfold Y0 at hk;rw [h] at hk;cases hk
  | some q=>exact⟨(k,q.2),List.mem_of_getElem? (Zgr h),hg⟩
theorem Zrc (l:List (ByteArray×ZR)):∀ f x,(l.foldl upd f x).isSome= ((f x).isSome || l.any fun e=>decide (x=e.1)):=by
 induction l with
 | nil=>intro f x;simp
 | cons e l ih=>
   intro f x;rw [List.foldl_cons,ih,List.any_cons];unfold upd;by_cases h:x=e.1
   ·simp [h]
   ·simp [h]
theorem Zuc (l:List (ByteArray×ZR)) (g:ByteArray ->Bool):((ZhJ [] l).any fun e=>g e.1)=l.any fun e=>g e.1:=by
 rw [Bool.eq_iff_iff,ZpC];simp only [Zeq,Zrc];rw [List.any_eq_true]
 constructor
 ·rintro⟨k,h,hg⟩;have:(l.any fun e=>decide (k=e.1))=true:=by simpa [Y0,YA] using h
  obtain⟨e,he,hk⟩:=List.any_eq_true.1 this;rw [decide_eq_true_eq] at hk;exact⟨e,he,by rw [← hk];exact hg⟩
 ·rintro⟨e,he,hg⟩;refine⟨e.1,?_,hg⟩;rw [Bool.or_eq_true];right;exact List.any_eq_true.2 ⟨e,he,by simp⟩
theorem Zp7 {ν:Type} (b:ByteArray ->ν ->Option Bool) (g:ByteArray ->Bool) (h:∀ k v,b k v=some (g k)) (l:List (ByteArray×ν)):Zij b l=some (l.any fun e=>g e.1):=by
 induction l with
 | nil=>rfl
 | cons e l ih=>simp only [Zij,h,ih,Bq0,List.any_cons]
theorem Zhu {F:Nat} (hF:10000000000000000000 <=F) (l:List Zg) (hl:OkS (E0,l)) (hs:∀ sp ∈ l.flatMap X5,OkS sp) (hn:(l.flatMap X5).length <=60):Zbo F l=some (bif AgW l then .ok () else .Yn 2):=by
 unfold Zbo;have:=ZqP hF _ E0 l (0,[],[]) (Nat.le_refl _) hl hs (by show 0 + _ <=1000;omega) F (by omega);have e:loop F (Kc F) (E0,l,0,[],[])=_:=this;rw [e,Bq0]
 have e2:Zcu (0,[],[]) ((E0,l)::l.flatMap X5)=bif JW (fun _=>none) (evJ 0 ((E0,l)::l.flatMap X5)) && Wd (fun _=>false) (Xc l) then some (1 + (l.flatMap X5).length,ZhJ [] (evJ 0 ((E0,l)::l.flatMap X5)),UW [] (Xc l)) else none:=by
  show(Zcf (0,[],[]) (E0,l)).bind _=_;unfold Zcf;have h0:(Y0 ([]:MM))=fun _=>none:=by funext x;rfl
  simp only [Nat.lt_irrefl,decide_false,Bool.false_and,Cq0,evJ,ZiR,ZoY,h0];have hm:JW ((List.map (ev 0) (jns l)).foldl upd fun _=>none) (evJ (0 + 1) (l.flatMap X5))=JW (Y0 (ZhJ [] ((jns l).map (ev 0)))) (evJ (0 + 1) (l.flatMap X5)):=by rw [Zeq,h0]
  rw [hm];cases JW (fun _=>none) ((jns l).map (ev 0))
  ·simp
  ·simp only [Cq1,Option.map_some,Bq0,Bool.true_and];rw [Zu1 _ (0 + 1) (by omega),ZjH,Zfb,Bool.and_comm];rfl
 rw [e2];unfold AgW;rw [Bool.and_comm (JW _ _)];cases Wd (fun _=>false) (Xc l) && JW (fun _=>none) (evJ 0 ((E0,l)::l.flatMap X5))
 ·rfl
 ·simp only [Cq1,Bool.true_and,Zor,Ut];unfold ZfP;dsimp only
  rw [Zp7 _ (has (UW [] (Xc l))) (fun k v=>by
   simp only [ZjZ,Zdf,Bq0,Q6,Zde];cases has (UW [] (Xc l)) k <;> rfl),Bq0,Zuc,ZgF,ZjH]
  simp only [Bool.false_or];cases ((evJ 0 ((E0,l)::l.flatMap X5)).any fun e=>decide (e.1 ∈ Xc l)) <;> rfl
theorem ZrK (c:Zg) (l:List Zg):Xc (c::l)= (X5 c).map (·.1) ++ Xc l:=by unfold Xc;rw [List.flatMap_cons,List.map_append]
theorem ZBT (ns l:List ByteArray) (x:ByteArray):(fun s=>decide (s ∈ ns ++ [x] ++ l))=fun s=>(decide (s ∈ ns) || decide (s=x)) || decide (s ∈ l):=by
 funext s;by_cases h1:s ∈ ns <;> by_cases h2:s=x <;> by_cases h3:s ∈ l <;> simp [h1,h2,h3]
theorem Zp6 {F:Nat} (hF:10000000000000000000 <=F):∀ n (l:List Zg) (s:YI),(l.flatMap X5).length <=n ->l.length <=60 ->(∀ sp ∈ l.flatMap X5,OkS sp) ->s.places.length + (l.flatMap X5).length <=1000 ->∀ Fr,n < Fr ->
 loop Fr (ZcK F) (s,l)=some ⟨s.channels,s.many,s.at_,s.places ++ Xc l,s.bad || !Wd (fun x=>decide (x ∈ s.places)) (Xc l)⟩:=by
 intro n
 induction n using Nat.strongRecOn with
 | _ n ih=>
   intro l s hn hl Zst hs1 Fr hFr;obtain⟨G,rfl⟩:∃ G,Fr=G + 1:= ⟨Fr - 1,by omega⟩
   rw [YE]
   have hih:∀ c ∈ l,c.form=2 ->∀ s:YI,s.places.length + (X5 c).length <=1001 ->loop G (ZcK F) (s,c.defs)=some ⟨s.channels,s.many,s.at_,s.places ++ Xc c.defs,s.bad || !Wd (fun x=>decide (x ∈ s.places)) (Xc c.defs)⟩:=fun c hc hf s hs=>by
    have e:X5 c= (c.text,c.defs)::c.defs.flatMap X5:=by rw [WB,hf];rfl
    have hle:(X5 c).length <= (l.flatMap X5).length:=Zcw hc;have hm:∀ sp ∈ X5 c,OkS sp:=fun sp hsp=>Zst sp (List.mem_flatMap.2 ⟨c,hc,hsp⟩)
    rw [e] at hle hm hs;simp only [List.length_cons] at hle hs;exact ih (n - 1) (by omega) c.defs s (by omega) (hm (c.text,c.defs) (by simp)).1 (fun sp hsp=>hm sp (by simp [hsp])) (by omega) G (by omega)
   generalize loop G (ZcK F)=n1 at hih;unfold ZcK;dsimp only;refine Yz (body:=ZdL F l n1) (fun(k:Nat) (p:List ByteArray×Bool)=>((k:Int),s.channels,s.many,s.at_,p.1,p.2)) l (fun rest p=>p.1.length + (rest.flatMap X5).length <=1000) (fun rest p=>some ⟨s.channels,s.many,s.at_,p.1 ++ Xc rest,p.2 || !Wd (fun x=>decide (x ∈ p.1)) (Xc rest)⟩) (F:=F) ?_ ?_ (by omega) (s.places,s.bad) hs1
   ·intro p nx _;simp only [ZdL,Z6,Cq0,Xc,List.flatMap_nil,List.map_nil,List.append_nil,Wd,Bool.not_true,Bool.or_false]
   ·intro k c rest p nx hc hk hg hp ihl;obtain⟨pl,bad⟩:=p;dsimp only at hp ihl ⊢;rw [List.flatMap_cons,List.length_append] at hp;simp only [ZdL,YD hk,Cq1,hg,Bq0,ZdK];rw [JU (by omega),ZrK];by_cases hf:c.form=2
    ·have e:X5 c= (c.text,c.defs)::c.defs.flatMap X5:=by rw [WB,hf];rfl
     have e':(X5 c).map (·.1)=c.text::Xc c.defs:=by rw [e];rfl
     rw [e'];have hlen:(X5 c).length= (c.defs.flatMap X5).length + 1:=by rw [e];rfl
     rw [hf,show((2:Int)==2)=true from rfl];simp only [Cq1];rw [app1 (by omega) (by omega)]
     have hgd:∀ (k:Bool ->Option YI),((gd (!bad) (some c) default).bind fun x57=>(gd (!bad) (Zg8 F pl x57.text) default).bind fun x66=>k (bad || x66))=k (bad || decide (c.text ∈ pl)):=fun k=>by
      cases bad
      ·simp only [Bool.not_false,Zdx,Bq0];rw [has_eq F pl c.text (by omega) (by omega)];rfl
      ·rfl
     have h2:=hih c hc hf ⟨s.channels,s.many,s.at_,pl ++ [c.text],bad || decide (c.text ∈ pl)⟩ (by simp;omega);refine(hgd (fun b=>(n1 (⟨s.channels,s.many,s.at_,pl ++ [c.text],b⟩,c.defs)).bind fun x93=>nx (((k + 1:Nat):Int),x93.channels,x93.many,x93.at_,x93.places,x93.bad))).trans ?_;rw [h2,Bq0];refine(ihl (pl ++ [c.text] ++ Xc c.defs,_) ?_).trans ?_
     ·show(pl ++ [c.text] ++ Xc c.defs).length + _ <=1000;simp only [List.length_append,Xc,List.length_map,List.length_singleton];omega
     ·dsimp only
      have eN:Wd (fun x=>decide (x ∈ pl)) (c.text::Xc c.defs ++ Xc rest)= (!decide (c.text ∈ pl) && (Wd (fun s=>decide (s ∈ pl) || decide (s=c.text)) (Xc c.defs) && Wd (fun s=>(decide (s ∈ pl) || decide (s=c.text)) || decide (s ∈ Xc c.defs)) (Xc rest))):=by
       rw [List.cons_append];show(_ && Wd _ _)=_;rw [Zk6]
      rw [eN,ZBT,ZyC];have eL:pl ++ [c.text] ++ Xc c.defs ++ Xc rest=pl ++ (c.text::Xc c.defs ++ Xc rest):=by simp
      rw [eL];cases bad <;> cases decide (c.text ∈ pl) <;> cases Wd (fun s=>decide (s ∈ pl) || decide (s=c.text)) (Xc c.defs) <;> simp
    ·have e:X5 c= []:=by
      rw [WB,show(c.form==2)=false by simpa using hf];rfl
     rw [show(c.form==2)=false by simpa using hf,e];rw [e] at hp;simp only [Cq0,List.map_nil,List.nil_append];exact ihl (pl,bad) (by simpa using hp)
theorem ZEO {α:Type} {l:List α} {x:α} (h:l.length <=900000):app 24 l [x]=some (l ++ [x]):=app1 h (by omega)
theorem ZpY {F:Nat} (hF:10000000000000000000 <=F):∀ n (l:List Zg) (out:List (List Zg)),(l.flatMap X5).length <=n ->l.length <=60 ->(∀ sp ∈ l.flatMap X5,OkS sp) ->out.length + (l.flatMap X5).length <=1000 ->∀ Fr,n < Fr ->
 loop Fr (ZcJ F) (out,l)=some (out ++ (l.flatMap X5).map (·.2)):=by
 intro n
 induction n using Nat.strongRecOn with
 | _ n ih=>
   intro l out hn hl Zst hs1 Fr hFr;obtain⟨G,rfl⟩:∃ G,Fr=G + 1:= ⟨Fr - 1,by omega⟩
   rw [YE]
   have hih:∀ c ∈ l,c.form=2 ->∀ o:List (List Zg),o.length + (X5 c).length <=1001 ->loop G (ZcJ F) (o,c.defs)=some (o ++ (c.defs.flatMap X5).map (·.2)):=fun c hc hf s hs=>by
    have e:X5 c= (c.text,c.defs)::c.defs.flatMap X5:=by rw [WB,hf];rfl
    have hle:(X5 c).length <= (l.flatMap X5).length:=Zcw hc;have hm:∀ sp ∈ X5 c,OkS sp:=fun sp hsp=>Zst sp (List.mem_flatMap.2 ⟨c,hc,hsp⟩)
    rw [e] at hle hm hs;simp only [List.length_cons] at hle hs;exact ih (n - 1) (by omega) c.defs s (by omega) (hm (c.text,c.defs) (by simp)).1 (fun sp hsp=>hm sp (by simp [hsp])) (by omega) G (by omega)
   generalize loop G (ZcJ F)=n1 at hih;unfold ZcJ;dsimp only;refine Yz (body:=ZdC l n1) (fun(k:Nat) (p:List (List Zg))=>(p,(k:Int))) l (fun rest p=>p.length + (rest.flatMap X5).length <=1000) (fun rest p=>some (p ++ (rest.flatMap X5).map (·.2))) (F:=F) ?_ ?_ (by omega) out hs1
   ·intro p nx _;simp only [ZdC,Z6,Cq0];simp
   ·intro k c rest p nx hc hk hg hp ihl;rw [List.flatMap_cons,List.length_append] at hp;simp only [ZdC,YD hk,Cq1,hg,Bq0,ZdB];rw [JU (by omega),List.flatMap_cons];by_cases hf:c.form=2
    ·have e:X5 c= (c.text,c.defs)::c.defs.flatMap X5:=by rw [WB,hf];rfl
     have hlen:(X5 c).length= (c.defs.flatMap X5).length + 1:=by rw [e];rfl
     rw [hf,show((2:Int)==2)=true from rfl];simp only [Cq1];rw [ZEO (by omega),Bq0,hih c hc hf _ (by simp only [List.length_append,List.length_map,List.length_singleton];omega),Bq0,ihl _ (by simp only [List.length_append,List.length_map,List.length_singleton];omega),e];simp
    ·have e:X5 c= []:=by
      rw [WB,show(c.form==2)=false by simpa using hf];rfl
     rw [show(c.form==2)=false by simpa using hf,e];rw [e] at hp;simp only [Cq0,List.nil_append];exact ihl p (by simpa using hp)
abbrev RJ:=MM×Bool
def rj (s:RJ) (e:ByteArray×ZR):RJ:=match Y0 s.1 e.1 with
 | none=>(s.1 ++ [e],s.2)
 | some w=>(s.1,s.2 || w.many !=e.2.many || w.at_ !=e.2.at_)
def Jz (pl:List ByteArray) (s:RJ):YI:= ⟨s.1.map (·.1),s.1.map (·.2.many),s.1.map (·.2.at_),pl,s.2⟩
theorem Zrv (s:RJ) (e:ByteArray×ZR):(rj s e).1.length <=s.1.length + 1:=by
 unfold rj;cases Y0 s.1 e.1 <;> simp
theorem Zjf (l:List (ByteArray×ZR)):∀ s:RJ,(l.foldl rj s).1.length <=s.1.length + l.length:=by
 induction l with
 | nil=>intro s;simp
 | cons e l ih=>intro s;rw [List.foldl_cons];have:=ih (rj s e);have:=Zrv s e;simp only [List.length_cons];omega
theorem Zil (m:MM) (e:ByteArray×ZR) (h:Y0 m e.1=none):Y0 (m ++ [e])=upd (Y0 m) e:=by
 funext x;unfold upd;by_cases hx:x=e.1
 ·rw [if_pos hx,hx,KH h];simp [Y0,YA]
 ·rw [if_neg hx];cases e2:Y0 m x with
  | some v=>exact Zes e2
  | none=>rw [KH e2];simp [Y0,YA];exact fun z=>hx z.symm
theorem Zyr (l:List (ByteArray×ZR)):∀ s:RJ,(l.foldl rj s).2= (s.2 || !JW (Y0 s.1) l)∧∀ x,(Y0 (l.foldl rj s).1 x).isSome= ((Y0 s.1 x).isSome || l.any fun e=>decide (x=e.1)):=by
 induction l with
 | nil=>intro s;simp [JW]
 | cons e l ih=>
   intro s;obtain⟨m,b⟩:=s;rw [List.foldl_cons];obtain⟨i1,i2⟩:=ih (rj (m,b) e);rw [i1];cases h:Y0 m e.1 with
   | none=>
     have hr:rj (m,b) e= (m ++ [e],b):=by unfold rj;rw [h]
     rw [hr] at i2 ⊢;refine⟨?_,fun x=>?_⟩
     ·simp only [JW,okE,h,Zil m e h];rfl
     ·rw [i2 x,Zil m e h,List.any_cons];unfold upd;by_cases hx:x=e.1
      ·simp [hx]
      ·simp [hx]
   | some w=>
     have hr:rj (m,b) e= (m,b || w.many !=e.2.many || w.at_ !=e.2.at_):=by unfold rj;rw [h]
     rw [hr] at i2 ⊢;refine⟨?_,fun x=>?_⟩
     ·simp only [JW,okE,h,Option.getD_some,Option.isSome_some,Bool.not_true,Bool.false_or];by_cases hw:w=e.2
      ·have hu:upd (Y0 m) e=Y0 m:=by
        funext x;unfold upd;by_cases hx:x=e.1
        ·rw [if_pos hx,hx,h,hw]
        ·rw [if_neg hx]
       rw [hu,(eqS w e.2).2 hw,hw];simp
      ·have:JK w e.2=false:=by
        cases hq:JK w e.2
        ·rfl
        ·exact absurd ((eqS w e.2).1 hq) hw
       rw [this]
       have:(w.many !=e.2.many || w.at_ !=e.2.at_)=true:=by
        obtain⟨wa,wm⟩:=w;obtain⟨t,ea,em⟩:=e;by_cases h1:wm=em
        ·have:wa ≠ ea:=fun h2=>hw (by rw [h1,h2])
         simp [this]
        ·simp [h1]
       rw [Bool.or_assoc b,this];simp
     ·rw [i2 x,List.any_cons];by_cases hx:x=e.1
      ·rw [hx,h];simp
      ·simp [hx]
theorem Zbi {α β:Type} {l:List α} {k:Nat} {x:α} (f:α ->β) (h:YB l (k:Int)=some x):YB (l.map f) (k:Int)=some (f x):=by
 rw [ZlQ] at h ⊢;rw [List.getElem?_map,h];rfl
theorem join_one {F:Nat} (hF:10000000000000000000 <=F) (pl:List ByteArray) (s:RJ) (m:Xw) (a:Nat) (hl:s.1.length <=800000):Zpm F (Jz pl s) m (a:Int)=some (Jz pl (rj s (ev a m))):=by
 obtain⟨tr,b⟩:=s
 have:=Yz (body:=ZdJ (Jz pl (tr,b)) m (a:Int)) (fun(k:Nat) (_:Unit)=>(k:Int)) tr (fun _ _=>True) (fun rest _=>some (match Y0 rest m.text with
  | none=>Jz pl (tr ++ [ev a m],b)
  | some w=>Jz pl (tr,b || w.many != (m.names.length:Int) || w.at_ != (a:Int)))) (F:=F) ?_ ?_ (by dsimp only at hl;omega) () trivial
 ·refine this.trans ?_;unfold rj;show some (match Y0 tr m.text with | none=>_ | some w=>_)=some (Jz pl (match Y0 tr m.text with | none=>_ | some w=>_));cases Y0 tr m.text <;> rfl
 ·intro _ nx _;have e:(((Jz pl (tr,b)).channels.length:Nat):Int)= ((tr.length:Nat):Int):=by simp [Jz]
  simp only [ZdJ,e,Z6,Cq0,Jz];dsimp only at hl;rw [app1 (by rw [List.length_map];omega) (by omega),Bq0,app1 (by rw [List.length_map];omega) (by omega),Bq0,app1 (by rw [List.length_map];omega) (by omega),Bq0];simp [Y0,YA,ev]
 ·intro k x rest _ nx hx hk hg _ ihl;have e:(((Jz pl (tr,b)).channels.length:Nat):Int)= ((tr.length:Nat):Int):=by simp [Jz]
  simp only [ZdJ,e,YD hk,Cq1];simp only [Jz];rw [Zbi (·.1) hg,Bq0]
  have hmg:Y0 (x::rest) m.text=if x.1=m.text then some x.2 else Y0 rest m.text:=by
   unfold Y0;rw [YA];by_cases h:x.1=m.text
   ·simp [h]
   ·simp only [h,if_false];cases YA rest m.text <;> rfl
  rw [hmg];dsimp only at hl;by_cases h:x.1=m.text
  ·rw [decide_eq_true h,if_pos h,Cq1,Zbi (fun e:ByteArray×ZR=>e.2.many) hg,Zbi (fun e:ByteArray×ZR=>e.2.at_) hg];cases b
   ·simp only [Bool.not_false,Zdx,Bq0,Bool.false_or];cases x.2.many != (m.names.length:Int) <;> rfl
   ·rfl
  ·rw [decide_eq_false h,if_neg h,Cq0,JU (by omega)];exact ihl () trivial
def stJ (pl:List ByteArray) (s:RJ):(List ByteArray)×(List Int)×(List Int)×(List ByteArray)×Bool:= (s.1.map (·.1),s.1.map (·.2.many),s.1.map (·.2.at_),pl,s.2)
theorem Zm7 {F:Nat} (hF:10000000000000000000 <=F) (pl:List ByteArray) (all:List (List Zg)) (cl:List Zg) (i j:Nat) (c:Zg) (hi:YB all (i:Int)=some cl) (hj:YB cl (j:Int)=some c) (hc:c.joins.length <=3) (nx:Int×(List ByteArray)×(List Int)×(List Int)×(List ByteArray)×Bool ->Option (YI×Bool)) (s:RJ) (hs:s.1.length <=100000):
 loop F (ZeD F all (i:Int) (j:Int) nx) (0,stJ pl s)=nx (Xm ((j:Int) + 1),stJ pl ((c.joins.map (ev i)).foldl rj s)):=by
 refine Yz (body:=ZeD F all (i:Int) (j:Int) nx) (fun(k:Nat) (s:RJ)=>((k:Int),stJ pl s)) c.joins (fun rest s=>s.1.length + rest.length <=200000) (fun rest s=>nx (Xm ((j:Int) + 1),stJ pl ((rest.map (ev i)).foldl rj s))) (F:=F) ?_ ?_ (by omega) s (by omega)
 ·intro s nx' _;simp only [ZeD,hi,hj,Bq0,stJ,Z6,Cq0];rfl
 ·intro k m rest s nx' hm hk hg hp ih;simp only [List.length_cons] at hp;simp only [ZeD,hi,hj,Bq0,stJ,YD hk,Cq1,hg];have:=join_one hF pl s m i (by omega);unfold Jz at this;rw [this,Bq0,JU (by omega)];exact ih (rj s (ev i m)) (by have:=Zrv s (ev i m);omega)
theorem Zm6 {F:Nat} (hF:10000000000000000000 <=F) (pl:List ByteArray) (all:List (List Zg)) (cl:List Zg) (i:Nat) (hi:YB all (i:Int)=some cl) (hl:cl.length <=60) (hc:∀ c ∈ cl,c.joins.length <=3) (nx:Int×(List ByteArray)×(List Int)×(List Int)×(List ByteArray)×Bool ->Option (YI×Bool)) (s:RJ) (hs:s.1.length <=50000):
 loop F (ZeE F all (i:Int) nx) (0,stJ pl s)=nx (Xm ((i:Int) + 1),stJ pl (((jns cl).map (ev i)).foldl rj s)):=by
 refine Yz (body:=ZeE F all (i:Int) nx) (fun(k:Nat) (s:RJ)=>((k:Int),stJ pl s)) cl (fun rest s=>s.1.length + 3 * rest.length <=60000) (fun rest s=>nx (Xm ((i:Int) + 1),stJ pl (((jns rest).map (ev i)).foldl rj s))) (F:=F) ?_ ?_ (by omega) s (by omega)
 ·intro s nx' _;simp only [ZeE,hi,Bq0,stJ,Z6,Cq0];rfl
 ·intro k c rest s nx' hm hk hg hp ih;simp only [List.length_cons] at hp;have h3:=hc c hm;simp only [ZeE,hi,Bq0,stJ,YD hk,Cq1];have:=Zm7 hF pl all cl i k c hi hg h3 nx' s (by omega);unfold stJ at this;rw [this,JU (by omega)];refine(ih _ ?_).trans ?_
  ·have:=Zjf (c.joins.map (ev i)) s;rw [List.length_map] at this;omega
  ·unfold jns;rw [List.flatMap_cons,List.map_append,List.foldl_append];rfl
theorem Zsb {F:Nat} (hF:10000000000000000000 <=F) (pl:List ByteArray) (Qu:List Spt) (hn:Qu.length <=61) (hs:∀ sp ∈ Qu,OkS sp) (b:Bool):
 loop F (ZeF F (Qu.map (·.2))) (0,[],[],[],pl,b)=loop F (Zbm F (((evJ 0 Qu).foldl rj ([],b)).1.map (·.1)) (((evJ 0 Qu).foldl rj ([],b)).1.map (·.2.many)) (((evJ 0 Qu).foldl rj ([],b)).1.map (·.2.at_)) pl) (0,((evJ 0 Qu).foldl rj ([],b)).2):=by
 have:=Zm5 (body:=ZeF F (Qu.map (·.2))) (fun(k:Nat) (s:RJ)=>((k:Int),stJ pl s)) Qu (fun _ rest s=>s.1.length + 180 * rest.length <=12000) (fun k rest s=>loop F (Zbm F (((evJ k rest).foldl rj s).1.map (·.1)) (((evJ k rest).foldl rj s).1.map (·.2.many)) (((evJ k rest).foldl rj s).1.map (·.2.at_)) pl) (0,((evJ k rest).foldl rj s).2)) (F:=F) ?_ ?_ (by omega) ([],b) (by simp;omega)
 ·exact this
 ·intro s nx _;have e:(((Qu.map (·.2)).length:Nat):Int)= (Qu.length:Int):=by simp
  simp only [ZeF,e,stJ,Z6,Cq0];rfl
 ·intro k sp rest s nx hm hk hg hp ih;simp only [List.length_cons] at hp;have e:(((Qu.map (·.2)).length:Nat):Int)= (Qu.length:Int):=by simp
  obtain⟨h1,h2⟩:=hs sp hm;simp only [ZeF,e,stJ,YD hk,Cq1];have:=Zm6 hF pl (Qu.map (·.2)) sp.2 k (Zbi (·.2) hg) h1 (fun c hc=>(h2 c hc).1) nx s (by omega);unfold stJ at this;rw [this,JU (by omega)]
  have hj:(jns sp.2).length <=3 * sp.2.length:=by
   have:∀ l:List Zg,(∀ c ∈ l,OkC c) ->(jns l).length <=3 * l.length:=by
    intro l
    induction l with
    | nil=>intro _;simp [jns]
    | cons c l ih=>
      intro h;have a:=ih fun d hd=>h d (List.mem_cons_of_mem _ hd)
      have b:= (h c (by simp)).1;unfold jns at a ⊢;rw [List.flatMap_cons,List.length_append,List.length_cons];omega
   exact this _ h2
  refine(ih _ ?_).trans ?_
  ·have:=Zjf ((jns sp.2).map (ev k)) s;rw [List.length_map] at this;omega
  ·simp only [evJ,List.foldl_append]
theorem Zsa {F:Nat} (hF:10000000000000000000 <=F) (pl:List ByteArray) (hpl:pl.length <=1000) (s:RJ) (hs:s.1.length <=100000):
 loop F (Zbm F (s.1.map (·.1)) (s.1.map (·.2.many)) (s.1.map (·.2.at_)) pl) (0,s.2)=some (Jz pl (s.1,s.2 || s.1.any fun e=>decide (e.1 ∈ pl)),!(s.2 || s.1.any fun e=>decide (e.1 ∈ pl))):=by
 refine Yz (body:=Zbm F (s.1.map (·.1)) (s.1.map (·.2.many)) (s.1.map (·.2.at_)) pl) (fun(k:Nat) (b:Bool)=>((k:Int),b)) s.1 (fun _ _=>True) (fun rest b=>some (Jz pl (s.1,b || rest.any fun e=>decide (e.1 ∈ pl)),!(b || rest.any fun e=>decide (e.1 ∈ pl)))) (F:=F) ?_ ?_ (by omega) s.2 trivial
 ·intro b nx _;have e:(((s.1.map (·.1)).length:Nat):Int)= (s.1.length:Int):=by simp
  simp only [Zbm,e,Z6,Cq0];simp [Jz]
 ·intro k x rest b nx hx hk hg _ ih;have e:(((s.1.map (·.1)).length:Nat):Int)= (s.1.length:Int):=by simp
  simp only [Zbm,e,YD hk,Cq1,Zbi (·.1) hg];rw [JU (by omega),List.any_cons];cases b
  ·simp only [Bool.not_false,Zdx,Bq0,Bool.false_or];rw [has_eq F pl x.1 (by omega) (by omega),Bq0];exact ih _ trivial
  ·exact ih true trivial
theorem ZEm {s:YI} {a b:Bool} (h:a=b):∃ s',some (s,a)=some (s',b):= ⟨s,by rw [h]⟩
theorem ZqO {F:Nat} (hF:10000000000000000000 <=F) (l:List Zg) (hl:OkS (E0,l)) (hs:∀ sp ∈ l.flatMap X5,OkS sp) (hn:(l.flatMap X5).length <=60):∃ s,ZnJ F l=some (s,AgW l):=by
 have h1:ZtC F (YI.mk [] [] [] [] false) l=_:=Zp6 hF _ l ⟨[],[],[],[],false⟩ (Nat.le_refl _) hl.1 hs (by show 0 + _ <=1000;omega) F (by omega);have h2:ZtA F [l] l=_:=ZpY hF _ l [l] (Nat.le_refl _) hl.1 hs (by show 1 + _ <=1000;omega) F (by omega);unfold ZnJ Zpn;rw [h1,Bq0,h2];simp only [Bq0,List.nil_append,Bool.false_or,List.not_mem_nil,decide_false];have hsp: [l] ++ (l.flatMap X5).map (·.2)= ((E0,l)::l.flatMap X5).map (·.2):=rfl
 have hok:∀ sp ∈ (E0,l)::l.flatMap X5,OkS sp:=fun sp hsp=>by
  rcases List.mem_cons.1 hsp with rfl | h
  ·exact hl
  ·exact hs sp h
 have hlen:(evJ 0 ((E0,l)::l.flatMap X5)).length <=20000:=by
  have:∀ (Qu:List Spt) (a:Nat),(∀ sp ∈ Qu,OkS sp) ->(evJ a Qu).length <=180 * Qu.length:=by
   intro Qu
   induction Qu with
   | nil=>intro a _;simp [evJ]
   | cons sp r ih=>
     intro a h;have i:=ih (a + 1) fun x hx=>h x (List.mem_cons_of_mem _ hx)
     obtain⟨h1,h2⟩:=h sp (by simp)
     have hj:∀ l:List Zg,(∀ c ∈ l,OkC c) ->(jns l).length <=3 * l.length:=by
      intro l
      induction l with
      | nil=>intro _;simp [jns]
      | cons c l ih=>
        intro h;have a:=ih fun d hd=>h d (List.mem_cons_of_mem _ hd)
        have b:= (h c (by simp)).1;unfold jns at a ⊢;rw [List.flatMap_cons,List.length_append,List.length_cons];omega
     have:=hj sp.2 h2;simp only [evJ,List.length_append,List.length_map,List.length_cons];omega
  have:=this _ 0 hok;simp only [List.length_cons] at this;omega
 have hnm:(Xc l).length <=60:=by unfold Xc;rw [List.length_map];exact hn
 rw [hsp,Zsb hF _ _ (by simp only [List.length_cons];omega) hok];have hr:=Zjf (evJ 0 ((E0,l)::l.flatMap X5)) ([],!Wd (fun _=>false) (Xc l));rw [Zsa hF _ (by omega) _ (by simp only [List.length_nil] at hr;omega)];obtain⟨r1,r2⟩:=Zyr (evJ 0 ((E0,l)::l.flatMap X5)) ([],!Wd (fun _=>false) (Xc l))
 have ha:(((evJ 0 ((E0,l)::l.flatMap X5)).foldl rj ([],!Wd (fun _=>false) (Xc l))).1.any fun e=>decide (e.1 ∈ Xc l))= (evJ 0 ((E0,l)::l.flatMap X5)).any fun e=>decide (e.1 ∈ Xc l):=by
  rw [Bool.eq_iff_iff,ZpC _ (fun x=>decide (x ∈ Xc l))];simp only [r2];rw [List.any_eq_true]
  constructor
  ·rintro⟨k,h,hg⟩;have:((evJ 0 ((E0,l)::l.flatMap X5)).any fun e=>decide (k=e.1))=true:=by simpa [Y0,YA] using h
   obtain⟨e,he,hk⟩:=List.any_eq_true.1 this;rw [decide_eq_true_eq] at hk;exact⟨e,he,by rw [← hk];exact hg⟩
  ·rintro⟨e,he,hg⟩;refine⟨e.1,?_,hg⟩;rw [Bool.or_eq_true];right;exact List.any_eq_true.2 ⟨e,he,by simp⟩
 have h0:(Y0 ([]:MM))=fun _=>none:=by funext x;rfl
 rw [ha,r1];refine ZEm ?_;unfold AgW;rw [h0];cases Wd (fun _=>false) (Xc l) <;> cases JW (fun _=>none) (evJ 0 ((E0,l)::l.flatMap X5)) <;> simp
theorem Zjn {p:Part} (h60:(pre p).length <=60) (hs:(pre p).all shp=true) {x:Term} (hx:Part.pr x ∈ pre p):OkS (E0,x.defs)∧(∀ sp ∈ x.defs.flatMap X5,OkS sp)∧(x.defs.flatMap X5).length <=60:=by
 have hle:=UK hx
 have hlen:((x.defs.map Part.cl).flatMap pre).length <= (pre (.pr x)).length:=by
  rw [QH];show _ <= ((x.args.map Part.ex ++ x.defs.map Part.cl ++ x.kids.map Part.pr).flatMap pre).length + 1;rw [List.flatMap_append,List.flatMap_append,List.length_append,List.length_append];omega
 have hc:∀ c ∈ x.defs,(pre (.cl c)).all shp=true:=fun c hc=>by
  rw [List.all_eq_true] at hs ⊢;exact fun y hy=>hs y (UF (YW (X6 hc) hy) hx)
 have h1:=Zmh x.defs;have h2:=ZrB x.defs;refine⟨⟨by show x.defs.length <=60;omega,fun c h=>ZrH (List.all_eq_true.1 (hc c h) _ (X4 _))⟩,fun sp hsp=>?_,by omega⟩;obtain⟨c,h,hsp⟩:=List.mem_flatMap.1 hsp;exact Zu8 60 c (by have:=Xk (X6 h);omega) (by omega) (hc c h) sp hsp
theorem Zkd {F:Nat} (hF:10000000000000000000 <=F) (t:Term) (hs:Lo (.pr t)) (hFp:(pre (.pr t)).length <=F):ZjT F t=some (bif Jc AgW (.pr t) then 0 else 2):=
 Zn6 hF AgW t hs hFp fun h60 hsh x hx _=>by obtain⟨a,b,c⟩:=Zjn h60 hsh hx;exact Zhu hF x.defs a b c
theorem Zkc {F:Nat} (hF:10000000000000000000 <=F) (t:Term) (hs:Lo (.pr t)) (hFp:(pre (.pr t)).length <=F):ZjS F t=some (bif Jc AgW (.pr t) then 0 else 2):=
 ZqA hF AgW t hs hFp fun h60 hsh x hx _=>by obtain⟨a,b,c⟩:=Zjn h60 hsh hx;exact ZqO hF x.defs a b c
theorem ZtS {F:Nat} (hF:10000000000000000000 <=F) (e:ZU) (hs:Lo (.ex e)) (hFp:(pre (.ex e)).length <=F):ZnO F e=some (bif Jc AgW (.ex e) then 0 else 2):=
 Zh2 hF AgW e hs hFp fun h60 hsh x hx _=>by obtain⟨a,b,c⟩:=Zjn h60 hsh hx;exact Zhu hF x.defs a b c
theorem ZtR {F:Nat} (hF:10000000000000000000 <=F) (e:ZU) (hs:Lo (.ex e)) (hFp:(pre (.ex e)).length <=F):ZnN F e=some (bif Jc AgW (.ex e) then 0 else 2):=Zke hF AgW e hs hFp
theorem WI {p:Part} (h:Jc AgW p=true):(pre p).all shp=true∧(pre p).length <=60:=by
 unfold Jc at h;simp only [Ba0,decide_eq_true_eq] at h;exact⟨h.1.1.2,h.1.1.1⟩
theorem Zvc {F:Nat} (hF:10000000000000000000 <=F) (t:Term) (hs:Lo (.pr t)) (hFp:(pre (.pr t)).length <=F):Zqu F t=some (bif Jc AgW (.pr t) then(((pre (.pr t)).length:Int),0) else(0,2)):=by
 unfold Zqu;rw [Zkd hF t hs hFp,Bq0];cases h:Jc AgW (.pr t)
 ·rfl
 ·have hs:Sm (.pr t):= ⟨by have:= (WI h).2;unfold BS;omega,hs⟩
  have h60:= (WI h).2;have:=count_eq hF _ (.pr t) hs (Nat.le_refl _) F (by omega) 0 (by omega);have e:loop F (Zah F) (Part.pr t,0)=_:=this;simp only [Cq1];show(loop F (Zah F) (Part.pr t,0)).bind _=_;rw [e,Nat.zero_add];rfl
theorem Zvb {F:Nat} (hF:10000000000000000000 <=F) (t:Term) (hs:Lo (.pr t)) (hFp:(pre (.pr t)).length <=F):Zqt F t=some (bif Jc AgW (.pr t) then(((pre (.pr t)).length:Int),0) else(0,2)):=by
 unfold Zqt;rw [Zkc hF t hs hFp,Bq0];cases h:Jc AgW (.pr t)
 ·rfl
 ·obtain⟨_,r2,_,_⟩:=ZiQ (.pr t);obtain⟨r3,_⟩:=r2 (WI h).1;show(ZlZ F t).bind _=_;rw [Zf1 hF t (⟨by have:= (WI h).2;unfold BS;omega,hs⟩:Sm (.pr t))];simp only [out,r3,Bq0,Cq1]
theorem Zwo {F:Nat} (hF:10000000000000000000 <=F) (t:Term) (hs:Lo (.pr t)) (hFp:(pre (.pr t)).length <=F):Zqs F t=some (bif Jc AgW (.pr t) then((dep (.pr t):Int),0) else(0,2)):=by
 unfold Zqs;rw [Zkd hF t hs hFp,Bq0];cases h:Jc AgW (.pr t)
 ·rfl
 ·have hs:Sm (.pr t):= ⟨by have:= (WI h).2;unfold BS;omega,hs⟩
  have e:ZnL F (.pr t)=_:=Zpw hF _ (.pr t) hs (Nat.le_refl _) F (by omega);show(ZnL F (.pr t)).bind _=_;rw [e];rfl
theorem Zwn {F:Nat} (hF:10000000000000000000 <=F) (t:Term) (hs:Lo (.pr t)) (hFp:(pre (.pr t)).length <=F):Zqr F t=some (bif Jc AgW (.pr t) then((dep (.pr t):Int),0) else(0,2)):=by
 unfold Zqr;rw [Zkc hF t hs hFp,Bq0];cases h:Jc AgW (.pr t)
 ·rfl
 ·obtain⟨_,r2,_,_⟩:=ZiQ (.pr t);obtain⟨_,r3⟩:=r2 (WI h).1;show(ZlZ F t).bind _=_;rw [Zf1 hF t (⟨by have:= (WI h).2;unfold BS;omega,hs⟩:Sm (.pr t))];simp only [out,r3,Bq0,Cq1]
theorem Zhy {F:Nat} (hF:10000000000000000000 <=F) (t:Term) (x:ZU) (hFp:(pre (.pr t)).length <=F) (hFx:(pre (.ex x)).length <=F) (hs:Lo (.pr t)) (hx:Lo (.ex x)):f4L F t x=some true:=by
 unfold f4L;rw [Zvc hF t hs hFp,Zvb hF t hs hFp,Zwo hF t hs hFp,Zwn hF t hs hFp,Zkd hF t hs hFp,Zkc hF t hs hFp,ZtS hF x hx hFx,ZtR hF x hx hFx];simp [gd,ZAj]
end Go.Proofs.YtbnepjakjmnadaaGreat
end
end
section
noncomputable section
namespace Go.Proofs.YtbnepjakjmnadaaGreat
open Go.Yj Go.Lf
theorem ZbS:maxLen=BB:=by decide
theorem Zsd {wm:Nat} {h:H} {p:SlP} {x:ZU} (s:Zc0 wm h p x):Zku x ->Lo (.ex x):=by
 induction s with
 | @mk p x ps hk _ ih=>
   intro v;obtain⟨_,_,ht,hv⟩:=v;intro y hy;rw [pre_eq] at hy;rcases List.mem_cons.1 hy with rfl | hy
   ·exact⟨by rw [← ZbS];exact ht,hk.max⟩
   ·obtain⟨k,hkk,hy⟩:=List.mem_flatMap.1 hy;obtain⟨z,hz,rfl⟩:=List.mem_map.1 hkk;obtain⟨i,hi⟩:=List.getElem?_of_mem hz;exact ih i z hi (hv z hz) y hy
theorem Zvh {wm:Nat} {h:H} {a:Option Addr} {c:Nat} {l:List ZU} (s:Sl ZI wm h a c l) (v:∀ x ∈ l,Zku x):∀ x ∈ l,Lo (.ex x):=fun x hx=>by
 obtain⟨ps,_,hF⟩:=Sl.iff.1 s;obtain⟨i,hi⟩:=List.getElem?_of_mem hx;exact Zsd (hF i x hi) (v x hx)
theorem Zvg {wm:Nat} {h:H} {a:Option Addr} {c:Nat} {l:List Xw} (s:Sl Yk wm h a c l) (v:∀ x ∈ l,ZwN x):∀ m ∈ l,m.text.size <=BB∧m.names.length <=BB∧∀ s ∈ m.names,s.size <=BB:=fun m hm=>by
 obtain⟨ps,_,hF⟩:=Sl.iff.1 s;obtain⟨i,hi⟩:=List.getElem?_of_mem hm;have f:Sl YJ wm h (ps i).1 (ps i).2 m.names:=hF i m hi;have:=v m hm;rw [← ZbS];exact⟨this.1,f.max,this.2⟩
theorem Zsc {x:Term} (h1:x.text.size <=BB) (h2:x.args.length <=BB) (h3:x.defs.length <=BB) (h4:x.kids.length <=BB) (a:∀ y ∈ x.args,Lo (.ex y)) (b:∀ y ∈ x.defs,Lo (.cl y)) (c:∀ y ∈ x.kids,Lo (.pr y)):Lo (.pr x):=by
 intro y hy;rw [pre_eq] at hy;rcases List.mem_cons.1 hy with rfl | hy
 ·exact⟨h1,h2,h3,h4⟩
 ·obtain⟨k,hk,hy⟩:=List.mem_flatMap.1 hy;simp only [Yo,List.mem_append,List.mem_map] at hk;rcases hk with(⟨z,hz,rfl⟩ | ⟨z,hz,rfl⟩) | ⟨z,hz,rfl⟩
  ·exact a z hz y hy
  ·exact b z hz y hy
  ·exact c z hz y hy
theorem Zse {x:Zg} (h1:x.text.size <=BB) (h2:x.joins.length <=BB) (h3:x.defs.length <=BB) (h4:x.kids.length <=BB) (a:∀ m ∈ x.joins,m.text.size <=BB∧m.names.length <=BB∧∀ s ∈ m.names,s.size <=BB) (b:∀ y ∈ x.defs,Lo (.cl y)) (c:∀ y ∈ x.kids,Lo (.pr y)):Lo (.cl x):=by
 intro y hy;rw [pre_eq] at hy;rcases List.mem_cons.1 hy with rfl | hy
 ·exact⟨h1,h2,h3,h4,a⟩
 ·obtain⟨k,hk,hy⟩:=List.mem_flatMap.1 hy;simp only [Yo,List.mem_append,List.mem_map] at hk;rcases hk with⟨z,hz,rfl⟩ | ⟨z,hz,rfl⟩
  ·exact b z hz y hy
  ·exact c z hz y hy
theorem Zvf {wm:Nat} {h:H} {p:TmP} {x:Term} (s:Jb wm h p x):Zd9 x ->Lo (.pr x):=
 Jb.rec (motive_1:=fun p x _=>Zd9 x ->Lo (.pr x)) (motive_2:=fun p x _=>Zb9 x ->Lo (.cl x))
  (fun{p x} pd pk ha hd hk _ _ i1 i2 v=>by
    obtain⟨_,ht,va,vd,vk⟩:=v
    exact Zsc (by rw [← ZbS];exact ht) ha.max hd.max hk.max (Zvh ha va)
     (fun y hy=>by obtain⟨i,hi⟩:=List.getElem?_of_mem hy;exact i1 i y hi (vd y hy)) (fun y hy=>by obtain⟨i,hi⟩:=List.getElem?_of_mem hy;exact i2 i y hi (vk y hy)))
  (fun{p x} pd pk ha hd hk _ _ i1 i2 v=>by
    obtain⟨_,ht,va,vd,vk⟩:=v
    exact Zse (by rw [← ZbS];exact ht) ha.max hd.max hk.max (Zvg ha va)
     (fun y hy=>by obtain⟨i,hi⟩:=List.getElem?_of_mem hy;exact i1 i y hi (vd y hy)) (fun y hy=>by obtain⟨i,hi⟩:=List.getElem?_of_mem hy;exact i2 i y hi (vk y hy))) s
def ZgM (t:Term) (x:ZU):Nat:=10000000000000000000 + ((pre (.pr t)).length + (pre (.ex x)).length)
theorem Zhz (t:Term) (x:ZU) (hs:Lo (.pr t)) (hx:Lo (.ex x)):f4L (ZgM t x) t x=some true:=
 Zhy (by unfold ZgM;omega) t x (by unfold ZgM;omega) (by unfold ZgM;omega) hs hx
end Go.Proofs.YtbnepjakjmnadaaGreat
end
end
section
set_option maxRecDepth 100000
namespace Go.Proofs.YtbnepjakjmnadaaGreat
open Go.ChangeShapes Go.WideShapes Go.ChangeAt Go.RowKit Go.Yj Go.Lf
theorem ZF1:Uj XX.P Yb Zd9 33:=ZBF
theorem ZF0:Uj XX.P ZI Zku 36:=ZBJ
theorem Zqc (H:Type) (enc:TypeId×Value ->H) (W:World) {v0 v1:Value} {d0 d1:DataW H} {p0 p1:List MemPlace}
 (hv0:∃ cs,v0= .agg cs)
 (h0:DataW.Trod enc Tryz.prog W 0 (fun _=>true) true 33 v0 d0 p0)
 (hv1:∃ cs,v1= .agg cs)
 (h1:DataW.Trod enc Tryz.prog W 0 (fun _=>true) true 36 v1 d1 p1):
 Calls Tryz.prog 4 #[v0,v1] W fun e W'=>e= .returned (.bool true)∧Below W.heap.size W W':=by
 obtain⟨g0,h0⟩:=h0;obtain⟨c0,rfl⟩:=hv0;obtain⟨g1,h1⟩:=h1;obtain⟨c1,rfl⟩:=hv1
 obtain⟨ρ,hp,els,r1,r2,r3,r4⟩:=Zwg (P:=Tryz.prog) (W:=W) [(33,(Value.agg c0).cells.toList,d0),(36,(Value.agg c1).cells.toList,d1)] (fun x hx=>by
  simp only [List.mem_cons,List.not_mem_nil,or_false] at hx;rcases hx with rfl | rfl
  ·exact ZEp ZkJ g0 33 _ d0 p0 (by decide) h0
  ·exact ZEp ZkJ g1 36 _ d1 p1 (by decide) h1)
 match els,r3,r4 with
 | [e0,e1],_,r4=>
   obtain⟨q0,a0⟩:=r4 0 e0 _ rfl rfl;obtain⟨m0,x0,z0,w0,F0⟩:=ZF1.2 a0;rw [z0] at q0;have L0:=Zvf (F0 hp.size) w0;replace F0:=fun wm=>Uc.1 (F0 wm)
   obtain⟨ZHQ,ZHP,ZHO⟩:=F0 hp.size;obtain⟨q1,a1⟩:=r4 1 e1 _ rfl rfl;obtain⟨m1,x1,z1,w1,F1⟩:=ZF0.2 a1;rw [z1] at q1;have L1:=Zsd (F1 hp.size) w1;replace F1:=fun wm=>Qo.1 (F1 wm)
   have hj:Yu XX _ _:=ZEl (F:= (ZgM x0 x1)) (r:=true) ZHQ ZHP ZHO (F1 hp.size) (Zhz x0 x1 L0 L1) hp.size
   have hc:=Zh3 (hj ρ #[.agg c0,.agg c1] W (Nat.le_refl _) r1 ⟨rfl,fun i v v' e1 e2=>by
    match i with
    | 0=>
      simp at e1 e2;subst e1 e2;exact Zoz q0
    | 1=>
      simp at e1 e2;subst e1 e2;exact Zoz q1
    | i + 2=>simp at e1⟩)
   refine hc.mono fun e w' ⟨ρ',he,_,st⟩=>⟨?_,st.below fun i b d _ _ ho=>by rw [r2 i] at ho;cases ho⟩
   cases he with
   | ret hv=>cases hv;rfl
theorem Zle:laidOutB Tryz.prog=true:=Kq0
theorem Zvi:ownKnob Tryz.prog.godebug=none:=Kq0
theorem Zm8 (os:Os) (started:os.Started) (H:Type) (enc:TypeId×Value ->H):
 ReturnsInHanded {} Tryz.checked os 4 .any (Rows.termChecksSpec.pre6 enc Tryz.prog Tryz.f4 Rows.termChecksRow.domain false) (Rows.termChecksSpec.post enc Tryz.prog Tryz.f4 false true false false):=by
 refine returnsInHanded_of_change (C:=Tryz.checked) Zvi started Kq0 Tryz.func4
  (ChangeSpec.witness6 (enc:=enc) (C:=Tryz.checked) false ⟨#[],#[.agg #[.int .i64 0,.string ⟨#[]⟩,.slice none 0 0,.slice none 0 0,.slice none 0 0],.agg #[.int .i64 0,.int .i64 0,.string ⟨#[]⟩,.slice none 0 0]],[]⟩ 8 Kq0 Kq0 Kq0 Kq0) ?_
 intro W base args ds gs before hval0 hW hcnd _;have hval:∀ (j:Nat) t v,Tryz.f4.params[j]? =some t ->args[j]? =some v ->Value.okWide Tryz.prog W .any base t v:=hval0;have hW':=hW;obtain⟨p,q,hA0,hV,rfl,hfz,hnd⟩:=hW;have hA:DataW.TrodAll enc Tryz.prog W 0 (fun _=>true) true Tryz.f4.params.toList args.toList ds p:=hA0;rw [Tryz.params4] at hA hval;obtain⟨v0,v1,d0,d1,p0,p1,rfl,rfl,rfl,h0,h1⟩:=trodAll_two hA;obtain⟨rfl,rfl⟩:=trodVars_none hV;clear hA0 hval0;simp only [List.append_nil] at hW';have k0:=hval 0 33 v0 rfl rfl;have o0:∃ cs,v0= .agg cs:=by obtain⟨cs,hcs,_⟩:=okWide_struct Tryz.underlying33 k0;exact⟨cs,hcs⟩
 have k1:=hval 1 36 v1 rfl rfl;have o1:∃ cs,v1= .agg cs:=by obtain⟨cs,hcs,_⟩:=okWide_struct Tryz.underlying36 k1;exact⟨cs,hcs⟩
 have hlt:∀ x ∈ p0 ++ p1,x.block < W.heap.size:=fun x hx=>hW'.lt x hx
 refine(Zqc H enc W o0 h0 o1 h1).mono fun e W' ⟨he,hg⟩=>?_
 subst he
 exact⟨_,rfl,ZhM (pa:=p0 ++ p1) (pv:= []) hW' (fun _ _ _=>(trodAll_cons_mk (shut_bool Tryz.underlying4 _) trodAll_mk0))
  (fun sp hsp=>trodAll_mk2 (WideElems.Trod_stays Zle Kq0 (of_decide_eq_true Kq0) h0 (fun x hx=>hg.same (hlt x (List.mem_append_left _ hx))) (fun x hx=>hsp x (List.mem_append_left _ hx)))
    (WideElems.Trod_stays Zle Kq0 (of_decide_eq_true Kq0) h1 (fun x hx=>hg.same (hlt x (List.mem_append_right _ hx))) (fun x hx=>hsp x (List.mem_append_right _ hx)))) (fun _ _=>rfl) (by simp)
  hg (ok_one Kq0 rfl (okWide_bool_mk Tryz.underlying4 _))⟩
theorem Zsf:Rows.termChecksRow.holds Tryz.pinned (OpenSpec.ofChange Rows.termChecksSpec):=
 OpenClaim.holds_of_wide 4 Tryz.f4 rfl rfl rfl rfl rfl rfl rfl ⟨rfl,rfl,rfl,rfl,rfl⟩ rfl rfl rfl rfl rfl Kq0 Tryz.func4 Kq0
  (of_decide_eq_true Kq0) (by unfold Func.isWrapper;first | (rw [if_pos (by decide +kernel)];kernel_rfl) | (rw [if_neg (by decide +kernel)];exact⟨rfl,rfl⟩))
  (fun os started H enc _=>Zm8 os started H enc)
theorem law_holds:Rows.TermChecksSaid:=Zsf
#print axioms law_holds
end Go.Proofs.YtbnepjakjmnadaaGreat
end
