/- Part 2. -/
import Derived.Laws.IdiomRangeMap
import Derived.Test.YtbnepjakjmnadaaGreatFp1
set_option linter.all false
set_option maxHeartbeats 2000000
def Go.Li0{α:Type _}{l:U α}{i:Nat}{a:α}(h:l[i]? =some a):∃h:i<l.length,l[i]=a:=List.getElem?_eq_some_iff.1 h
section
noncomputable section
namespace Go.ZF
section
variable{P:V7}{ρ:Ren}{h:H}{w:V9}
def ZkL(P:V7)(h:H)(t:J)(x:N):O (N×Eff):=
 match P.underlying t,x with
 | some .string,.string s=>some (Jd h,.new (.ZeZ s 0))
 | some (.map _ _),.map none=>some (Jd h,.new .Zim)
 | some (.map _ _),.map (some i)=>match h.at i with
   | .map _ clock=>some (Jd h,.new (.iter i clock clock none))
   | _=>none
 | _,_=>none
def QT:N:=.tuple #[.bool false]
def Znt(es:U Vb)(since Y6:Nat)(last:O Nat):O (O Vb):=
 bif Nat.ble since Y6 then match es,last with
  | [],_=>some none
  | [e],none=>bif Nat.blt e.born since then some (some e) else none
  | [e],some b=>bif Nat.blt e.born since&&Nat.beq e.born b then some none else none
  | _,_=>none
 else none
def ZBz(h:H)(it:Value)(isStr:Bool):Option (Value×Eff):=
 match it with
 | .pointer (some ⟨i,0,none⟩)=>match h.at i,isStr with
   | .ZeZ s pos,true=>bif Nat.blt pos s.size then some (.tuple #[.bool true,goInt pos,.int .i32 (Utf8.decode s pos).1],.upd i (.ZeZ s (pos+(Utf8.decode s pos).2))) else some (QT,.none)
   | .Zim,false=>some (QT,.none)
   | .iter m since Y6 last,false=>match h.at m with
     | .map es clock=>match Znt es since Y6 last with
       | some none=>some (QT,.none)
       | some (some e)=>some (.tuple #[.bool true,e.key,e.val],.upd i (.iter m since clock (some e.born)))
       | none=>none
     | _=>none
   | _,_=>none
 | _=>none
def Zkx(b:Nat):U Vb->O Vb
 | []=>none
 | e::es=>bif Nat.beq e.born b then some e else Zkx b es
def ZcT(h:H)(it:Value):Option Value:=
 match it with
 | .pointer (some ⟨i,0,none⟩)=>match h.at i with
   | .iter m _ Y6 (some s) | .UL m _ Y6 s=>match h.at m with
     | .map es clock=>bif Nat.beq Y6 clock then match Zkx s es with
         | some e=>some (.tuple #[e.key,e.val])
         | none=>none
       else none
     | _=>none
   | _=>none
 | _=>none
def ZgK{s:Sem N}{o:Obj}{A:YD}(hs:s.run P w=.ok ((Vf w.heap.size)) (World.push w o))(hA:∀l,Qd (ρ.add h.size (w.heap.size,0) l) (World.push w o) w.heap.size 0 l A):
 XH P ρ h w (do pure (.value (<-s))) (.val (Jd h)) (.new A):=
 ⟨_,World.push w o,KG _,⟨(0,0),rfl,⟨o,rfl⟩,hA (0,0)⟩,_,ZgP w _,by simp[hs]⟩
def Zjb(w:V9)(o:Obj):(World.push w o).heap[w.heap.size]? =some o:=by
 show(w.heap.push o)[w.heap.size]? =some o;simp
def Zpu(r:Rel ρ h w){t:J}{x x' v:N}{E:Eff}(hx:VR ρ x x')(ha:ZkL P h t x=some (v,E)):
 XH P ρ h w (do pure (.value (<-Instr.range t x'))) (.val v) E:=by
 unfold ZkL at ha;split at ha
 ·rename_i s hu;cases ha;cases hx with
  | string _=>
    refine ZgK (o:=.stringIter s 0) ?_ fun l=>⟨rfl,Zjb _ _⟩
    simp[Instr.range,run_underlying hu];rfl
 ·rename_i hu;cases ha;cases hx;refine ZgK (o:=.mapIter none 0 #[] 0) ?_ fun l=>⟨rfl,Zjb _ _⟩
  simp[Instr.range,run_underlying hu];rfl
 ·rename_i i hu;split at ha
  ·rename_i es clock hat;cases ha;cases hx with
   | @map _ b hi=>
     have ho:=r.obj _ _ _ hi;rw[hat]at ho;obtain⟨_,es',hw,_⟩:=ho;refine ZgK (o:=.mapIter (some b) clock #[] clock) ?_ fun l=>⟨rfl,b,#[],(Ren.ZaH r.fresh _ _ hi).1,Zjb _ _,(fun s e=>by cases e),fun _=>rfl⟩
     simp[Instr.range,run_underlying hu,getObj,Sem.run,hw];rfl
  ·cases ha
 ·cases ha
def ZpK{P:V7}{w:V9}(ty:J){b bm since c0:Nat}{seen:Va Nat}{es:Va Vb}{clock:Nat}(hb:w.heap[b]? =some (.mapIter (some bm) since seen c0))(hm:w.heap[bm]? =some (.map es clock))
 (hold:∀x∈es.toList,x.born<since) (hsc:since<=c0):
 ((leftOf es seen).size=0/\(Instr.next ((Vf b)) false ty).run P w=.ok QT w)\/
 ∃e∈(leftOf es seen).toList,∃w1:V9,w1.heap=w.heap/\Same w w1/\(Instr.next ((Vf b)) false ty).run P w=.ok (.tuple #[.bool true,e.key,e.val]) (w1.putObj b (.mapIter (some bm) since (seen.push e.born) clock)):=by
 simp only[Instr.next,getObj,Sem.run_bind,Sem.run,hb,hm,Result.andThen,next_test_false seen es since c0 hold hsc,Bool.false_eq_true,if_false];unfold leftOf;have hmem:∀x∈(Array.filter (fun e=>!seen.contains e.born) es).toList,x.born<since:=fun x hx=>hold x (by simp at hx ⊢;exact hx.1)
 generalize Array.filter (fun e=>!seen.contains e.born) es=L at hmem ⊢;have e1:L.filter (fun x=>decide (x.born<since))=L:=Array.filter_eq_self.2 (fun x hx=>by simpa using hmem x (by simpa using hx))
 have e2:L.filter (fun x=>decide (x.born >=since))=#[]:=by
  rw[Array.filter_eq_empty_iff];intro x hx;have:=hmem x (by simpa using hx);simp;omega
 simp only[e1,e2,Array.append_empty];by_cases h0:L.size=0
 ·left;have:L=#[]:=GT h0;subst this;refine⟨rfl,?_⟩;simp[choose,Sem.run,Question.forced,QT]
 ·right;have hne:L.isEmpty=false:=by simp[Array.isEmpty,h0]
  simp only[hne,Bool.false_eq_true,if_false,Array.empty_append,Array.size_map]
  have hch:∃(j:Nat) (w1:V9),j<L.size/\w1.heap=w.heap/\Same w w1/\(choose (Question.mapNext L.size)).run P w=.ok j w1:=by
   by_cases hf:L.size<=1
   ·exact⟨0,w,by omega,rfl,Same.refl w,by simp[choose,Sem.run,Question.forced,hf]⟩
   ·exact⟨_,w.drew,Nat.mod_lt _ Vg,rfl,⟨rfl,rfl,rfl⟩,by
     simp only[choose,Sem.run,Question.forced,decide_eq_true_eq,hf,if_false,Question.cut]
     rfl⟩
  obtain⟨j,w1,hj,hh,hal,hrun⟩:=hch;refine⟨L[j],by simp,w1,hh,hal,?_⟩
  have hset:∀(o':Obj),(setObj b o').run P w1=.ok () (w1.putObj b o'):=fun o'=>by
   have hlt:w1.heap[b]? =some (.mapIter (some bm) since seen c0):=by rw[hh];exact hb
   simp[setObj,Sem.run,hlt,World.putObj]
  simp only[hrun,Array.getElem?_map,GH hj,V2,Sem.run_bind,hset,Result.andThen]
  rfl
def EL.Zui{es':U Vb}(e:EL ρ [] es'):es'=[]:=by cases e;rfl
def EL.Zns{e0:Vb}{es':U Vb}(e:EL ρ [e0] es'):∃e',es'=[e']/\e'.key=e0.key/\plain e0.key=true/\e'.born=e0.born/\VR ρ e0.val e'.val:=by
 cases e with
 | cons hk hp hb hv t=>cases t;exact⟨_,rfl,hk,hp,hb,hv⟩
def Zfa{es:U Vb}{since Y6:Nat}{last:O Nat}{r:O Vb}(h:Znt es since Y6 last=some r):since<=Y6/\
 ((es=[]/\r=none)\/∃e,es=[e]/\e.born<since/\((last=none/\r=some e)\/(last=some e.born/\r=none))):=by
 unfold Znt at h;cases hc:Nat.ble since Y6<;>rw[hc]at h<;>simp only[Cq1,Cq0]at h
 ·cases h
 ·refine⟨Nl0 hc,?_⟩;split at h
  ·cases h;exact .inl ⟨rfl,rfl⟩
  ·rename_i e;cases hb:Nat.blt e.born since<;>rw[hb]at h<;>simp only[Cq1,Cq0]at h
   ·cases h
   ·cases h;exact .inr ⟨_,rfl,by rwa[G6]at hb,.inl ⟨rfl,rfl⟩⟩
  ·rename_i e b;cases hb:Nat.blt e.born since<;>rw[hb]at h<;>simp only[GG,Bool.false_and,Cq0]at h
   ·cases h
   ·cases hq:Nat.beq e.born b<;>rw[hq]at h<;>simp only[Cq1,Cq0]at h
    ·cases h
    ·cases h;exact .inr ⟨_,rfl,by rwa[G6]at hb,.inr ⟨by rw[Nb0 hq],rfl⟩⟩
  ·cases h
def Zss(r:Rel ρ h w){it it' v:N}{b:Z}{E:Eff}(t:J)(hx:VR ρ it it')(ha:ZBz h it b=some (v,E)):
 XH P ρ h w (do pure (.value (<-Instr.next it' b t))) (.val v) E:=by
 unfold ZBz at ha;split at ha
 ·rename_i i;cases hx with
  | @ptr _ bb d _ hi=>
    have ho:=r.obj _ _ _ hi;have hlt:=(r.dom _ _ _ hi).2;split at ha
    ·rename_i s pos hat;rw[hat]at ho;obtain⟨rfl,hw⟩:=ho;cases hc:Nat.blt pos s.size<;>rw[hc]at ha<;>simp only[Cq1,Cq0]at ha
     ·cases ha;have hn:¬ pos<s.size:=fun z=>by rw[<-G6]at z;rw[z]at hc;cases hc
      refine XH.JA (v':=QT) (VR.ZC rfl) ?_;simp[Instr.next,getObj,Sem.run,hw,hn,QT]
     ·cases ha;rw[G6]at hc
      refine⟨ρ,{w with heap:=w.heap.setIfInBounds bb (.stringIter s (pos+(Utf8.decode s pos).2))},⟨rfl,rfl,rfl⟩,⟨rfl,bb,0,hi,by simp,fun k hk=>by simp[Array.getElem?_setIfInBounds_ne (Ne.symm hk)],rfl,by simp[hlt]⟩,
       .tuple #[.bool true,goInt pos,.int .i32 (Utf8.decode s pos).1],VR.ZC rfl,?_⟩
      simp[Instr.next,getObj,setObj,Sem.run,hw,hc]
    ·rename_i hat;rw[hat]at ho;obtain⟨rfl,hw⟩:=ho;cases ha;refine XH.JA (v':=QT) (VR.ZC rfl) ?_;simp[Instr.next,getObj,Sem.run,hw,QT]
    ·rename_i m since Y6 last hat;rw[hat]at ho;obtain⟨rfl,m',seen,hm,hw,hback,hnil⟩:=ho;split at ha
     ·rename_i es clock ZzF;have hom:=r.obj _ _ _ hm;rw[ZzF]at hom;obtain⟨_,es',Zt,hes⟩:=hom;split at ha
      ·rename_i hone;cases ha;obtain⟨hsc,hh⟩:=Zfa hone;refine XH.JA (v':=QT) (VR.ZC rfl) ?_
       have hold:∀x∈es'.toList,x.born<since:=by
        rcases hh with⟨rfl,_⟩|⟨e,rfl,he,_⟩
        ·rw[EL.Zui hes];intro x hx;cases hx
        ·obtain⟨e',h1,_,_,h4,_⟩:=EL.Zns hes;rw[h1];intro x hx;simp at hx;subst hx;omega
       have hz:(leftOf es' seen).size=0:=by
        unfold leftOf;rcases hh with⟨rfl,_⟩|⟨e,rfl,he,(⟨_,h0⟩|⟨hl,_⟩)⟩
        ·have:es'=#[]:=by simpa using EL.Zui hes
         subst this;rfl
        ·cases h0
        ·obtain⟨e',h1,_,_,h4,_⟩:=EL.Zns hes;have h2:es'=#[e']:=by rw[<-Array.toArray_toList (xs:=es'),h1]
         subst h2;have hs:=hback _ hl
         have hin:seen.contains e'.born=true:=by
          rw[h4,Array.contains_iff_mem];rw[Array.back?_eq_getElem?]at hs;exact Array.mem_of_getElem? hs
         simp[hin]
         simpa using hin
       rcases ZpK (P:=P) t hw Zt hold hsc with⟨_,hr⟩|⟨e',he',_⟩
       ·simp only[G4,Nat.add_zero]at *;simp[hr]
       ·have:=G3▸List.length_pos_of_mem he';omega
      ·rename_i e hone;cases ha;obtain⟨hsc,hh⟩:=Zfa hone;rcases hh with⟨_,h0⟩|⟨e0,rfl,he,(⟨hl,h0⟩|⟨_,h0⟩)⟩
       ·cases h0
       ·cases h0;obtain⟨e',h1,hk,hp,hb,hv⟩:=EL.Zns hes;have ZhD:=hnil hl;subst ZhD;have h2:es'=#[e']:=by rw[<-Array.toArray_toList (xs:=es'),h1]
        have hold:∀x∈es'.toList,x.born<since:=by
         rw[h1];intro x hx;simp at hx;subst hx;omega
        rcases ZpK (P:=P) t hw Zt hold hsc with⟨hz,_⟩|⟨x,hx,w1,hw1,hsame,hr⟩
        ·subst h2;simp[leftOf]at hz
        ·have hx':x=e':=by subst h2;simpa[leftOf]using hx
         subst hx';have hlt':bb<w1.heap.size:=by rw[hw1];exact hlt
         refine⟨ρ,w1.putObj bb (.mapIter (some m') since (#[].push x.born) clock),⟨hsame.os,hsame.tape,hsame.output⟩,⟨rfl,bb,0,hi,by rw[World.putObj_size,hw1],fun k hk=>by rw[World.putObj_heap_other hk,hw1],rfl,m',_,hm,World.putObj_heap_same hlt',fun s hs=>(by cases hs;simp[hb]),fun z=>(by cases z)⟩,
          .tuple #[.bool true,x.key,x.val],?_,?_⟩
         ·refine .tuple _ _ rfl fun j y y' p q=>?_
          match j,p,q with
          | 0,p,q=>simp at p q;subst p q;exact .bool true
          | 1,p,q=>simp at p q;subst p q;rw[hk];exact VR.ZC hp
          | 2,p,q=>simp at p q;subst p q;exact hv
          | j+3,p,q=>simp at p
         ·simp[hr]
       ·cases h0
      ·cases ha
     ·cases ha
    ·cases ha
 ·cases ha
def Zq2{es es':U Vb}(e:EL ρ es es'){b:Nat}{x:Vb}(hf:Zkx b es=some x):∃x',es'.find? (fun e=>e.born==b)=some x'/\x'.key=x.key/\plain x.key=true/\VR ρ x.val x'.val/\x'.born=b/\x'∈es':=by
 induction e with
 | nil=>cases hf
 | @cons y y' es es' hk hp hb hv t ih=>
   simp only[Zkx]at hf;cases hc:Nat.beq y.born b<;>rw[hc]at hf<;>simp only[Cq1,Cq0]at hf
   ·obtain⟨x',h1,h2⟩:=ih hf;have hne:(y'.born==b)=false:=by rw[hb];rw[QG]at hc;simpa using hc
    exact⟨x',by rw[List.find?_cons,hne];exact h1,h2.1,h2.2.1,h2.2.2.1,h2.2.2.2.1,Kf _ h2.2.2.2.2⟩
   ·cases hf;have heq:(y'.born==b)=true:=by rw[hb];simpa using Nb0 hc
    exact⟨y',by rw[List.find?_cons,heq],hk,hp,hv,by rw[hb];exact Nb0 hc,by simp⟩
def Zq0(r:Rel ρ h w){it it' v:N}(hx:VR ρ it it')(ha:ZcT h it=some v):∃v',VR ρ v v'/\(Instr.entry it').run P w=.ok v' w:=by
 unfold ZcT at ha;split at ha
 ·rename_i i;cases hx with
  | @ptr _ bb d _ hi=>
    have ho:=r.obj _ _ _ hi
    have key:∀{m since Y6 s:Nat},(d=0/\∃m' seen,ρ m=some (m',0)/\w.heap[bb]? =some (.mapIter (some m') since seen Y6)/\seen.back? =some s)->(match h.at m with
     | .map es clock=>bif Nat.beq Y6 clock then match Zkx s es with
         | some e=>some (.tuple #[e.key,e.val])
         | none=>none
       else none
     | _=>none)=some v->∃v',VR ρ v v'/\(Instr.entry (.pointer (some ⟨bb,d+0,none⟩))).run P w=.ok v' w:=by
     rintro m since Y6 s ⟨rfl,m',seen,hm,hw,hb⟩ ha;split at ha
     ·rename_i es clock ZzF;have hom:=r.obj _ _ _ hm;rw[ZzF]at hom;obtain⟨_,es',Zt,hes⟩:=hom;cases hc:Nat.beq Y6 clock<;>rw[hc]at ha<;>simp only[Cq1,Cq0]at ha
      ·cases ha
      ·have hc:=Nb0 hc;subst hc;split at ha
       ·rename_i e hf;cases ha;obtain⟨e',f1,f2,f3,f4,_⟩:=Zq2 hes hf;refine⟨.tuple #[e'.key,e'.val],?_,?_⟩
        ·refine .tuple _ _ rfl fun j x x' a b=>?_
         match j,a,b with
         | 0,a,b=>simp at a b;subst a b;rw[f2];exact VR.ZC f3
         | 1,a,b=>simp at a b;subst a b;exact f4
         | j+2,a,b=>simp at a
        ·have hfa:es'.find? (fun e=>e.born==s)=some e':=by rw[<-Array.find?_toList];exact f1
         simp[Instr.entry,getObj,Sem.run,hw,hb,Zt,hfa]
       ·cases ha
     ·cases ha
    split at ha
    ·rename_i m since Y6 s hat;rw[hat]at ho;obtain⟨e,m',seen,hm,hw,hback,_⟩:=ho;exact key ⟨e,m',seen,hm,hw,hback s rfl⟩ ha
    ·rename_i m since Y6 s hat;rw[hat]at ho;exact key ho ha
    ·cases ha
 ·cases ha
end
section
variable{ρ:Ren}{h:H}{w:V9}
structure Ctx where
 P:Program
 sz:P.funcs.size=nfs
 fns:Tr Func
 ok:∀ f fn,fns.get f=some fn ->P.funcs[f]? =some fn∧fn.body.isSome=true∧(fn.name== "runtime.NumGoroutine")=false
 orc:FuncId ->Option Value
 Zys:∀ f v,orc f=some v ->plain v=true∧∀ w:World,CallsIn base 0 P f #[] w (fun e w'=>e= .returned v∧RowKit.Below w.heap.size w w')
 ZHu:FuncId ->Array Value ->H ->Option (Value×YD):=fun _ _ _=>none
 Zyt:∀ f args h v A,ZHu f args h=some (v,A) ->∀ ρ args' (w:World),Rel ρ h w ->Jy ρ args args' ->CallsIn base 0 P f args' w (fun e w'=>∃ v' p l,e= .returned v'∧
  RowKit.Below w.heap.size w w'∧w.heap.size <=p∧p < w'.heap.size∧VR (ρ.add h.size (p,0) l) v v'∧Qd (ρ.add h.size (p,0) l) w' p 0 l A):=by intros;contradiction
def ZgS{X:Ctx}{f:V8}{fn:Func}(h:X.fns.get f=some fn):f<nfs:=by
 have:=(X.ok f fn h).1;rw[<-X.sz];exact(Jn.1 this).1
def evs(ev:V6->O N):U V6->O (U N)
 | []=>some []
 | x::xs=>match ev x,evs ev xs with
   | some v,some vs=>some (v::vs)
   | _,_=>none
def evp(ev:V6->O N):U (Nat×V6)->O (U (Nat×N))
 | []=>some []
 | (i,x)::xs=>match ev x,evp ev xs with
   | some v,some vs=>some ((i,v)::vs)
   | _,_=>none
def evo(ev:V6->O N):O V6->O (O N)
 | none=>some none
 | some x=>match ev x with
   | some v=>some (some v)
   | none=>none
def EvR(ρ:Ren)(ev:V6->O N)(ev':V6->N):Prop:=∀x v,ev x=some v->VR ρ v (ev' x)
def KL{ev:V6->O N}{ev':V6->N}(he:EvR ρ ev ev'):∀(xs:U V6) vs,evs ev xs=some vs->LR ρ vs (xs.map ev'):=by
 intro xs
 induction xs with
 | nil=>intro vs hv;simp only[evs,J1]at hv;subst hv;exact LR.nil
 | cons x xs ih=>
   intro vs hv;simp only[evs]at hv;split at hv
   ·rename_i v vs' e1 e2;cases hv;exact LR.cons (he x v e1) (ih vs' e2)
   ·cases hv
def Zmx{ev:V6->O N}{ev':V6->N}(he:EvR ρ ev ev'):∀(xs:U (Nat×V6)) vs,evp ev xs=some vs ->
 vs.length=(xs.map fun p:Nat×V6=>(p.1,ev' p.2)).length/\∀(i:Nat) p p',vs[i]? =some p->(xs.map fun p:Nat×V6=>(p.1,ev' p.2))[i]? =some p'->p'.1=p.1/\VR ρ p.2 p'.2:=by
 intro xs
 induction xs with
 | nil=>intro vs hv;simp only[evp,J1]at hv;subst hv;exact⟨rfl,fun i p p' a=>by simp at a⟩
 | cons x xs ih=>
   intro vs hv;obtain⟨j,x⟩:=x;simp only[evp]at hv;split at hv
   ·rename_i v vs' e1 e2;cases hv;obtain⟨i1,i2⟩:=ih vs' e2;refine⟨by simpa using i1,fun i p p' a b=>?_⟩;cases i with
    | zero=>simp at a b;subst a b;exact⟨rfl,he x v e1⟩
    | succ i=>exact i2 i p p' (by simpa using a) (by simpa using b)
   ·cases hv
def Zg2{ev:V6->O N}{ev':V6->N}(he:EvR ρ ev ev'){x:O V6}{v:O N}(hv:evo ev x=some v):ZeQ ρ v (x.map ev'):=by
 cases x with
 | none=>simp only[evo,J1]at hv;subst hv;trivial
 | some x=>
   simp only[evo]at hv;split at hv
   ·rename_i u e;cases hv;exact he x u e
   ·cases hv
def Uz(X:Ctx)(h:H)(f:N)(args:U N):O (AN×Eff):=
 match f with
 | .func (.func g) first cap=>match X.fns.get g with
   | some _=>some (.enter g (first.toList++args++cap.toList).toArray,.none)
   | none=>none
 | .func (.yield l) _ _=>match h.at l with
   | .loop _ _ _ _ ps _ _ _=>bif Nat.beq args.length ps.toList.length then some (.round l args.toArray,.none) else none
   | _=>none
 | _=>none
def Kt {X:Ctx} {f:V8} {fn:Func} {args:Va N} (hf:X.fns.get f=some fn):(callFunc f args).run X.P w= .ok (.enter f args) w:=by
 obtain⟨h1,h2,h3⟩:=X.ok f fn hf;have hb:¬ fn.body=none:=by intro hh;rw [hh] at h2;cases h2
 have hn:¬ fn.name= "runtime.NumGoroutine" :=by simpa using h3
 simp [callFunc,h1,hn,hb]
def Ztl{X:Ctx}{f f':N}{args args':U N}{nx:AN}{E:Eff}(r:Rel ρ h w)(hf:VR ρ f f')(hargs:LR ρ args args')(ha:Uz X h f args=some (nx,E)):
 XH X.P ρ h w (do let d <-Deferred.ofValue f' args'.toArray;invoke d.target d.args) nx E:=by
 unfold Uz at ha;split at ha
 ·rename_i g first cap;split at ha
  ·rename_i fn hfn;cases ha;cases hf with
   | func _ _ _ first' cap' hy hx1 hx2 h1 h2=>
     refine⟨ρ,w,Same.refl w,⟨rfl,rfl⟩,(first'.toList++args'++cap'.toList).toArray,?_,?_⟩
     ·have e1:LR ρ first.toList first'.toList:=Jy.list ⟨hx1,h1⟩;have e2:LR ρ cap.toList cap'.toList:=Jy.list ⟨hx2,h2⟩;exact((e1.append hargs).append e2).arr
     ·have:=Kt (w:=w) (args:=first'++args'.toArray++cap') hfn;have e:(first'.toList++args'++cap'.toList).toArray=first'++args'.toArray++cap':=by apply GX.1;simp
      rw[e,<-this];simp[Deferred.ofValue,invoke]
  ·cases ha
 ·rename_i l u1 u2;split at ha
  ·rename_i st pd fr n ps Yf bd df hat;cases hn:Nat.beq args.length ps.toList.length<;>rw[show ps.toList.length=ps.size from G3]at hn<;>simp[hn]at ha
   obtain⟨rfl,rfl⟩:=ha;have hn:=Nb0 hn;cases hf with
   | func _ _ _ first' cap' hy=>exact absurd rfl (hy l)
   | yield hi=>
     rename_i b;have ho:=r.obj _ _ _ hi;rw[hat]at ho;obtain⟨_,fn,tmps,df',hw,hfr,hdf,_⟩:=ho;refine⟨ρ,w,Same.refl w,⟨rfl,rfl⟩,b,_,args'.toArray,hi,hw,hargs.arr,?_⟩;have hsz:¬ (args'.length≠ps.size):=by rw[<-hargs.1];omega
     have hg:(getObj b).run X.P w=.ok (.loop {state:=st,pending:=pd,fn:=fn,tmps:=tmps,params:=ps,assign:=Yf,body:=bd,defers:=df'}) w:=by
      simp[getObj,Sem.run,hw]
     simp only[Deferred.ofValue,invoke,Instr.yield,Instr.getLoop,Sem.run_bind,Sem.run_pure,Gx,hg];rw[if_neg (by simpa using hsz)];simp
  ·cases ha
 ·cases ha
def KD(P:V7)(x:N)(t:J)(ok:Z):O N:=
 match P.underlying t with
 | some (.interface _)=>none
 | some _=>
   match x with
   | .iface u v=>bif Nat.beq u t then some (bif ok then .tuple #[v,.bool true] else v) else bif ok then(match YF P t with|some z=>some (.tuple #[z,.bool false]) | none=>none) else none
   | .nilIface=>bif ok then(match YF P t with|some z=>some (.tuple #[z,.bool false]) | none=>none) else none
   | _=>none
 | none=>none
def ZoF{P:V7}{x x' v:N}{xt t:J}{ok:Z}(hx:VR ρ x x')(ha:KD P x t ok=some v):∃v',VR ρ v v'/\(Instr.typeAssert x' xt t ok).run P w=.ok v' w:=by
 unfold KD at ha;split at ha
 ·cases ha
 ·rename_i d hni hu;split at ha
  ·rename_i u y;cases hx with
   | iface _ _ y' hy=>
     cases hut:Nat.beq u t<;>rw[hut]at ha<;>simp at ha
     ·cases ok<;>simp at ha
      split at ha
      ·rename_i z hz;cases ha;obtain⟨z1,z2,z3⟩:=X5 hz;have hne:u≠t:=fun e=>by rw[e,V4]at hut;cases hut
       refine⟨_,VR.pair (VR.ZC z3) (.bool false),?_⟩;cases d<;>simp[Instr.typeAssert,run_underlying hu,hne,z1]at hni ⊢
      ·cases ha
     ·subst ha;have hut:=Nb0 hut;subst hut;refine⟨if ok then .tuple #[y',.bool true] else y',?_,?_⟩
      ·cases ok
       ·exact hy
       ·exact VR.pair hy (.bool true)
      ·cases d<;>cases ok<;>simp[Instr.typeAssert,run_underlying hu]at hni ⊢
  ·cases hx;cases ok<;>simp at ha
   split at ha
   ·rename_i z hz;cases ha;obtain⟨z1,z2,z3⟩:=X5 hz;refine⟨_,VR.pair (VR.ZC z3) (.bool false),?_⟩;cases d<;>simp[Instr.typeAssert,run_underlying hu,z1]at hni ⊢
   ·cases ha
  ·cases ha
 ·cases ha
def vN(v:O N):O (AN×Eff):=
 match v with
 | some v=>some (.val v,.none)
 | none=>none
def vE(v:O (N×Eff)):O (AN×Eff):=
 match v with
 | some (v,E)=>some (.val v,E)
 | none=>none
def sE(v:O Eff):O (AN×Eff):=
 match v with
 | some E=>some (.skip,E)
 | none=>none
def pN(v:O AN):O (AN×Eff):=
 match v with
 | some v=>some (v,.none)
 | none=>none
def Jb{P:V7}{v:O N}{nx:AN}{E:Eff}{s:Sem N}(ha:vN v=some (nx,E))(hs:∀x,v=some x->∃x',VR ρ x x'/\s.run P w=.ok x' w):
 XH P ρ h w (do pure (.value (<-s))) nx E:=by
 unfold vN at ha;split at ha
 ·cases ha;obtain⟨x',h1,h2⟩:=hs _ rfl;exact XH.JA h1 h2
 ·cases ha
def XT(P:V7)(op:BinOp)(t:J)(x y:V6)(a b:N):O (AN×Eff):=
 bif plain a&&plain b then pN (U0 P (do eqGuard op t x y a b;binOp op t a b))
 else match op with
 | .eql=>match K5 P t a b with
   | some r=>some (.val (.bool r),.none)
   | none=>none
 | .neq=>match K5 P t a b with
   | some r=>some (.val (.bool (!r)),.none)
   | none=>none
 | _=>none
def Zhz{P:V7}{t:J}{a a' b b':N}{r:Z}(ha:VR ρ a a')(hb:VR ρ b b')(hn:K5 P t a b=some r)(op:BinOp)(x y:V6)(hp:(plain a&&plain b)=false):
 (eqGuard op t x y a' b').run P w=.ok () w/\(op=.eql->binOp op t a' b'=do pure (.bool (<-Op.equal t a' b')))/\(op=.neq->binOp op t a' b'=do pure (.bool (!(<-Op.equal t a' b')))):=by
 unfold K5 at hn;split at hn
 all_goals first
  | (cases hn;done)
  | (cases ha<;>cases hb<;>first
      | (exfalso;simp[plain,scalar]at hp;done)
      | (refine⟨?_,fun e=>?_,fun e=>?_⟩
         ·unfold eqGuard;cases op<;>rfl
         ·subst e;rfl
         ·subst e;rfl))
def Zw0{P:V7}{op:BinOp}{t:J}{x y:V6}{a a' b b':N}{nx:AN}{E:Eff}(ha:VR ρ a a')(hb:VR ρ b b')(hr:XT P op t x y a b=some (nx,E)):
 XH P ρ h w (do pure (.value (<-(do eqGuard op t x y a' b';binOp op t a' b':Sem N)))) nx E:=by
 unfold XT at hr;cases hp:(plain a&&plain b)<;>rw[hp]at hr
 ·simp only[Cq0]at hr;split at hr
  ·split at hr
   ·rename_i r hn;cases hr;obtain⟨g1,g2,_⟩:=Zhz (w:=w) ha hb hn .eql x y hp;have he:=Zhy (w:=w) ha hb hn;exact XH.JA (.bool r) (by simp only[Sem.run_bind,g1,Gx,g2 rfl,he];rfl)
   ·cases hr
  ·split at hr
   ·rename_i r hn;cases hr;obtain⟨g1,_,g2⟩:=Zhz (w:=w) ha hb hn .neq x y hp;have he:=Zhy (w:=w) ha hb hn;exact XH.JA (.bool (!r)) (by simp only[Sem.run_bind,g1,Gx,g2 rfl,he];rfl)
   ·cases hr
  ·cases hr
 ·simp only[Cq1]at hr;rw[Ba0]at hp;rw[VR.YS hp.1 ha,VR.YS hp.2 hb];unfold pN at hr;split at hr
  ·rename_i v e;cases hr;exact Ue e
  ·cases hr
def QO(vs:U N):Z:=vs.all plain
def LR.YS{xs ys:U N}(hv:LR ρ xs ys)(h:QO xs=true):ys=xs:=by
 apply List.ext_getElem hv.1.symm;intro i h1 h2;unfold QO at h;rw[Kx]at h;exact VR.YS (h _ (GK h2)) (hv.2 i _ _ (J0 h2) (J0 h1))
def J7(P:V7)(h:H)(b:Builtin)(ts:Va J)(ty:J)(args:U N):O (AN×Eff):=
 match b,args with
 | .append,[s,x]=>vE (Q9 P h ts s x)
 | .len,[x]=>match ts.toList with
   | t::_=>vN (Ztx P h t x)
   | []=>none
 | .copy,[d,s]=>match ts.toList with
   | t::_=>vE (ZBF P h t d s)
   | []=>none
 | .clear,[x]=>match ts.toList with
   | t::_=>match ZtC P h t x with
     | some E=>some (.val (.tuple #[]),E)
     | none=>none
   | []=>none
 | .delete,[m,k]=>match ts.toList with
   | t::_=>match ZdA P h t m k with
     | some E=>some (.val (.tuple #[]),E)
     | none=>none
   | []=>none
 | .min,vs=>bif QO vs then pN (U0 P (Builtin.min_ ts ty vs.toArray)) else none
 | .max,vs=>bif QO vs then pN (U0 P (Builtin.max_ ts ty vs.toArray)) else none
 | .recover,[]=>some (.ZlT,.none)
 | _,_=>none
def KR{P:V7}{v:O (N×Eff)}{nx:AN}{E:Eff}{s:Sem Next}(ha:vE v=some (nx,E))(hs:∀x E,v=some (x,E)->XH P ρ h w s (.val x) E):XH P ρ h w s nx E:=by
 unfold vE at ha;split at ha
 ·cases ha;exact hs _ _ rfl
 ·cases ha
def Ze4{P:V7}{v:O Eff}{nx:AN}{E:Eff}{s:Sem Next}(ha:sE v=some (nx,E))(hs:∀E,v=some E->XH P ρ h w s .skip E):XH P ρ h w s nx E:=by
 unfold sE at ha;split at ha
 ·cases ha;exact hs _ rfl
 ·cases ha
def ZaT{P:V7}{v:O AN}{nx:AN}{E:Eff}{s:Sem Next}(ha:pN v=some (nx,E))(hs:∀x,v=some x->XH P ρ h w s x .none):XH P ρ h w s nx E:=by
 unfold pN at ha;split at ha
 ·cases ha;exact hs _ rfl
 ·cases ha
def LR.one{x:N}{ys:U N}(h:LR ρ [x] ys):∃y,ys=[y]/\VR ρ x y:=by
 match ys,h with
 | [y],h=>exact⟨y,rfl,h.2 0 x y rfl rfl⟩
 | [],h=>exact absurd h.1 (by simp)
 | _::_::_,h=>exact absurd h.1 (by simp)
def LR.two{x x2:N}{ys:U N}(h:LR ρ [x,x2] ys):∃y y2,ys=[y,y2]/\VR ρ x y/\VR ρ x2 y2:=by
 match ys,h with
 | [y,y2],h=>exact⟨y,y2,rfl,h.2 0 x y rfl rfl,h.2 1 x2 y2 rfl rfl⟩
 | [],h=>exact absurd h.1 (by simp)
 | [_],h=>exact absurd h.1 (by simp)
 | _::_::_::_,h=>exact absurd h.1 (by simp)
def ZlB{P:V7}{b:Builtin}{ts:Va J}{ty:J}{cs:Va Z}{args args':U N}{nx:AN}{E:Eff}(r:Rel ρ h w)(hargs:LR ρ args args')
 (ha:J7 P h b ts ty args=some (nx,E)):XH P ρ h w (builtin b ts ty cs args'.toArray) nx E:=by
 unfold J7 at ha;split at ha
 ·obtain⟨s',x',rfl,h1,h2⟩:=LR.two hargs;exact KR ha fun _ _ e=>ZoG r h1 h2 e
 ·obtain⟨x',rfl,h1⟩:=LR.one hargs;split at ha
  ·rename_i t rest e;have ht:ts[0]? =some t:=by rw[<-G8,e];rfl
   exact Jb ha fun _ e=>Zwi ht r h1 e
  ·cases ha
 ·obtain⟨s',x',rfl,h1,h2⟩:=LR.two hargs;split at ha
  ·rename_i t rest e;have ht:ts[0]? =some t:=by rw[<-G8,e];rfl
   exact KR ha fun _ _ e=>Zth ht r h1 h2 e
  ·cases ha
 ·obtain⟨x',rfl,h1⟩:=LR.one hargs;split at ha
  ·rename_i t rest e;have ht:ts[0]? =some t:=by rw[<-G8,e];rfl
   split at ha
   ·rename_i E e;cases ha;exact Zra ht r h1 e
   ·cases ha
  ·cases ha
 ·obtain⟨s',x',rfl,h1,h2⟩:=LR.two hargs;split at ha
  ·rename_i t rest e;have ht:ts[0]? =some t:=by rw[<-G8,e];rfl
   split at ha
   ·rename_i E e;cases ha;exact Zoo ht r h1 h2 e
   ·cases ha
  ·cases ha
 ·cases hp:QO args<;>rw[hp]at ha<;>simp at ha
  rw[hargs.YS hp];exact ZaT ha fun _ e=>Ue e
 ·cases hp:QO args<;>rw[hp]at ha<;>simp at ha
  rw[hargs.YS hp];exact ZaT ha fun _ e=>Ue e
 ·cases ha;exact⟨ρ,w,Same.refl w,⟨rfl,rfl⟩,rfl⟩
 ·cases ha
def ZnF:Fn->Z
 | .yield _=>true
 | _=>false
def bytesOf:U N->O (U UInt8)
 | []=>some []
 | .int .u8 n::r=>match bytesOf r with
   | some l=>some (UInt8.ofNat n.toNat::l)
   | none=>none
 | _=>none
def Zhm(P:V7)(h:H)(s d:J)(x:N):O N:=
 match P.underlying s,P.underlying d,x with
 | some (.slice e),some .string,.slice (some ⟨i,o,none⟩) n _=>match P.underlying e,h.at i with
   | some (.int .u8),.row cs _ _=>bif Nat.ble 1 n&&Nat.ble (o+n) cs.length then(match bytesOf ((cs.drop o).take n) with
     | some l=>some (.string ⟨l.toArray⟩)
     | none=>none) else none
   | _,_=>none
 | _,_,_=>none
def Zi5{P:V7}{w:V9}{β:Type}(f:N->β->Sem (ForInStep β))(g:β->N->β):∀(l:U N)(b:β),(∀c∈l,∀b,(f c b).run P w=.ok (.yield (g b c)) w)->(forIn l b f).run P w=.ok (l.foldl g b) w:=by
 intro l
 induction l with
 | nil=>intro b _;simp
 | cons a l ih=>
   intro b h;rw[List.forIn_cons];simp only[Sem.run_bind,h a (by simp) b,Gx];exact ih (g b a) fun c hc=>h c (by simp[hc])
def Zri:∀{cs:U N}{l:U UInt8},bytesOf cs=some l->(∀c∈cs,∃n,c=.int .u8 n)/\∀acc:Y,cs.foldl (fun(b:Y) c=>match c with
 | .int .u8 n=>b.push (UInt8.ofNat n.toNat)
 | _=>b) acc=⟨acc.data++l.toArray⟩:=by
 intro cs
 induction cs with
 | nil=>intro l h;cases h;exact⟨fun c hc=>(by cases hc),fun acc=>(by simp)⟩
 | cons c cs ih=>
   intro l h;unfold bytesOf at h;split at h
   ·rename_i h1;cases h1
   ·rename_i n r h1;cases h1;split at h
    ·rename_i l' e;cases h;obtain⟨i1,i2⟩:=ih e;refine⟨fun c hc=>?_,fun acc=>?_⟩
     ·rcases Kd.1 hc with z|z
      ·exact⟨n,z⟩
      ·exact i1 c z
     ·rw[Gq,i2];show ByteArray.mk ((acc.data.push _)++_)=_;simp
    ·cases h
   ·cases h
def Zrh {P:V7} {ρ:Ren} {h:H} {w:V9} {s d:J} {x x' v:N} (r:Rel ρ h w) (hx:VR ρ x x') (ha:Zhm P h s d x=some v):∃ v',VR ρ v v'∧(convert s d x').run P w= .ok v' w:=by
 unfold Zhm at ha;split at ha
 ·rename_i e i o n c hs hd;split at ha
  ·rename_i cs own k he hat;cases hc:(Nat.ble 1 n && Nat.ble (o + n) cs.length) <;> rw [hc] at ha <;> simp only [Cq1,Cq0] at ha
   ·cases ha
   ·rw [Ba0] at hc;have hn1:=Nl0 hc.1;have hle:=Nl0 hc.2;split at ha
    ·rename_i l hl;cases ha;cases hx with
     | X7 _ o' _ hi hc1=>omega
     | slice _ _ _ c' hi hcap=>
       rename_i b dd;have ho:=r.obj _ _ _ hi;rw [hat] at ho;obtain⟨vs',hl',hcell,hvs⟩:=Zc7 (o:=o) (n:=n) ho hle;have hlc:=run_loadCellsFrom (P:=P) (w:=w) ⟨b,dd + o,none⟩ (fun j=>vs'.getD j undef) n 0 #[] (fun j hj=>by rw [addr_add];have:=hcell j hj;rw [G4];exact this)
       have e1:(List.range n).map (fun j=>vs'.getD (0 + j) undef)=vs':=by
        apply List.ext_getElem (by simp [hl']);intro j h1 h2;simp [h2]
       rw [e1] at hlc;obtain⟨b1,b2⟩:=Zri hl;have hvl:=hvs.list
       have heq:vs'= (cs.drop o).take n:=by
        apply GO;intro j;cases hj:((cs.drop o).take n)[j]? with
        | none=>
          rw [List.getElem?_eq_none_iff] at hj ⊢;have:=hvl.1;simp at this hj ⊢;omega
        | some u=>
          have hjl:j < vs'.length:=by
           have h1:= (Li0 hj).1;have:=hvl.1;simp at this h1 ⊢;omega
          obtain⟨z,hz⟩:∃ z,vs'[j]? =some z:= ⟨vs'[j],by simp [hjl]⟩
          have h3:=hvl.2 j u z (by simpa using hj) (by simpa using hz);obtain⟨n',en⟩:=b1 u (GZ hj);subst en;cases h3;exact hz
       refine⟨.string ⟨l.toArray⟩,.string _,?_⟩
       have hrun:=Zi5 (P:=P) (w:=w) (fun c (r:Y)=>(match c with
        | .int .u8 n=>pure (.yield (r.push (UInt8.ofNat n.toNat)))
        | _=>do
          stuck "bytesToString: byte expected"
          pure (.yield r):Sem (ForInStep Y))) (fun(b:Y) c=>match c with
        | .int .u8 n=>b.push (UInt8.ofNat n.toNat)
        | _=>b) vs' ByteArray.empty (fun c hc b=>by
          rw [heq] at hc;obtain⟨n',rfl⟩:=b1 c hc;simp)
       rw [heq,b2] at hrun
       have e2:(⟨ByteArray.empty.data ++ l.toArray⟩:Y)= ⟨l.toArray⟩:=by
        show ByteArray.mk (#[] ++ l.toArray)=_;simp
       rw [e2,← heq] at hrun;simp only [convert,run_underlying hs,run_underlying hd,run_underlying he,Sem.run_bind,Sem.run_pure,Gx,Conv.bytesToString,loadCells,hlc];simp only [List.append_toArray,Ge,List.forIn_toArray] at hrun ⊢;exact Eq.trans (congrArg (fun z:Result Y=>z.andThen fun a w'=>Result.ok (Value.string a) w') hrun) (by simp)
    ·cases ha
  ·cases ha
 ·cases ha
def ZoJ(P:V7)(t:J)(name:String):O V8:=
 match P.info? t,P.underlying t with
 | some i,some (.struct _)=>match i.methods.find? (·.name==name) with
   | some m=>match m.path.toList,m.func with
     | [],some (f,false)=>some f
     | _,_=>none
   | none=>none
 | _,_=>none
def ZbD(X:Ctx)(r:N)(name:String)(args:U N):O (AN×Eff):=
 match r with
 | .iface t v=>match ZoJ X.P t name with
   | some f=>match X.fns.get f with
     | some _=>some (.enter f (v::args).toArray,.none)
     | none=>none
   | none=>none
 | _=>none
def ZnG{X:Ctx}{ρ:Ren}{h:H}{w:V9}{r r':N}{name:String}{args args':U N}{nx:AN}{E:Eff}(hr:VR ρ r r')(hargs:LR ρ args args')(ha:ZbD X r name args=some (nx,E)):
 XH X.P ρ h w (invoke (.fn (.method name) #[]) (#[r']++args'.toArray)) nx E:=by
 unfold ZbD at ha;split at ha
 ·rename_i t v;split at ha
  ·rename_i f hm;split at ha
   ·rename_i fn hfn;cases ha;cases hr with
    | iface _ _ v' hv=>
    refine⟨ρ,w,Same.refl w,⟨rfl,rfl⟩,(v'::args').toArray,?_,?_⟩
    ·have:LR ρ ([v]++args) ([v']++args'):=LR.append ⟨rfl,fun i a b e1 e2=>by
      cases i with
      | zero=>simp at e1 e2;subst e1 e2;exact hv
      | succ i=>simp at e1⟩ hargs
     exact this.arr
    ·unfold ZoJ at hm;split at hm
     ·rename_i inf fs hi hu;split at hm
      ·rename_i m hfm;split at hm
       ·rename_i f' hp hfu;cases hm;have hc:=Kt (w:=w) (args:=(v'::args').toArray) hfn;have ht:(typeInfo t).run X.P w=.ok inf w:=by simp[typeInfo,program,Sem.run,hi]
        have hx:(#[Value.iface t v']++args'.toArray).extract 1 (#[Value.iface t v']++args'.toArray).size=args'.toArray:=by
         apply GX.1;simp
        have hz:(#[Value.iface t v']++args'.toArray)[0]? =some (Value.iface t v'):=by simp
        have ZMO:#[v']++args'.toArray=(v'::args').toArray:=by simp
        obtain⟨k,hk⟩:∃k,X.P.types.size+Made.depth=k+1:=⟨X.P.types.size+99,rfl⟩
        have hmr:(method (k+1) t v' name).run X.P w=.ok (f,v') w:=by
         unfold method;simp[ht,hfm,hp,hfu,follow,receiverAt,run_underlying hu,Place.get]
        simp only[invoke,hz,callMethod,Sem.run_bind,Sem.run_pure,Gx];have hpr:(program).run X.P w=.ok X.P w:=by simp[program,Sem.run]
        simp only[hpr,Gx,hk,hmr,hx,ZMO];exact hc
       ·cases hm
      ·cases hm
     ·cases hm
   ·cases ha
  ·cases ha
 ·cases ha
def Xm(X:Ctx)(h:H)(ev:V6->O N)(o:Oper):O (AN×Eff):=
 match o.op with
 | .move x | .assign x=>vN (ev x)
 | .pick c a b=>match ev c with
   | some (.bool true)=>vN (ev a)
   | some (.bool false)=>vN (ev b)
   | _=>none
 | .alloc t=>match YF X.P t with
   | some z=>some (.val (Jd h),.new (.row z.cells.toList true 0))
   | none=>none
 | .box _ x=>match ev x with
   | some v=>some (.val (Jd h),.new (.row v.cells.toList true 0))
   | none=>none
 | .build t ps=>match evp ev ps.toList with
   | some ps=>vN (ZkQ X.P t ps)
   | none=>none
 | .buildSlice t n ps=>match evp ev ps.toList with
   | some ps=>vE (Zrp X.P h t n ps)
   | none=>none
 | .load t x=>match ev x with
   | some v=>vN (Ko X.P h t v)
   | none=>none
 | .store t a x=>match ev a,ev x with
   | some a,some x=>sE (Zhf X.P h t a x)
   | _,_=>none
 | .nilCheck x=>match ev x with
   | some (.pointer (some a))=>some (.val (.pointer (some a)),.none)
   | _=>none
 | .binOp op t x y _=>match ev x,ev y with
   | some a,some b=>XT X.P op t x y a b
   | _,_=>none
 | .unOp op _ x=>match ev x with
   | some a=>bif plain a then pN (U0 X.P (Op.unary op a)) else none
   | none=>none
 | .convert s d x=>match ev x with
   | some a=>bif plain a then pN (U0 X.P (convert s d a)) else vN (Zhm X.P h s d a)
   | none=>none
 | .makeInterface t x=>match ev x,X.P.underlying t with
   | some _,some (.interface _)=>none
   | some v,some _=>some (.val (.iface t v),.none)
   | _,_=>none
 | .makeFunc fn first cap=>bif ZnF fn then none else match evs ev first.toList,evs ev cap.toList with
   | some vs,some us=>some (.val (.func fn vs.toArray us.toArray),.none)
   | _,_=>none
 | .makeMap _ none=>some (.val (.map (some h.size)),.new (.map [] 0))
 | .makeSlice t l c=>match ev l,ev c with
   | some l,some c=>vE (ZBB X.P h t l c)
   | _,_=>none
 | .slice t x lo hi mx=>match ev x,evo ev lo,evo ev hi,evo ev mx with
   | some x,some lo,some hi,some mx=>bif plain x&&not (Zy5 x) then(match lo,hi,mx with
      | lo,hi,mx=>bif QO (lo.toList++hi.toList++mx.toList) then pN (U0 X.P (Instr.sliceAt t x lo hi mx)) else none)
     else vN (aslice X.P h t x lo hi mx)
   | _,_,_,_=>none
 | .fieldAddr s x f=>match ev x with
   | some v=>vN (ZcQ X.P s v f)
   | none=>none
 | .field t x f=>match ev x with
   | some v=>vN (ZoN X.P t v f)
   | none=>none
 | .indexAddr t x i=>match ev x,ev i with
   | some x,some i=>vN (ZeK X.P t x i)
   | _,_=>none
 | .index t x i=>match ev x,ev i with
   | some x,some i=>bif plain x&&plain i then pN (U0 X.P (Instr.index t x i)) else vN (ZiB X.P t x i)
   | _,_=>none
 | .lookup t m k ok=>match ev m,ev k with
   | some m,some k=>vN (Ub X.P h t m k ok)
   | _,_=>none
 | .mapUpdate t m k x | .insert t m k x=>match ev m,ev k,ev x with
   | some m,some k,some x=>sE (Xd X.P h t m k x)
   | _,_,_=>none
 | .mapEntry t m k=>match ev m,ev k with
   | some m,some k=>vE (Zhk X.P h t m k)
   | _,_=>none
 | .entryStore _ m s x=>match ev m,ev s,ev x with
   | some m,some s,some x=>sE (ZcS h m s x)
   | _,_,_=>none
 | .typeAssert x _ t ok=>match ev x with
   | some x=>vN (KD X.P x t ok)
   | none=>none
 | .extract x k=>match ev x with
   | some x=>vN (ZcR x k)
   | none=>none
 | .call c=>match c.callee,evs ev c.args.toList with
   | .builtin b,some args=>J7 X.P h b c.argTypes o.type args
   | .value f,some args=>match ev f with
     | some f=>Uz X h f args
     | none=>none
   | .invoke r name,some args=>match ev r with
     | some r=>ZbD X r name args
     | none=>none
   | _,_=>none
 | .defer c=>match c.callee,evs ev c.args.toList with
   | .value f,some args=>match ev f with
     | some (.func (.func g) first cap)=>some (.dfr {target:=.fn (.func g) cap,args:=first++args.toArray},.none)
     | _=>none
   | _,_=>none
 | .panic x=>match ev x with
   | some (.iface t v)=>some (.panic (.iface t v),.none)
   | _=>none
 | .range t x=>match ev x with
   | some x=>vE (ZkL X.P h t x)
   | none=>none
 | .next it b=>match ev it with
   | some it=>vE (ZBz h it b)
   | none=>none
 | .entry it=>match ev it with
   | some it=>vN (ZcT h it)
   | none=>none
 | _=>none
def Zfh{α β:Type}(f:α->β)(xs:Va α):(xs.toList.map f).toArray=xs.map f:=by cases xs;simp
def ZeQ.YS{v v':O N}(h:ZeQ ρ v v')(hp:QO v.toList=true):v'=v:=by
 cases v<;>cases v'<;>simp[ZeQ,QO]at h hp ⊢
 exact VR.YS hp h
set_option maxHeartbeats 1000000 in
theorem Za9 {X:Ctx} {ev:Operand ->Option Value} {ev':Operand ->Value} {o:Oper} {nx:AN} {E:Eff} (r:Rel ρ h w) (he:EvR ρ ev ev') (ha:Xm X h ev o=some (nx,E)):
 XH X.P ρ h w (execOp ev' o) nx E:=by
 unfold Xm at ha;split at ha
 ·rename_i x ho;unfold vN at ha;split at ha
  ·rename_i v e;cases ha;exact XH.val (he x v e) (by simp [execOp,ho])
  ·cases ha
 ·rename_i x ho;unfold vN at ha;split at ha
  ·rename_i v e;cases ha;exact XH.val (he x v e) (by simp [execOp,ho])
  ·cases ha
 ·rename_i c a b ho;split at ha
  ·rename_i e;have hc:=he c _ e;generalize hcc:ev' c=cv at hc;cases hc;unfold vN at ha;split at ha
   ·rename_i v e;cases ha;exact XH.val (he a v e) (by simp [execOp,ho,hcc,asBool])
   ·cases ha
  ·rename_i e;have hc:=he c _ e;generalize hcc:ev' c=cv at hc;cases hc;unfold vN at ha;split at ha
   ·rename_i v e;cases ha;exact XH.val (he b v e) (by simp [execOp,ho,hcc,asBool])
   ·cases ha
  ·cases ha
 ·-- alloc
  rename_i t ho;split at ha
  ·rename_i z hz;cases ha;unfold execOp;rw [ho];exact Zrv r hz
  ·cases ha
 ·rename_i t x ho;split at ha
  ·rename_i v e;cases ha;unfold execOp;rw [ho];exact ZwY r t (he x v e)
  ·cases ha
 ·rename_i t ps ho;split at ha
  ·rename_i vs e;obtain⟨q1,q2⟩:=Zmx he _ _ e;unfold execOp;rw [ho];refine Jb ha fun x hx=>?_
   obtain⟨x',h1,h2⟩:=Zrj (w:=w) q1 q2 hx;have e3:(ps.toList.map fun p:Nat×Operand=>(p.1,ev' p.2)).toArray=ps.map fun p:Nat×Operand=>(p.1,ev' p.2):=Zfh _ _
   rw [e3] at h2;exact⟨x',h1,h2⟩
  ·cases ha
 ·rename_i t n ps ho;split at ha
  ·rename_i vs e;obtain⟨q1,q2⟩:=Zmx he _ _ e;unfold execOp;rw [ho];refine KR ha fun x E hx=>?_
   have:=Zse r q1 q2 hx;have e3:(ps.toList.map fun p:Nat×Operand=>(p.1,ev' p.2)).toArray=ps.map fun p:Nat×Operand=>(p.1,ev' p.2):=Zfh _ _
   rw [e3] at this;exact this
  ·cases ha
 ·rename_i t x ho;split at ha
  ·rename_i v e;unfold execOp;rw [ho];exact Jb ha fun _ hx=>Zjz r (he x v e) hx
  ·cases ha
 ·rename_i t a x ho;split at ha
  ·rename_i u v e1 e2;unfold execOp;rw [ho];exact Ze4 ha fun _ hx=>Zpg r (he a u e1) (he x v e2) hx
  ·cases ha
 ·rename_i x ho;split at ha
  ·rename_i a e;cases ha;have hx:=he x _ e;generalize hxx:ev' x=xv at hx;cases hx with
   | ptr o hi=>exact XH.val (.ptr o hi) (by simp [execOp,ho,hxx])
  ·cases ha
 ·rename_i op t x y yt ho;split at ha
  ·rename_i a b e1 e2;unfold execOp;rw [ho];exact Zw0 (he x a e1) (he y b e2) ha
  ·cases ha
 ·rename_i op t x ho;split at ha
  ·rename_i a e;cases hp:plain a <;> rw [hp] at ha <;> simp at ha
   unfold execOp;rw [ho];dsimp only;rw [VR.YS hp (he x a e)];exact ZaT ha fun _ hx=>Ue hx
  ·cases ha
 ·rename_i s d x ho;split at ha
  ·rename_i a e;cases hp:plain a <;> rw [hp] at ha <;> simp at ha
   ·unfold vN at ha;split at ha
    ·rename_i v e2;cases ha;obtain⟨v',h1,h2⟩:=Zrh r (he x a e) e2;exact XH.val h1 (by simp [execOp,ho,h2])
    ·cases ha
   ·unfold execOp;rw [ho];dsimp only;rw [VR.YS hp (he x a e)];exact ZaT ha fun _ hx=>Ue hx
  ·cases ha
 ·rename_i t x ho;split at ha
  ·cases ha
  ·rename_i v d hni e1 e2;cases ha;refine XH.val (.iface t _ _ (he x v e1)) ?_;cases d <;> simp [execOp,ho,Instr.makeInterface,run_underlying e2] at hni ⊢
  ·cases ha
 ·rename_i fn first cap ho;cases hy:ZnF fn <;> rw [hy] at ha <;> simp at ha
  split at ha
  ·rename_i vs us e1 e2;cases ha;have q1:= (KL he _ _ e1).arr;have q2:= (KL he _ _ e2).arr
   refine XH.val (.func fn _ _ (first.map ev') (cap.map ev') (fun l hl=>by subst hl;cases hy) (by simpa using q1.1) (by simpa using q2.1)
    (fun i v v' a b=>q1.2 i v v' a (by simpa using b)) (fun i v v' a b=>q2.2 i v v' a (by simpa using b))) (by simp [execOp,ho,Instr.makeFunc])
  ·cases ha
 ·rename_i t ho;cases ha;refine⟨ρ.add h.size (w.heap.size,0) (0,0),World.push w (.map #[] 0),KG _,⟨_,rfl,⟨_,rfl⟩,rfl,#[],Zub _,.nil⟩,.map (some w.heap.size),.map (Ren.add_same ρ h.size _ _),?_⟩;simp [execOp,ho,Instr.makeMap];rfl
 ·rename_i t l c ho;split at ha
  ·rename_i u v e1 e2;unfold execOp;rw [ho];exact KR ha fun _ _ hx=>Zsw r (he l u e1) (he c v e2) hx
  ·cases ha
 ·rename_i t x lo hi mx ho;split at ha
  ·rename_i v lo' hi' mx' e1 e2 e3 e4;have q1:=he x v e1;have q2:=Zg2 he e2;have q3:=Zg2 he e3;have q4:=Zg2 he e4;unfold execOp;rw [ho];cases hp:(plain v && not (Zy5 v)) <;> rw [hp] at ha
   ·simp only [Cq0] at ha;exact Jb ha fun _ hx=>Zpk r q1 q2 q3 q4 hx
   ·simp only [Cq1] at ha;rw [Ba0] at hp;cases hq:QO (lo'.toList ++ hi'.toList ++ mx'.toList) <;> rw [hq] at ha <;> simp only [Cq0,Cq1] at ha
    ·cases ha
    ·simp only [QO,List.all_append,Ba0] at hq;dsimp only;rw [VR.YS hp.1 q1,ZeQ.YS q2 hq.1.1,ZeQ.YS q3 hq.1.2,ZeQ.YS q4 hq.2];exact ZaT ha fun _ hx=>Ue hx
  ·cases ha
 ·rename_i s x f ho;split at ha
  ·rename_i v e;unfold execOp;rw [ho];exact Jb ha fun _ hx=>ZqB (he x v e) hx
  ·cases ha
 ·rename_i t x f ho;split at ha
  ·rename_i v e;unfold execOp;rw [ho];exact Jb ha fun _ hx=>ZnX (he x v e) hx
  ·cases ha
 ·rename_i t x i ho;split at ha
  ·rename_i u v e1 e2;unfold execOp;rw [ho];exact Jb ha fun _ hx=>ZpW (he x u e1) (he i v e2) hx
  ·cases ha
 ·rename_i t x i ho;split at ha
  ·rename_i u v e1 e2;unfold execOp;rw [ho];cases hp:(plain u && plain v) <;> rw [hp] at ha <;> simp only [Cq0,Cq1] at ha
   ·exact Jb ha fun _ hx=>ZnH (he x u e1) (he i v e2) hx
   ·rw [Ba0] at hp;dsimp only;rw [VR.YS hp.1 (he x u e1),VR.YS hp.2 (he i v e2)];exact ZaT ha fun _ hx=>Ue hx
  ·cases ha
 ·rename_i t m k ok ho;split at ha
  ·rename_i u v e1 e2;unfold execOp;rw [ho];exact Jb ha fun _ hx=>ZnE r (he m u e1) (he k v e2) hx
  ·cases ha
 ·rename_i t m k x ho;split at ha
  ·rename_i u v y e1 e2 e3;unfold execOp;rw [ho];exact Ze4 ha fun _ hx=>ZbH r (he m u e1) (he k v e2) (he x y e3) hx
  ·cases ha
 ·rename_i t m k x ho;split at ha
  ·rename_i u v y e1 e2 e3;unfold execOp;rw [ho];exact Ze4 ha fun _ hx=>ZbH r (he m u e1) (he k v e2) (he x y e3) hx
  ·cases ha
 ·rename_i t m k ho;split at ha
  ·rename_i u v e1 e2;unfold execOp;rw [ho];exact KR ha fun _ _ hx=>Zjv r (he m u e1) (he k v e2) hx
  ·cases ha
 ·rename_i t m s x ho;split at ha
  ·rename_i u v y e1 e2 e3;unfold execOp;rw [ho];exact Ze4 ha fun _ hx=>Zg5 r (he m u e1) (he s v e2) (he x y e3) hx
  ·cases ha
 ·rename_i x xt t ok ho;split at ha
  ·rename_i v e;unfold execOp;rw [ho];exact Jb ha fun _ hx=>ZoF (he x v e) hx
  ·cases ha
 ·rename_i x k ho;split at ha
  ·rename_i v e;unfold execOp;rw [ho];exact Jb ha fun _ hx=>Zlp (he x v e) hx
  ·cases ha
 ·rename_i c ho;split at ha
  ·rename_i b args e1 e2;have q:=KL he _ _ e2;have:=ZlB (ts:=c.argTypes) (ty:=o.type) (cs:=c.args.map fun | .const _=>true | _=>false) r q ha;unfold execOp;rw [ho];have e3:(c.args.toList.map ev').toArray=c.args.map ev':=Zfh _ _;rw [e3] at this;show XH X.P ρ h w (do let d ← resolve ev' c o.type;invoke d.target d.args) nx E;unfold resolve;rw [e1];exact this
  ·rename_i f args e1 e2;have q:=KL he _ _ e2;split at ha
   ·rename_i fv e4;have:=Ztl r (he f fv e4) q ha;unfold execOp;rw [ho];have e3:(c.args.toList.map ev').toArray=c.args.map ev':=Zfh _ _;rw [e3] at this;show XH X.P ρ h w (do let d ← resolve ev' c o.type;invoke d.target d.args) nx E;unfold resolve;rw [e1];exact this
   ·cases ha
  ·rename_i rr name args e1 e2;have q:=KL he _ _ e2;split at ha
   ·rename_i rv e4;have:=ZnG (w:=w) (h:=h) (he rr rv e4) q ha;unfold execOp;rw [ho];have e3:(c.args.toList.map ev').toArray=c.args.map ev':=Zfh _ _;rw [e3] at this;show XH X.P ρ h w (do let d ← resolve ev' c o.type;invoke d.target d.args) nx E;unfold resolve;rw [e1];exact this
   ·cases ha
  ·cases ha
 ·rename_i c ho;split at ha
  ·rename_i f args e1 e2;have q:=KL he _ _ e2;split at ha
   ·rename_i g first cap e4;cases ha;have hf:=he f _ e4;generalize hff:ev' f=fv at hf;cases hf with
    | func _ _ _ first' cap' hy hx1 hx2 h1 h2=>
      refine⟨ρ,w,Same.refl w,⟨rfl,rfl⟩,{target:= .fn (.func g) cap',args:=first' ++ c.args.map ev'},⟨⟨g,cap,cap',rfl,rfl,hx2,h2⟩,?_⟩,?_⟩
      ·have e5:LR ρ first.toList first'.toList:=Jy.list ⟨hx1,h1⟩;have:= (e5.append q).arr;have e6:(first.toList ++ args).toArray=first ++ args.toArray:=by apply Array.toList_inj.1;simp
       have e7:(first'.toList ++ c.args.toList.map ev').toArray=first' ++ c.args.map ev':=by apply Array.toList_inj.1;simp
       rwa [e6,e7] at this
      ·simp [execOp,ho,resolve,e1,hff,Deferred.ofValue]
   ·cases ha
  ·cases ha
 ·rename_i x ho;split at ha
  ·rename_i t v e;cases ha;have hx:=he x _ e;generalize hxx:ev' x=xv at hx;cases hx with
   | iface _ _ v' hv=>exact⟨ρ,w,Same.refl w,⟨rfl,rfl⟩,.iface t v',.iface t v v' hv,by simp [execOp,ho,hxx,Instr.panic]⟩
  ·cases ha
 ·rename_i t x ho;split at ha
  ·rename_i v e;unfold execOp;rw [ho];exact KR ha fun _ _ hx=>Zpu r (he x v e) hx
  ·cases ha
 ·rename_i it b ho;split at ha
  ·rename_i v e;unfold execOp;rw [ho];exact KR ha fun _ _ hx=>Zss r o.type (he it v e) hx
  ·cases ha
 ·rename_i it ho;split at ha
  ·rename_i v e;unfold execOp;rw [ho];exact Jb ha fun _ hx=>Zq0 r (he it v e) hx
  ·cases ha
 ·cases ha
end
end Go.ZF
end
end
