/- Part 2. -/
import Derived.Laws.IdiomRangeMap
import Derived.Test.YtbnepjakjmnadaaGreatCn1
set_option linter.all false
set_option maxHeartbeats 2000000
def Go.Li0{α:Type _}{l:U α}{i:Nat}{a:α}(h:l[i]? =some a):∃h:i<l.length,l[i]=a:=List.getElem?_eq_some_iff.1 h
section
noncomputable section
namespace Go.ZK
section
variable{P:GW}{ρ:Ren}{h:H}{w:GY}
def Zj1(P:GW)(h:H)(t:J)(x:N):O (N×Eff):=
 match P.underlying t,x with
 | some .string,.string s=>some (Q0 h,.new (.Zen s 0))
 | some (.map _ _),.map none=>some (Q0 h,.new .Zhx)
 | some (.map _ _),.map (some i)=>match h.at i with
   | .map _ clock=>some (Q0 h,.new (.iter i clock clock none))
   | _=>none
 | _,_=>none
def JM:N:=.tuple #[.bool false]
def Zmj(es:U V0)(since Qb:Nat)(last:O Nat):O (O V0):=
 bif Nat.ble since Qb then match es,last with
  | [],_=>some none
  | [e],none=>bif Nat.blt e.born since then some (some e) else none
  | [e],some b=>bif Nat.blt e.born since&&Nat.beq e.born b then some none else none
  | _,_=>none
 else none
def ZzT(h:H)(it:Value)(isStr:Bool):Option (Value×Eff):=
 match it with
 | .pointer (some ⟨i,0,none⟩)=>match h.at i,isStr with
   | .Zen s pos,true=>bif Nat.blt pos s.size then some (.tuple #[.bool true,goInt pos,.int .i32 (Utf8.decode s pos).1],.upd i (.Zen s (pos+(Utf8.decode s pos).2))) else some (JM,.none)
   | .Zhx,false=>some (JM,.none)
   | .iter m since Qb last,false=>match h.at m with
     | .map es clock=>match Zmj es since Qb last with
       | some none=>some (JM,.none)
       | some (some e)=>some (.tuple #[.bool true,e.key,e.val],.upd i (.iter m since clock (some e.born)))
       | none=>none
     | _=>none
   | _,_=>none
 | _=>none
def ZlC(b:Nat):U V0->O V0
 | []=>none
 | e::es=>bif Nat.beq e.born b then some e else ZlC b es
def Zea(h:H)(it:Value):Option Value:=
 match it with
 | .pointer (some ⟨i,0,none⟩)=>match h.at i with
   | .iter m _ Qb (some s)=>match h.at m with
     | .map es clock=>bif Nat.beq Qb clock then match ZlC s es with
         | some e=>some (.tuple #[e.key,e.val])
         | none=>none
       else none
     | _=>none
   | _=>none
 | _=>none
def Zf1{s:Sem N}{o:Obj}{A:YR}(hs:s.run P w=.ok ((V5 w.heap.size)) (World.push w o))(hA:∀l,Qz (ρ.add h.size (w.heap.size,0) l) (World.push w o) w.heap.size 0 l A):
 XQ P ρ h w (do pure (.value (<-s))) (.val (Q0 h)) (.new A):=
 ⟨_,World.push w o,Ki _,⟨(0,0),rfl,⟨o,rfl⟩,hA (0,0)⟩,_,Zf8 w _,by simp[hs]⟩
def Zii(w:GY)(o:Obj):(World.push w o).heap[w.heap.size]? =some o:=by
 show(w.heap.push o)[w.heap.size]? =some o;simp
def Zof(r:Rel ρ h w){t:J}{x x' v:N}{E:Eff}(hx:VR ρ x x')(ha:Zj1 P h t x=some (v,E)):
 XQ P ρ h w (do pure (.value (<-Instr.range t x'))) (.val v) E:=by
 unfold Zj1 at ha;split at ha
 ·rename_i s hu;cases ha;cases hx with
  | string _=>
    refine Zf1 (o:=.stringIter s 0) ?_ fun l=>⟨rfl,Zii _ _⟩
    simp[Instr.range,run_underlying hu];rfl
 ·rename_i hu;cases ha;cases hx;refine Zf1 (o:=.mapIter none 0 #[] 0) ?_ fun l=>⟨rfl,Zii _ _⟩
  simp[Instr.range,run_underlying hu];rfl
 ·rename_i i hu;split at ha
  ·rename_i es clock hat;cases ha;cases hx with
   | @map _ b hi=>
     have ho:=r.obj _ _ _ hi;rw[hat]at ho;obtain⟨_,es',hw,_⟩:=ho;refine Zf1 (o:=.mapIter (some b) clock #[] clock) ?_ fun l=>⟨rfl,b,#[],(Ren.Zaa r.fresh _ _ hi).1,Zii _ _,(fun s e=>by cases e),fun _=>rfl⟩
     simp[Instr.range,run_underlying hu,getObj,Sem.run,hw];rfl
  ·cases ha
 ·cases ha
def Zow{P:GW}{w:GY}(ty:J){b bm since c0:Nat}{seen:GZ Nat}{es:GZ V0}{clock:Nat}(hb:w.heap[b]? =some (.mapIter (some bm) since seen c0))(hm:w.heap[bm]? =some (.map es clock))
 (hold:∀x∈es.toList,x.born<since) (hsc:since<=c0):
 ((leftOf es seen).size=0/\(Instr.next ((V5 b)) false ty).run P w=.ok JM w)\/
 ∃e∈(leftOf es seen).toList,∃w1:GY,w1.heap=w.heap/\Same w w1/\(Instr.next ((V5 b)) false ty).run P w=.ok (.tuple #[.bool true,e.key,e.val]) (w1.putObj b (.mapIter (some bm) since (seen.push e.born) clock)):=by
 simp only[Instr.next,getObj,Sem.run_bind,Sem.run,hb,hm,Result.andThen,next_test_false seen es since c0 hold hsc,Bool.false_eq_true,if_false];unfold leftOf;have hmem:∀x∈(Array.filter (fun e=>!seen.contains e.born) es).toList,x.born<since:=fun x hx=>hold x (by simp at hx ⊢;exact hx.1)
 generalize Array.filter (fun e=>!seen.contains e.born) es=L at hmem ⊢;have e1:L.filter (fun x=>decide (x.born<since))=L:=Array.filter_eq_self.2 (fun x hx=>by simpa using hmem x (by simpa using hx))
 have e2:L.filter (fun x=>decide (x.born >=since))=#[]:=by
  rw[Array.filter_eq_empty_iff];intro x hx;have:=hmem x (by simpa using hx);simp;omega
 simp only[e1,e2,Array.append_empty];by_cases h0:L.size=0
 ·left;have:L=#[]:=GN h0;subst this;refine⟨rfl,?_⟩;simp[choose,Sem.run,Question.forced,JM]
 ·right;have hne:L.isEmpty=false:=by simp[Array.isEmpty,h0]
  simp only[hne,Bool.false_eq_true,if_false,Array.empty_append,Array.size_map]
  have hch:∃(j:Nat) (w1:GY),j<L.size/\w1.heap=w.heap/\Same w w1/\(choose (Question.mapNext L.size)).run P w=.ok j w1:=by
   by_cases hf:L.size<=1
   ·exact⟨0,w,by omega,rfl,Same.refl w,by simp[choose,Sem.run,Question.forced,hf]⟩
   ·exact⟨_,w.drew,Nat.mod_lt _ V6,rfl,⟨rfl,rfl,rfl⟩,by
     simp only[choose,Sem.run,Question.forced,decide_eq_true_eq,hf,if_false,Question.cut]
     rfl⟩
  obtain⟨j,w1,hj,hh,hal,hrun⟩:=hch;refine⟨L[j],by simp,w1,hh,hal,?_⟩
  have hset:∀(o':Obj),(setObj b o').run P w1=.ok () (w1.putObj b o'):=fun o'=>by
   have hlt:w1.heap[b]? =some (.mapIter (some bm) since seen c0):=by rw[hh];exact hb
   simp[setObj,Sem.run,hlt,World.putObj]
  simp only[hrun,Array.getElem?_map,Gy hj,Option.map_some,Sem.run_bind,hset,Result.andThen]
  rfl
def EL.ZsU{es':U V0}(e:EL ρ [] es'):es'=[]:=by cases e;rfl
def EL.Zmi{e0:V0}{es':U V0}(e:EL ρ [e0] es'):∃e',es'=[e']/\e'.key=e0.key/\plain e0.key=true/\e'.born=e0.born/\VR ρ e0.val e'.val:=by
 cases e with
 | cons hk hp hb hv t=>cases t;exact⟨_,rfl,hk,hp,hb,hv⟩
def Zex{es:U V0}{since Qb:Nat}{last:O Nat}{r:O V0}(h:Zmj es since Qb last=some r):since<=Qb/\
 ((es=[]/\r=none)\/∃e,es=[e]/\e.born<since/\((last=none/\r=some e)\/(last=some e.born/\r=none))):=by
 unfold Zmj at h;cases hc:Nat.ble since Qb<;>rw[hc]at h<;>simp only[Cq1,Cq0]at h
 ·cases h
 ·refine⟨Nl0 hc,?_⟩;split at h
  ·cases h;exact .inl ⟨rfl,rfl⟩
  ·rename_i e;cases hb:Nat.blt e.born since<;>rw[hb]at h<;>simp only[Cq1,Cq0]at h
   ·cases h
   ·cases h;exact .inr ⟨_,rfl,by rwa[G0]at hb,.inl ⟨rfl,rfl⟩⟩
  ·rename_i e b;cases hb:Nat.blt e.born since<;>rw[hb]at h<;>simp only[GH,Bool.false_and,Cq0]at h
   ·cases h
   ·cases hq:Nat.beq e.born b<;>rw[hq]at h<;>simp only[Cq1,Cq0]at h
    ·cases h
    ·cases h;exact .inr ⟨_,rfl,by rwa[G0]at hb,.inr ⟨by rw[Nb0 hq],rfl⟩⟩
  ·cases h
def Zq6(r:Rel ρ h w){it it' v:N}{b:Z}{E:Eff}(t:J)(hx:VR ρ it it')(ha:ZzT h it b=some (v,E)):
 XQ P ρ h w (do pure (.value (<-Instr.next it' b t))) (.val v) E:=by
 unfold ZzT at ha;split at ha
 ·rename_i i;cases hx with
  | @ptr _ bb d _ hi=>
    have ho:=r.obj _ _ _ hi;have hlt:=(r.dom _ _ _ hi).2;split at ha
    ·rename_i s pos hat;rw[hat]at ho;obtain⟨rfl,hw⟩:=ho;cases hc:Nat.blt pos s.size<;>rw[hc]at ha<;>simp only[Cq1,Cq0]at ha
     ·cases ha;have hn:¬ pos<s.size:=fun z=>by rw[<-G0]at z;rw[z]at hc;cases hc
      refine XQ.Jq (v':=JM) (VR.ZL rfl) ?_;simp[Instr.next,getObj,Sem.run,hw,hn,JM]
     ·cases ha;rw[G0]at hc
      refine⟨ρ,{w with heap:=w.heap.setIfInBounds bb (.stringIter s (pos+(Utf8.decode s pos).2))},⟨rfl,rfl,rfl⟩,⟨rfl,bb,0,hi,by simp,fun k hk=>by simp[Array.getElem?_setIfInBounds_ne (Ne.symm hk)],rfl,by simp[hlt]⟩,
       .tuple #[.bool true,goInt pos,.int .i32 (Utf8.decode s pos).1],VR.ZL rfl,?_⟩
      simp[Instr.next,getObj,setObj,Sem.run,hw,hc]
    ·rename_i hat;rw[hat]at ho;obtain⟨rfl,hw⟩:=ho;cases ha;refine XQ.Jq (v':=JM) (VR.ZL rfl) ?_;simp[Instr.next,getObj,Sem.run,hw,JM]
    ·rename_i m since Qb last hat;rw[hat]at ho;obtain⟨rfl,m',seen,hm,hw,hback,hnil⟩:=ho;split at ha
     ·rename_i es clock ZGi;have hom:=r.obj _ _ _ hm;rw[ZGi]at hom;obtain⟨_,es',Zx,hes⟩:=hom;split at ha
      ·rename_i hone;cases ha;obtain⟨hsc,hh⟩:=Zex hone;refine XQ.Jq (v':=JM) (VR.ZL rfl) ?_
       have hold:∀x∈es'.toList,x.born<since:=by
        rcases hh with⟨rfl,_⟩|⟨e,rfl,he,_⟩
        ·rw[EL.ZsU hes];intro x hx;cases hx
        ·obtain⟨e',h1,_,_,h4,_⟩:=EL.Zmi hes;rw[h1];intro x hx;simp at hx;subst hx;omega
       have hz:(leftOf es' seen).size=0:=by
        unfold leftOf;rcases hh with⟨rfl,_⟩|⟨e,rfl,he,(⟨_,h0⟩|⟨hl,_⟩)⟩
        ·have:es'=#[]:=by simpa using EL.ZsU hes
         subst this;rfl
        ·cases h0
        ·obtain⟨e',h1,_,_,h4,_⟩:=EL.Zmi hes;have h2:es'=#[e']:=by rw[<-Array.toArray_toList (xs:=es'),h1]
         subst h2;have hs:=hback _ hl
         have hin:seen.contains e'.born=true:=by
          rw[h4,Array.contains_iff_mem];rw[Array.back?_eq_getElem?]at hs;exact Array.mem_of_getElem? hs
         simp[hin]
         simpa using hin
       rcases Zow (P:=P) t hw Zx hold hsc with⟨_,hr⟩|⟨e',he',_⟩
       ·simp only[JT,Nat.add_zero]at *;simp[hr]
       ·have:=G5▸List.length_pos_of_mem he';omega
      ·rename_i e hone;cases ha;obtain⟨hsc,hh⟩:=Zex hone;rcases hh with⟨_,h0⟩|⟨e0,rfl,he,(⟨hl,h0⟩|⟨_,h0⟩)⟩
       ·cases h0
       ·cases h0;obtain⟨e',h1,hk,hp,hb,hv⟩:=EL.Zmi hes;have ZgY:=hnil hl;subst ZgY;have h2:es'=#[e']:=by rw[<-Array.toArray_toList (xs:=es'),h1]
        have hold:∀x∈es'.toList,x.born<since:=by
         rw[h1];intro x hx;simp at hx;subst hx;omega
        rcases Zow (P:=P) t hw Zx hold hsc with⟨hz,_⟩|⟨x,hx,w1,hw1,hsame,hr⟩
        ·subst h2;simp[leftOf]at hz
        ·have hx':x=e':=by subst h2;simpa[leftOf]using hx
         subst hx';have hlt':bb<w1.heap.size:=by rw[hw1];exact hlt
         refine⟨ρ,w1.putObj bb (.mapIter (some m') since (#[].push x.born) clock),⟨hsame.os,hsame.tape,hsame.output⟩,⟨rfl,bb,0,hi,by rw[World.putObj_size,hw1],fun k hk=>by rw[World.putObj_heap_other hk,hw1],rfl,m',_,hm,World.putObj_heap_same hlt',fun s hs=>(by cases hs;simp[hb]),fun z=>(by cases z)⟩,
          .tuple #[.bool true,x.key,x.val],?_,?_⟩
         ·refine .tuple _ _ rfl fun j y y' p q=>?_
          match j,p,q with
          | 0,p,q=>simp at p q;subst p q;exact .bool true
          | 1,p,q=>simp at p q;subst p q;rw[hk];exact VR.ZL hp
          | 2,p,q=>simp at p q;subst p q;exact hv
          | j+3,p,q=>simp at p
         ·simp[hr]
       ·cases h0
      ·cases ha
     ·cases ha
    ·cases ha
 ·cases ha
def ZpF{es es':U V0}(e:EL ρ es es'){b:Nat}{x:V0}(hf:ZlC b es=some x):∃x',es'.find? (fun e=>e.born==b)=some x'/\x'.key=x.key/\plain x.key=true/\VR ρ x.val x'.val/\x'.born=b/\x'∈es':=by
 induction e with
 | nil=>cases hf
 | @cons y y' es es' hk hp hb hv t ih=>
   simp only[ZlC]at hf;cases hc:Nat.beq y.born b<;>rw[hc]at hf<;>simp only[Cq1,Cq0]at hf
   ·obtain⟨x',h1,h2⟩:=ih hf;have hne:(y'.born==b)=false:=by rw[hb];rw[Qx]at hc;simpa using hc
    exact⟨x',by rw[List.find?_cons,hne];exact h1,h2.1,h2.2.1,h2.2.2.1,h2.2.2.2.1,Kf _ h2.2.2.2.2⟩
   ·cases hf;have heq:(y'.born==b)=true:=by rw[hb];simpa using Nb0 hc
    exact⟨y',by rw[List.find?_cons,heq],hk,hp,hv,by rw[hb];exact Nb0 hc,by simp⟩
def ZpD(r:Rel ρ h w){it it' v:N}(hx:VR ρ it it')(ha:Zea h it=some v):∃v',VR ρ v v'/\(Instr.entry it').run P w=.ok v' w:=by
 unfold Zea at ha;split at ha
 ·rename_i i;cases hx with
  | @ptr _ bb d _ hi=>
    have ho:=r.obj _ _ _ hi;split at ha
    ·rename_i m since Qb s hat;rw[hat]at ho;obtain⟨rfl,m',seen,hm,hw,hback,_⟩:=ho;split at ha
     ·rename_i es clock ZGi;have hom:=r.obj _ _ _ hm;rw[ZGi]at hom;obtain⟨_,es',Zx,hes⟩:=hom;cases hc:Nat.beq Qb clock<;>rw[hc]at ha<;>simp only[Cq1,Cq0]at ha
      ·cases ha
      ·have hc:=Nb0 hc;subst hc;split at ha
       ·rename_i e hf;cases ha;obtain⟨e',f1,f2,f3,f4,_⟩:=ZpF hes hf;have hb:=hback s rfl;refine⟨.tuple #[e'.key,e'.val],?_,?_⟩
        ·refine .tuple _ _ rfl fun j x x' a b=>?_
         match j,a,b with
         | 0,a,b=>simp at a b;subst a b;rw[f2];exact VR.ZL f3
         | 1,a,b=>simp at a b;subst a b;exact f4
         | j+2,a,b=>simp at a
        ·have hfa:es'.find? (fun e=>e.born==s)=some e':=by rw[<-Array.find?_toList];exact f1
         simp[Instr.entry,getObj,Sem.run,hw,hb,Zx,hfa]
       ·cases ha
     ·cases ha
    ·cases ha
 ·cases ha
end
section
variable{ρ:Ren}{h:H}{w:GY}
structure Ctx where
 P:Program
 sz:P.funcs.size=nfs
 fns:Tr Func
 ok:∀ f fn,fns.get f=some fn ->P.funcs[f]? =some fn∧fn.body.isSome=true∧(fn.name== "runtime.NumGoroutine")=false
 orc:FuncId ->Option Value
 ZwL:∀ f v,orc f=some v ->plain v=true∧∀ w:World,CallsIn base 0 P f #[] w (fun e w'=>e= .returned v∧RowKit.Below w.heap.size w w')
 ZFG:FuncId ->Array Value ->H ->Option (Value×YR):=fun _ _ _=>none
 ZwM:∀ f args h v A,ZFG f args h=some (v,A) ->∀ ρ args' (w:World),Rel ρ h w ->Jo ρ args args' ->CallsIn base 0 P f args' w (fun e w'=>∃ v' p l,e= .returned v'∧
  RowKit.Below w.heap.size w w'∧w.heap.size <=p∧p < w'.heap.size∧VR (ρ.add h.size (p,0) l) v v'∧Qz (ρ.add h.size (p,0) l) w' p 0 l A):=by intros;contradiction
def Zgb{X:Ctx}{f:GX}{fn:Func}(h:X.fns.get f=some fn):f<nfs:=by
 have:=(X.ok f fn h).1;rw[<-X.sz];exact(J0.1 this).1
def evs(ev:GV->O N):U GV->O (U N)
 | []=>some []
 | x::xs=>match ev x,evs ev xs with
   | some v,some vs=>some (v::vs)
   | _,_=>none
def evp(ev:GV->O N):U (Nat×GV)->O (U (Nat×N))
 | []=>some []
 | (i,x)::xs=>match ev x,evp ev xs with
   | some v,some vs=>some ((i,v)::vs)
   | _,_=>none
def evo(ev:GV->O N):O GV->O (O N)
 | none=>some none
 | some x=>match ev x with
   | some v=>some (some v)
   | none=>none
def EvR(ρ:Ren)(ev:GV->O N)(ev':GV->N):Prop:=∀x v,ev x=some v->VR ρ v (ev' x)
def Kl{ev:GV->O N}{ev':GV->N}(he:EvR ρ ev ev'):∀(xs:U GV) vs,evs ev xs=some vs->LR ρ vs (xs.map ev'):=by
 intro xs
 induction xs with
 | nil=>intro vs hv;simp only[evs,Q4]at hv;subst hv;exact LR.nil
 | cons x xs ih=>
   intro vs hv;simp only[evs]at hv;split at hv
   ·rename_i v vs' e1 e2;cases hv;exact LR.cons (he x v e1) (ih vs' e2)
   ·cases hv
def ZlA{ev:GV->O N}{ev':GV->N}(he:EvR ρ ev ev'):∀(xs:U (Nat×GV)) vs,evp ev xs=some vs ->
 vs.length=(xs.map fun p:Nat×GV=>(p.1,ev' p.2)).length/\∀(i:Nat) p p',vs[i]? =some p->(xs.map fun p:Nat×GV=>(p.1,ev' p.2))[i]? =some p'->p'.1=p.1/\VR ρ p.2 p'.2:=by
 intro xs
 induction xs with
 | nil=>intro vs hv;simp only[evp,Q4]at hv;subst hv;exact⟨rfl,fun i p p' a=>by simp at a⟩
 | cons x xs ih=>
   intro vs hv;obtain⟨j,x⟩:=x;simp only[evp]at hv;split at hv
   ·rename_i v vs' e1 e2;cases hv;obtain⟨i1,i2⟩:=ih vs' e2;refine⟨by simpa using i1,fun i p p' a b=>?_⟩;cases i with
    | zero=>simp at a b;subst a b;exact⟨rfl,he x v e1⟩
    | succ i=>exact i2 i p p' (by simpa using a) (by simpa using b)
   ·cases hv
def Zgk{ev:GV->O N}{ev':GV->N}(he:EvR ρ ev ev'){x:O GV}{v:O N}(hv:evo ev x=some v):Zee ρ v (x.map ev'):=by
 cases x with
 | none=>simp only[evo,Q4]at hv;subst hv;trivial
 | some x=>
   simp only[evo]at hv;split at hv
   ·rename_i u e;cases hv;exact he x u e
   ·cases hv
def Ul(X:Ctx)(h:H)(f:N)(args:U N):O (AN×Eff):=
 match f with
 | .func (.func g) first cap=>match X.fns.get g with
   | some _=>some (.enter g (first.toList++args++cap.toList).toArray,.none)
   | none=>none
 | .func (.yield l) _ _=>match h.at l with
   | .loop _ _ _ _ ps _ _ _=>bif Nat.beq args.length ps.toList.length then some (.round l args.toArray,.none) else none
   | _=>none
 | _=>none
def WU {X:Ctx} {f:GX} {fn:Func} {args:GZ N} (hf:X.fns.get f=some fn):(callFunc f args).run X.P w= .ok (.enter f args) w:=by
 obtain⟨h1,h2,h3⟩:=X.ok f fn hf;have hb:¬ fn.body=none:=by intro hh;rw [hh] at h2;cases h2
 have hn:¬ fn.name= "runtime.NumGoroutine" :=by simpa using h3
 simp [callFunc,h1,hn,hb]
def Zr0{X:Ctx}{f f':N}{args args':U N}{nx:AN}{E:Eff}(r:Rel ρ h w)(hf:VR ρ f f')(hargs:LR ρ args args')(ha:Ul X h f args=some (nx,E)):
 XQ X.P ρ h w (do let d <-Deferred.ofValue f' args'.toArray;invoke d.target d.args) nx E:=by
 unfold Ul at ha;split at ha
 ·rename_i g first cap;split at ha
  ·rename_i fn hfn;cases ha;cases hf with
   | func _ _ _ first' cap' hy hx1 hx2 h1 h2=>
     refine⟨ρ,w,Same.refl w,⟨rfl,rfl⟩,(first'.toList++args'++cap'.toList).toArray,?_,?_⟩
     ·have e1:LR ρ first.toList first'.toList:=Jo.list ⟨hx1,h1⟩;have e2:LR ρ cap.toList cap'.toList:=Jo.list ⟨hx2,h2⟩;exact((e1.append hargs).append e2).arr
     ·have:=WU (w:=w) (args:=first'++args'.toArray++cap') hfn;have e:(first'.toList++args'++cap'.toList).toArray=first'++args'.toArray++cap':=by apply GO.1;simp
      rw[e,<-this];simp[Deferred.ofValue,invoke]
  ·cases ha
 ·rename_i l u1 u2;split at ha
  ·rename_i st pd fr n ps Yg bd df hat;cases hn:Nat.beq args.length ps.toList.length<;>rw[show ps.toList.length=ps.size from G5]at hn<;>simp[hn]at ha
   obtain⟨rfl,rfl⟩:=ha;have hn:=Nb0 hn;cases hf with
   | func _ _ _ first' cap' hy=>exact absurd rfl (hy l)
   | yield hi=>
     rename_i b;have ho:=r.obj _ _ _ hi;rw[hat]at ho;obtain⟨_,fn,tmps,df',hw,hfr,hdf,_⟩:=ho;refine⟨ρ,w,Same.refl w,⟨rfl,rfl⟩,b,_,args'.toArray,hi,hw,hargs.arr,?_⟩;have hsz:¬ (args'.length≠ps.size):=by rw[<-hargs.1];omega
     have hg:(getObj b).run X.P w=.ok (.loop {state:=st,pending:=pd,fn:=fn,tmps:=tmps,params:=ps,assign:=Yg,body:=bd,defers:=df'}) w:=by
      simp[getObj,Sem.run,hw]
     simp only[Deferred.ofValue,invoke,Instr.yield,Instr.getLoop,Sem.run_bind,Sem.run_pure,Gq,hg];rw[if_neg (by simpa using hsz)];simp
  ·cases ha
 ·cases ha
def Kg(P:GW)(x:N)(t:J)(ok:Z):O N:=
 match P.underlying t with
 | some (.interface _)=>none
 | some _=>
   match x with
   | .iface u v=>bif Nat.beq u t then some (bif ok then .tuple #[v,.bool true] else v) else bif ok then(match YM P t with|some z=>some (.tuple #[z,.bool false]) | none=>none) else none
   | .nilIface=>bif ok then(match YM P t with|some z=>some (.tuple #[z,.bool false]) | none=>none) else none
   | _=>none
 | none=>none
def Zno{P:GW}{x x' v:N}{xt t:J}{ok:Z}(hx:VR ρ x x')(ha:Kg P x t ok=some v):∃v',VR ρ v v'/\(Instr.typeAssert x' xt t ok).run P w=.ok v' w:=by
 unfold Kg at ha;split at ha
 ·cases ha
 ·rename_i d hni hu;split at ha
  ·rename_i u y;cases hx with
   | iface _ _ y' hy=>
     cases hut:Nat.beq u t<;>rw[hut]at ha<;>simp at ha
     ·cases ok<;>simp at ha
      split at ha
      ·rename_i z hz;cases ha;obtain⟨z1,z2,z3⟩:=Qf hz;have hne:u≠t:=fun e=>by rw[e,Nat.beq_refl]at hut;cases hut
       refine⟨_,VR.pair (VR.ZL z3) (.bool false),?_⟩;cases d<;>simp[Instr.typeAssert,run_underlying hu,hne,z1]at hni ⊢
      ·cases ha
     ·subst ha;have hut:=Nb0 hut;subst hut;refine⟨if ok then .tuple #[y',.bool true] else y',?_,?_⟩
      ·cases ok
       ·exact hy
       ·exact VR.pair hy (.bool true)
      ·cases d<;>cases ok<;>simp[Instr.typeAssert,run_underlying hu]at hni ⊢
  ·cases hx;cases ok<;>simp at ha
   split at ha
   ·rename_i z hz;cases ha;obtain⟨z1,z2,z3⟩:=Qf hz;refine⟨_,VR.pair (VR.ZL z3) (.bool false),?_⟩;cases d<;>simp[Instr.typeAssert,run_underlying hu,z1]at hni ⊢
   ·cases ha
  ·cases ha
 ·cases ha
def vN(v:O N):O (AN×Eff):=
 match v with
 | some v=>some (.val v,.none)
 | none=>none
def vE(v:O (N×Eff)):O (AN×Eff):=
 match v with
 | some (v,E)=>some (.val v,E)
 | none=>none
def sE(v:O Eff):O (AN×Eff):=
 match v with
 | some E=>some (.skip,E)
 | none=>none
def pN(v:O AN):O (AN×Eff):=
 match v with
 | some v=>some (v,.none)
 | none=>none
def QW{P:GW}{v:O N}{nx:AN}{E:Eff}{s:Sem N}(ha:vN v=some (nx,E))(hs:∀x,v=some x->∃x',VR ρ x x'/\s.run P w=.ok x' w):
 XQ P ρ h w (do pure (.value (<-s))) nx E:=by
 unfold vN at ha;split at ha
 ·cases ha;obtain⟨x',h1,h2⟩:=hs _ rfl;exact XQ.Jq h1 h2
 ·cases ha
def Qk(P:GW)(op:BinOp)(t:J)(x y:GV)(a b:N):O (AN×Eff):=
 bif plain a&&plain b then pN (Wo P (do eqGuard op t x y a b;binOp op t a b))
 else match op with
 | .eql=>match ZbP P t a b with
   | some r=>some (.val (.bool r),.none)
   | none=>none
 | .neq=>match ZbP P t a b with
   | some r=>some (.val (.bool (!r)),.none)
   | none=>none
 | _=>none
def ZgT{P:GW}{t:J}{a a' b b':N}{r:Z}(ha:VR ρ a a')(hb:VR ρ b b')(hn:ZbP P t a b=some r)(op:BinOp)(x y:GV)(hp:(plain a&&plain b)=false):
 (eqGuard op t x y a' b').run P w=.ok () w/\(op=.eql->binOp op t a' b'=do pure (.bool (<-Op.equal t a' b')))/\(op=.neq->binOp op t a' b'=do pure (.bool (!(<-Op.equal t a' b')))):=by
 unfold ZbP at hn;split at hn
 all_goals first
  | (cases hn;done)
  | (cases ha<;>cases hb<;>first
      | (exfalso;simp[plain,scalar]at hp;done)
      | (refine⟨?_,fun e=>?_,fun e=>?_⟩
         ·unfold eqGuard;cases op<;>rfl
         ·subst e;rfl
         ·subst e;rfl))
def Zvx{P:GW}{op:BinOp}{t:J}{x y:GV}{a a' b b':N}{nx:AN}{E:Eff}(ha:VR ρ a a')(hb:VR ρ b b')(hr:Qk P op t x y a b=some (nx,E)):
 XQ P ρ h w (do pure (.value (<-(do eqGuard op t x y a' b';binOp op t a' b':Sem N)))) nx E:=by
 unfold Qk at hr;cases hp:(plain a&&plain b)<;>rw[hp]at hr
 ·simp only[Cq0]at hr;split at hr
  ·split at hr
   ·rename_i r hn;cases hr;obtain⟨g1,g2,_⟩:=ZgT (w:=w) ha hb hn .eql x y hp;have he:=ZgS (w:=w) ha hb hn;exact XQ.Jq (.bool r) (by simp only[Sem.run_bind,g1,Gq,g2 rfl,he];rfl)
   ·cases hr
  ·split at hr
   ·rename_i r hn;cases hr;obtain⟨g1,_,g2⟩:=ZgT (w:=w) ha hb hn .neq x y hp;have he:=ZgS (w:=w) ha hb hn;exact XQ.Jq (.bool (!r)) (by simp only[Sem.run_bind,g1,Gq,g2 rfl,he];rfl)
   ·cases hr
  ·cases hr
 ·simp only[Cq1]at hr;rw[Ba0]at hp;rw[VR.Y5 hp.1 ha,VR.Y5 hp.2 hb];unfold pN at hr;split at hr
  ·rename_i v e;cases hr;exact J8 e
  ·cases hr
def Q6(vs:U N):Z:=vs.all plain
def LR.Y5{xs ys:U N}(hv:LR ρ xs ys)(h:Q6 xs=true):ys=xs:=by
 apply List.ext_getElem hv.1.symm;intro i h1 h2;unfold Q6 at h;rw[Ks]at h;exact VR.Y5 (h _ (GM h2)) (hv.2 i _ _ (J1 h2) (J1 h1))
def U9(P:GW)(h:H)(b:Builtin)(ts:GZ J)(ty:J)(args:U N):O (AN×Eff):=
 match b,args with
 | .append,[s,x]=>vE (QU P h ts s x)
 | .len,[x]=>match ts.toList with
   | t::_=>vN (Zse P h t x)
   | []=>none
 | .copy,[d,s]=>match ts.toList with
   | t::_=>vE (Zz0 P h t d s)
   | []=>none
 | .clear,[x]=>match ts.toList with
   | t::_=>match Zsi P h t x with
     | some E=>some (.val (.tuple #[]),E)
     | none=>none
   | []=>none
 | .delete,[m,k]=>match ts.toList with
   | t::_=>match Zny P h t m k with
     | some E=>some (.val (.tuple #[]),E)
     | none=>none
   | []=>none
 | .min,vs=>bif Q6 vs then pN (Wo P (Builtin.min_ ts ty vs.toArray)) else none
 | .max,vs=>bif Q6 vs then pN (Wo P (Builtin.max_ ts ty vs.toArray)) else none
 | .recover,[]=>some (.ZkW,.none)
 | _,_=>none
def Kq{P:GW}{v:O (N×Eff)}{nx:AN}{E:Eff}{s:Sem Next}(ha:vE v=some (nx,E))(hs:∀x E,v=some (x,E)->XQ P ρ h w s (.val x) E):XQ P ρ h w s nx E:=by
 unfold vE at ha;split at ha
 ·cases ha;exact hs _ _ rfl
 ·cases ha
def Zeq{P:GW}{v:O Eff}{nx:AN}{E:Eff}{s:Sem Next}(ha:sE v=some (nx,E))(hs:∀E,v=some E->XQ P ρ h w s .skip E):XQ P ρ h w s nx E:=by
 unfold sE at ha;split at ha
 ·cases ha;exact hs _ rfl
 ·cases ha
def Zap{P:GW}{v:O AN}{nx:AN}{E:Eff}{s:Sem Next}(ha:pN v=some (nx,E))(hs:∀x,v=some x->XQ P ρ h w s x .none):XQ P ρ h w s nx E:=by
 unfold pN at ha;split at ha
 ·cases ha;exact hs _ rfl
 ·cases ha
def LR.one{x:N}{ys:U N}(h:LR ρ [x] ys):∃y,ys=[y]/\VR ρ x y:=by
 match ys,h with
 | [y],h=>exact⟨y,rfl,h.2 0 x y rfl rfl⟩
 | [],h=>exact absurd h.1 (by simp)
 | _::_::_,h=>exact absurd h.1 (by simp)
def LR.two{x x2:N}{ys:U N}(h:LR ρ [x,x2] ys):∃y y2,ys=[y,y2]/\VR ρ x y/\VR ρ x2 y2:=by
 match ys,h with
 | [y,y2],h=>exact⟨y,y2,rfl,h.2 0 x y rfl rfl,h.2 1 x2 y2 rfl rfl⟩
 | [],h=>exact absurd h.1 (by simp)
 | [_],h=>exact absurd h.1 (by simp)
 | _::_::_::_,h=>exact absurd h.1 (by simp)
def ZkI{P:GW}{b:Builtin}{ts:GZ J}{ty:J}{cs:GZ Z}{args args':U N}{nx:AN}{E:Eff}(r:Rel ρ h w)(hargs:LR ρ args args')
 (ha:U9 P h b ts ty args=some (nx,E)):XQ P ρ h w (builtin b ts ty cs args'.toArray) nx E:=by
 unfold U9 at ha;split at ha
 ·obtain⟨s',x',rfl,h1,h2⟩:=LR.two hargs;exact Kq ha fun _ _ e=>Znp r h1 h2 e
 ·obtain⟨x',rfl,h1⟩:=LR.one hargs;split at ha
  ·rename_i t rest e;have ht:ts[0]? =some t:=by rw[<-G7,e];rfl
   exact QW ha fun _ e=>ZuR ht r h1 e
  ·cases ha
 ·obtain⟨s',x',rfl,h1,h2⟩:=LR.two hargs;split at ha
  ·rename_i t rest e;have ht:ts[0]? =some t:=by rw[<-G7,e];rfl
   exact Kq ha fun _ _ e=>ZrW ht r h1 h2 e
  ·cases ha
 ·obtain⟨x',rfl,h1⟩:=LR.one hargs;split at ha
  ·rename_i t rest e;have ht:ts[0]? =some t:=by rw[<-G7,e];rfl
   split at ha
   ·rename_i E e;cases ha;exact ZpN ht r h1 e
   ·cases ha
  ·cases ha
 ·obtain⟨s',x',rfl,h1,h2⟩:=LR.two hargs;split at ha
  ·rename_i t rest e;have ht:ts[0]? =some t:=by rw[<-G7,e];rfl
   split at ha
   ·rename_i E e;cases ha;exact Znd ht r h1 h2 e
   ·cases ha
  ·cases ha
 ·cases hp:Q6 args<;>rw[hp]at ha<;>simp at ha
  rw[hargs.Y5 hp];exact Zap ha fun _ e=>J8 e
 ·cases hp:Q6 args<;>rw[hp]at ha<;>simp at ha
  rw[hargs.Y5 hp];exact Zap ha fun _ e=>J8 e
 ·cases ha;exact⟨ρ,w,Same.refl w,⟨rfl,rfl⟩,rfl⟩
 ·cases ha
def Zmv:Fn->Z
 | .yield _=>true
 | _=>false
def bytesOf:U N->O (U UInt8)
 | []=>some []
 | .int .u8 n::r=>match bytesOf r with
   | some l=>some (UInt8.ofNat n.toNat::l)
   | none=>none
 | _=>none
def ZgD(P:GW)(h:H)(s d:J)(x:N):O N:=
 match P.underlying s,P.underlying d,x with
 | some (.slice e),some .string,.slice (some ⟨i,o,none⟩) n _=>match P.underlying e,h.at i with
   | some (.int .u8),.row cs _ _=>bif Nat.ble 1 n&&Nat.ble (o+n) cs.length then(match bytesOf ((cs.drop o).take n) with
     | some l=>some (.string ⟨l.toArray⟩)
     | none=>none) else none
   | _,_=>none
 | _,_,_=>none
def Zic{P:GW}{w:GY}{β:Type}(f:N->β->Sem (ForInStep β))(g:β->N->β):∀(l:U N)(b:β),(∀c∈l,∀b,(f c b).run P w=.ok (.yield (g b c)) w)->(forIn l b f).run P w=.ok (l.foldl g b) w:=by
 intro l
 induction l with
 | nil=>intro b _;simp
 | cons a l ih=>
   intro b h;rw[List.forIn_cons];simp only[Sem.run_bind,h a (by simp) b,Gq];exact ih (g b a) fun c hc=>h c (by simp[hc])
def ZpV:∀{cs:U N}{l:U UInt8},bytesOf cs=some l->(∀c∈cs,∃n,c=.int .u8 n)/\∀acc:Y,cs.foldl (fun(b:Y) c=>match c with
 | .int .u8 n=>b.push (UInt8.ofNat n.toNat)
 | _=>b) acc=⟨acc.data++l.toArray⟩:=by
 intro cs
 induction cs with
 | nil=>intro l h;cases h;exact⟨fun c hc=>(by cases hc),fun acc=>(by simp)⟩
 | cons c cs ih=>
   intro l h;unfold bytesOf at h;split at h
   ·rename_i h1;cases h1
   ·rename_i n r h1;cases h1;split at h
    ·rename_i l' e;cases h;obtain⟨i1,i2⟩:=ih e;refine⟨fun c hc=>?_,fun acc=>?_⟩
     ·rcases Kx.1 hc with z|z
      ·exact⟨n,z⟩
      ·exact i1 c z
     ·rw[Gn,i2];show ByteArray.mk ((acc.data.push _)++_)=_;simp
    ·cases h
   ·cases h
def ZpU {P:GW} {ρ:Ren} {h:H} {w:GY} {s d:J} {x x' v:N} (r:Rel ρ h w) (hx:VR ρ x x') (ha:ZgD P h s d x=some v):∃ v',VR ρ v v'∧(convert s d x').run P w= .ok v' w:=by
 unfold ZgD at ha;split at ha
 ·rename_i e i o n c hs hd;split at ha
  ·rename_i cs own k he hat;cases hc:(Nat.ble 1 n && Nat.ble (o + n) cs.length) <;> rw [hc] at ha <;> simp only [Cq1,Cq0] at ha
   ·cases ha
   ·rw [Ba0] at hc;have hn1:=Nl0 hc.1;have hle:=Nl0 hc.2;split at ha
    ·rename_i l hl;cases ha;cases hx with
     | X8 _ o' _ hi hc1=>omega
     | slice _ _ _ c' hi hcap=>
       rename_i b dd;have ho:=r.obj _ _ _ hi;rw [hat] at ho;obtain⟨vs',hl',hcell,hvs⟩:=Zcy (o:=o) (n:=n) ho hle;have hlc:=run_loadCellsFrom (P:=P) (w:=w) ⟨b,dd + o,none⟩ (fun j=>vs'.getD j undef) n 0 #[] (fun j hj=>by rw [addr_add];have:=hcell j hj;rw [JT];exact this)
       have e1:(List.range n).map (fun j=>vs'.getD (0 + j) undef)=vs':=by
        apply List.ext_getElem (by simp [hl']);intro j h1 h2;simp [h2]
       rw [e1] at hlc;obtain⟨b1,b2⟩:=ZpV hl;have hvl:=hvs.list
       have heq:vs'= (cs.drop o).take n:=by
        apply GF;intro j;cases hj:((cs.drop o).take n)[j]? with
        | none=>
          rw [List.getElem?_eq_none_iff] at hj ⊢;have:=hvl.1;simp at this hj ⊢;omega
        | some u=>
          have hjl:j < vs'.length:=by
           have h1:= (Li0 hj).1;have:=hvl.1;simp at this h1 ⊢;omega
          obtain⟨z,hz⟩:∃ z,vs'[j]? =some z:= ⟨vs'[j],by simp [hjl]⟩
          have h3:=hvl.2 j u z (by simpa using hj) (by simpa using hz);obtain⟨n',en⟩:=b1 u (List.mem_of_getElem? hj);subst en;cases h3;exact hz
       refine⟨.string ⟨l.toArray⟩,.string _,?_⟩
       have hrun:=Zic (P:=P) (w:=w) (fun c (r:Y)=>(match c with
        | .int .u8 n=>pure (.yield (r.push (UInt8.ofNat n.toNat)))
        | _=>do
          stuck "bytesToString: byte expected"
          pure (.yield r):Sem (ForInStep Y))) (fun(b:Y) c=>match c with
        | .int .u8 n=>b.push (UInt8.ofNat n.toNat)
        | _=>b) vs' ByteArray.empty (fun c hc b=>by
          rw [heq] at hc;obtain⟨n',rfl⟩:=b1 c hc;simp)
       rw [heq,b2] at hrun
       have e2:(⟨ByteArray.empty.data ++ l.toArray⟩:Y)= ⟨l.toArray⟩:=by
        show ByteArray.mk (#[] ++ l.toArray)=_;simp
       rw [e2,← heq] at hrun;simp only [convert,run_underlying hs,run_underlying hd,run_underlying he,Sem.run_bind,Sem.run_pure,Gq,Conv.bytesToString,loadCells,hlc];simp only [List.append_toArray,Gm,List.forIn_toArray] at hrun ⊢;exact Eq.trans (congrArg (fun z:Result Y=>z.andThen fun a w'=>Result.ok (Value.string a) w') hrun) (by simp)
    ·cases ha
  ·cases ha
 ·cases ha
def Zns(P:GW)(t:J)(name:String):O GX:=
 match P.info? t,P.underlying t with
 | some i,some (.struct _)=>match i.methods.find? (·.name==name) with
   | some m=>match m.path.toList,m.func with
     | [],some (f,false)=>some f
     | _,_=>none
   | none=>none
 | _,_=>none
def Zbf(X:Ctx)(r:N)(name:String)(args:U N):O (AN×Eff):=
 match r with
 | .iface t v=>match Zns X.P t name with
   | some f=>match X.fns.get f with
     | some _=>some (.enter f (v::args).toArray,.none)
     | none=>none
   | none=>none
 | _=>none
def Zmw{X:Ctx}{ρ:Ren}{h:H}{w:GY}{r r':N}{name:String}{args args':U N}{nx:AN}{E:Eff}(hr:VR ρ r r')(hargs:LR ρ args args')(ha:Zbf X r name args=some (nx,E)):
 XQ X.P ρ h w (invoke (.fn (.method name) #[]) (#[r']++args'.toArray)) nx E:=by
 unfold Zbf at ha;split at ha
 ·rename_i t v;split at ha
  ·rename_i f hm;split at ha
   ·rename_i fn hfn;cases ha;cases hr with
    | iface _ _ v' hv=>
    refine⟨ρ,w,Same.refl w,⟨rfl,rfl⟩,(v'::args').toArray,?_,?_⟩
    ·have:LR ρ ([v]++args) ([v']++args'):=LR.append ⟨rfl,fun i a b e1 e2=>by
      cases i with
      | zero=>simp at e1 e2;subst e1 e2;exact hv
      | succ i=>simp at e1⟩ hargs
     exact this.arr
    ·unfold Zns at hm;split at hm
     ·rename_i inf fs hi hu;split at hm
      ·rename_i m hfm;split at hm
       ·rename_i f' hp hfu;cases hm;have hc:=WU (w:=w) (args:=(v'::args').toArray) hfn;have ht:(typeInfo t).run X.P w=.ok inf w:=by simp[typeInfo,program,Sem.run,hi]
        have hx:(#[Value.iface t v']++args'.toArray).extract 1 (#[Value.iface t v']++args'.toArray).size=args'.toArray:=by
         apply GO.1;simp
        have hz:(#[Value.iface t v']++args'.toArray)[0]? =some (Value.iface t v'):=by simp
        have ZKv:#[v']++args'.toArray=(v'::args').toArray:=by simp
        obtain⟨k,hk⟩:∃k,X.P.types.size+Made.depth=k+1:=⟨X.P.types.size+99,rfl⟩
        have hmr:(method (k+1) t v' name).run X.P w=.ok (f,v') w:=by
         unfold method;simp[ht,hfm,hp,hfu,follow,receiverAt,run_underlying hu,Place.get]
        simp only[invoke,hz,callMethod,Sem.run_bind,Sem.run_pure,Gq];have hpr:(program).run X.P w=.ok X.P w:=by simp[program,Sem.run]
        simp only[hpr,Gq,hk,hmr,hx,ZKv];exact hc
       ·cases hm
      ·cases hm
     ·cases hm
   ·cases ha
  ·cases ha
 ·cases ha
def Xx(X:Ctx)(h:H)(ev:GV->O N)(o:Oper):O (AN×Eff):=
 match o.op with
 | .move x | .assign x=>vN (ev x)
 | .pick c a b=>match ev c with
   | some (.bool true)=>vN (ev a)
   | some (.bool false)=>vN (ev b)
   | _=>none
 | .alloc t=>match YM X.P t with
   | some z=>some (.val (Q0 h),.new (.row z.cells.toList true 0))
   | none=>none
 | .box _ x=>match ev x with
   | some v=>some (.val (Q0 h),.new (.row v.cells.toList true 0))
   | none=>none
 | .build t ps=>match evp ev ps.toList with
   | some ps=>vN (Zj4 X.P t ps)
   | none=>none
 | .buildSlice t n ps=>match evp ev ps.toList with
   | some ps=>vE (Zp2 X.P h t n ps)
   | none=>none
 | .load t x=>match ev x with
   | some v=>vN (WJ X.P h t v)
   | none=>none
 | .store t a x=>match ev a,ev x with
   | some a,some x=>sE (Zgw X.P h t a x)
   | _,_=>none
 | .nilCheck x=>match ev x with
   | some (.pointer (some a))=>some (.val (.pointer (some a)),.none)
   | _=>none
 | .binOp op t x y _=>match ev x,ev y with
   | some a,some b=>Qk X.P op t x y a b
   | _,_=>none
 | .unOp op _ x=>match ev x with
   | some a=>bif plain a then pN (Wo X.P (Op.unary op a)) else none
   | none=>none
 | .convert s d x=>match ev x with
   | some a=>bif plain a then pN (Wo X.P (convert s d a)) else vN (ZgD X.P h s d a)
   | none=>none
 | .makeInterface t x=>match ev x,X.P.underlying t with
   | some _,some (.interface _)=>none
   | some v,some _=>some (.val (.iface t v),.none)
   | _,_=>none
 | .makeFunc fn first cap=>bif Zmv fn then none else match evs ev first.toList,evs ev cap.toList with
   | some vs,some us=>some (.val (.func fn vs.toArray us.toArray),.none)
   | _,_=>none
 | .makeMap _ none=>some (.val (.map (some h.size)),.new (.map [] 0))
 | .makeSlice t l c=>match ev l,ev c with
   | some l,some c=>vE (ZzU X.P h t l c)
   | _,_=>none
 | .slice t x lo hi mx=>match ev x,evo ev lo,evo ev hi,evo ev mx with
   | some x,some lo,some hi,some mx=>bif plain x&&not (ZJv x) then(match lo,hi,mx with
      | lo,hi,mx=>bif Q6 (lo.toList++hi.toList++mx.toList) then pN (Wo X.P (Instr.sliceAt t x lo hi mx)) else none)
     else vN (aslice X.P h t x lo hi mx)
   | _,_,_,_=>none
 | .fieldAddr s x f=>match ev x with
   | some v=>vN (Zcl X.P s v f)
   | none=>none
 | .field t x f=>match ev x with
   | some v=>vN (Znv X.P t v f)
   | none=>none
 | .indexAddr t x i=>match ev x,ev i with
   | some x,some i=>vN (Zd7 X.P t x i)
   | _,_=>none
 | .index t x i=>match ev x,ev i with
   | some x,some i=>bif plain x&&plain i then pN (Wo X.P (Instr.index t x i)) else vN (ZhN X.P t x i)
   | _,_=>none
 | .lookup t m k ok=>match ev m,ev k with
   | some m,some k=>vN (Ke X.P h t m k ok)
   | _,_=>none
 | .mapUpdate t m k x | .insert t m k x=>match ev m,ev k,ev x with
   | some m,some k,some x=>sE (Qi X.P h t m k x)
   | _,_,_=>none
 | .mapEntry t m k=>match ev m,ev k with
   | some m,some k=>vE (ZgB X.P h t m k)
   | _,_=>none
 | .entryStore _ m s x=>match ev m,ev s,ev x with
   | some m,some s,some x=>sE (Zcn h m s x)
   | _,_,_=>none
 | .typeAssert x _ t ok=>match ev x with
   | some x=>vN (Kg X.P x t ok)
   | none=>none
 | .extract x k=>match ev x with
   | some x=>vN (Zcm x k)
   | none=>none
 | .call c=>match c.callee,evs ev c.args.toList with
   | .builtin b,some args=>U9 X.P h b c.argTypes o.type args
   | .value f,some args=>match ev f with
     | some f=>Ul X h f args
     | none=>none
   | .invoke r name,some args=>match ev r with
     | some r=>Zbf X r name args
     | none=>none
   | _,_=>none
 | .defer c=>match c.callee,evs ev c.args.toList with
   | .value f,some args=>match ev f with
     | some (.func (.func g) first cap)=>some (.dfr {target:=.fn (.func g) cap,args:=first++args.toArray},.none)
     | _=>none
   | _,_=>none
 | .panic x=>match ev x with
   | some (.iface t v)=>some (.panic (.iface t v),.none)
   | _=>none
 | .range t x=>match ev x with
   | some x=>vE (Zj1 X.P h t x)
   | none=>none
 | .next it b=>match ev it with
   | some it=>vE (ZzT h it b)
   | none=>none
 | .entry it=>match ev it with
   | some it=>vN (Zea h it)
   | none=>none
 | _=>none
def ZeA{α β:Type}(f:α->β)(xs:GZ α):(xs.toList.map f).toArray=xs.map f:=by cases xs;simp
def Zee.Y5{v v':O N}(h:Zee ρ v v')(hp:Q6 v.toList=true):v'=v:=by
 cases v<;>cases v'<;>simp[Zee,Q6]at h hp ⊢
 exact VR.Y5 hp h
set_option maxHeartbeats 1000000 in
theorem ZaH {X:Ctx} {ev:Operand ->Option Value} {ev':Operand ->Value} {o:Oper} {nx:AN} {E:Eff} (r:Rel ρ h w) (he:EvR ρ ev ev') (ha:Xx X h ev o=some (nx,E)):
 XQ X.P ρ h w (execOp ev' o) nx E:=by
 unfold Xx at ha;split at ha
 ·rename_i x ho;unfold vN at ha;split at ha
  ·rename_i v e;cases ha;exact XQ.val (he x v e) (by simp [execOp,ho])
  ·cases ha
 ·rename_i x ho;unfold vN at ha;split at ha
  ·rename_i v e;cases ha;exact XQ.val (he x v e) (by simp [execOp,ho])
  ·cases ha
 ·rename_i c a b ho;split at ha
  ·rename_i e;have hc:=he c _ e;generalize hcc:ev' c=cv at hc;cases hc;unfold vN at ha;split at ha
   ·rename_i v e;cases ha;exact XQ.val (he a v e) (by simp [execOp,ho,hcc,asBool])
   ·cases ha
  ·rename_i e;have hc:=he c _ e;generalize hcc:ev' c=cv at hc;cases hc;unfold vN at ha;split at ha
   ·rename_i v e;cases ha;exact XQ.val (he b v e) (by simp [execOp,ho,hcc,asBool])
   ·cases ha
  ·cases ha
 ·-- alloc
  rename_i t ho;split at ha
  ·rename_i z hz;cases ha;unfold execOp;rw [ho];exact Zp8 r hz
  ·cases ha
 ·rename_i t x ho;split at ha
  ·rename_i v e;cases ha;unfold execOp;rw [ho];exact Zvv r t (he x v e)
  ·cases ha
 ·rename_i t ps ho;split at ha
  ·rename_i vs e;obtain⟨q1,q2⟩:=ZlA he _ _ e;unfold execOp;rw [ho];refine QW ha fun x hx=>?_
   obtain⟨x',h1,h2⟩:=ZpW (w:=w) q1 q2 hx;have e3:(ps.toList.map fun p:Nat×Operand=>(p.1,ev' p.2)).toArray=ps.map fun p:Nat×Operand=>(p.1,ev' p.2):=ZeA _ _
   rw [e3] at h2;exact⟨x',h1,h2⟩
  ·cases ha
 ·rename_i t n ps ho;split at ha
  ·rename_i vs e;obtain⟨q1,q2⟩:=ZlA he _ _ e;unfold execOp;rw [ho];refine Kq ha fun x E hx=>?_
   have:=ZqR r q1 q2 hx;have e3:(ps.toList.map fun p:Nat×Operand=>(p.1,ev' p.2)).toArray=ps.map fun p:Nat×Operand=>(p.1,ev' p.2):=ZeA _ _
   rw [e3] at this;exact this
  ·cases ha
 ·rename_i t x ho;split at ha
  ·rename_i v e;unfold execOp;rw [ho];exact QW ha fun _ hx=>ZiL r (he x v e) hx
  ·cases ha
 ·rename_i t a x ho;split at ha
  ·rename_i u v e1 e2;unfold execOp;rw [ho];exact Zeq ha fun _ hx=>Zn2 r (he a u e1) (he x v e2) hx
  ·cases ha
 ·rename_i x ho;split at ha
  ·rename_i a e;cases ha;have hx:=he x _ e;generalize hxx:ev' x=xv at hx;cases hx with
   | ptr o hi=>exact XQ.val (.ptr o hi) (by simp [execOp,ho,hxx])
  ·cases ha
 ·rename_i op t x y yt ho;split at ha
  ·rename_i a b e1 e2;unfold execOp;rw [ho];exact Zvx (he x a e1) (he y b e2) ha
  ·cases ha
 ·rename_i op t x ho;split at ha
  ·rename_i a e;cases hp:plain a <;> rw [hp] at ha <;> simp at ha
   unfold execOp;rw [ho];dsimp only;rw [VR.Y5 hp (he x a e)];exact Zap ha fun _ hx=>J8 hx
  ·cases ha
 ·rename_i s d x ho;split at ha
  ·rename_i a e;cases hp:plain a <;> rw [hp] at ha <;> simp at ha
   ·unfold vN at ha;split at ha
    ·rename_i v e2;cases ha;obtain⟨v',h1,h2⟩:=ZpU r (he x a e) e2;exact XQ.val h1 (by simp [execOp,ho,h2])
    ·cases ha
   ·unfold execOp;rw [ho];dsimp only;rw [VR.Y5 hp (he x a e)];exact Zap ha fun _ hx=>J8 hx
  ·cases ha
 ·rename_i t x ho;split at ha
  ·cases ha
  ·rename_i v d hni e1 e2;cases ha;refine XQ.val (.iface t _ _ (he x v e1)) ?_;cases d <;> simp [execOp,ho,Instr.makeInterface,run_underlying e2] at hni ⊢
  ·cases ha
 ·rename_i fn first cap ho;cases hy:Zmv fn <;> rw [hy] at ha <;> simp at ha
  split at ha
  ·rename_i vs us e1 e2;cases ha;have q1:= (Kl he _ _ e1).arr;have q2:= (Kl he _ _ e2).arr
   refine XQ.val (.func fn _ _ (first.map ev') (cap.map ev') (fun l hl=>by subst hl;cases hy) (by simpa using q1.1) (by simpa using q2.1)
    (fun i v v' a b=>q1.2 i v v' a (by simpa using b)) (fun i v v' a b=>q2.2 i v v' a (by simpa using b))) (by simp [execOp,ho,Instr.makeFunc])
  ·cases ha
 ·rename_i t ho;cases ha;refine⟨ρ.add h.size (w.heap.size,0) (0,0),World.push w (.map #[] 0),Ki _,⟨_,rfl,⟨_,rfl⟩,rfl,#[],ZsN _,.nil⟩,.map (some w.heap.size),.map (Ren.add_same ρ h.size _ _),?_⟩;simp [execOp,ho,Instr.makeMap];rfl
 ·rename_i t l c ho;split at ha
  ·rename_i u v e1 e2;unfold execOp;rw [ho];exact Kq ha fun _ _ hx=>Zra r (he l u e1) (he c v e2) hx
  ·cases ha
 ·rename_i t x lo hi mx ho;split at ha
  ·rename_i v lo' hi' mx' e1 e2 e3 e4;have q1:=he x v e1;have q2:=Zgk he e2;have q3:=Zgk he e3;have q4:=Zgk he e4;unfold execOp;rw [ho];cases hp:(plain v && not (ZJv v)) <;> rw [hp] at ha
   ·simp only [Cq0] at ha;exact QW ha fun _ hx=>Zn6 r q1 q2 q3 q4 hx
   ·simp only [Cq1] at ha;rw [Ba0] at hp;cases hq:Q6 (lo'.toList ++ hi'.toList ++ mx'.toList) <;> rw [hq] at ha <;> simp only [Cq0,Cq1] at ha
    ·cases ha
    ·simp only [Q6,List.all_append,Ba0] at hq;dsimp only;rw [VR.Y5 hp.1 q1,Zee.Y5 q2 hq.1.1,Zee.Y5 q3 hq.1.2,Zee.Y5 q4 hq.2];exact Zap ha fun _ hx=>J8 hx
  ·cases ha
 ·rename_i s x f ho;split at ha
  ·rename_i v e;unfold execOp;rw [ho];exact QW ha fun _ hx=>Zpm (he x v e) hx
  ·cases ha
 ·rename_i t x f ho;split at ha
  ·rename_i v e;unfold execOp;rw [ho];exact QW ha fun _ hx=>ZmO (he x v e) hx
  ·cases ha
 ·rename_i t x i ho;split at ha
  ·rename_i u v e1 e2;unfold execOp;rw [ho];exact QW ha fun _ hx=>ZoL (he x u e1) (he i v e2) hx
  ·cases ha
 ·rename_i t x i ho;split at ha
  ·rename_i u v e1 e2;unfold execOp;rw [ho];cases hp:(plain u && plain v) <;> rw [hp] at ha <;> simp only [Cq0,Cq1] at ha
   ·exact QW ha fun _ hx=>Zmx (he x u e1) (he i v e2) hx
   ·rw [Ba0] at hp;dsimp only;rw [VR.Y5 hp.1 (he x u e1),VR.Y5 hp.2 (he i v e2)];exact Zap ha fun _ hx=>J8 hx
  ·cases ha
 ·rename_i t m k ok ho;split at ha
  ·rename_i u v e1 e2;unfold execOp;rw [ho];exact QW ha fun _ hx=>Zms r (he m u e1) (he k v e2) hx
  ·cases ha
 ·rename_i t m k x ho;split at ha
  ·rename_i u v y e1 e2 e3;unfold execOp;rw [ho];exact Zeq ha fun _ hx=>Zbo r (he m u e1) (he k v e2) (he x y e3) hx
  ·cases ha
 ·rename_i t m k x ho;split at ha
  ·rename_i u v y e1 e2 e3;unfold execOp;rw [ho];exact Zeq ha fun _ hx=>Zbo r (he m u e1) (he k v e2) (he x y e3) hx
  ·cases ha
 ·rename_i t m k ho;split at ha
  ·rename_i u v e1 e2;unfold execOp;rw [ho];exact Kq ha fun _ _ hx=>ZiH r (he m u e1) (he k v e2) hx
  ·cases ha
 ·rename_i t m s x ho;split at ha
  ·rename_i u v y e1 e2 e3;unfold execOp;rw [ho];exact Zeq ha fun _ hx=>Zgm r (he m u e1) (he s v e2) (he x y e3) hx
  ·cases ha
 ·rename_i x xt t ok ho;split at ha
  ·rename_i v e;unfold execOp;rw [ho];exact QW ha fun _ hx=>Zno (he x v e) hx
  ·cases ha
 ·rename_i x k ho;split at ha
  ·rename_i v e;unfold execOp;rw [ho];exact QW ha fun _ hx=>Zkx (he x v e) hx
  ·cases ha
 ·rename_i c ho;split at ha
  ·rename_i b args e1 e2;have q:=Kl he _ _ e2;have:=ZkI (ts:=c.argTypes) (ty:=o.type) (cs:=c.args.map fun | .const _=>true | _=>false) r q ha;unfold execOp;rw [ho];have e3:(c.args.toList.map ev').toArray=c.args.map ev':=ZeA _ _;rw [e3] at this;show XQ X.P ρ h w (do let d ← resolve ev' c o.type;invoke d.target d.args) nx E;unfold resolve;rw [e1];exact this
  ·rename_i f args e1 e2;have q:=Kl he _ _ e2;split at ha
   ·rename_i fv e4;have:=Zr0 r (he f fv e4) q ha;unfold execOp;rw [ho];have e3:(c.args.toList.map ev').toArray=c.args.map ev':=ZeA _ _;rw [e3] at this;show XQ X.P ρ h w (do let d ← resolve ev' c o.type;invoke d.target d.args) nx E;unfold resolve;rw [e1];exact this
   ·cases ha
  ·rename_i rr name args e1 e2;have q:=Kl he _ _ e2;split at ha
   ·rename_i rv e4;have:=Zmw (w:=w) (h:=h) (he rr rv e4) q ha;unfold execOp;rw [ho];have e3:(c.args.toList.map ev').toArray=c.args.map ev':=ZeA _ _;rw [e3] at this;show XQ X.P ρ h w (do let d ← resolve ev' c o.type;invoke d.target d.args) nx E;unfold resolve;rw [e1];exact this
   ·cases ha
  ·cases ha
 ·rename_i c ho;split at ha
  ·rename_i f args e1 e2;have q:=Kl he _ _ e2;split at ha
   ·rename_i g first cap e4;cases ha;have hf:=he f _ e4;generalize hff:ev' f=fv at hf;cases hf with
    | func _ _ _ first' cap' hy hx1 hx2 h1 h2=>
      refine⟨ρ,w,Same.refl w,⟨rfl,rfl⟩,{target:= .fn (.func g) cap',args:=first' ++ c.args.map ev'},⟨⟨g,cap,cap',rfl,rfl,hx2,h2⟩,?_⟩,?_⟩
      ·have e5:LR ρ first.toList first'.toList:=Jo.list ⟨hx1,h1⟩;have:= (e5.append q).arr;have e6:(first.toList ++ args).toArray=first ++ args.toArray:=by apply Array.toList_inj.1;simp
       have e7:(first'.toList ++ c.args.toList.map ev').toArray=first' ++ c.args.map ev':=by apply Array.toList_inj.1;simp
       rwa [e6,e7] at this
      ·simp [execOp,ho,resolve,e1,hff,Deferred.ofValue]
   ·cases ha
  ·cases ha
 ·rename_i x ho;split at ha
  ·rename_i t v e;cases ha;have hx:=he x _ e;generalize hxx:ev' x=xv at hx;cases hx with
   | iface _ _ v' hv=>exact⟨ρ,w,Same.refl w,⟨rfl,rfl⟩,.iface t v',.iface t v v' hv,by simp [execOp,ho,hxx,Instr.panic]⟩
  ·cases ha
 ·rename_i t x ho;split at ha
  ·rename_i v e;unfold execOp;rw [ho];exact Kq ha fun _ _ hx=>Zof r (he x v e) hx
  ·cases ha
 ·rename_i it b ho;split at ha
  ·rename_i v e;unfold execOp;rw [ho];exact Kq ha fun _ _ hx=>Zq6 r o.type (he it v e) hx
  ·cases ha
 ·rename_i it ho;split at ha
  ·rename_i v e;unfold execOp;rw [ho];exact QW ha fun _ hx=>ZpD r (he it v e) hx
  ·cases ha
 ·cases ha
end
end Go.ZK
end
end
