/- Part 2. -/
import Derived.Laws.IdiomRangeMap
import Derived.Test.YtbnepjakjmnadaaGreatSb1
set_option linter.all false
set_option maxHeartbeats 2000000
def Go.Li0{p:Type _}{l:U p}{i:Nat}{a:p}(h:l[i]? =some a):∃h:i<l.length,l[i]=a:=List.getElem?_eq_some_iff.1 h
section
noncomputable section
namespace Go.ZU
section
variable{P:V2}{ρ:Ren}{h:H}{w:V4}
def Zmh(P:V2)(h:H)(t:J)(x:N):O (N×Eff):=
 match P.underlying t,x with
 | some .string,.string s=>some (JF h,.new (.Zf5 s 0))
 | some (.map _ _),.map none=>some (JF h,.new .ZjL)
 | some (.map _ _),.map (some i)=>match h.at i with|.map _ l=>some (JF h,.new (.iter i l l none))|_=>none
 | _,_=>none
def UQ:N:=.tuple #[.bool false]
def ZoL(es:U V6)(h l:Nat)(last:O Nat):O (O V6):=
 bif Nat.ble h l then match es,last with|[],_=>some none|[e],none=>bif Nat.blt e.born h then some (some e) else none|[e],some b=>bif Nat.blt e.born h&&Nat.beq e.born b then some none else none|_,_=>none
 else none
def ZED(h:H)(q:Value)(l:Bool):Option (Value×Eff):=
 match q with
 | .pointer (some ⟨i,0,none⟩)=>match h.at i,l with
   | .Zf5 s pos,true=>bif Nat.blt pos s.size then some (.tuple #[.bool true,goInt pos,.int .i32 (Utf8.decode s pos).1],.upd i (.Zf5 s (pos+(Utf8.decode s pos).2))) else some (UQ,.none)
   | .ZjL,false=>some (UQ,.none)
   | .iter m since XE last,false=>match h.at m with
     | .map es p=>match ZoL es since XE last with|some none=>some (UQ,.none)|some (some e)=>some (.tuple #[.bool true,e.key,e.val],.upd i (.iter m since p (some e.born)))|none=>none
     | _=>none
   | _,_=>none
 | _=>none
def ZlY(b:Nat):U V6->O V6
 | []=>none
 | e::es=>bif Nat.beq e.born b then some e else ZlY b es
def Zd0(h:H)(p:Value):Option Value:=
 match p with
 | .pointer (some ⟨i,0,none⟩)=>match h.at i with
   | .iter m _ XE (some s) | .Ws m _ XE s=>match h.at m with
     | .map es l=>bif Nat.beq XE l then match ZlY s es with|some e=>some (.tuple #[e.key,e.val])|none=>none
       else none
     | _=>none
   | _=>none
 | _=>none
def ZhT{s:Sem N}{o:Obj}{A:Xv}(p:s.run P w=.ok ((Va w.heap.size)) (World.push w o))(q:∀l,Q0 (ρ.add h.size (w.heap.size,0) l) (World.push w o) w.heap.size 0 l A):
 X6 P ρ h w (do pure (.value (<-s))) (.val (JF h)) (.new A):=
 ⟨_,World.push w o,Zaj _,⟨(0,0),rfl,⟨o,rfl⟩,q (0,0)⟩,_,ZhY w _,by simp[p]⟩
def Zkt(w:V4)(o:Obj):(World.push w o).heap[w.heap.size]? =some o:=by show(w.heap.push o)[w.heap.size]? =some o;simp
def ZqX(r:Rel ρ h w){t:J}{x B v:N}{E:Eff}(y:VR ρ x B)(q:Zmh P h t x=some (v,E)):
 X6 P ρ h w (do pure (.value (<-Instr.range t B))) (.val v) E:=by
 unfold Zmh at q;split at q
 .rename_i s hu;cases q;cases y with|string _=>
    refine ZhT (o:=.stringIter s 0) ?_ fun l=>⟨rfl,Zkt _ _⟩;simp[Instr.range,run_underlying hu];rfl
 .rename_i hu;cases q;cases y;refine ZhT (o:=.mapIter none 0 #[] 0) ?_ fun l=>⟨rfl,Zkt _ _⟩;simp[Instr.range,run_underlying hu];rfl
 .rename_i i hu;split at q
  .rename_i es p A;cases q;cases y with|@map _ b D=>
     have C:=r.obj _ _ _ D;rw[A]at C;have⟨_,es',hw,_⟩:=C;refine ZhT (o:=.mapIter (some b) p #[] p) ?_ fun l=>⟨rfl,b,#[],(Ren.Za8 r.fresh _ _ D).1,Zkt _ _,(fun s e=>by cases e),fun _=>rfl⟩;simp[Instr.range,run_underlying hu,getObj,Sem.run,hw];rfl
  cases q
 cases q
def Zrb{P:V2}{w:V4}(ty:J){b t since c0:Nat}{h:V5 Nat}{es:V5 V6}{p:Nat}(F:w.heap[b]? =some (.mapIter (some t) since h c0))(I:w.heap[t]? =some (.map es p))
 (hold:∀x∈es.toList,x.born<since) (A:since<=c0):
 ((leftOf es h).size=0/\(Instr.next ((Va b)) false ty).run P w=.ok UQ w)\/
 ∃e∈(leftOf es h).toList,∃w1:V4,w1.heap=w.heap/\Same w w1/\(Instr.next ((Va b)) false ty).run P w=.ok (.tuple #[.bool true,e.key,e.val]) (w1.putObj b (.mapIter (some t) since (h.push e.born) p)):=by
 simp only[Instr.next,getObj,Sem.run_bind,Sem.run,F,I,Result.andThen,next_test_false h es since c0 hold A,Bool.false_eq_true,if_false];unfold leftOf;have l:∀x∈(Array.filter (fun e=>!h.contains e.born) es).toList,x.born<since:=fun x q=>hold x (by simp at q ⊢;exact q.1);generalize Array.filter (fun e=>!h.contains e.born) es=L at l ⊢;have Q:L.filter (fun x=>decide (x.born<since))=L:=Array.filter_eq_self.2 (fun x q=>by simpa using l x (by simpa using q))
 have K:L.filter (fun x=>decide (x.born >=since))=#[]:=by
  rw[Array.filter_eq_empty_iff];intro x q;have:=l x (by simpa using q);simp;omega
 simp only[Q,K,Array.append_empty];by_cases G:L.size=0;.left;have:L=#[]:=Array.eq_empty_of_size_eq_zero G;subst this;refine⟨rfl,?_⟩;simp[choose,Sem.run,Question.forced,UQ]
 right;have B:L.isEmpty=false:=by simp[Array.isEmpty,G]
 simp only[B,Bool.false_eq_true,if_false,Array.empty_append,Array.size_map]
 have D:∃(j:Nat) (w1:V4),j<L.size/\w1.heap=w.heap/\Same w w1/\(choose (Question.mapNext L.size)).run P w=.ok j w1:=by
  by_cases E:L.size<=1;.exact⟨0,w,by omega,rfl,Same.refl w,by simp[choose,Sem.run,Question.forced,E]⟩
  exact⟨_,w.drew,Nat.mod_lt _ Vb,rfl,⟨rfl,rfl,rfl⟩,by
   simp only[choose,Sem.run,Question.forced,decide_eq_true_eq,E,if_false,Question.cut];rfl⟩
 have⟨j,w1,hj,hh,hal,hrun⟩:=D;refine⟨L[j],by simp,w1,hh,hal,?_⟩
 have r:∀(y:Obj),(setObj b y).run P w1=.ok () (w1.putObj b y):=fun y=>by
  have C:w1.heap[b]? =some (.mapIter (some t) since h c0):=by rw[hh];exact F
  simp[setObj,Sem.run,C,World.putObj]
 simp only[hrun,Array.getElem?_map,GG hj,GY,Sem.run_bind,r,Result.andThen];rfl
def EL.Zwb{es':U V6}(e:EL ρ [] es'):es'=[]:=by cases e;rfl
def EL.ZoK{h:V6}{es':U V6}(e:EL ρ [h] es'):∃l,es'=[l]/\l.key=h.key/\plain h.key=true/\l.born=h.born/\VR ρ h.val l.val:=by cases e with|cons q p r hv t=>cases t;exact⟨_,rfl,q,p,r,hv⟩
def Zgh{es:U V6}{l q:Nat}{last:O Nat}{r:O V6}(h:ZoL es l q last=some r):l<=q/\
 ((es=[]/\r=none)\/∃e,es=[e]/\e.born<l/\((last=none/\r=some e)\/(last=some e.born/\r=none))):=by
 unfold ZoL at h;cases x:Nat.ble l q<;>rw[x]at h<;>simp only[Cq1,Cq0]at h;.cases h
 refine⟨Nl0 x,?_⟩;split at h;.cases h;exact .inl ⟨rfl,rfl⟩
 .rename_i e;cases p:Nat.blt e.born l<;>rw[p]at h<;>simp only[Cq1,Cq0]at h;.cases h
  cases h;exact .inr ⟨_,rfl,by rwa[Gd]at p,.inl ⟨rfl,rfl⟩⟩
 .rename_i e b;cases p:Nat.blt e.born l<;>rw[p]at h<;>simp only[Gv,Bool.false_and,Cq0]at h;.cases h
  cases t:Nat.beq e.born b<;>rw[t]at h<;>simp only[Cq1,Cq0]at h;.cases h
  cases h;exact .inr ⟨_,rfl,by rwa[Gd]at p,.inr ⟨by rw[Nb0 t],rfl⟩⟩
 cases h
def ZtZ(r:Rel ρ h w){it T v:N}{b:Z}{E:Eff}(t:J)(C:VR ρ it T)(l:ZED h it b=some (v,E)):
 X6 P ρ h w (do pure (.value (<-Instr.next T b t))) (.val v) E:=by
 unfold ZED at l;split at l
 .rename_i i;cases C with|@ptr _ bb d _ hi=>
    have S:=r.obj _ _ _ hi;have hlt:=(r.dom _ _ _ hi).2;split at l
    .rename_i s B F;rw[F]at S;obtain⟨rfl,hw⟩:=S;cases hc:Nat.blt B s.size<;>rw[hc]at l<;>simp only[Cq1,Cq0]at l
     .cases l;have hn:¬ B<s.size:=fun z=>by rw[<-Gd]at z;rw[z]at hc;cases hc
      refine X6.JU (v':=UQ) (VR.ZY rfl) ?_;simp[Instr.next,getObj,Sem.run,hw,hn,UQ]
     cases l;rw[Gd]at hc
     refine⟨ρ,{w with heap:=w.heap.setIfInBounds bb (.stringIter s (B+(Utf8.decode s B).2))},⟨rfl,rfl,rfl⟩,⟨rfl,bb,0,hi,by simp,fun k hk=>by simp[Array.getElem?_setIfInBounds_ne (Ne.symm hk)],rfl,by simp[hlt]⟩,
      .tuple #[.bool true,goInt B,.int .i32 (Utf8.decode s B).1],VR.ZY rfl,?_⟩
     simp[Instr.next,getObj,setObj,Sem.run,hw,hc]
    next F=>rw[F]at S;obtain⟨rfl,hw⟩:=S;cases l;refine X6.JU (v':=UQ) (VR.ZY rfl) ?_;simp[Instr.next,getObj,Sem.run,hw,UQ]
    .rename_i m since XE last F;rw[F]at S;obtain⟨rfl,m',G,hm,hw,K,W⟩:=S;split at l
     .rename_i es Q ZBX;have V:=r.obj _ _ _ hm;rw[ZBX]at V;have⟨_,es',ZG,hes⟩:=V;split at l
      .rename_i D;cases l;have⟨hsc,hh⟩:=Zgh D;refine X6.JU (v':=UQ) (VR.ZY rfl) ?_
       have hold:∀x∈es'.toList,x.born<since:=by
        rcases hh with⟨rfl,_⟩|⟨e,rfl,he,_⟩
        .rw[EL.Zwb hes];intro x C;cases C
        have⟨e',h1,_,_,h4,_⟩:=EL.ZoK hes;rw[h1];intro x C;simp at C;subst C;omega
       have hz:(leftOf es' G).size=0:=by
        unfold leftOf;rcases hh with⟨rfl,_⟩|⟨e,rfl,he,(⟨_,L⟩|⟨hl,_⟩)⟩
        .have:es'=#[]:=by simpa using EL.Zwb hes
         subst this;rfl
        .cases L
        have⟨e',h1,_,_,h4,_⟩:=EL.ZoK hes;have h2:es'=#[e']:=by rw[<-Array.toArray_toList (xs:=es'),h1]
        subst h2;have hs:=K _ hl
        have hin:G.contains e'.born=true:=by
         rw[h4,Array.contains_iff_mem];rw[Array.back?_eq_getElem?]at hs;exact Array.mem_of_getElem? hs
        simp[hin];simpa using hin
       rcases Zrb (P:=P) t hw ZG hold hsc with⟨_,hr⟩|⟨e',he',_⟩
       .simp only[Gc,Nat.add_zero]at *;simp[hr]
       have:=G6▸List.length_pos_of_mem he';omega
      .rename_i e D;cases l;have⟨hsc,hh⟩:=Zgh D;rcases hh with⟨_,L⟩|⟨e0,rfl,he,(⟨hl,L⟩|⟨_,L⟩)⟩
       .cases L
       .cases L;have⟨e',h1,hk,hp,hb,hv⟩:=EL.ZoK hes;have ZiS:=W hl;subst ZiS;have h2:es'=#[e']:=by rw[<-Array.toArray_toList (xs:=es'),h1]
        have hold:∀x∈es'.toList,x.born<since:=by
         rw[h1];intro x C;simp at C;subst C;omega
        rcases Zrb (P:=P) t hw ZG hold hsc with⟨hz,_⟩|⟨x,C,w1,I,A,hr⟩
        .subst h2;simp[leftOf]at hz
        have hx':x=e':=by subst h2;simpa[leftOf]using C
        subst hx';have X:bb<w1.heap.size:=by rw[I];exact hlt
        refine⟨ρ,w1.putObj bb (.mapIter (some m') since (#[].push x.born) Q),⟨A.os,A.tape,A.output⟩,⟨rfl,bb,0,hi,by rw[World.putObj_size,I],fun k hk=>by rw[World.putObj_heap_other hk,I],rfl,m',_,hm,World.putObj_heap_same X,fun s hs=>(by cases hs;simp[hb]),fun z=>(by cases z)⟩,
         .tuple #[.bool true,x.key,x.val],?_,?_⟩
        .refine .tuple _ _ rfl fun j y y' p q=>?_;match j,p,q with|0,p,q=>simp at p q;subst p q;exact .bool true|1,p,q=>simp at p q;subst p q;rw[hk];exact VR.ZY hp|2,p,q=>simp at p q;subst p q;exact hv|j+3,p,q=>simp at p
        simp[hr]
       cases L
      cases l
     cases l
    cases l
 cases l
def Zsv{es es':U V6}(e:EL ρ es es'){b:Nat}{x:V6}(l:ZlY b es=some x):∃h,es'.find? (fun e=>e.born==b)=some h/\h.key=x.key/\plain x.key=true/\VR ρ x.val h.val/\h.born=b/\h∈es':=by
 induction e with|nil=>cases l|@cons y q es es' D C B hv t ih=>
   simp only[ZlY]at l;cases p:Nat.beq y.born b<;>rw[p]at l<;>simp only[Cq1,Cq0]at l
   .have⟨h,h1,h2⟩:=ih l;have r:(q.born==b)=false:=by rw[B];rw[ZaJ]at p;simpa using p
    exact⟨h,by rw[List.find?_cons,r];exact h1,h2.1,h2.2.1,h2.2.2.1,h2.2.2.2.1,Kd _ h2.2.2.2.2⟩
   cases l;have A:(q.born==b)=true:=by rw[B];simpa using Nb0 p
   exact⟨q,by rw[List.find?_cons,A],D,C,hv,by rw[B];exact Nb0 p,by simp⟩
def Zst(r:Rel ρ h w){L D v:N}(S:VR ρ L D)(q:Zd0 h L=some v):∃v',VR ρ v v'/\(Instr.entry D).run P w=.ok v' w:=by
 unfold Zd0 at q;split at q
 .rename_i i;cases S with|@ptr _ Q d _ T=>
    have F:=r.obj _ _ _ T
    have C:∀{m l A s:Nat},(d=0/\∃B p,ρ m=some (B,0)/\w.heap[Q]? =some (.mapIter (some B) l p A)/\p.back? =some s)->(match h.at m with
     | .map es t=>bif Nat.beq A t then match ZlY s es with|some e=>some (.tuple #[e.key,e.val])|none=>none
       else none
     | _=>none)=some v->∃v',VR ρ v v'/\(Instr.entry (.pointer (some ⟨Q,d+0,none⟩))).run P w=.ok v' w:=by
     rintro m l A s ⟨rfl,B,p,I,hw,W⟩ q;split at q
     .rename_i es t ZBX;have E:=r.obj _ _ _ I;rw[ZBX]at E;have⟨_,es',ZG,hes⟩:=E;cases G:Nat.beq A t<;>rw[G]at q<;>simp only[Cq1,Cq0]at q;.cases q
      have G:=Nb0 G;subst G;split at q
      .rename_i e V;cases q;have⟨e',f1,f2,f3,f4,_⟩:=Zsv hes V;refine⟨.tuple #[e'.key,e'.val],?_,?_⟩;.refine .tuple _ _ rfl fun j x X a b=>?_;match j,a,b with|0,a,b=>simp at a b;subst a b;rw[f2];exact VR.ZY f3|1,a,b=>simp at a b;subst a b;exact f4|j+2,a,b=>simp at a
       have K:es'.find? (fun e=>e.born==s)=some e':=by rw[<-Array.find?_toList];exact f1
       simp[Instr.entry,getObj,Sem.run,hw,W,ZG,K]
      cases q
     cases q
    split at q;next m l A s y=>rw[y]at F;have⟨e,B,p,I,hw,hback,_⟩:=F;exact C ⟨e,B,p,I,hw,hback s rfl⟩ q
    next m l A s y=>rw[y]at F;exact C F q
    cases q
 cases q
end
section
variable{ρ:Ren}{h:H}{w:V4}
structure Ctx where
 P:Program
 sz:P.funcs.size=nfs
 fns:Tr Func
 ok:∀ f fn,fns.get f=some fn ->P.funcs[f]? =some fn∧fn.body.isSome=true∧(fn.name== "runtime.NumGoroutine")=false
 orc:FuncId ->Option Value
 ZRf:∀ f v,orc f=some v ->plain v=true∧∀ w:World,CallsIn base 0 P f #[] w (fun e w'=>e= .returned v∧RowKit.Below w.heap.size w w')
 ZXe:FuncId ->Array Value ->H ->Option (Value×Xv):=fun _ _ _=>none
 ZXd:∀ f args h v A,ZXe f args h=some (v,A) ->∀ ρ args' (w:World),Rel ρ h w ->Ub ρ args args' ->CallsIn base 0 P f args' w (fun e w'=>∃ v' p l,e= .returned v'∧
  RowKit.Below w.heap.size w w'∧w.heap.size <=p∧p < w'.heap.size∧VR (ρ.add h.size (p,0) l) v v'∧Q0 (ρ.add h.size (p,0) l) w' p 0 l A):=by intros;contradiction
def Zlg{X:Ctx}{f:V3}{fn:Func}(h:X.fns.get f=some fn):f<nfs:=by have:=(X.ok f fn h).1;rw[<-X.sz];exact(G4.1 this).1
def evs(ev:V0->O N):U V0->O (U N)
 | []=>some []
 | x::xs=>match ev x,evs ev xs with|some v,some vs=>some (v::vs)|_,_=>none
def evp(ev:V0->O N):U (Nat×V0)->O (U (Nat×N))
 | []=>some []
 | (i,x)::xs=>match ev x,evp ev xs with|some v,some vs=>some ((i,v)::vs)|_,_=>none
def evo(ev:V0->O N):O V0->O (O N)
 | none=>some none
 | some x=>match ev x with|some v=>some (some v)|none=>none
def EvR(ρ:Ren)(ev:V0->O N)(h:V0->N):Prop:=∀x v,ev x=some v->VR ρ v (h x)
def Zam{ev:V0->O N}{h:V0->N}(he:EvR ρ ev h):∀(xs:U V0) vs,evs ev xs=some vs->LR ρ vs (xs.map h):=by
 intro xs
 induction xs with|nil=>intro vs hv;simp only[evs,Gj]at hv;subst hv;exact LR.nil|cons x xs ih=>
   intro vs hv;simp only[evs]at hv;split at hv;next v vs' p l=>cases hv;exact LR.cons (he x v p) (ih vs' l)
   cases hv
def Zn3{ev:V0->O N}{h:V0->N}(he:EvR ρ ev h):∀(xs:U (Nat×V0)) vs,evp ev xs=some vs ->
 vs.length=(xs.map fun p:Nat×V0=>(p.1,h p.2)).length/\∀(i:Nat) p l,vs[i]? =some p->(xs.map fun p:Nat×V0=>(p.1,h p.2))[i]? =some l->l.1=p.1/\VR ρ p.2 l.2:=by
 intro xs;induction xs with
 | nil=>intro vs hv;simp only[evp,Gj]at hv;subst hv;exact⟨rfl,fun i p l a=>by simp at a⟩
 | cons x xs ih=>
   intro vs hv;have⟨j,x⟩:=x;simp only[evp]at hv;split at hv;.rename_i v vs' r q;cases hv;have⟨i1,i2⟩:=ih vs' q;refine⟨by simpa using i1,fun i p l a b=>?_⟩;cases i with|zero=>simp at a b;subst a b;exact⟨rfl,he x v r⟩|succ i=>exact i2 i p l (by simpa using a) (by simpa using b)
   cases hv
def Zig{ev:V0->O N}{h:V0->N}(he:EvR ρ ev h){x:O V0}{v:O N}(hv:evo ev x=some v):ZfV ρ v (x.map h):=by
 cases x with|none=>simp only[evo,Gj]at hv;subst hv;trivial|some x=>
   simp only[evo]at hv;split at hv;next u e=>cases hv;exact he x u e
   cases hv
def U5(X:Ctx)(h:H)(f:N)(args:U N):O (AN×Eff):=
 match f with
 | .func (.func g) first cap=>match X.fns.get g with
   | some _=>some (.enter g (first.toList++args++cap.toList).toArray,.none)
   | none=>none
 | .func (.yield l) _ _=>match h.at l with|.loop _ _ _ _ p _ _ _=>bif Nat.beq args.length p.toList.length then some (.round l args.toArray,.none) else none|_=>none
 | _=>none
def K8 {X:Ctx} {f:V3} {fn:Func} {args:V5 N} (hf:X.fns.get f=some fn):(callFunc f args).run X.P w= .ok (.enter f args) w:=by
 obtain⟨h1,h2,h3⟩:=X.ok f fn hf;have hb:¬ fn.body=none:=by intro hh;rw [hh] at h2;cases h2
 have hn:¬ fn.name= "runtime.NumGoroutine" :=by simpa using h3
 simp [callFunc,h1,hn,hb]
def Zu3{X:Ctx}{f f':N}{args p:U N}{G:AN}{E:Eff}(r:Rel ρ h w)(Q:VR ρ f f')(t:LR ρ args p)(x:U5 X h f args=some (G,E)):
 X6 X.P ρ h w (do let d <-Deferred.ofValue f' p.toArray;invoke d.target d.args) G E:=by
 unfold U5 at x;split at x
 .rename_i g first cap;split at x
  .rename_i fn D;cases x;cases Q with|func _ _ _ q cap' I B A h1 h2=>
     refine⟨ρ,w,Same.refl w,⟨rfl,rfl⟩,(q.toList++p++cap'.toList).toArray,?_,?_⟩;.have e1:LR ρ first.toList q.toList:=Ub.list ⟨B,h1⟩;have W:LR ρ cap.toList cap'.toList:=Ub.list ⟨A,h2⟩;exact((e1.append t).append W).arr
     have:=K8 (w:=w) (args:=q++p.toArray++cap') D;have e:(q.toList++p++cap'.toList).toArray=q++p.toArray++cap':=by apply Array.toList_inj.1;simp
     rw[e,<-this];simp[Deferred.ofValue,invoke]
  cases x
 .rename_i l u1 u2;split at x
  .rename_i S T fr n y YF bd df F;cases hn:Nat.beq args.length y.toList.length<;>rw[show y.toList.length=y.size from G6]at hn<;>simp[hn]at x
   obtain⟨rfl,rfl⟩:=x;have hn:=Nb0 hn;cases Q with|func _ _ _ q cap' I=>exact absurd rfl (I l)|yield L=>
     rename_i b;have K:=r.obj _ _ _ L;rw[F]at K;have⟨_,fn,tmps,df',hw,hfr,hdf,_⟩:=K;refine⟨ρ,w,Same.refl w,⟨rfl,rfl⟩,b,_,p.toArray,L,hw,t.arr,?_⟩;have C:¬ (p.length≠y.size):=by rw[<-t.1];omega
     have V:(getObj b).run X.P w=.ok (.loop {state:=S,pending:=T,fn:=fn,tmps:=tmps,params:=y,assign:=YF,body:=bd,defers:=df'}) w:=by
      simp[getObj,Sem.run,hw]
     simp only[Deferred.ofValue,invoke,Instr.yield,Instr.getLoop,Sem.run_bind,Sem.run_pure,Gx,V];rw[if_neg (by simpa using C)];simp
  cases x
 cases x
def Zah(P:V2)(x:N)(t:J)(ok:Z):O N:=
 match P.underlying t with
 | some (.interface _)=>none
 | some _=>
   match x with
   | .iface u v=>bif Nat.beq u t then some (bif ok then .tuple #[v,.bool true] else v) else bif ok then(match Y5 P t with|some z=>some (.tuple #[z,.bool false]) | none=>none) else none
   | .nilIface=>bif ok then(match Y5 P t with|some z=>some (.tuple #[z,.bool false]) | none=>none) else none
   | _=>none
 | none=>none
def Zp6{P:V2}{x B v:N}{E t:J}{ok:Z}(D:VR ρ x B)(h:Zah P x t ok=some v):∃v',VR ρ v v'/\(Instr.typeAssert B E t ok).run P w=.ok v' w:=by
 unfold Zah at h;split at h;.cases h
 .rename_i d p hu;split at h
  .rename_i u y;cases D with|iface _ _ A C=>
     cases l:Nat.beq u t<;>rw[l]at h<;>simp at h
     .cases ok<;>simp at h;split at h
      .rename_i z q;cases h;have⟨z1,z2,z3⟩:=Qe q;have r:u≠t:=fun e=>by rw[e,Nat.beq_refl]at l;cases l
       refine⟨_,VR.pair (VR.ZY z3) (.bool false),?_⟩;cases d<;>simp[Instr.typeAssert,run_underlying hu,r,z1]at p ⊢
      cases h
     subst h;have l:=Nb0 l;subst l;refine⟨if ok then .tuple #[A,.bool true] else A,?_,?_⟩
     .cases ok;.exact C
      exact VR.pair C (.bool true)
     cases d<;>cases ok<;>simp[Instr.typeAssert,run_underlying hu]at p ⊢
  .cases D;cases ok<;>simp at h;split at h;next z q=>cases h;have⟨z1,z2,z3⟩:=Qe q;refine⟨_,VR.pair (VR.ZY z3) (.bool false),?_⟩;cases d<;>simp[Instr.typeAssert,run_underlying hu,z1]at p ⊢
   cases h
  cases h
 cases h
def vN(v:O N):O (AN×Eff):=
 match v with|some v=>some (.val v,.none)|none=>none
def vE(v:O (N×Eff)):O (AN×Eff):=
 match v with|some (v,E)=>some (.val v,E)|none=>none
def sE(v:O Eff):O (AN×Eff):=
 match v with|some E=>some (.skip,E)|none=>none
def pN(v:O AN):O (AN×Eff):=
 match v with|some v=>some (v,.none)|none=>none
def JB{P:V2}{v:O N}{q:AN}{E:Eff}{s:Sem N}(l:vN v=some (q,E))(r:∀x,v=some x->∃p,VR ρ x p/\s.run P w=.ok p w):
 X6 P ρ h w (do pure (.value (<-s))) q E:=by
 unfold vN at l;split at l;.cases l;have⟨p,h1,h2⟩:=r _ rfl;exact X6.JU h1 h2
 cases l
def X9(P:V2)(h:BinOp)(t:J)(x y:V0)(a b:N):O (AN×Eff):=
 bif plain a&&plain b then pN (Kr P (do eqGuard h t x y a b;binOp h t a b))
 else match h with
 | .eql=>match ZaA P t a b with|some r=>some (.val (.bool r),.none)|none=>none
 | .neq=>match ZaA P t a b with|some r=>some (.val (.bool (!r)),.none)|none=>none
 | _=>none
def ZiN{P:V2}{t:J}{a p b l:N}{r:Z}(B:VR ρ a p)(A:VR ρ b l)(hn:ZaA P t a b=some r)(h:BinOp)(x y:V0)(q:(plain a&&plain b)=false):
 (eqGuard h t x y p l).run P w=.ok () w/\(h=.eql->binOp h t p l=do pure (.bool (<-Op.equal t p l)))/\(h=.neq->binOp h t p l=do pure (.bool (!(<-Op.equal t p l)))):=by
 unfold ZaA at hn;split at hn
 all_goals first
  | (cases hn;done)
  | (cases B<;>cases A<;>first
      | (exfalso;simp[plain,scalar]at q;done)
      | (refine⟨?_,fun e=>?_,fun e=>?_⟩
         .unfold eqGuard;cases h<;>rfl
         .subst e;rfl
         subst e;rfl))
def Zzc{P:V2}{B:BinOp}{t:J}{x y:V0}{a D b C:N}{F:AN}{E:Eff}(A:VR ρ a D)(q:VR ρ b C)(l:X9 P B t x y a b=some (F,E)):
 X6 P ρ h w (do pure (.value (<-(do eqGuard B t x y D C;binOp B t D C:Sem N)))) F E:=by
 unfold X9 at l;cases p:(plain a&&plain b)<;>rw[p]at l
 .simp only[Cq0]at l;split at l
  .split at l;next r hn=>cases l;have⟨g1,g2,_⟩:=ZiN (w:=w) A q hn .eql x y p;have he:=ZiM (w:=w) A q hn;exact X6.JU (.bool r) (by simp only[Sem.run_bind,g1,Gx,g2 rfl,he];rfl)
   cases l
  .split at l;next r hn=>cases l;have⟨g1,_,g2⟩:=ZiN (w:=w) A q hn .neq x y p;have he:=ZiM (w:=w) A q hn;exact X6.JU (.bool (!r)) (by simp only[Sem.run_bind,g1,Gx,g2 rfl,he];rfl)
   cases l
  cases l
 simp only[Cq1]at l;rw[Ba0]at p;rw[VR.Xr p.1 A,VR.Xr p.2 q];unfold pN at l;split at l;next v e=>cases l;exact UC e
 cases l
def Jf(vs:U N):Z:=vs.all plain
def LR.Xr{xs ys:U N}(hv:LR ρ xs ys)(h:Jf xs=true):ys=xs:=by apply List.ext_getElem hv.1.symm;intro i h1 h2;unfold Jf at h;rw[Q2]at h;exact VR.Xr (h _ (GE h2)) (hv.2 i _ _ (Q4 h2) (Q4 h1))
def Uv(P:V2)(h:H)(b:Builtin)(ts:V5 J)(ty:J)(args:U N):O (AN×Eff):=
 match b,args with
 | .append,[s,x]=>vE (Jy P h ts s x)
 | .len,[x]=>match ts.toList with|t::_=>vN (Zve P h t x)|[]=>none
 | .copy,[d,s]=>match ts.toList with|t::_=>vE (ZEJ P h t d s)|[]=>none
 | .clear,[x]=>match ts.toList with
   | t::_=>match Zvh P h t x with|some E=>some (.val (.tuple #[]),E)|none=>none
   | []=>none
 | .delete,[m,k]=>match ts.toList with
   | t::_=>match ZeB P h t m k with|some E=>some (.val (.tuple #[]),E)|none=>none
   | []=>none
 | .min,vs=>bif Jf vs then pN (Kr P (Builtin.min_ ts ty vs.toArray)) else none
 | .max,vs=>bif Jf vs then pN (Kr P (Builtin.max_ ts ty vs.toArray)) else none
 | .recover,[]=>some (.ZqU,.none)
 | _,_=>none
def Zar{P:V2}{v:O (N×Eff)}{p:AN}{E:Eff}{s:Sem Next}(l:vE v=some (p,E))(q:∀x E,v=some (x,E)->X6 P ρ h w s (.val x) E):X6 P ρ h w s p E:=by
 unfold vE at l;split at l;.cases l;exact q _ _ rfl
 cases l
def Zga{P:V2}{v:O Eff}{p:AN}{E:Eff}{s:Sem Next}(l:sE v=some (p,E))(q:∀E,v=some E->X6 P ρ h w s .skip E):X6 P ρ h w s p E:=by
 unfold sE at l;split at l;.cases l;exact q _ rfl
 cases l
def Zbp{P:V2}{v:O AN}{p:AN}{E:Eff}{s:Sem Next}(l:pN v=some (p,E))(q:∀x,v=some x->X6 P ρ h w s x .none):X6 P ρ h w s p E:=by
 unfold pN at l;split at l;.cases l;exact q _ rfl
 cases l
def LR.one{x:N}{ys:U N}(h:LR ρ [x] ys):∃y,ys=[y]/\VR ρ x y:=by match ys,h with|[y],h=>exact⟨y,rfl,h.2 0 x y rfl rfl⟩|[],h=>exact absurd h.1 (by simp)|_::_::_,h=>exact absurd h.1 (by simp)
def LR.two{x l:N}{ys:U N}(h:LR ρ [x,l] ys):∃y y2,ys=[y,y2]/\VR ρ x y/\VR ρ l y2:=by match ys,h with|[y,y2],h=>exact⟨y,y2,rfl,h.2 0 x y rfl rfl,h.2 1 l y2 rfl rfl⟩|[],h=>exact absurd h.1 (by simp)|[_],h=>exact absurd h.1 (by simp)|_::_::_::_,h=>exact absurd h.1 (by simp)
def Zm4{P:V2}{b:Builtin}{ts:V5 J}{ty:J}{cs:V5 Z}{args q:U N}{C:AN}{E:Eff}(r:Rel ρ h w)(l:LR ρ args q)
 (p:Uv P h b ts ty args=some (C,E)):X6 P ρ h w (builtin b ts ty cs q.toArray) C E:=by
 unfold Uv at p;split at p;.obtain⟨B,A,rfl,h1,h2⟩:=LR.two l;exact Zar p fun _ _ e=>Zp7 r h1 h2 e
 .obtain⟨A,rfl,h1⟩:=LR.one l;split at p
  .rename_i t rest e;have x:ts[0]? =some t:=by rw[<-Gi,e];rfl
   exact JB p fun _ e=>Zym x r h1 e
  cases p
 .obtain⟨B,A,rfl,h1,h2⟩:=LR.two l;split at p
  .rename_i t rest e;have x:ts[0]? =some t:=by rw[<-Gi,e];rfl
   exact Zar p fun _ _ e=>ZuZ x r h1 h2 e
  cases p
 .obtain⟨A,rfl,h1⟩:=LR.one l;split at p
  .rename_i t rest e;have x:ts[0]? =some t:=by rw[<-Gi,e];rfl
   split at p;next E e=>cases p;exact ZsD x r h1 e
   cases p
  cases p
 .obtain⟨B,A,rfl,h1,h2⟩:=LR.two l;split at p
  .rename_i t rest e;have x:ts[0]? =some t:=by rw[<-Gi,e];rfl
   split at p;next E e=>cases p;exact ZpO x r h1 h2 e
   cases p
  cases p
 .cases y:Jf args<;>rw[y]at p<;>simp at p;rw[l.Xr y];exact Zbp p fun _ e=>UC e
 .cases y:Jf args<;>rw[y]at p<;>simp at p;rw[l.Xr y];exact Zbp p fun _ e=>UC e
 .cases p;exact⟨ρ,w,Same.refl w,⟨rfl,rfl⟩,rfl⟩
 cases p
def Zo1:Fn->Z
 | .yield _=>true
 | _=>false
def bytesOf:U N->O (U UInt8)
 | []=>some []
 | .int .u8 n::r=>match bytesOf r with|some l=>some (UInt8.ofNat n.toNat::l)|none=>none
 | _=>none
def Ziy(P:V2)(h:H)(s d:J)(x:N):O N:=
 match P.underlying s,P.underlying d,x with
 | some (.slice e),some .string,.slice (some ⟨i,o,none⟩) n _=>match P.underlying e,h.at i with
   | some (.int .u8),.row cs _ _=>bif Nat.ble 1 n&&Nat.ble (o+n) cs.length then(match bytesOf ((cs.drop o).take n) with|some l=>some (.string ⟨l.toArray⟩)|none=>none) else none
   | _,_=>none
 | _,_,_=>none
def Zkp{P:V2}{w:V4}{β:Type}(f:N->β->Sem (ForInStep β))(g:β->N->β):∀(l:U N)(b:β),(∀c∈l,∀b,(f c b).run P w=.ok (.yield (g b c)) w)->(forIn l b f).run P w=.ok (l.foldl g b) w:=by
 intro l
 induction l with|nil=>intro b _;simp|cons a l ih=>
   intro b h;rw[List.forIn_cons];simp only[Sem.run_bind,h a (by simp) b,Gx];exact ih (g b a) fun c p=>h c (by simp[p])
def ZsL:∀{cs:U N}{l:U UInt8},bytesOf cs=some l->(∀c∈cs,∃n,c=.int .u8 n)/\∀p:Y,cs.foldl (fun(b:Y) c=>match c with|.int .u8 n=>b.push (UInt8.ofNat n.toNat)|_=>b) p=⟨p.data++l.toArray⟩:=by
 intro cs;induction cs with
 | nil=>intro l h;cases h;exact⟨fun c q=>(by cases q),fun p=>(by simp)⟩
 | cons c cs ih=>
   intro l h;unfold bytesOf at h;split at h;next h1=>cases h1
   .rename_i n r h1;cases h1;split at h
    .rename_i t e;cases h;have⟨i1,i2⟩:=ih e;refine⟨fun c q=>?_,fun p=>?_⟩
     .rcases K2.1 q with z|z
      .exact⟨n,z⟩
      exact i1 c z
     rw[Gm,i2];show ByteArray.mk ((p.data.push _)++_)=_;simp
    cases h
   cases h
def ZsK {P:V2} {ρ:Ren} {h:H} {w:V4} {s d:J} {x x' v:N} (r:Rel ρ h w) (hx:VR ρ x x') (ha:Ziy P h s d x=some v):∃ v',VR ρ v v'∧(convert s d x').run P w= .ok v' w:=by
 unfold Ziy at ha;split at ha
 ·rename_i e i o n c hs hd;split at ha
  ·rename_i cs own k he hat;cases hc:(Nat.ble 1 n && Nat.ble (o + n) cs.length) <;> rw [hc] at ha <;> simp only [Cq1,Cq0] at ha
   ·cases ha
   ·rw [Ba0] at hc;have hn1:=Nl0 hc.1;have hle:=Nl0 hc.2;split at ha
    ·rename_i l hl;cases ha;cases hx with
     | Qf _ o' _ hi hc1=>omega
     | slice _ _ _ c' hi hcap=>
       rename_i b dd;have ho:=r.obj _ _ _ hi;rw [hat] at ho;obtain⟨vs',hl',hcell,hvs⟩:=Zea (o:=o) (n:=n) ho hle;have hlc:=run_loadCellsFrom (P:=P) (w:=w) ⟨b,dd + o,none⟩ (fun j=>vs'.getD j undef) n 0 #[] (fun j hj=>by rw [addr_add];have:=hcell j hj;rw [Gc];exact this)
       have e1:(List.range n).map (fun j=>vs'.getD (0 + j) undef)=vs':=by
        apply List.ext_getElem (by simp [hl']);intro j h1 h2;simp [h2]
       rw [e1] at hlc;obtain⟨b1,b2⟩:=ZsL hl;have hvl:=hvs.list
       have heq:vs'= (cs.drop o).take n:=by
        apply GL;intro j;cases hj:((cs.drop o).take n)[j]? with
        | none=>
          rw [List.getElem?_eq_none_iff] at hj ⊢;have:=hvl.1;simp at this hj ⊢;omega
        | some u=>
          have hjl:j < vs'.length:=by
           have h1:= (Li0 hj).1;have:=hvl.1;simp at this h1 ⊢;omega
          obtain⟨z,hz⟩:∃ z,vs'[j]? =some z:= ⟨vs'[j],by simp [hjl]⟩
          have h3:=hvl.2 j u z (by simpa using hj) (by simpa using hz);obtain⟨n',en⟩:=b1 u (List.mem_of_getElem? hj);subst en;cases h3;exact hz
       refine⟨.string ⟨l.toArray⟩,.string _,?_⟩
       have hrun:=Zkp (P:=P) (w:=w) (fun c (r:Y)=>(match c with
        | .int .u8 n=>pure (.yield (r.push (UInt8.ofNat n.toNat)))
        | _=>do
          stuck "bytesToString: byte expected"
          pure (.yield r):Sem (ForInStep Y))) (fun(b:Y) c=>match c with
        | .int .u8 n=>b.push (UInt8.ofNat n.toNat)
        | _=>b) vs' ByteArray.empty (fun c hc b=>by
          rw [heq] at hc;obtain⟨n',rfl⟩:=b1 c hc;simp)
       rw [heq,b2] at hrun
       have e2:(⟨ByteArray.empty.data ++ l.toArray⟩:Y)= ⟨l.toArray⟩:=by
        show ByteArray.mk (#[] ++ l.toArray)=_;simp
       rw [e2,← heq] at hrun;simp only [convert,run_underlying hs,run_underlying hd,run_underlying he,Sem.run_bind,Sem.run_pure,Gx,Conv.bytesToString,loadCells,hlc];simp only [List.append_toArray,Jn,List.forIn_toArray] at hrun ⊢;exact Eq.trans (congrArg (fun z:Result Y=>z.andThen fun a w'=>Result.ok (Value.string a) w') hrun) (by simp)
    ·cases ha
  ·cases ha
 ·cases ha
def Zqa(P:V2)(t:J)(h:String):O V3:=
 match P.info? t,P.underlying t with
 | some i,some (.struct _)=>match i.methods.find? (·.name==h) with
   | some m=>match m.path.toList,m.func with|[],some (f,false)=>some f|_,_=>none
   | none=>none
 | _,_=>none
def Zb8(X:Ctx)(r:N)(h:String)(args:U N):O (AN×Eff):=
 match r with
 | .iface t v=>match Zqa X.P t h with
   | some f=>match X.fns.get f with|some _=>some (.enter f (v::args).toArray,.none)|none=>none
   | none=>none
 | _=>none
def Zo2{X:Ctx}{ρ:Ren}{h:H}{w:V4}{r K:N}{p:String}{args l:U N}{L:AN}{E:Eff}(W:VR ρ r K)(y:LR ρ args l)(x:Zb8 X r p args=some (L,E)):
 X6 X.P ρ h w (invoke (.fn (.method p) #[]) (#[K]++l.toArray)) L E:=by
 unfold Zb8 at x;split at x
 .rename_i t v;split at x
  .rename_i f q;split at x
   .rename_i fn F;cases x;cases W with|iface _ _ v' hv=>
    refine⟨ρ,w,Same.refl w,⟨rfl,rfl⟩,(v'::l).toArray,?_,?_⟩
    .have:LR ρ ([v]++args) ([v']++l):=LR.append ⟨rfl,fun i a b I Q=>by
      cases i with|zero=>simp at I Q;subst I Q;exact hv|succ i=>simp at I⟩ y
     exact this.arr
    unfold Zqa at q;split at q
    .rename_i A fs hi hu;split at q
     .rename_i m G;split at q
      .rename_i f' hp D;cases q;have hc:=K8 (w:=w) (args:=(v'::l).toArray) F;have V:(typeInfo t).run X.P w=.ok A w:=by simp[typeInfo,program,Sem.run,hi]
       have T:(#[Value.iface t v']++l.toArray).extract 1 (#[Value.iface t v']++l.toArray).size=l.toArray:=by
        apply Array.toList_inj.1;simp
       have S:(#[Value.iface t v']++l.toArray)[0]? =some (Value.iface t v'):=by simp
       have ZS0:#[v']++l.toArray=(v'::l).toArray:=by simp
       obtain⟨k,hk⟩:∃k,X.P.types.size+Made.depth=k+1:=⟨X.P.types.size+99,rfl⟩
       have C:(method (k+1) t v' p).run X.P w=.ok (f,v') w:=by
        unfold method;simp[V,G,hp,D,follow,receiverAt,run_underlying hu,Place.get]
       simp only[invoke,S,callMethod,Sem.run_bind,Sem.run_pure,Gx];have B:(program).run X.P w=.ok X.P w:=by simp[program,Sem.run]
       simp only[B,Gx,hk,C,T,ZS0];exact hc
      cases q
     cases q
    cases q
   cases x
  cases x
 cases x
def XM(X:Ctx)(h:H)(ev:V0->O N)(o:Oper):O (AN×Eff):=
 match o.op with
 | .move x | .assign x=>vN (ev x)
 | .pick c a b=>match ev c with|some (.bool true)=>vN (ev a)|some (.bool false)=>vN (ev b)|_=>none
 | .alloc t=>match Y5 X.P t with|some z=>some (.val (JF h),.new (.row z.cells.toList true 0))|none=>none
 | .box _ x=>match ev x with|some v=>some (.val (JF h),.new (.row v.cells.toList true 0))|none=>none
 | .build t p=>match evp ev p.toList with|some p=>vN (Zmo X.P t p)|none=>none
 | .buildSlice t n p=>match evp ev p.toList with|some p=>vE (ZsU X.P h t n p)|none=>none
 | .load t x=>match ev x with|some v=>vN (K4 X.P h t v)|none=>none
 | .store t a x=>match ev a,ev x with|some a,some x=>sE (Ziu X.P h t a x)|_,_=>none
 | .nilCheck x=>match ev x with|some (.pointer (some a))=>some (.val (.pointer (some a)),.none)|_=>none
 | .binOp B t x y _=>match ev x,ev y with|some a,some b=>X9 X.P B t x y a b|_,_=>none
 | .unOp B _ x=>match ev x with|some a=>bif plain a then pN (Kr X.P (Op.unary B a)) else none|none=>none
 | .convert s d x=>match ev x with|some a=>bif plain a then pN (Kr X.P (convert s d a)) else vN (Ziy X.P h s d a)|none=>none
 | .makeInterface t x=>match ev x,X.P.underlying t with|some _,some (.interface _)=>none|some v,some _=>some (.val (.iface t v),.none)|_,_=>none
 | .makeFunc fn first cap=>bif Zo1 fn then none else match evs ev first.toList,evs ev cap.toList with|some vs,some us=>some (.val (.func fn vs.toArray us.toArray),.none)|_,_=>none
 | .makeMap _ none=>some (.val (.map (some h.size)),.new (.map [] 0))
 | .makeSlice t l c=>match ev l,ev c with|some l,some c=>vE (ZEF X.P h t l c)|_,_=>none
 | .slice t x lo A mx=>match ev x,evo ev lo,evo ev A,evo ev mx with
   | some x,some lo,some A,some mx=>bif plain x&&not (ZBf x) then(match lo,A,mx with|lo,A,mx=>bif Jf (lo.toList++A.toList++mx.toList) then pN (Kr X.P (Instr.sliceAt t x lo A mx)) else none)
     else vN (aslice X.P h t x lo A mx)
   | _,_,_,_=>none
 | .fieldAddr s x f=>match ev x with|some v=>vN (ZdX X.P s v f)|none=>none
 | .field t x f=>match ev x with|some v=>vN (Zhm X.P t v f)|none=>none
 | .indexAddr t x i=>match ev x,ev i with|some x,some i=>vN (ZfP X.P t x i)|_,_=>none
 | .index t x i=>match ev x,ev i with|some x,some i=>bif plain x&&plain i then pN (Kr X.P (Instr.index t x i)) else vN (Zj0 X.P t x i)|_,_=>none
 | .lookup t m k ok=>match ev m,ev k with|some m,some k=>vN (UA X.P h t m k ok)|_,_=>none
 | .mapUpdate t m k x | .insert t m k x=>match ev m,ev k,ev x with|some m,some k,some x=>sE (XC X.P h t m k x)|_,_,_=>none
 | .mapEntry t m k=>match ev m,ev k with|some m,some k=>vE (Ziw X.P h t m k)|_,_=>none
 | .entryStore _ m s x=>match ev m,ev s,ev x with|some m,some s,some x=>sE (ZdZ h m s x)|_,_,_=>none
 | .typeAssert x _ t ok=>match ev x with|some x=>vN (Zah X.P x t ok)|none=>none
 | .extract x k=>match ev x with|some x=>vN (ZdY x k)|none=>none
 | .call c=>match c.callee,evs ev c.args.toList with
   | .builtin b,some args=>Uv X.P h b c.argTypes o.type args
   | .value f,some args=>match ev f with|some f=>U5 X h f args|none=>none
   | .invoke r name,some args=>match ev r with|some r=>Zb8 X r name args|none=>none
   | _,_=>none
 | .defer c=>match c.callee,evs ev c.args.toList with
   | .value f,some args=>match ev f with
     | some (.func (.func g) first cap)=>some (.dfr {target:=.fn (.func g) cap,args:=first++args.toArray},.none)
     | _=>none
   | _,_=>none
 | .panic x=>match ev x with|some (.iface t v)=>some (.panic (.iface t v),.none)|_=>none
 | .range t x=>match ev x with|some x=>vE (Zmh X.P h t x)|none=>none
 | .next q b=>match ev q with|some q=>vE (ZED h q b)|none=>none
 | .entry q=>match ev q with|some q=>vN (Zd0 h q)|none=>none
 | _=>none
def Zgp{h β:Type}(f:h->β)(xs:V5 h):(xs.toList.map f).toArray=xs.map f:=by cases xs;simp
def ZfV.Xr{v v':O N}(h:ZfV ρ v v')(l:Jf v.toList=true):v'=v:=by cases v<;>cases v'<;>simp[ZfV,Jf]at h l ⊢;exact VR.Xr l h
set_option maxHeartbeats 1000000 in
theorem ZbF {X:Ctx} {ev:Operand ->Option Value} {ev':Operand ->Value} {o:Oper} {nx:AN} {E:Eff} (r:Rel ρ h w) (he:EvR ρ ev ev') (ha:XM X h ev o=some (nx,E)):
 X6 X.P ρ h w (execOp ev' o) nx E:=by
 unfold XM at ha;split at ha
 ·rename_i x ho;unfold vN at ha;split at ha
  ·rename_i v e;cases ha;exact X6.val (he x v e) (by simp [execOp,ho])
  ·cases ha
 ·rename_i x ho;unfold vN at ha;split at ha
  ·rename_i v e;cases ha;exact X6.val (he x v e) (by simp [execOp,ho])
  ·cases ha
 ·rename_i c a b ho;split at ha
  ·rename_i e;have hc:=he c _ e;generalize hcc:ev' c=cv at hc;cases hc;unfold vN at ha;split at ha
   ·rename_i v e;cases ha;exact X6.val (he a v e) (by simp [execOp,ho,hcc,asBool])
   ·cases ha
  ·rename_i e;have hc:=he c _ e;generalize hcc:ev' c=cv at hc;cases hc;unfold vN at ha;split at ha
   ·rename_i v e;cases ha;exact X6.val (he b v e) (by simp [execOp,ho,hcc,asBool])
   ·cases ha
  ·cases ha
 ·-- alloc
  rename_i t ho;split at ha
  ·rename_i z hz;cases ha;unfold execOp;rw [ho];exact Zs1 r hz
  ·cases ha
 ·rename_i t x ho;split at ha
  ·rename_i v e;cases ha;unfold execOp;rw [ho];exact Zzb r t (he x v e)
  ·cases ha
 ·rename_i t ps ho;split at ha
  ·rename_i vs e;obtain⟨q1,q2⟩:=Zn3 he _ _ e;unfold execOp;rw [ho];refine JB ha fun x hx=>?_
   obtain⟨x',h1,h2⟩:=ZsM (w:=w) q1 q2 hx;have e3:(ps.toList.map fun p:Nat×Operand=>(p.1,ev' p.2)).toArray=ps.map fun p:Nat×Operand=>(p.1,ev' p.2):=Zgp _ _
   rw [e3] at h2;exact⟨x',h1,h2⟩
  ·cases ha
 ·rename_i t n ps ho;split at ha
  ·rename_i vs e;obtain⟨q1,q2⟩:=Zn3 he _ _ e;unfold execOp;rw [ho];refine Zar ha fun x E hx=>?_
   have:=ZtK r q1 q2 hx;have e3:(ps.toList.map fun p:Nat×Operand=>(p.1,ev' p.2)).toArray=ps.map fun p:Nat×Operand=>(p.1,ev' p.2):=Zgp _ _
   rw [e3] at this;exact this
  ·cases ha
 ·rename_i t x ho;split at ha
  ·rename_i v e;unfold execOp;rw [ho];exact JB ha fun _ hx=>ZkM r (he x v e) hx
  ·cases ha
 ·rename_i t a x ho;split at ha
  ·rename_i u v e1 e2;unfold execOp;rw [ho];exact Zga ha fun _ hx=>ZqJ r (he a u e1) (he x v e2) hx
  ·cases ha
 ·rename_i x ho;split at ha
  ·rename_i a e;cases ha;have hx:=he x _ e;generalize hxx:ev' x=xv at hx;cases hx with
   | ptr o hi=>exact X6.val (.ptr o hi) (by simp [execOp,ho,hxx])
  ·cases ha
 ·rename_i op t x y yt ho;split at ha
  ·rename_i a b e1 e2;unfold execOp;rw [ho];exact Zzc (he x a e1) (he y b e2) ha
  ·cases ha
 ·rename_i op t x ho;split at ha
  ·rename_i a e;cases hp:plain a <;> rw [hp] at ha <;> simp at ha
   unfold execOp;rw [ho];dsimp only;rw [VR.Xr hp (he x a e)];exact Zbp ha fun _ hx=>UC hx
  ·cases ha
 ·rename_i s d x ho;split at ha
  ·rename_i a e;cases hp:plain a <;> rw [hp] at ha <;> simp at ha
   ·unfold vN at ha;split at ha
    ·rename_i v e2;cases ha;obtain⟨v',h1,h2⟩:=ZsK r (he x a e) e2;exact X6.val h1 (by simp [execOp,ho,h2])
    ·cases ha
   ·unfold execOp;rw [ho];dsimp only;rw [VR.Xr hp (he x a e)];exact Zbp ha fun _ hx=>UC hx
  ·cases ha
 ·rename_i t x ho;split at ha
  ·cases ha
  ·rename_i v d hni e1 e2;cases ha;refine X6.val (.iface t _ _ (he x v e1)) ?_;cases d <;> simp [execOp,ho,Instr.makeInterface,run_underlying e2] at hni ⊢
  ·cases ha
 ·rename_i fn first cap ho;cases hy:Zo1 fn <;> rw [hy] at ha <;> simp at ha
  split at ha
  ·rename_i vs us e1 e2;cases ha;have q1:= (Zam he _ _ e1).arr;have q2:= (Zam he _ _ e2).arr
   refine X6.val (.func fn _ _ (first.map ev') (cap.map ev') (fun l hl=>by subst hl;cases hy) (by simpa using q1.1) (by simpa using q2.1)
    (fun i v v' a b=>q1.2 i v v' a (by simpa using b)) (fun i v v' a b=>q2.2 i v v' a (by simpa using b))) (by simp [execOp,ho,Instr.makeFunc])
  ·cases ha
 ·rename_i t ho;cases ha;refine⟨ρ.add h.size (w.heap.size,0) (0,0),World.push w (.map #[] 0),Zaj _,⟨_,rfl,⟨_,rfl⟩,rfl,#[],Zv5 _,.nil⟩,.map (some w.heap.size),.map (Ren.add_same ρ h.size _ _),?_⟩;simp [execOp,ho,Instr.makeMap];rfl
 ·rename_i t l c ho;split at ha
  ·rename_i u v e1 e2;unfold execOp;rw [ho];exact Zar ha fun _ _ hx=>Zt4 r (he l u e1) (he c v e2) hx
  ·cases ha
 ·rename_i t x lo hi mx ho;split at ha
  ·rename_i v lo' hi' mx' e1 e2 e3 e4;have q1:=he x v e1;have q2:=Zig he e2;have q3:=Zig he e3;have q4:=Zig he e4;unfold execOp;rw [ho];cases hp:(plain v && not (ZBf v)) <;> rw [hp] at ha
   ·simp only [Cq0] at ha;exact JB ha fun _ hx=>ZqO r q1 q2 q3 q4 hx
   ·simp only [Cq1] at ha;rw [Ba0] at hp;cases hq:Jf (lo'.toList ++ hi'.toList ++ mx'.toList) <;> rw [hq] at ha <;> simp only [Cq0,Cq1] at ha
    ·cases ha
    ·simp only [Jf,List.all_append,Ba0] at hq;dsimp only;rw [VR.Xr hp.1 q1,ZfV.Xr q2 hq.1.1,ZfV.Xr q3 hq.1.2,ZfV.Xr q4 hq.2];exact Zbp ha fun _ hx=>UC hx
  ·cases ha
 ·rename_i s x f ho;split at ha
  ·rename_i v e;unfold execOp;rw [ho];exact JB ha fun _ hx=>Zr7 (he x v e) hx
  ·cases ha
 ·rename_i t x f ho;split at ha
  ·rename_i v e;unfold execOp;rw [ho];exact JB ha fun _ hx=>Zpq (he x v e) hx
  ·cases ha
 ·rename_i t x i ho;split at ha
  ·rename_i u v e1 e2;unfold execOp;rw [ho];exact JB ha fun _ hx=>Zrm (he x u e1) (he i v e2) hx
  ·cases ha
 ·rename_i t x i ho;split at ha
  ·rename_i u v e1 e2;unfold execOp;rw [ho];cases hp:(plain u && plain v) <;> rw [hp] at ha <;> simp only [Cq0,Cq1] at ha
   ·exact JB ha fun _ hx=>Zo3 (he x u e1) (he i v e2) hx
   ·rw [Ba0] at hp;dsimp only;rw [VR.Xr hp.1 (he x u e1),VR.Xr hp.2 (he i v e2)];exact Zbp ha fun _ hx=>UC hx
  ·cases ha
 ·rename_i t m k ok ho;split at ha
  ·rename_i u v e1 e2;unfold execOp;rw [ho];exact JB ha fun _ hx=>ZoZ r (he m u e1) (he k v e2) hx
  ·cases ha
 ·rename_i t m k x ho;split at ha
  ·rename_i u v y e1 e2 e3;unfold execOp;rw [ho];exact Zga ha fun _ hx=>Zcg r (he m u e1) (he k v e2) (he x y e3) hx
  ·cases ha
 ·rename_i t m k x ho;split at ha
  ·rename_i u v y e1 e2 e3;unfold execOp;rw [ho];exact Zga ha fun _ hx=>Zcg r (he m u e1) (he k v e2) (he x y e3) hx
  ·cases ha
 ·rename_i t m k ho;split at ha
  ·rename_i u v e1 e2;unfold execOp;rw [ho];exact Zar ha fun _ _ hx=>ZkK r (he m u e1) (he k v e2) hx
  ·cases ha
 ·rename_i t m s x ho;split at ha
  ·rename_i u v y e1 e2 e3;unfold execOp;rw [ho];exact Zga ha fun _ hx=>Zii r (he m u e1) (he s v e2) (he x y e3) hx
  ·cases ha
 ·rename_i x xt t ok ho;split at ha
  ·rename_i v e;unfold execOp;rw [ho];exact JB ha fun _ hx=>Zp6 (he x v e) hx
  ·cases ha
 ·rename_i x k ho;split at ha
  ·rename_i v e;unfold execOp;rw [ho];exact JB ha fun _ hx=>ZmZ (he x v e) hx
  ·cases ha
 ·rename_i c ho;split at ha
  ·rename_i b args e1 e2;have q:=Zam he _ _ e2;have:=Zm4 (ts:=c.argTypes) (ty:=o.type) (cs:=c.args.map fun | .const _=>true | _=>false) r q ha;unfold execOp;rw [ho];have e3:(c.args.toList.map ev').toArray=c.args.map ev':=Zgp _ _;rw [e3] at this;show X6 X.P ρ h w (do let d ← resolve ev' c o.type;invoke d.target d.args) nx E;unfold resolve;rw [e1];exact this
  ·rename_i f args e1 e2;have q:=Zam he _ _ e2;split at ha
   ·rename_i fv e4;have:=Zu3 r (he f fv e4) q ha;unfold execOp;rw [ho];have e3:(c.args.toList.map ev').toArray=c.args.map ev':=Zgp _ _;rw [e3] at this;show X6 X.P ρ h w (do let d ← resolve ev' c o.type;invoke d.target d.args) nx E;unfold resolve;rw [e1];exact this
   ·cases ha
  ·rename_i rr name args e1 e2;have q:=Zam he _ _ e2;split at ha
   ·rename_i rv e4;have:=Zo2 (w:=w) (h:=h) (he rr rv e4) q ha;unfold execOp;rw [ho];have e3:(c.args.toList.map ev').toArray=c.args.map ev':=Zgp _ _;rw [e3] at this;show X6 X.P ρ h w (do let d ← resolve ev' c o.type;invoke d.target d.args) nx E;unfold resolve;rw [e1];exact this
   ·cases ha
  ·cases ha
 ·rename_i c ho;split at ha
  ·rename_i f args e1 e2;have q:=Zam he _ _ e2;split at ha
   ·rename_i g first cap e4;cases ha;have hf:=he f _ e4;generalize hff:ev' f=fv at hf;cases hf with
    | func _ _ _ first' cap' hy hx1 hx2 h1 h2=>
      refine⟨ρ,w,Same.refl w,⟨rfl,rfl⟩,{target:= .fn (.func g) cap',args:=first' ++ c.args.map ev'},⟨⟨g,cap,cap',rfl,rfl,hx2,h2⟩,?_⟩,?_⟩
      ·have e5:LR ρ first.toList first'.toList:=Ub.list ⟨hx1,h1⟩;have:= (e5.append q).arr;have e6:(first.toList ++ args).toArray=first ++ args.toArray:=by apply Array.toList_inj.1;simp
       have e7:(first'.toList ++ c.args.toList.map ev').toArray=first' ++ c.args.map ev':=by apply Array.toList_inj.1;simp
       rwa [e6,e7] at this
      ·simp [execOp,ho,resolve,e1,hff,Deferred.ofValue]
   ·cases ha
  ·cases ha
 ·rename_i x ho;split at ha
  ·rename_i t v e;cases ha;have hx:=he x _ e;generalize hxx:ev' x=xv at hx;cases hx with
   | iface _ _ v' hv=>exact⟨ρ,w,Same.refl w,⟨rfl,rfl⟩,.iface t v',.iface t v v' hv,by simp [execOp,ho,hxx,Instr.panic]⟩
  ·cases ha
 ·rename_i t x ho;split at ha
  ·rename_i v e;unfold execOp;rw [ho];exact Zar ha fun _ _ hx=>ZqX r (he x v e) hx
  ·cases ha
 ·rename_i it b ho;split at ha
  ·rename_i v e;unfold execOp;rw [ho];exact Zar ha fun _ _ hx=>ZtZ r o.type (he it v e) hx
  ·cases ha
 ·rename_i it ho;split at ha
  ·rename_i v e;unfold execOp;rw [ho];exact JB ha fun _ hx=>Zst r (he it v e) hx
  ·cases ha
 ·cases ha
end
end Go.ZU
end
end
