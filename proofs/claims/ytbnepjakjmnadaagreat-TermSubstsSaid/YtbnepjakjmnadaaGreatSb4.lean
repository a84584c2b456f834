/- Part 4. -/
import Derived.TacticsIn
import Derived.FollowTie
import Derived.Test.YtbnepjakjmnadaaGreatSb3
set_option linter.all false
set_option maxHeartbeats 2000000
section
noncomputable section
namespace Go.ZU
section
variable{ρ:Ren}{w:V4}
def Zew{ρ p:Ren}{h y:H}{w w':V4}(r:Rel ρ h w)(l:Stp h.size ρ h w p y w'):Rel ρ h w'/\∀V,Stp V ρ h w ρ h w':=by
 have hold:∀b,b<w.heap.size->w'.heap[b]? =w.heap[b]?:=fun b q=>l.frame b q fun i d A e _=>by have:=r.lt i _ e;omega
 refine⟨⟨fun i b d e=>?_,fun i b d e=>?_,r.inj⟩,fun V=>⟨Ren.le_refl _,K1 _,fun _ _=>rfl,fun _ _ x=>x,fun _ _ x=>x,l.os,l.tape,l.output,l.XH,fun b q _=>hold b q,fun i b d e t=>by rw[e]at t;cases t⟩⟩;.have:=r.dom i b d e;have:=l.XH;omega
 exact(r.obj i b d e).world (hold b (r.dom i b d e).2)
def ZaD{ρ:Ren}{rd:O Nat}{F:Fence}(h:FR' ρ rd F)(f:V3):F.fn f↔f<nfs:=by
 unfold FR' at h;split at h;.subst h;exact Iff.rfl
 obtain⟨l,_,rfl⟩:=h;exact Iff.rfl
def ZfQ{P:V2}{w:V4}{a:Act}{fr:Fr}{ops:U Oper}{o:Oper}(E:∀t,o.op=.call {callee:=.value (.tmp t),args:=(match o.op with | .call c=>c.args|_=>#[]),argTypes:=(match o.op with | .call c=>c.argTypes|_=>#[])}->X4 (fr.at t)=false->VR ρ (fr.at t) (a.tmps.getD t undef))(q:okG ops o fr=true)(hw:XJ ops o fr=false){f:V3}(h:o.about P w a.eval=some f):f<nfs:=by
 have B:Zkk o.op fr=true:=by
  unfold okG at q;cases D:o.guard with|none=>unfold XJ at hw;rw[D]at hw;cases hw|some p=>rw[D]at q;simp only[hw,Ba0,GX]at q;exact q.2
 have⟨dst,op,ty,ps,af,gd⟩:=o;unfold Oper.about at h;dsimp only at h B E;split at h
 .rename_i c;have⟨callee,args,ats⟩:=c;cases callee with
  | value x=>
    cases x with
    | func g=>
      simp only[resolve,Act.eval,Deferred.ofValue,Sem.run_pure,Target.leads]at h;cases h;simpa[Zkk]using B
    | tmp t=>
      have l:Zf6 (fr.at t)=true:=B;have A:=E t rfl;generalize fr.at t=x at l A;unfold Zf6 at l;split at l
      .rename_i g u1 G;have hv:=A rfl;simp only[resolve,Act.eval]at h;generalize a.tmps.getD t undef=y at hv h;cases hv with|func _ _ _ C F K=>
         simp only[Deferred.ofValue,Sem.run_pure,Target.leads]at h;cases h;simpa using l
      .have hv:=A rfl;simp only[resolve,Act.eval]at h;generalize a.tmps.getD t undef=y at hv h;cases hv with|tuple=>simp[Deferred.ofValue,stuck,Sem.run]at h
      cases l
    | const v=>cases B
    | global g=>cases B
  | builtin b=>
    simp only[resolve,Sem.run_pure,Target.leads]at h;cases h
  | invoke r I=>cases B
 cases h
def Zm3{n:Nat}{P:V2}{f:V3}{args:V5 N}{w:V4}{R:Ending->V4->Prop}(h:CallsIn base n P f args w R):Calls P f args w R:=
 fun cs=>let⟨e,w',fr,r,s,x⟩:=h.2 cs (ZhI _);⟨e,w',fr,r,s.comes,x⟩
def Zim{n m:Nat}{P:V2}{f:V3}{args:V5 N}{w:V4}{R:Ending->V4->Prop}(h:CallsIn base n P f args w R):CallsIn base m P f args w R:=
 ⟨h.1,fun cs _=>h.2 cs (ZhI _)⟩
def Zfa{n k:Nat}{L:U V3}{P:V2}{f:V3}{args:V5 N}{w:V4}{R:Ending->V4->Prop}(B:L.all (fun g=>Nat.blt g nfs)=true)(h:∀D,CallsIn (Fence.list L (some D)) k P f args w R):CallsIn base n P f args w R:=by
 have l:∀g∈L,g<nfs:=fun g p=>by simpa using Q2.1 B g p
 refine⟨l _ (h 0).1,fun cs _=>?_⟩;have⟨e,w',fr,r,s,x⟩:=(h (cs.length+1+k)).2 cs fun d A=>by cases A;exact K1 _
 have q:∀m,Machine.fenced P (Fence.list L (some (cs.length+1+k))) m->Machine.fenced P base m:=fun m t g p=>by
  have⟨_,h2,h3,_⟩:=t g p;exact⟨fun z=>(by cases z),h2.imp (l _) id,fun f y=>l _ (h3 f y),ZhI _⟩
 refine⟨e,w',fr,r,?_,x⟩;cases e with|returned v=>exact StepsIn.mono q s|panicked c=>exact StepsIn.mono q s|outgrown=>exact s
def inB{f:V3}(h:Nat.blt f nfs=true):base.fn f:=by rw[Gd]at h;exact h
def ZsJ{P:V2}{w w':V4}{f:V3}{args:V5 N}{l:Next}(h:(callFunc f args).run P w=.ok l w'):f<P.funcs.size:=by refine Nat.lt_of_not_le fun hn=>?_;have:P.funcs[f]? =none:=Array.getElem?_eq_none hn;unfold callFunc at h;simp only[Sem.run_bind,run_program,Gx,this]at h;simp[stuck,Sem.run]at h
def ZEL{P:V2}{w w':V4}{a:Act}{o:Oper}{B:Next}(he:(execOp a.eval o).run P w=.ok B w'){f:V3}(h:o.about P w a.eval=some f):f<P.funcs.size:=by
 unfold Oper.about at h;split at h
 .rename_i c A;split at h
  .rename_i d r x
   have l:(invoke d.target d.args).run P r=.ok B w':=by
    unfold execOp at he;rw[A]at he;simp only[Sem.run_bind,x,Gx]at he;exact he
   have y:=invoke_tie P r d.target d.args;generalize d.target=t at h y l
   have fin:(∃f p q,Target.leads P r t d.args=some f/\(invoke t d.args).run P r=(callFunc f p).run P q)\/(∃h w',(invoke t d.args).run P r=.halt h w')->f<P.funcs.size:=by
    rintro(⟨g,p,q,C,D⟩|⟨E,q,e⟩);.rw[h]at C;cases C;rw[D]at l;exact ZsJ l
    rw[e]at l;cases l
   split at y<;>first|exact fin y | (rw[y]at h;cases h)
  cases h
 cases h
def ZaZ{ρ:Ren}{rd:O Nat}{F:Fence}(h:FR' ρ rd F):F.depth=none:=by
 unfold FR' at h;split at h;.subst h;rfl
 obtain⟨l,_,rfl⟩:=h;rfl
def Jl{ρ:Ren}{rd:O Nat}{F:Fence}(h:FR' ρ rd F){P:V2}{f:V3}{args:V5 N}{w:V4}{R:Ending->V4->Prop}(l:CallsIn base 0 P f args w R):CallsIn F 0 P f args w R:=by
 unfold FR' at h;split at h;.subst h;exact l
 obtain⟨p,_,rfl⟩:=h;exact l.inRound p
def Zdw{ρ:Ren}{rd:O Nat}{F:Fence}(h:FR' ρ rd F){P:V2}{l:Nat}{f:V3}{t:V5 N}{YF q:Code}{w:V4}{R:Ending->V4->Prop}(p:RoundIn base 0 P l f t YF q w R):RoundIn F 0 P l f t YF q w R:=by
 unfold FR' at h;split at h;.subst h;exact p
 obtain⟨r,_,rfl⟩:=h;exact p
def FR'.mono{ρ l:Ren}(p:ρ.le l){rd:O Nat}{F:Fence}(h:FR' ρ rd F):FR' l rd F:=by
 unfold FR' at h ⊢;split at h;.exact h
 have⟨l',h1,h2⟩:=h;exact⟨l',(p _ _ h1).1,h2⟩
def Zca{X:Ctx}{h:H}{ev:V0->O N}{o:Oper}{C:AN}{E:Eff}{a:Act}{D:V4}(p:XM X h ev o=some (C,E))(hn:ZE6 ρ D C ((execOp a.eval o).run X.P w)){f:V3}(q:o.about X.P w a.eval=some f):f<nfs:=by
 have ok:∀{y:Next}{w':V4},(execOp a.eval o).run X.P w=.ok y w'->f<nfs:=fun e=>by
  have:=ZEL e q;rwa[X.sz]at this
 cases C with|val v=>have⟨v',_,e⟩:=hn;exact ok e|skip=>exact ok hn|enter g args=>have⟨v',_,e⟩:=hn;exact ok e|round l args=>have⟨l',k,args',_,_,_,e⟩:=hn;exact ok e|dfr d=>have⟨d',_,e⟩:=hn;exact ok e|ZqU=>exact ok hn|panic v=>
   exfalso;unfold Oper.about at q;split at q
   .rename_i c A;have⟨callee,args,ats⟩:=c;cases callee with
    | builtin b=>simp only[resolve,Sem.run_pure,Target.leads]at q;cases q
    | value x=>
      unfold XM at p;rw[A]at p;dsimp only at p;split at p;next t B=>cases t
      .split at p
       .unfold U5 at p;split at p;.split at p<;>cases p
        .split at p;.revert p;generalize Nat.beq _ _=bb;cases bb<;>simp
         cases p
        cases p
       cases p
      next t B=>cases t
      cases p
    | invoke r F=>
      unfold XM at p;rw[A]at p;dsimp only at p;split at p;next t B=>cases t
      next t B=>cases t
      .split at p
       .unfold Zb8 at p;split at p
        .split at p;.split at p<;>cases p
         cases p
        cases p
       cases p
      cases p
   cases q
def Ziv{X:Ctx}{h:H}{ev:V0->O N}{o:Oper}{p:AN}{E:Eff}(l:XM X h ev o=some (p,E)){c:Call}(q:o.op=.defer c):∃d,p=.dfr d:=by
 unfold XM at l;rw[q]at l;dsimp only at l;split at l
 .split at l;.cases l;exact⟨_,rfl⟩
  cases l
 cases l
def ZsT{X:Ctx}{JZ:V3->Z}{ih:WI->O QJ}(B:∀j r,ih j=some r->Y7 X j r){n V:Nat}{rd:O Nat}{o:Oper}{s L:Fs}{nx:AN}{h1:H}{e:XX}
 (t:Zcs JZ ih n V rd o.dst s nx h1=some (e,L)) {F:Fence} {a:Act} {w1:V4} {r:Result Next} (A:Inv ρ n {s with h:=h1} a w1) (ZG:V<=h1.size) (S:FR' ρ rd F)
 (hn:ZE6 ρ w1 nx r) {K:Act->V4->Prop} {Q:Exit->Act->V4->Prop}
 (hK:e=.normal->∀p a' w',Inv p n L a' w'->Stp V ρ h1 w1 p L.h w'->K a' w')
 (hQ:∀v,e=.panic v->∀p v' a' w',VR p v v'->Inv p n L a' w'->Stp V ρ h1 w1 p L.h w'->Q (.panic (chainOf v')) a' w'):
 o.uponIn F 0 X.P a K Q r:=by
 have hd:F.depth.isSome=true->1<=0:=by rw[ZaZ S];intro hh;cases hh
 have W:∀{p:Ren}{h2:H}{w2:V4}{v v':N},Inv p n {s with h:=h2} a w2->Stp V ρ h1 w1 p h2 w2->VR p v v' ->
  (match ZsX n {s with h:=h2} o.dst v with|some s=>some (XX.normal,s) | none=>none)=some (e,L)->K (a.put o.dst v') w2:=by
  intro p h2 w2 v v' I q hv T;split at T;next s2 G=>cases T;have⟨q1,q2⟩:=Jw I hv G;refine hK rfl p _ _ q1 ?_;rw[q2];exact q
  cases T
 unfold Zcs at t;dsimp only[Wd]at t;split at t;.obtain⟨v',hv,rfl⟩:=hn;exact W A (Stp.refl _ _ _ _) hv t
 .subst hn;exact W A (Stp.refl _ _ _ _) (VR.undef ρ) t
 .rename_i f args;obtain⟨x,hv,rfl⟩:=hn;cases T:JZ f<;>rw[T]at t<;>simp only[Cq1,Cq0]at t
  .refine⟨hd,?_⟩;split at t;.rename_i v h2 C;refine(Jl S (B _ _ C ρ x w1 ZG A.rel hv)).mono ?_;rintro e' w' ⟨p,he,D,q⟩;cases he with|ret y=>exact W (A.step D q) q y t
   .rename_i v h2 C;cases t;refine(Jl S (B _ _ C ρ x w1 ZG A.rel hv)).mono ?_;rintro e' w' ⟨p,he,D,q⟩;cases he with|Ym y=>exact hQ v rfl p _ _ _ y (A.step D q) q
   cases t
  refine⟨hd,?_⟩;split at t
  .rename_i v h2 C;cases E:plain v<;>rw[E]at t<;>simp only[Cq1,Cq0]at t;.cases t
   refine(Jl S (B _ _ C ρ x w1 Vc A.rel hv)).mono ?_;rintro e' w' ⟨p,he,D,q⟩;cases he with|ret y=>
     rw[VR.Xr E y];have⟨q1,q2⟩:=Zew A.rel q;exact W (A.step q1 (q2 V)) (q2 V) (VR.ZY E) t
  cases t
 .rename_i l args;obtain⟨l',k,x,hl,hw,hv,rfl⟩:=hn;refine⟨hd,?_⟩;split at t;.rename_i v h2 C;refine(Zdw S (B _ _ C ρ l' k x w1 ZG A.rel hv hl hw)).mono ?_;rintro e' w' ⟨p,he,D,q⟩;cases he with|ret y=>exact W (A.step D q) q y t
  .rename_i v h2 C;cases t;refine(Zdw S (B _ _ C ρ l' k x w1 ZG A.rel hv hl hw)).mono ?_;rintro e' w' ⟨p,he,D,q⟩;cases he with|Ym y=>exact hQ v rfl p _ _ _ y (A.step D q) q
  cases t
 .rename_i d;obtain⟨d',hdd,rfl⟩:=hn;split at t
  .have I:Inv ρ n {s with h:=h1,ds:=d::s.ds} {a with defers:=d'::a.defers} w1:=⟨A.rel,A.fr,.cons hdd A.ds⟩;split at t;next s2 G=>cases t;have⟨q1,q2⟩:=Jw I (VR.undef ρ) G;refine hK rfl ρ _ _ q1 ?_;rw[q2];exact Stp.refl _ _ _ _
   cases t
  cases t
 .cases t
 rename_i v;obtain⟨v',hv,rfl⟩:=hn;cases t;exact hQ v rfl ρ v' a w1 hv A (Stp.refl _ _ _ _)
def Za2{X:Ctx}{JZ:V3->Z}{ih:WI->O QJ}(W:∀j r,ih j=some r->Y7 X j r){n V:Nat}{rd:O Nat}{ops:V5 Oper}{o:Oper}{s I:Fs}{e:XX}
 (q:KE X JZ ih n V rd ops.toList o s=some (e,I)) {F:Fence} {a:Act} {w:V4} (x:Inv ρ n s a w) (ZG:V<=s.h.size) (G:FR' ρ rd F) {K:Act->V4->Prop} {Q:Exit->Act->V4->Prop}
 (hK:e=.normal->∀p y w',Inv p n I y w'->Stp V ρ s.h w p I.h w'->K y w')
 (hQ:∀v,e=.panic v->∀p v' y w',VR p v v'->Inv p n I y w'->Stp V ρ s.h w p I.h w'->Q (.panic (chainOf v')) y w'):
 if Region.wanted o (yielded ops a.tmps) then o.wpIn F 0 X.P a w K Q else(∀f,o.about X.P w a.eval=some f->F.fn f)/\K (a.put o.dst undef) w:=by
 unfold KE at q;cases B:okG ops.toList o s.fr<;>rw[B]at q<;>simp only[GM,J0,Cq1,Cq0]at q;.cases q
 rw[Zfb x.fr ops o B];cases L:XJ ops.toList o s.fr<;>rw[L]at q<;>simp only[Cq1,Cq0]at q
 .rw[if_neg (by simp)];refine⟨fun f D=>(ZaD G f).2 (ZfQ (ρ:=ρ) (fun t _ hx=>by have:=x.fr.val t hx;exact this) B L D),?_⟩;split at q;next s2 T=>cases q;have⟨q1,q2⟩:=Jw x (VR.undef ρ) T;refine hK rfl ρ _ _ q1 ?_;rw[q2];exact Stp.refl _ _ _ _
  cases q
 rw[if_pos rfl];split at q
 .rename_i nx E ha;split at q
  .rename_i h1 hE;have⟨ρ1,w1,p1,p2,p3⟩:=ZbF x.rel (Zap x.fr) ha;have⟨r1,st1⟩:=Eff.sound x.rel ZG p1 hE p2;refine⟨fun f D=>(ZaD G f).2 (Zca ha p3 D),?_⟩
   have Zo5:o.semAt F.round a.eval=execOp a.eval o:=by
    cases S:rd with|none=>rw[S]at G;unfold FR' at G;subst G;rfl|some l=>
      refine Oper.semAt_eq _ _ _ fun c hc=>?_;obtain⟨d,rfl⟩:=Ziv ha hc;rw[S]at q;simp[Zcs]at q
   rw[Zo5];refine ZsT W q (x.step r1 st1) (KK ZG st1.size) (G.mono st1.ext) p3 (fun he p y w' C A=>?_) (fun v he p v' y w' hv C A=>?_);.exact hK he p y w' C (st1.trans x.rel.lt A)
   exact hQ v he p v' y w' hv C (st1.trans x.rel.lt A)
  cases q
 cases q
def Zeu{ev h:V0->O N}:∀(l:U V0),(∀x∈l,ev x=h x)->evs ev l=evs h l:=by intro l;induction l with|nil=>intro _;rfl|cons x l ih=>intro p;simp only[evs,p x (by simp),ih (fun y q=>p y (by simp[q]))]
def Zn4{ev h:V0->O N}:∀(l:U (Nat×V0)),(∀x∈l.map (·.2),ev x=h x)->evp ev l=evp h l:=by intro l;induction l with|nil=>intro _;rfl|cons x l ih=>intro q;have⟨i,x⟩:=x;simp only[evp,q x (by simp),ih (fun y p=>q y (by simp at p ⊢;exact .inr p))]
def Zih{ev l:V0->O N}(x:O V0)(h:∀y∈x.toArray,ev y=l y):evo ev x=evo l x:=by cases x with|none=>rfl|some x=>simp only[evo,h x (by simp)]
def Zob(X:Ctx)(h:H){ev l:V0->O N}(o:Oper)(he:∀x∈o.op.operands,ev x=l x):XM X h ev o=XM X h l o:=by
 unfold XM;cases C:o.op<;>rw[C]at he<;>simp only[Op.operands]at he<;>dsimp only;case build t ps=>rw[Zn4 ps.toList (fun x p=>he x (by simpa using p))]
 case buildSlice t n ps=>rw[Zn4 ps.toList (fun x p=>he x (by simpa using p))]
 case makeFunc fn a b=>rw[Zeu a.toList (fun x p=>he x (by simp at p ⊢;exact .inl p)),Zeu b.toList (fun x p=>he x (by simp at p ⊢;exact .inr p))]
 case slice t x lo hi mx=>
  rw[he x (by simp),Zih lo (fun y q=>he y (by simp at q ⊢;simp[q])),Zih hi (fun y q=>he y (by simp at q ⊢;simp[q])),Zih mx (fun y q=>he y (by simp at q ⊢;simp[q]))]
 case call c=>
  rw[Zeu c.args.toList (fun x p=>he x (by unfold Call.operands;simp at p ⊢;exact .inr p))];cases B:c.callee with
  | value f=>
    have A:=he f (by unfold Call.operands;rw[B];simp);cases evs l c.args.toList<;>simp only[A]
  | invoke r m=>
    have A:=he r (by unfold Call.operands;rw[B];simp);cases evs l c.args.toList<;>simp only[A]
  | builtin b=>cases evs l c.args.toList<;>rfl
 case defer c=>
  rw[Zeu c.args.toList (fun x p=>he x (by unfold Call.operands;simp at p ⊢;exact .inr p))];cases B:c.callee with
  | value f=>
    have A:=he f (by unfold Call.operands;rw[B];simp);cases evs l c.args.toList<;>simp only[A]
  | invoke r m=>cases evs l c.args.toList<;>rfl
  | builtin b=>cases evs l c.args.toList<;>rfl
 case makeMap t r=>cases r<;>rfl
 all_goals first
  | rfl
  | (simp at he;simp only[he];done)
  | (simp at he;simp only[he.1,he.2];done)
  | (simp at he;simp only[he.1,he.2.1,he.2.2];done)
end
section
def ZsW(P:V2)(fr:Fr)(h:H):ResultVar->O N
 | .tmp t=>bif X4 (fr.at t) then none else some (fr.at t)
 | .cell a t=>K4 P h t (fr.at a)
def ZdR(P:V2)(fr:Fr)(h:H):U ResultVar->O (U N)
 | []=>some []
 | r::rs=>match ZsW P fr h r,ZdR P fr h rs with|some v,some vs=>some (v::vs)|_,_=>none
def Q9(P:V2)(fn:Func)(fr:Fr)(h:H):O N:=
 match ZdR P fr h fn.results.toList with|some [v]=>some v|some vs=>some (.tuple vs.toArray)|none=>none
def QI:U N->Nat->Fr->Fr
 | [],_,fr=>fr
 | v::vs,i,fr=>QI vs (i+1) (Tr.set fr i v)
def X7:U (Tmp×N)->Nat->Fr->O Fr
 | [],_,fr=>some fr
 | (t,v)::r,n,fr=>bif Nat.blt t n then X7 r n (Tr.set fr t v) else none
structure Cfg where
 X:Ctx
 JZ:FuncId->Bool
 draw:(WI->Option QJ)->Nat->Nat->Option Nat->List Oper->Fs->Option Fs
def ZEi(k:XX->Fs->O QJ)(r:O QJ):O QJ:=
 match r with|some (.code e s)=>k e s|_=>none
def Y4:U Nat->Fr->Fr
 | [],fr=>fr
 | t::ts,fr=>Y4 ts (Tr.set fr t ZEB)
def Zaz(b:Nat):U V6->Z
 | []=>true
 | e::es=>bif Nat.beq e.born b then false else Zaz b es
def Qr(h:Nat):U V6->Z
 | []=>true
 | e::es=>Nat.blt e.born h&&Zaz e.born es&&Qr h es
def U6(fr:Fr)(d:O Tmp)(v:N):Fr:=
 match d with|none=>fr|some d=>Tr.set fr d v
def Wx(ih:WI->O QJ)(n V:Nat)(rd:O Nat)(l:Nat)(s:Fs)(r:O QJ):O QJ:=
 match r with
 | some (.fin (.ret _) h2)=>match h2.at l with
   | .loop A p fr t q YF y x=>
     bif A==.busy then none else
     match p with
     | none=>some (.code .normal {s with h:=h2.put l (.loop .exhausted p fr t q YF y x)})
     | some c=>ih (.code c n V rd {s with h:=h2.put l (.loop .exhausted p fr t q YF y x)})
   | _=>none
 | some (.fin (.Ym v) h2)=>some (.code (.panic v) {s with h:=h2})
 | _=>none
def QF(C:Cfg)(ih:WI->O QJ)(g:V0)(n V:Nat)(rd:O Nat)(l:Nat)(s:Fs):O QJ:=
 match YI s.fr g with
 | some gv=>match U5 C.X s.h gv [.func (.yield l) #[] #[]] with|some (.enter f args,.none)=>Wx ih n V rd l s (ih (.call f args V s.h))|_=>none
 | none=>none
def Zxk(C:Cfg)(ih:WI->O QJ)(g:V0)(p:V5 Tmp)(YF q:Code)(n V:Nat)(rd:O Nat)(s:Fs):O QJ:=
 match rd with
 | none=>QF C ih g n V rd (s.h.size+1) {s with ds:= {target:=.collected s.h.size,args:=#[]}::s.ds,h:=(s.h.push .deferred).push (.loop .ready none s.fr n p YF q s.h.size)}
 | some l=>match s.h.at l with
   | .loop _ _ _ _ _ _ _ r=>QF C ih g n V rd s.h.size {s with h:=s.h.push (.loop .ready none s.fr n p YF q r)}
   | _=>none
def xPM(e:XX):O PM:=
 match e with|.normal | .ret=>some .ret|.panic v=>some (.Ym v)|_=>none
def Zjw(h:PM):PM:=
 match h with|.rcv _=>.ret|h=>h
def Kk(C:Cfg)(ih:WI->O QJ)(fn:Func)(V:Nat)(l:PM)(s:Fs):O QJ:=
 match s.ds with
 | []=>match l with
   | .ret=>match Q9 C.X.P fn s.fr s.h with|some v=>some (.fin (.ret v) s.h)|none=>none
   | .Ym v=>some (.fin (.Ym v) s.h)
   | .rcv _=>none
 | d::ds=>match d.target with
   | .collected r=>match s.h.at r with
     | .deferred=>bif Nat.ble V r then ih (.leave fn V l {s with ds:=ds,h:=s.h.put r .dead}) else none
     | _=>none
   | .fn (.func f) cap=>match C.X.fns.get f with
     | some _=>match ih (.dcall f (d.args.toList++cap.toList).toArray l V s.h) with
       | some (.Zg9 pm' h')=>ih (.leave fn V (Zjw pm') {s with ds:=ds,h:=h'})
       | _=>none
     | none=>none
   | _=>none
def isRecover(o:Oper):Z:=
 match o.op with|.call {callee:=.builtin .recover,..}=>true|_=>false
def dop(X:Ctx)(n V:Nat)(ops:U Oper)(o:Oper)(l:PM)(s:Fs):O (PM×Fs):=
 let fin (l:PM) (s:Fs) (v:N):O (PM×Fs):=match ZsX n s o.dst v with|some s=>some (l,s)|none=>none
 bif !okG ops o s.fr then none else bif XJ ops o s.fr then
  match XM X s.h (YI s.fr) o with
  | some (nx,E)=>match E.apply V s.h with
    | some p=>match nx with
      | .val v=>fin l {s with h:=p} v
      | .skip=>fin l {s with h:=p} undef
      | .ZqU=>match l with
        | .Ym v=>fin (.rcv v) {s with h:=p} v
        | l=>fin l {s with h:=p} .nilIface
      | _=>none
    | none=>none
  | none=>none
 else fin l s undef
def Zy1(X:Ctx)(n V:Nat)(ops:U Oper):U Oper->PM->Fs->O (PM×Fs)
 | [],pm,s=>some (pm,s)
 | o::rest,pm,s=>match dop X n V ops o pm s with|some (pm,s)=>Zy1 X n V ops rest pm s|none=>none
def ZEa(k:XX->PM->Fs->O QJ)(r:O QJ):O QJ:=
 match r with|some (.QL e pm s)=>k e pm s|_=>none
def ZdK(ih:WI->O QJ)(c:Code)(n V:Nat)(h:PM)(s:Fs):O QJ:=
 ZEi (fun e s=>some (.QL e h s)) (ih (.code c n V none s))
def Zb1(C:Cfg)(ih:WI->O QJ)(c:Code)(n V:Nat)(h:PM)(s:Fs):O QJ:=
 match c with
 | .seq a b=>ZEa (fun e h s=>match e with|.normal=>ih (.QL b n V h s)|e=>some (.QL e h s)) (ih (.QL a n V h s))
 | .cond c a b=>match YI s.fr c with|some (.bool t)=>bif t then ih (.QL a n V h s) else ih (.QL b n V h s)|_=>none
 | .region id ops d=>bif !d&&ops.toList.any isRecover then match Zy1 C.X n V ops.toList ops.toList h s with|some (h,s)=>some (.QL .normal h s)|none=>none
   else ZdK ih (.region id ops d) n V h s
 | c=>ZdK ih c n V h s
def ZpH(C:Cfg)(ih:WI->O QJ)(f:V3)(args:V5 N)(l:PM)(V:Nat)(h:H):O QJ:=
 match C.X.fns.get f with
 | some fn=>match fn.body with
   | some c=>bif Nat.ble args.toList.length fn.ntmps then
      ZEa (fun e l s=>match s.ds,e,Q9 C.X.P fn s.fr s.h with|[],.normal,some _=>some (.Zg9 l s.h)|[],.ret,some _=>some (.Zg9 l s.h)|_,_,_=>none) (ih (.QL c fn.ntmps V l {fr:=QI args.toList 0 .nil,ds:=[],h:=h}))
     else none
   | none=>none
 | none=>none
def Je(l:Nat)(e:XX)(s:Fs):O QJ:=
 match s.h.at l with
 | .loop _ _ fr n p YF r q=>match e with
   | .normal=>some (.fin (.ret (.bool true)) (s.h.put l (.loop .ready none fr n p YF r q)))
   | .ret=>some (.fin (.ret (.bool false)) (s.h.put l (.loop .done (some .ret) fr n p YF r q)))
   | .exit id=>some (.fin (.ret (.bool false)) (s.h.put l (.loop .done (some (.exit id)) fr n p YF r q)))
   | .goto t=>some (.fin (.ret (.bool false)) (s.h.put l (.loop .done (some (.goto t)) fr n p YF r q)))
   | .panic v=>match s.ds with|[]=>some (.fin (.Ym v) s.h)|_=>none
 | _=>none
def Kz(ih:WI->O QJ)(l:Nat)(p:Code)(n V:Nat)(e:XX)(s:Fs):O QJ:=
 match e with
 | .normal=>match s.h.at l with
   | .loop .ready pd fr n' ps YF bd' df=>ZEi (fun e s=>Je l e s) (ih (.code p n V (some l) {s with h:=s.h.put l (.loop .busy pd fr n' ps YF bd' df)}))
   | _=>none
 | _=>none
def Zg6(ih:WI->O QJ)(l:Nat)(args:V5 N)(V:Nat)(h:H):O QJ:=
 match h.at l with
 | .loop _ _ fr n p YF q _=>
   bif Nat.ble V l&&Nat.beq args.toList.length p.toList.length then
    match X7 (p.toList.zip args.toList) n fr with
    | some r=>ZEi (fun e s=>Kz ih l q n V e s) (ih (.code YF n V (some l) {fr:=r,ds:=[],h:=h}))
    | none=>none
   else none
 | _=>none
end
end Go.ZU
end
end
