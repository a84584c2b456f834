/- Part 4. -/
import Derived.TacticsIn
import Derived.FollowTie
import Derived.Test.YtbnepjakjmnadaaGreatCn3
set_option linter.all false
set_option maxHeartbeats 2000000
section
noncomputable section
namespace Go.ZK
section
variable{ρ:Ren}{w:GY}
def ZaE{ρ ρ':Ren}{h h':H}{w w':GY}(r:Rel ρ h w)(st:Stp h.size ρ h w ρ' h' w'):Rel ρ h w'/\∀wm,Stp wm ρ h w ρ h w':=by
 have hold:∀b,b<w.heap.size->w'.heap[b]? =w.heap[b]?:=fun b hb=>st.frame b hb fun i d hi e _=>by have:=r.lt i _ e;omega
 refine⟨⟨fun i b d e=>?_,fun i b d e=>?_,r.inj⟩,fun wm=>⟨Ren.le_refl _,K1 _,fun _ _=>rfl,fun _ _ x=>x,fun _ _ x=>x,st.os,st.tape,st.output,st.Xc,fun b hb _=>hold b hb,fun i b d e e'=>by rw[e]at e';cases e'⟩⟩
 ·have:=r.dom i b d e;have:=st.Xc;omega
 ·exact(r.obj i b d e).world (hold b (r.dom i b d e).2)
def KE{ρ:Ren}{rd:O Nat}{F:Fence}(h:K7 ρ rd F)(f:GX):F.fn f↔f<nfs:=by
 unfold K7 at h;split at h
 ·subst h;exact Iff.rfl
 ·obtain⟨l',_,rfl⟩:=h;exact Iff.rfl
def Zec{P:GW}{w:GY}{a:Act}{fr:Fr}{ops:U Oper}{o:Oper}(hf:∀t,o.op=.call {callee:=.value (.tmp t),args:=(match o.op with | .call c=>c.args|_=>#[]),argTypes:=(match o.op with | .call c=>c.argTypes|_=>#[])}->XG (fr.at t)=false->VR ρ (fr.at t) (a.tmps.getD t undef))(hok:okG ops o fr=true)(hw:YZ ops o fr=false){f:GX}(h:o.about P w a.eval=some f):f<nfs:=by
 have hs:ZkS o.op fr=true:=by
  unfold okG at hok;cases hg:o.guard with
  | none=>unfold YZ at hw;rw[hg]at hw;cases hw
  | some p=>rw[hg]at hok;simp only[hw,Ba0,Bool.false_or]at hok;exact hok.2
 obtain⟨dst,op,ty,ps,af,gd⟩:=o;unfold Oper.about at h;dsimp only at h hs hf;split at h
 ·rename_i c;obtain⟨callee,args,ats⟩:=c;cases callee with
  | value x=>
    cases x with
    | func g=>
      simp only[resolve,Act.eval,Deferred.ofValue,Sem.run_pure,Target.leads]at h;cases h
      simpa[ZkS]using hs
    | tmp t=>
      have hs':ZgO (fr.at t)=true:=hs;have hf':=hf t rfl;generalize fr.at t=x at hs' hf';unfold ZgO at hs';split at hs'
      ·rename_i g u1 u2;have hv:=hf' rfl;simp only[resolve,Act.eval]at h;generalize a.tmps.getD t undef=y at hv h;cases hv with
       | func _ _ _ first' cap' hy=>
         simp only[Deferred.ofValue,Sem.run_pure,Target.leads]at h;cases h
         simpa using hs'
      ·have hv:=hf' rfl;simp only[resolve,Act.eval]at h;generalize a.tmps.getD t undef=y at hv h;cases hv with
       | tuple=>simp[Deferred.ofValue,stuck,Sem.run]at h
      ·cases hs'
    | const v=>cases hs
    | global g=>cases hs
  | builtin b=>
    simp only[resolve,Sem.run_pure,Target.leads]at h;cases h
  | invoke r nm=>cases hs
 ·cases h
def ZkG{n:Nat}{P:GW}{f:GX}{args:GZ N}{w:GY}{R:Ending->GY->Prop}(h:CallsIn base n P f args w R):Calls P f args w R:=
 fun cs=>let⟨e,w',fr,r,s,x⟩:=h.2 cs (ZfT _);⟨e,w',fr,r,s.comes,x⟩
def Zc1{n m:Nat}{P:GW}{f:GX}{args:GZ N}{w:GY}{R:Ending->GY->Prop}(h:CallsIn base n P f args w R):CallsIn base m P f args w R:=
 ⟨h.1,fun cs _=>h.2 cs (ZfT _)⟩
def ZdA{n k:Nat}{L:U GX}{P:GW}{f:GX}{args:GZ N}{w:GY}{R:Ending->GY->Prop}(hL:L.all (fun g=>Nat.blt g nfs)=true)(h:∀D,CallsIn (Fence.list L (some D)) k P f args w R):CallsIn base n P f args w R:=by
 have hL':∀g∈L,g<nfs:=fun g hg=>by simpa using Ks.1 hL g hg
 refine⟨hL' _ (h 0).1,fun cs _=>?_⟩;obtain⟨e,w',fr,r,s,x⟩:=(h (cs.length+1+k)).2 cs fun d hd=>by cases hd;exact K1 _
 have hI:∀m,Machine.fenced P (Fence.list L (some (cs.length+1+k))) m->Machine.fenced P base m:=fun m hm g hg=>by
  obtain⟨_,h2,h3,_⟩:=hm g hg;exact⟨fun z=>(by cases z),h2.imp (hL' _) id,fun f hf=>hL' _ (h3 f hf),ZfT _⟩
 refine⟨e,w',fr,r,?_,x⟩;cases e with
 | returned v=>exact StepsIn.mono hI s
 | panicked c=>exact StepsIn.mono hI s
 | outgrown=>exact s
def inB{f:GX}(h:Nat.blt f nfs=true):base.fn f:=by rw[G0]at h;exact h
def ZpR{P:GW}{w w':GY}{f:GX}{args:GZ N}{nx:Next}(h:(callFunc f args).run P w=.ok nx w'):f<P.funcs.size:=by
 refine Nat.lt_of_not_le fun hn=>?_
 have:P.funcs[f]? =none:=Array.getElem?_eq_none hn;unfold callFunc at h;simp only[Sem.run_bind,run_program,Gq,this]at h;simp[stuck,Sem.run]at h
def Zz2{P:GW}{w w':GY}{a:Act}{o:Oper}{nx:Next}(he:(execOp a.eval o).run P w=.ok nx w'){f:GX}(h:o.about P w a.eval=some f):f<P.funcs.size:=by
 unfold Oper.about at h;split at h
 ·rename_i c hop;split at h
  ·rename_i d w1 hres
   have he2:(invoke d.target d.args).run P w1=.ok nx w':=by
    unfold execOp at he;rw[hop]at he;simp only[Sem.run_bind,hres,Gq]at he;exact he
   have ht:=invoke_tie P w1 d.target d.args;generalize d.target=t at h ht he2
   have fin:(∃f args' w'',Target.leads P w1 t d.args=some f/\(invoke t d.args).run P w1=(callFunc f args').run P w'')\/(∃h w',(invoke t d.args).run P w1=.halt h w')->f<P.funcs.size:=by
    rintro(⟨g,args',w'',e1,e2⟩|⟨hh,w'',e⟩)
    ·rw[h]at e1;cases e1;rw[e2]at he2;exact ZpR he2
    ·rw[e]at he2;cases he2
   split at ht<;>first|exact fin ht | (rw[ht]at h;cases h)
  ·cases h
 ·cases h
def KY{ρ:Ren}{rd:O Nat}{F:Fence}(h:K7 ρ rd F):F.depth=none:=by
 unfold K7 at h;split at h
 ·subst h;rfl
 ·obtain⟨l',_,rfl⟩:=h;rfl
def QK{ρ:Ren}{rd:O Nat}{F:Fence}(h:K7 ρ rd F){P:GW}{f:GX}{args:GZ N}{w:GY}{R:Ending->GY->Prop}(hc:CallsIn base 0 P f args w R):CallsIn F 0 P f args w R:=by
 unfold K7 at h;split at h
 ·subst h;exact hc
 ·obtain⟨l',_,rfl⟩:=h;exact hc.inRound l'
def Zb0{ρ:Ren}{rd:O Nat}{F:Fence}(h:K7 ρ rd F){P:GW}{l:Nat}{f:GX}{t:GZ N}{Yg bd:Code}{w:GY}{R:Ending->GY->Prop}(hc:RoundIn base 0 P l f t Yg bd w R):RoundIn F 0 P l f t Yg bd w R:=by
 unfold K7 at h;split at h
 ·subst h;exact hc
 ·obtain⟨l',_,rfl⟩:=h;exact hc
def K7.mono{ρ ρ':Ren}(hr:ρ.le ρ'){rd:O Nat}{F:Fence}(h:K7 ρ rd F):K7 ρ' rd F:=by
 unfold K7 at h ⊢;split at h
 ·exact h
 ·obtain⟨l',h1,h2⟩:=h;exact⟨l',(hr _ _ h1).1,h2⟩
def Zbi{X:Ctx}{h:H}{ev:GV->O N}{o:Oper}{nx:AN}{E:Eff}{a:Act}{w1:GY}(ha:Xx X h ev o=some (nx,E))(hn:ZAh ρ w1 nx ((execOp a.eval o).run X.P w)){f:GX}(hab:o.about X.P w a.eval=some f):f<nfs:=by
 have ok:∀{y:Next}{w':GY},(execOp a.eval o).run X.P w=.ok y w'->f<nfs:=fun e=>by
  have:=Zz2 e hab
  rwa[X.sz]at this
 cases nx with
 | val v=>obtain⟨v',_,e⟩:=hn;exact ok e
 | skip=>exact ok hn
 | enter g args=>obtain⟨v',_,e⟩:=hn;exact ok e
 | round l args=>obtain⟨l',k,args',_,_,_,e⟩:=hn;exact ok e
 | dfr d=>obtain⟨d',_,e⟩:=hn;exact ok e
 | ZkW=>exact ok hn
 | panic v=>
   exfalso;unfold Oper.about at hab;split at hab
   ·rename_i c hop;obtain⟨callee,args,ats⟩:=c;cases callee with
    | builtin b=>simp only[resolve,Sem.run_pure,Target.leads]at hab;cases hab
    | value x=>
      unfold Xx at ha;rw[hop]at ha;dsimp only at ha;split at ha
      ·rename_i q1 q2;cases q1
      ·split at ha
       ·unfold Ul at ha;split at ha
        ·split at ha<;>cases ha
        ·split at ha
         ·revert ha;generalize Nat.beq _ _=bb;cases bb<;>simp
         ·cases ha
        ·cases ha
       ·cases ha
      ·rename_i q1 q2;cases q1
      ·cases ha
    | invoke r nm=>
      unfold Xx at ha;rw[hop]at ha;dsimp only at ha;split at ha
      ·rename_i q1 q2;cases q1
      ·rename_i q1 q2;cases q1
      ·split at ha
       ·unfold Zbf at ha;split at ha
        ·split at ha
         ·split at ha<;>cases ha
         ·cases ha
        ·cases ha
       ·cases ha
      ·cases ha
   ·cases hab
def ZgA{X:Ctx}{h:H}{ev:GV->O N}{o:Oper}{nx:AN}{E:Eff}(ha:Xx X h ev o=some (nx,E)){c:Call}(ho:o.op=.defer c):∃d,nx=.dfr d:=by
 unfold Xx at ha;rw[ho]at ha;dsimp only at ha;split at ha
 ·split at ha
  ·cases ha;exact⟨_,rfl⟩
  ·cases ha
 ·cases ha
def Zp1{X:Ctx}{YS:GX->Z}{ih:Ql->O YL}(hih:∀j r,ih j=some r->Ym X j r){n wm:Nat}{rd:O Nat}{o:Oper}{s s':Fs}{nx:AN}{h1:H}{e:XX}
 (hs:WI YS ih n wm rd o.dst s nx h1=some (e,s')) {F:Fence} {a:Act} {w1:GY} {r:Result Next} (hi:Inv ρ n {s with h:=h1} a w1) (Zx:wm<=h1.size) (hF:K7 ρ rd F)
 (hn:ZAh ρ w1 nx r) {K:Act->GY->Prop} {Q:Exit->Act->GY->Prop}
 (hK:e=.normal->∀ρ' a' w',Inv ρ' n s' a' w'->Stp wm ρ h1 w1 ρ' s'.h w'->K a' w')
 (hQ:∀v,e=.panic v->∀ρ' v' a' w',VR ρ' v v'->Inv ρ' n s' a' w'->Stp wm ρ h1 w1 ρ' s'.h w'->Q (.panic (chainOf v')) a' w'):
 o.uponIn F 0 X.P a K Q r:=by
 have hd:F.depth.isSome=true->1<=0:=by rw[KY hF];intro hh;cases hh
 have go:∀{ρ':Ren}{h2:H}{w2:GY}{v v':N},Inv ρ' n {s with h:=h2} a w2->Stp wm ρ h1 w1 ρ' h2 w2->VR ρ' v v' ->
  (match Zgy n {s with h:=h2} o.dst v with|some s=>some (XX.normal,s) | none=>none)=some (e,s')->K (a.put o.dst v') w2:=by
  intro ρ' h2 w2 v v' hi2 hst hv hp;split at hp
  ·rename_i s2 hp2;cases hp;obtain⟨q1,q2⟩:=QS hi2 hv hp2;refine hK rfl ρ' _ _ q1 ?_;rw[q2];exact hst
  ·cases hp
 unfold WI at hs;dsimp only[Jp]at hs;split at hs
 ·obtain⟨v',hv,rfl⟩:=hn;exact go hi (Stp.refl _ _ _ _) hv hs
 ·subst hn;exact go hi (Stp.refl _ _ _ _) (VR.undef ρ) hs
 ·rename_i f args;obtain⟨args',hv,rfl⟩:=hn;cases hp:YS f<;>rw[hp]at hs<;>simp only[Cq1,Cq0]at hs
  ·refine⟨hd,?_⟩;split at hs
   ·rename_i v h2 hc;refine(QK hF (hih _ _ hc ρ args' w1 Zx hi.rel hv)).mono ?_;rintro e' w' ⟨ρ',he,hr,hst⟩;cases he with
    | ret hv'=>exact go (hi.step hr hst) hst hv' hs
   ·rename_i v h2 hc;cases hs;refine(QK hF (hih _ _ hc ρ args' w1 Zx hi.rel hv)).mono ?_;rintro e' w' ⟨ρ',he,hr,hst⟩;cases he with
    | Z6 hv'=>exact hQ v rfl ρ' _ _ _ hv' (hi.step hr hst) hst
   ·cases hs
  ·refine⟨hd,?_⟩;split at hs
   ·rename_i v h2 hc;cases hpl:plain v<;>rw[hpl]at hs<;>simp only[Cq1,Cq0]at hs
    ·cases hs
    ·refine(QK hF (hih _ _ hc ρ args' w1 V7 hi.rel hv)).mono ?_;rintro e' w' ⟨ρ',he,hr,hst⟩;cases he with
     | ret hv'=>
       rw[VR.Y5 hpl hv'];obtain⟨q1,q2⟩:=ZaE hi.rel hst;exact go (hi.step q1 (q2 wm)) (q2 wm) (VR.ZL hpl) hs
   ·cases hs
 ·rename_i l args;obtain⟨l',k,args',hl,hw,hv,rfl⟩:=hn;refine⟨hd,?_⟩;split at hs
  ·rename_i v h2 hc;refine(Zb0 hF (hih _ _ hc ρ l' k args' w1 Zx hi.rel hv hl hw)).mono ?_;rintro e' w' ⟨ρ',he,hr,hst⟩;cases he with
   | ret hv'=>exact go (hi.step hr hst) hst hv' hs
  ·rename_i v h2 hc;cases hs;refine(Zb0 hF (hih _ _ hc ρ l' k args' w1 Zx hi.rel hv hl hw)).mono ?_;rintro e' w' ⟨ρ',he,hr,hst⟩;cases he with
   | Z6 hv'=>exact hQ v rfl ρ' _ _ _ hv' (hi.step hr hst) hst
  ·cases hs
 ·rename_i d;obtain⟨d',hdd,rfl⟩:=hn;split at hs
  ·have hi2:Inv ρ n {s with h:=h1,ds:=d::s.ds} {a with defers:=d'::a.defers} w1:=⟨hi.rel,hi.fr,.cons hdd hi.ds⟩
   split at hs
   ·rename_i s2 hp2;cases hs;obtain⟨q1,q2⟩:=QS hi2 (VR.undef ρ) hp2;refine hK rfl ρ _ _ q1 ?_;rw[q2];exact Stp.refl _ _ _ _
   ·cases hs
  ·cases hs
 ·cases hs
 ·rename_i v;obtain⟨v',hv,rfl⟩:=hn;cases hs;exact hQ v rfl ρ v' a w1 hv hi (Stp.refl _ _ _ _)
def Uk{X:Ctx}{YS:GX->Z}{ih:Ql->O YL}(hih:∀j r,ih j=some r->Ym X j r){n wm:Nat}{rd:O Nat}{ops:GZ Oper}{o:Oper}{s s':Fs}{e:XX}
 (hs:JO X YS ih n wm rd ops.toList o s=some (e,s')) {F:Fence} {a:Act} {w:GY} (hi:Inv ρ n s a w) (Zx:wm<=s.h.size) (hF:K7 ρ rd F) {K:Act->GY->Prop} {Q:Exit->Act->GY->Prop}
 (hK:e=.normal->∀ρ' a' w',Inv ρ' n s' a' w'->Stp wm ρ s.h w ρ' s'.h w'->K a' w')
 (hQ:∀v,e=.panic v->∀ρ' v' a' w',VR ρ' v v'->Inv ρ' n s' a' w'->Stp wm ρ s.h w ρ' s'.h w'->Q (.panic (chainOf v')) a' w'):
 if Region.wanted o (yielded ops a.tmps) then o.wpIn F 0 X.P a w K Q else(∀f,o.about X.P w a.eval=some f->F.fn f)/\K (a.put o.dst undef) w:=by
 unfold JO at hs;cases hok:okG ops.toList o s.fr<;>rw[hok]at hs<;>simp only[Gz,QP,Cq1,Cq0]at hs
 ·cases hs
 rw[ZdB hi.fr ops o hok];cases hwt:YZ ops.toList o s.fr<;>rw[hwt]at hs<;>simp only[Cq1,Cq0]at hs
 ·rw[if_neg (by simp)];refine⟨fun f hab=>(KE hF f).2 (Zec (ρ:=ρ) (fun t _ hx=>by have:=hi.fr.val t hx;exact this) hok hwt hab),?_⟩;split at hs
  ·rename_i s2 hp2;cases hs;obtain⟨q1,q2⟩:=QS hi (VR.undef ρ) hp2;refine hK rfl ρ _ _ q1 ?_;rw[q2];exact Stp.refl _ _ _ _
  ·cases hs
 ·rw[if_pos rfl];split at hs
  ·rename_i nx E ha;split at hs
   ·rename_i h1 hE;obtain⟨ρ1,w1,p1,p2,p3⟩:=ZaH hi.rel (UX hi.fr) ha;obtain⟨r1,st1⟩:=Eff.sound hi.rel Zx p1 hE p2;refine⟨fun f hab=>(KE hF f).2 (Zbi ha p3 hab),?_⟩
    have ZmC:o.semAt F.round a.eval=execOp a.eval o:=by
     cases hrd:rd with
     | none=>rw[hrd]at hF;unfold K7 at hF;subst hF;rfl
     | some l=>
       refine Oper.semAt_eq _ _ _ fun c hc=>?_
       obtain⟨d,rfl⟩:=ZgA ha hc;rw[hrd]at hs;simp[WI]at hs
    rw[ZmC];refine Zp1 hih hs (hi.step r1 st1) (KB Zx st1.size) (hF.mono st1.ext) p3 (fun he ρ' a' w' hi' st'=>?_) (fun v he ρ' v' a' w' hv hi' st'=>?_)
    ·exact hK he ρ' a' w' hi' (st1.trans hi.rel.lt st')
    ·exact hQ v he ρ' v' a' w' hv hi' (st1.trans hi.rel.lt st')
   ·cases hs
  ·cases hs
def Zj0{X:Ctx}{YS:GX->Z}{ih:Ql->O YL}(hih:∀j r,ih j=some r->Ym X j r){n wm:Nat}{rd:O Nat}{ops:GZ Oper}(Q:Exit->Act->GY->Prop):
 ∀(l:U Oper)(s s':Fs)(e:XX),ZkJ X YS ih n wm rd ops.toList l s=some (e,s')->∀{ρ:Ren}{F:Fence}{a:Act}{w:GY},Inv ρ n s a w->wm<=s.h.size->K7 ρ rd F ->
   (∀e' a' w',XJ wm n ρ s.h w e s' e' a' w'->Q e' a' w')->wpListIn F 0 X.P ops Q l a w:=by
 intro l
 induction l with
 | nil=>
   intro s s' e hs ρ F a w hi Zx hF hq;simp only[ZkJ,Q4,Prod.mk.injEq]at hs;obtain⟨rfl,rfl⟩:=hs;exact hq .normal a w ⟨ρ,.normal,hi,Stp.refl _ _ _ _⟩
 | cons o l ihl=>
   intro s s' e hs ρ F a w hi Zx hF hq;simp only[ZkJ]at hs;split at hs
   ·rename_i s1 h1;refine Uk hih h1 hi Zx hF (fun _ ρ' a' w' hi' st'=>?_) (fun v he=>by cases he);refine ihl s1 s' e hs hi' (KB Zx st'.size) (hF.mono st'.ext) fun e' a2 w2 hp=>?_
    obtain⟨ρ2,q1,q2,q3⟩:=hp;exact hq e' a2 w2 ⟨ρ2,q1,q2,st'.trans hi.rel.lt q3⟩
   ·rename_i v s1 h1;cases hs;refine Uk hih h1 hi Zx hF (fun he=>by cases he) (fun v' he ρ' v2 a' w' hv hi' st'=>?_);cases he;exact hq _ a' w' ⟨ρ',.panic hv,hi',st'⟩
   ·cases hs
def ZcX{ev ev2:GV->O N}:∀(l:U GV),(∀x∈l,ev x=ev2 x)->evs ev l=evs ev2 l:=by
 intro l
 induction l with
 | nil=>intro _;rfl
 | cons x l ih=>intro hl;simp only[evs,hl x (by simp),ih (fun y hy=>hl y (by simp[hy]))]
def ZlB{ev ev2:GV->O N}:∀(l:U (Nat×GV)),(∀x∈l.map (·.2),ev x=ev2 x)->evp ev l=evp ev2 l:=by
 intro l
 induction l with
 | nil=>intro _;rfl
 | cons x l ih=>intro hl;obtain⟨i,x⟩:=x;simp only[evp,hl x (by simp),ih (fun y hy=>hl y (by simp at hy ⊢;exact .inr hy))]
def Zgl{ev ev2:GV->O N}(x:O GV)(h:∀y∈x.toArray,ev y=ev2 y):evo ev x=evo ev2 x:=by
 cases x with
 | none=>rfl
 | some x=>simp only[evo,h x (by simp)]
def ZlL(X:Ctx)(h:H){ev ev2:GV->O N}(o:Oper)(he:∀x∈o.op.operands,ev x=ev2 x):Xx X h ev o=Xx X h ev2 o:=by
 unfold Xx;cases hop:o.op<;>rw[hop]at he<;>simp only[Op.operands]at he<;>dsimp only
 case build t ps=>rw[ZlB ps.toList (fun x hx=>he x (by simpa using hx))]
 case buildSlice t n ps=>rw[ZlB ps.toList (fun x hx=>he x (by simpa using hx))]
 case makeFunc fn a b=>rw[ZcX a.toList (fun x hx=>he x (by simp at hx ⊢;exact .inl hx)),ZcX b.toList (fun x hx=>he x (by simp at hx ⊢;exact .inr hx))]
 case slice t x lo hi mx=>
  rw[he x (by simp),Zgl lo (fun y hy=>he y (by simp at hy ⊢;simp[hy])),Zgl hi (fun y hy=>he y (by simp at hy ⊢;simp[hy])),Zgl mx (fun y hy=>he y (by simp at hy ⊢;simp[hy]))]
 case call c=>
  rw[ZcX c.args.toList (fun x hx=>he x (by unfold Call.operands;simp at hx ⊢;exact .inr hx))];cases hc:c.callee with
  | value f=>
    have hf:=he f (by unfold Call.operands;rw[hc];simp);cases evs ev2 c.args.toList<;>simp only[hf]
  | invoke r m=>
    have hf:=he r (by unfold Call.operands;rw[hc];simp);cases evs ev2 c.args.toList<;>simp only[hf]
  | builtin b=>cases evs ev2 c.args.toList<;>rfl
 case defer c=>
  rw[ZcX c.args.toList (fun x hx=>he x (by unfold Call.operands;simp at hx ⊢;exact .inr hx))];cases hc:c.callee with
  | value f=>
    have hf:=he f (by unfold Call.operands;rw[hc];simp);cases evs ev2 c.args.toList<;>simp only[hf]
  | invoke r m=>cases evs ev2 c.args.toList<;>rfl
  | builtin b=>cases evs ev2 c.args.toList<;>rfl
 case makeMap t r=>cases r<;>rfl
 all_goals first
  | rfl
  | (simp at he;simp only[he];done)
  | (simp at he;simp only[he.1,he.2];done)
  | (simp at he;simp only[he.1,he.2.1,he.2.2];done)
end
section
def Zp4(P:GW)(fr:Fr)(h:H):ResultVar->O N
 | .tmp t=>bif XG (fr.at t) then none else some (fr.at t)
 | .cell a t=>WJ P h t (fr.at a)
def Zcg(P:GW)(fr:Fr)(h:H):U ResultVar->O (U N)
 | []=>some []
 | r::rs=>match Zp4 P fr h r,Zcg P fr h rs with
   | some v,some vs=>some (v::vs)
   | _,_=>none
def QB(P:GW)(fn:Func)(fr:Fr)(h:H):O N:=
 match Zcg P fr h fn.results.toList with
 | some [v]=>some v
 | some vs=>some (.tuple vs.toArray)
 | none=>none
def X4:U N->Nat->Fr->Fr
 | [],_,fr=>fr
 | v::vs,i,fr=>X4 vs (i+1) (Tr.set fr i v)
def XL:U (Tmp×N)->Nat->Fr->O Fr
 | [],_,fr=>some fr
 | (t,v)::r,n,fr=>bif Nat.blt t n then XL r n (Tr.set fr t v) else none
structure Cfg where
 X:Ctx
 YS:FuncId->Bool
 draw:(Ql->Option YL)->Nat->Nat->Option Nat->List Oper->Fs->Option Fs
def Zfk(k:XX->Fs->O YL)(r:O YL):O YL:=
 match r with
 | some (.code e s)=>k e s
 | _=>none
def ZEC(ih:Ql->O YL)(a b:Code)(n wm:Nat)(rd:O Nat)(s:Fs):O YL:=
 Zfk (fun e s=>match e with
  | .normal=>ih (.code b n wm rd s)
  | e=>some (.code e s)) (ih (.code a n wm rd s))
def ZjL(ih:Ql->O YL)(c:GV)(a b:Code)(n wm:Nat)(rd:O Nat)(s:Fs):O YL:=
 match YI s.fr c with
 | some (.bool t)=>bif t then ih (.code a n wm rd s) else ih (.code b n wm rd s)
 | _=>none
def ZtM(ih:Ql->O YL)(id:Nat)(c:Code)(n wm:Nat)(rd:O Nat)(s:Fs):O YL:=
 Zfk (fun e s=>match e with
  | .exit k=>bif Nat.beq k id then some (.code .normal s) else some (.code (.exit k) s)
  | e=>some (.code e s)) (ih (.code c n wm rd s))
def ZtK(ih:Ql->O YL)(c:Code)(n wm:Nat)(rd:O Nat)(s:Fs):O YL:=
 Zfk (fun e s=>match e with
  | .goto _=>none
  | e=>some (.code e s)) (ih (.code c n wm rd s))
def ZjJ(ih:Ql->O YL)(c:Code)(n wm:Nat)(rd:O Nat)(s:Fs):O YL:=
 Zfk (fun e s=>match e with
  | .normal=>ih (.loop c n wm rd s)
  | e=>some (.code e s)) (ih (.code c n wm rd s))
structure MI where
 id:Nat
 o:Oper
 l:List Oper
 ops:Array Oper
 rest:Code
 t:Tmp
 it:Nat
 m:Nat
 since:Nat
 Qb:Nat
 es:List MapEntry
 clock:Nat
def Zw8(id:Nat)(o:Oper)(l:List Oper)(ops:Array Oper)(rest:Code)(t:Tmp)(s:Fs):Option MI:=
 match s.fr.at t with
 | .pointer (some ⟨it,0,none⟩)=>match s.h.at it with
   | .iter m since Qb none=>match s.h.at m with
     | .map es clock=>some ⟨id,o,l,ops,rest,t,it,m,since,Qb,es,clock⟩
     | _=>none
   | _=>none
 | _=>none
def Zw9(id:Nat)(ops:GZ Oper)(rest:Code)(s:Fs):O MI:=
 match ops.toList with
 | o::l=>match o.op,o.guard with
   | .next (.tmp t) false,none=>Zw8 id o l ops rest t s
   | _,_=>none
 | []=>none
def ZoD(c:Code)(s:Fs):O MI:=
 match c with
 | .seq (.region id ops false) rest=>Zw9 id ops rest s
 | _=>none
def Zgn:Code->U Nat
 | .seq a b=>Zgn a++Zgn b
 | .cond _ a b=>Zgn a++Zgn b
 | .block _ c=>Zgn c
 | .scope c=>Zgn c
 | .loop c=>Zgn c
 | .region _ ops _=>ops.toList.filterMap (·.dst)
 | _=>[]
def ZbS:U Nat->Nat
 | []=>0
 | t::ts=>Nat.lor (Nat.pow 2 t) (ZbS ts)
def Yr:U Nat->Fr->Fr
 | [],fr=>fr
 | t::ts,fr=>Yr ts (Tr.set fr t Znr)
def KA(b:Nat):U V0->Z
 | []=>true
 | e::es=>bif Nat.beq e.born b then false else KA b es
def Xw(clock:Nat):U V0->Z
 | []=>true
 | e::es=>Nat.blt e.born clock&&KA e.born es&&Xw clock es
def Jb(fr:Fr)(d:O Tmp)(v:N):Fr:=
 match d with
 | none=>fr
 | some d=>Tr.set fr d v
def KH(C:Cfg)(ih:Ql->O YL)(mi:MI)(n wm:Nat)(rd:O Nat)(s:Fs):O YL:=
 match ZkJ C.X C.YS ih n wm rd mi.ops.toList mi.l s with
 | some (.normal,s1)=>ih (.code mi.rest n wm rd s1)
 | some (e,s1)=>some (.code e s1)
 | none=>none
def ZaZ(C:Cfg)(ih:Ql->O YL)(mi:MI)(n:Nat)(rd:O Nat)(wr:Nat)(fr:Fr)(s:Fs):U V0->Z
 | []=>true
 | e::es=>(match KH C ih mi n s.h.size rd {fr:=Jb fr mi.o.dst (.tuple #[.bool true,e.key,e.val]),ds:=s.ds,h:=s.h.put mi.it (.iter mi.m mi.since mi.clock (some e.born)),wr:=some wr} with
    | some (.code .normal s2)=>Nat.beq s2.ds.length s.ds.length
    | _=>false)&&ZaZ C ih mi n rd wr fr s es
def Zlb(mi:MI)(n wm:Nat)(T:U Nat):Z:=
 Nat.beq mi.since mi.clock&&Nat.ble mi.clock mi.Qb&&Xw mi.clock mi.es&&Nat.ble wm mi.it && !T.contains mi.t&&(match mi.o.dst with|some d=>Nat.blt d n&&T.contains d|none=>false)
def ZdL{mi:MI}{n wm:Nat}{T:U Nat}(h:Zlb mi n wm T=true):mi.since=mi.clock/\mi.clock<=mi.Qb/\Xw mi.clock mi.es=true/\wm<=mi.it/\mi.t∉T/\∃d,mi.o.dst=some d/\d<n/\d∈T:=by
 unfold Zlb at h;simp only[Ba0,Bool.not_eq_true']at h;obtain⟨⟨⟨⟨⟨h1,h2⟩,h3⟩,h4⟩,h5⟩,h6⟩:=h;refine⟨Nb0 h1,Nl0 h2,h3,Nl0 h4,fun z=>?_,?_⟩
 ·rw[<-Gv]at z;rw[z]at h5;cases h5
 ·cases hd:mi.o.dst with
  | none=>rw[hd]at h6;cases h6
  | some d=>
    rw[hd]at h6;simp only[Ba0,G0,Gv]at h6;exact⟨d,rfl,h6⟩
def ZmZ(C:Cfg)(ih:Ql->O YL)(mi:MI)(n wm:Nat)(rd:O Nat)(s:Fs)(T:U Nat):O YL:=
 bif Zlb mi n wm T then
  bif ZaZ C ih mi n rd (ZbS T) (Yr T s.fr) s mi.es then
   match KH C ih mi n wm rd {s with fr:=Jb (Yr T s.fr) mi.o.dst JM,h:=s.h.put mi.it .dead} with
   | some (.code e s2)=>match e with
     | .normal=>none
     | e=>some (.code e s2)
   | _=>none
  else none
 else none
def ZjI(C:Cfg)(ih:Ql->O YL)(mi:MI)(c:Code)(n wm:Nat)(rd:O Nat)(s:Fs):O YL:=
 ZmZ C ih mi n wm rd s ((Zgn c).filter (allowed s.wr))
def Zfc(C:Cfg)(ih:Ql->O YL)(c:Code)(n wm:Nat)(rd:O Nat)(s:Fs):O YL:=
 match ZoD c s with
 | some mi=>match ZjI C ih mi c n wm rd s with
   | some r=>some r
   | none=>ZjJ ih c n wm rd s
 | none=>ZjJ ih c n wm rd s
def Ze9(C:Cfg)(ih:Ql->O YL)(ops:GZ Oper)(n wm:Nat)(rd:O Nat)(s:Fs):O YL:=
 match ZkJ C.X C.YS ih n wm rd ops.toList ops.toList s with
 | some (e,s)=>some (.code e s)
 | none=>none
def Zm3(C:Cfg)(ih:Ql->O YL)(ops:GZ Oper)(n wm:Nat)(rd:O Nat)(s:Fs):O YL:=
 match C.draw ih n wm rd ops.toList s with
 | some s=>some (.code .normal s)
 | none=>none
def Q5(ih:Ql->O YL)(n wm:Nat)(rd:O Nat)(l:Nat)(s:Fs)(r:O YL):O YL:=
 match r with
 | some (.fin (.ret _) h2)=>match h2.at l with
   | .loop st pd fr n' ps Yg bd df=>
     bif st==.busy then none else
     match pd with
     | none=>some (.code .normal {s with h:=h2.put l (.loop .exhausted pd fr n' ps Yg bd df)})
     | some c=>ih (.code c n wm rd {s with h:=h2.put l (.loop .exhausted pd fr n' ps Yg bd df)})
   | _=>none
 | some (.fin (.Z6 v) h2)=>some (.code (.panic v) {s with h:=h2})
 | _=>none
def Xt(C:Cfg)(ih:Ql->O YL)(g:GV)(n wm:Nat)(rd:O Nat)(l:Nat)(s:Fs):O YL:=
 match YI s.fr g with
 | some gv=>match Ul C.X s.h gv [.func (.yield l) #[] #[]] with
   | some (.enter f args,.none)=>Q5 ih n wm rd l s (ih (.call f args wm s.h))
   | _=>none
 | none=>none
def Zfa(C:Cfg)(ih:Ql->O YL)(g:GV)(ps:GZ Tmp)(Yg bd:Code)(n wm:Nat)(rd:O Nat)(s:Fs):O YL:=
 match rd with
 | none=>Xt C ih g n wm rd (s.h.size+1) {s with ds:= {target:=.collected s.h.size,args:=#[]}::s.ds,h:=(s.h.push .deferred).push (.loop .ready none s.fr n ps Yg bd s.h.size)}
 | some l=>match s.h.at l with
   | .loop _ _ _ _ _ _ _ df=>Xt C ih g n wm rd s.h.size {s with h:=s.h.push (.loop .ready none s.fr n ps Yg bd df)}
   | _=>none
def Wv(C:Cfg)(ih:Ql->O YL)(c:Code)(n wm:Nat)(rd:O Nat)(s:Fs):O YL:=
 match c with
 | .skip=>some (.code .normal s)
 | .label _=>some (.code .normal s)
 | .ret=>some (.code .ret s)
 | .exit id=>some (.code (.exit id) s)
 | .goto l=>some (.code (.goto l) s)
 | .seq a b=>ZEC ih a b n wm rd s
 | .cond c a b=>ZjL ih c a b n wm rd s
 | .block id c=>ZtM ih id c n wm rd s
 | .loop c=>ih (.loop c n wm rd s)
 | .scope c=>ZtK ih c n wm rd s
 | .region _ ops d=>bif d then Zm3 C ih ops n wm rd s else Ze9 C ih ops n wm rd s
 | .rangeFunc g ps Yg bd=>Zfa C ih g ps Yg bd n wm rd s
 | .refuse _=>none
def xPM(e:XX):O PM:=
 match e with
 | .normal | .ret=>some .ret
 | .panic v=>some (.Z6 v)
 | _=>none
def Zm7(C:Cfg)(ih:Ql->O YL)(f:GX)(args:GZ N)(wm:Nat)(h:H):O YL:=
 match C.X.fns.get f with
 | some fn=>match fn.body with
   | some c=>bif Nat.ble args.toList.length fn.ntmps then
      Zfk (fun e s=>match xPM e with
       | some pm=>ih (.leave fn wm pm s)
       | none=>none) (ih (.code c fn.ntmps wm none {fr:=X4 args.toList 0 .nil,ds:=[],h:=h}))
     else none
   | none=>none
 | none=>none
def ZhG(C:Cfg)(ih:Ql->O YL)(f:GX)(args:GZ N)(wm:Nat)(h:H):O YL:=
 match C.X.orc f with
 | some v=>match args.toList with
   | []=>some (.fin (.ret v) h)
   | _::_=>none
 | none=>match C.X.ZFG f args h with
   | some (v,A)=>some (.fin (.ret v) (h.push A))
   | none=>Zm7 C ih f args wm h
def Zhs(pm:PM):PM:=
 match pm with
 | .rcv _=>.ret
 | pm=>pm
def J5(C:Cfg)(ih:Ql->O YL)(fn:Func)(wm:Nat)(pm:PM)(s:Fs):O YL:=
 match s.ds with
 | []=>match pm with
   | .ret=>match QB C.X.P fn s.fr s.h with
     | some v=>some (.fin (.ret v) s.h)
     | none=>none
   | .Z6 v=>some (.fin (.Z6 v) s.h)
   | .rcv _=>none
 | d::ds=>match d.target with
   | .collected r=>match s.h.at r with
     | .deferred=>bif Nat.ble wm r then ih (.leave fn wm pm {s with ds:=ds,h:=s.h.put r .dead}) else none
     | _=>none
   | .fn (.func f) cap=>match C.X.fns.get f with
     | some _=>match ih (.dcall f (d.args.toList++cap.toList).toArray pm wm s.h) with
       | some (.Zdb WV h')=>ih (.leave fn wm (Zhs WV) {s with ds:=ds,h:=h'})
       | _=>none
     | none=>none
   | _=>none
def isRecover(o:Oper):Z:=
 match o.op with
 | .call {callee:=.builtin .recover,..}=>true
 | _=>false
def dop(X:Ctx)(n wm:Nat)(ops:U Oper)(o:Oper)(pm:PM)(s:Fs):O (PM×Fs):=
 let fin (pm:PM) (s:Fs) (v:N):O (PM×Fs):=match Zgy n s o.dst v with
  | some s=>some (pm,s)
  | none=>none
 bif !okG ops o s.fr then none else bif YZ ops o s.fr then
  match Xx X s.h (YI s.fr) o with
  | some (nx,E)=>match E.apply wm s.h with
    | some h'=>match nx with
      | .val v=>fin pm {s with h:=h'} v
      | .skip=>fin pm {s with h:=h'} undef
      | .ZkW=>match pm with
        | .Z6 v=>fin (.rcv v) {s with h:=h'} v
        | pm=>fin pm {s with h:=h'} .nilIface
      | _=>none
    | none=>none
  | none=>none
 else fin pm s undef
def ZpI(X:Ctx)(n wm:Nat)(ops:U Oper):U Oper->PM->Fs->O (PM×Fs)
 | [],pm,s=>some (pm,s)
 | o::rest,pm,s=>match dop X n wm ops o pm s with
   | some (pm,s)=>ZpI X n wm ops rest pm s
   | none=>none
def Zzt(k:XX->PM->Fs->O YL)(r:O YL):O YL:=
 match r with
 | some (.Xv e pm s)=>k e pm s
 | _=>none
def ZaD(ih:Ql->O YL)(c:Code)(n wm:Nat)(pm:PM)(s:Fs):O YL:=
 Zfk (fun e s=>some (.Xv e pm s)) (ih (.code c n wm none s))
def Kb(C:Cfg)(ih:Ql->O YL)(c:Code)(n wm:Nat)(pm:PM)(s:Fs):O YL:=
 match c with
 | .seq a b=>Zzt (fun e pm s=>match e with
   | .normal=>ih (.Xv b n wm pm s)
   | e=>some (.Xv e pm s)) (ih (.Xv a n wm pm s))
 | .cond c a b=>match YI s.fr c with
   | some (.bool t)=>bif t then ih (.Xv a n wm pm s) else ih (.Xv b n wm pm s)
   | _=>none
 | .region id ops d=>bif !d&&ops.toList.any isRecover then match ZpI C.X n wm ops.toList ops.toList pm s with
     | some (pm,s)=>some (.Xv .normal pm s)
     | none=>none
   else ZaD ih (.region id ops d) n wm pm s
 | c=>ZaD ih c n wm pm s
def Zfd(C:Cfg)(ih:Ql->O YL)(f:GX)(args:GZ N)(pm:PM)(wm:Nat)(h:H):O YL:=
 match C.X.fns.get f with
 | some fn=>match fn.body with
   | some c=>bif Nat.ble args.toList.length fn.ntmps then
      Zzt (fun e pm s=>match s.ds,e,QB C.X.P fn s.fr s.h with
       | [],.normal,some _=>some (.Zdb pm s.h)
       | [],.ret,some _=>some (.Zdb pm s.h)
       | _,_,_=>none) (ih (.Xv c fn.ntmps wm pm {fr:=X4 args.toList 0 .nil,ds:=[],h:=h}))
     else none
   | none=>none
 | none=>none
def Qt(l:Nat)(e:XX)(s:Fs):O YL:=
 match s.h.at l with
 | .loop _ _ fr n ps Yg bd df=>match e with
   | .normal=>some (.fin (.ret (.bool true)) (s.h.put l (.loop .ready none fr n ps Yg bd df)))
   | .ret=>some (.fin (.ret (.bool false)) (s.h.put l (.loop .done (some .ret) fr n ps Yg bd df)))
   | .exit id=>some (.fin (.ret (.bool false)) (s.h.put l (.loop .done (some (.exit id)) fr n ps Yg bd df)))
   | .goto t=>some (.fin (.ret (.bool false)) (s.h.put l (.loop .done (some (.goto t)) fr n ps Yg bd df)))
   | .panic v=>match s.ds with
     | []=>some (.fin (.Z6 v) s.h)
     | _=>none
 | _=>none
def Uw(ih:Ql->O YL)(l:Nat)(bd:Code)(n wm:Nat)(e:XX)(s:Fs):O YL:=
 match e with
 | .normal=>match s.h.at l with
   | .loop .ready pd fr n' ps Yg bd' df=>Zfk (fun e s=>Qt l e s) (ih (.code bd n wm (some l) {s with h:=s.h.put l (.loop .busy pd fr n' ps Yg bd' df)}))
   | _=>none
 | _=>none
def Za6(ih:Ql->O YL)(l:Nat)(args:GZ N)(wm:Nat)(h:H):O YL:=
 match h.at l with
 | .loop _ _ fr n ps Yg bd _=>
   bif Nat.ble wm l&&Nat.beq args.toList.length ps.toList.length then
    match XL (ps.toList.zip args.toList) n fr with
    | some Wj=>Zfk (fun e s=>Uw ih l bd n wm e s) (ih (.code Yg n wm (some l) {fr:=Wj,ds:=[],h:=h}))
    | none=>none
   else none
 | _=>none
def JY(C:Cfg)(ih:Ql->O YL)(j:Ql):O YL:=
 match j with
 | .code c n wm rd s=>Wv C ih c n wm rd s
 | .loop c n wm rd s=>Zfc C ih c n wm rd s
 | .call f args wm h=>ZhG C ih f args wm h
 | .round l args wm h=>Za6 ih l args wm h
 | .dcall f args pm wm h=>Zfd C ih f args pm wm h
 | .Xv c n wm pm s=>Kb C ih c n wm pm s
 | .leave fn wm pm s=>J5 C ih fn wm pm s
def ev(C:Cfg)(n:Nat):Ql->O YL:=Nat.rec (fun _=>none) (fun _ ih=>JY C ih) n
end
end Go.ZK
end
end
