/- Part 4. -/
import Derived.TacticsIn
import Derived.FollowTie
import Derived.Test.YtbnepjakjmnadaaGreatFp3
set_option linter.all false
set_option maxHeartbeats 2000000
section
noncomputable section
namespace Go.ZF
section
variable{ρ:Ren}{w:V9}
def Za6{ρ ρ':Ren}{h h':H}{w w':V9}(r:Rel ρ h w)(st:Stp h.size ρ h w ρ' h' w'):Rel ρ h w'/\∀wm,Stp wm ρ h w ρ h w':=by
 have hold:∀b,b<w.heap.size->w'.heap[b]? =w.heap[b]?:=fun b hb=>st.frame b hb fun i d hi e _=>by have:=r.lt i _ e;omega
 refine⟨⟨fun i b d e=>?_,fun i b d e=>?_,r.inj⟩,fun wm=>⟨Ren.le_refl _,K1 _,fun _ _=>rfl,fun _ _ x=>x,fun _ _ x=>x,st.os,st.tape,st.output,st.Y8,fun b hb _=>hold b hb,fun i b d e e'=>by rw[e]at e';cases e'⟩⟩
 ·have:=r.dom i b d e;have:=st.Y8;omega
 ·exact(r.obj i b d e).world (hold b (r.dom i b d e).2)
def Zab{ρ:Ren}{rd:O Nat}{F:Fence}(h:KO ρ rd F)(f:V8):F.fn f↔f<nfs:=by
 unfold KO at h;split at h
 ·subst h;exact Iff.rfl
 ·obtain⟨l',_,rfl⟩:=h;exact Iff.rfl
def ZeN{P:V7}{w:V9}{a:Act}{fr:Fr}{ops:U Oper}{o:Oper}(hf:∀t,o.op=.call {callee:=.value (.tmp t),args:=(match o.op with | .call c=>c.args|_=>#[]),argTypes:=(match o.op with | .call c=>c.argTypes|_=>#[])}->Xt (fr.at t)=false->VR ρ (fr.at t) (a.tmps.getD t undef))(hok:okG ops o fr=true)(hw:Y0 ops o fr=false){f:V8}(h:o.about P w a.eval=some f):f<nfs:=by
 have hs:ZiW o.op fr=true:=by
  unfold okG at hok;cases hg:o.guard with
  | none=>unfold Y0 at hw;rw[hg]at hw;cases hw
  | some p=>rw[hg]at hok;simp only[hw,Ba0,Bool.false_or]at hok;exact hok.2
 obtain⟨dst,op,ty,ps,af,gd⟩:=o;unfold Oper.about at h;dsimp only at h hs hf;split at h
 ·rename_i c;obtain⟨callee,args,ats⟩:=c;cases callee with
  | value x=>
    cases x with
    | func g=>
      simp only[resolve,Act.eval,Deferred.ofValue,Sem.run_pure,Target.leads]at h;cases h
      simpa[ZiW]using hs
    | tmp t=>
      have hs':Ze0 (fr.at t)=true:=hs;have hf':=hf t rfl;generalize fr.at t=x at hs' hf';unfold Ze0 at hs';split at hs'
      ·rename_i g u1 u2;have hv:=hf' rfl;simp only[resolve,Act.eval]at h;generalize a.tmps.getD t undef=y at hv h;cases hv with
       | func _ _ _ first' cap' hy=>
         simp only[Deferred.ofValue,Sem.run_pure,Target.leads]at h;cases h
         simpa using hs'
      ·have hv:=hf' rfl;simp only[resolve,Act.eval]at h;generalize a.tmps.getD t undef=y at hv h;cases hv with
       | tuple=>simp[Deferred.ofValue,stuck,Sem.run]at h
      ·cases hs'
    | const v=>cases hs
    | global g=>cases hs
  | builtin b=>
    simp only[resolve,Sem.run_pure,Target.leads]at h;cases h
  | invoke r nm=>cases hs
 ·cases h
def Zly{n:Nat}{P:V7}{f:V8}{args:Va N}{w:V9}{R:Ending->V9->Prop}(h:CallsIn base n P f args w R):Calls P f args w R:=
 fun cs=>let⟨e,w',fr,r,s,x⟩:=h.2 cs (Zgy _);⟨e,w',fr,r,s.comes,x⟩
def Zdw{n m:Nat}{P:V7}{f:V8}{args:Va N}{w:V9}{R:Ending->V9->Prop}(h:CallsIn base n P f args w R):CallsIn base m P f args w R:=
 ⟨h.1,fun cs _=>h.2 cs (Zgy _)⟩
def Zd8{n k:Nat}{L:U V8}{P:V7}{f:V8}{args:Va N}{w:V9}{R:Ending->V9->Prop}(hL:L.all (fun g=>Nat.blt g nfs)=true)(h:∀D,CallsIn (Fence.list L (some D)) k P f args w R):CallsIn base n P f args w R:=by
 have hL':∀g∈L,g<nfs:=fun g hg=>by simpa using Kx.1 hL g hg
 refine⟨hL' _ (h 0).1,fun cs _=>?_⟩;obtain⟨e,w',fr,r,s,x⟩:=(h (cs.length+1+k)).2 cs fun d hd=>by cases hd;exact K1 _
 have hI:∀m,Machine.fenced P (Fence.list L (some (cs.length+1+k))) m->Machine.fenced P base m:=fun m hm g hg=>by
  obtain⟨_,h2,h3,_⟩:=hm g hg;exact⟨fun z=>(by cases z),h2.imp (hL' _) id,fun f hf=>hL' _ (h3 f hf),Zgy _⟩
 refine⟨e,w',fr,r,?_,x⟩;cases e with
 | returned v=>exact StepsIn.mono hI s
 | panicked c=>exact StepsIn.mono hI s
 | outgrown=>exact s
def inB{f:V8}(h:Nat.blt f nfs=true):base.fn f:=by rw[G6]at h;exact h
def Zre{P:V7}{w w':V9}{f:V8}{args:Va N}{nx:Next}(h:(callFunc f args).run P w=.ok nx w'):f<P.funcs.size:=by
 refine Nat.lt_of_not_le fun hn=>?_
 have:P.funcs[f]? =none:=V5 hn;unfold callFunc at h;simp only[Sem.run_bind,run_program,Gx,this]at h;simp[stuck,Sem.run]at h
def ZBH{P:V7}{w w':V9}{a:Act}{o:Oper}{nx:Next}(he:(execOp a.eval o).run P w=.ok nx w'){f:V8}(h:o.about P w a.eval=some f):f<P.funcs.size:=by
 unfold Oper.about at h;split at h
 ·rename_i c hop;split at h
  ·rename_i d w1 hres
   have he2:(invoke d.target d.args).run P w1=.ok nx w':=by
    unfold execOp at he;rw[hop]at he;simp only[Sem.run_bind,hres,Gx]at he;exact he
   have ht:=invoke_tie P w1 d.target d.args;generalize d.target=t at h ht he2
   have fin:(∃f args' w'',Target.leads P w1 t d.args=some f/\(invoke t d.args).run P w1=(callFunc f args').run P w'')\/(∃h w',(invoke t d.args).run P w1=.halt h w')->f<P.funcs.size:=by
    rintro(⟨g,args',w'',e1,e2⟩|⟨hh,w'',e⟩)
    ·rw[h]at e1;cases e1;rw[e2]at he2;exact Zre he2
    ·rw[e]at he2;cases he2
   split at ht<;>first|exact fin ht | (rw[ht]at h;cases h)
  ·cases h
 ·cases h
def ZaA{ρ:Ren}{rd:O Nat}{F:Fence}(h:KO ρ rd F):F.depth=none:=by
 unfold KO at h;split at h
 ·subst h;rfl
 ·obtain⟨l',_,rfl⟩:=h;rfl
def QU{ρ:Ren}{rd:O Nat}{F:Fence}(h:KO ρ rd F){P:V7}{f:V8}{args:Va N}{w:V9}{R:Ending->V9->Prop}(hc:CallsIn base 0 P f args w R):CallsIn F 0 P f args w R:=by
 unfold KO at h;split at h
 ·subst h;exact hc
 ·obtain⟨l',_,rfl⟩:=h;exact hc.inRound l'
def Zcr{ρ:Ren}{rd:O Nat}{F:Fence}(h:KO ρ rd F){P:V7}{l:Nat}{f:V8}{t:Va N}{Yf bd:Code}{w:V9}{R:Ending->V9->Prop}(hc:RoundIn base 0 P l f t Yf bd w R):RoundIn F 0 P l f t Yf bd w R:=by
 unfold KO at h;split at h
 ·subst h;exact hc
 ·obtain⟨l',_,rfl⟩:=h;exact hc
def KO.mono{ρ ρ':Ren}(hr:ρ.le ρ'){rd:O Nat}{F:Fence}(h:KO ρ rd F):KO ρ' rd F:=by
 unfold KO at h ⊢;split at h
 ·exact h
 ·obtain⟨l',h1,h2⟩:=h;exact⟨l',(hr _ _ h1).1,h2⟩
def ZbE{X:Ctx}{h:H}{ev:V6->O N}{o:Oper}{nx:AN}{E:Eff}{a:Act}{w1:V9}(ha:Xm X h ev o=some (nx,E))(hn:ZBS ρ w1 nx ((execOp a.eval o).run X.P w)){f:V8}(hab:o.about X.P w a.eval=some f):f<nfs:=by
 have ok:∀{y:Next}{w':V9},(execOp a.eval o).run X.P w=.ok y w'->f<nfs:=fun e=>by
  have:=ZBH e hab
  rwa[X.sz]at this
 cases nx with
 | val v=>obtain⟨v',_,e⟩:=hn;exact ok e
 | skip=>exact ok hn
 | enter g args=>obtain⟨v',_,e⟩:=hn;exact ok e
 | round l args=>obtain⟨l',k,args',_,_,_,e⟩:=hn;exact ok e
 | dfr d=>obtain⟨d',_,e⟩:=hn;exact ok e
 | ZlT=>exact ok hn
 | panic v=>
   exfalso;unfold Oper.about at hab;split at hab
   ·rename_i c hop;obtain⟨callee,args,ats⟩:=c;cases callee with
    | builtin b=>simp only[resolve,Sem.run_pure,Target.leads]at hab;cases hab
    | value x=>
      unfold Xm at ha;rw[hop]at ha;dsimp only at ha;split at ha
      ·rename_i q1 q2;cases q1
      ·split at ha
       ·unfold Uz at ha;split at ha
        ·split at ha<;>cases ha
        ·split at ha
         ·revert ha;generalize Nat.beq _ _=bb;cases bb<;>simp
         ·cases ha
        ·cases ha
       ·cases ha
      ·rename_i q1 q2;cases q1
      ·cases ha
    | invoke r nm=>
      unfold Xm at ha;rw[hop]at ha;dsimp only at ha;split at ha
      ·rename_i q1 q2;cases q1
      ·rename_i q1 q2;cases q1
      ·split at ha
       ·unfold ZbD at ha;split at ha
        ·split at ha
         ·split at ha<;>cases ha
         ·cases ha
        ·cases ha
       ·cases ha
      ·cases ha
   ·cases hab
def Zhj{X:Ctx}{h:H}{ev:V6->O N}{o:Oper}{nx:AN}{E:Eff}(ha:Xm X h ev o=some (nx,E)){c:Call}(ho:o.op=.defer c):∃d,nx=.dfr d:=by
 unfold Xm at ha;rw[ho]at ha;dsimp only at ha;split at ha
 ·split at ha
  ·cases ha;exact⟨_,rfl⟩
  ·cases ha
 ·cases ha
def Zro{X:Ctx}{YX:V8->Z}{ih:Qn->O YP}(hih:∀j r,ih j=some r->Yq X j r){n wm:Nat}{rd:O Nat}{o:Oper}{s s':Fs}{nx:AN}{h1:H}{e:XX}
 (hs:Kn YX ih n wm rd o.dst s nx h1=some (e,s')) {F:Fence} {a:Act} {w1:V9} {r:Result Next} (hi:Inv ρ n {s with h:=h1} a w1) (Zt:wm<=h1.size) (hF:KO ρ rd F)
 (hn:ZBS ρ w1 nx r) {K:Act->V9->Prop} {Q:Exit->Act->V9->Prop}
 (hK:e=.normal->∀ρ' a' w',Inv ρ' n s' a' w'->Stp wm ρ h1 w1 ρ' s'.h w'->K a' w')
 (hQ:∀v,e=.panic v->∀ρ' v' a' w',VR ρ' v v'->Inv ρ' n s' a' w'->Stp wm ρ h1 w1 ρ' s'.h w'->Q (.panic (chainOf v')) a' w'):
 o.uponIn F 0 X.P a K Q r:=by
 have hd:F.depth.isSome=true->1<=0:=by rw[ZaA hF];intro hh;cases hh
 have go:∀{ρ':Ren}{h2:H}{w2:V9}{v v':N},Inv ρ' n {s with h:=h2} a w2->Stp wm ρ h1 w1 ρ' h2 w2->VR ρ' v v' ->
  (match Zhh n {s with h:=h2} o.dst v with|some s=>some (XX.normal,s) | none=>none)=some (e,s')->K (a.put o.dst v') w2:=by
  intro ρ' h2 w2 v v' hi2 hst hv hp;split at hp
  ·rename_i s2 hp2;cases hp;obtain⟨q1,q2⟩:=Q7 hi2 hv hp2;refine hK rfl ρ' _ _ q1 ?_;rw[q2];exact hst
  ·cases hp
 unfold Kn at hs;dsimp only[Jz]at hs;split at hs
 ·obtain⟨v',hv,rfl⟩:=hn;exact go hi (Stp.refl _ _ _ _) hv hs
 ·subst hn;exact go hi (Stp.refl _ _ _ _) (VR.undef ρ) hs
 ·rename_i f args;obtain⟨args',hv,rfl⟩:=hn;cases hp:YX f<;>rw[hp]at hs<;>simp only[Cq1,Cq0]at hs
  ·refine⟨hd,?_⟩;split at hs
   ·rename_i v h2 hc;refine(QU hF (hih _ _ hc ρ args' w1 Zt hi.rel hv)).mono ?_;rintro e' w' ⟨ρ',he,hr,hst⟩;cases he with
    | ret hv'=>exact go (hi.step hr hst) hst hv' hs
   ·rename_i v h2 hc;cases hs;refine(QU hF (hih _ _ hc ρ args' w1 Zt hi.rel hv)).mono ?_;rintro e' w' ⟨ρ',he,hr,hst⟩;cases he with
    | ZX hv'=>exact hQ v rfl ρ' _ _ _ hv' (hi.step hr hst) hst
   ·cases hs
  ·refine⟨hd,?_⟩;split at hs
   ·rename_i v h2 hc;cases hpl:plain v<;>rw[hpl]at hs<;>simp only[Cq1,Cq0]at hs
    ·cases hs
    ·refine(QU hF (hih _ _ hc ρ args' w1 Vh hi.rel hv)).mono ?_;rintro e' w' ⟨ρ',he,hr,hst⟩;cases he with
     | ret hv'=>
       rw[VR.YS hpl hv'];obtain⟨q1,q2⟩:=Za6 hi.rel hst;exact go (hi.step q1 (q2 wm)) (q2 wm) (VR.ZC hpl) hs
   ·cases hs
 ·rename_i l args;obtain⟨l',k,args',hl,hw,hv,rfl⟩:=hn;refine⟨hd,?_⟩;split at hs
  ·rename_i v h2 hc;refine(Zcr hF (hih _ _ hc ρ l' k args' w1 Zt hi.rel hv hl hw)).mono ?_;rintro e' w' ⟨ρ',he,hr,hst⟩;cases he with
   | ret hv'=>exact go (hi.step hr hst) hst hv' hs
  ·rename_i v h2 hc;cases hs;refine(Zcr hF (hih _ _ hc ρ l' k args' w1 Zt hi.rel hv hl hw)).mono ?_;rintro e' w' ⟨ρ',he,hr,hst⟩;cases he with
   | ZX hv'=>exact hQ v rfl ρ' _ _ _ hv' (hi.step hr hst) hst
  ·cases hs
 ·rename_i d;obtain⟨d',hdd,rfl⟩:=hn;split at hs
  ·have hi2:Inv ρ n {s with h:=h1,ds:=d::s.ds} {a with defers:=d'::a.defers} w1:=⟨hi.rel,hi.fr,.cons hdd hi.ds⟩
   split at hs
   ·rename_i s2 hp2;cases hs;obtain⟨q1,q2⟩:=Q7 hi2 (VR.undef ρ) hp2;refine hK rfl ρ _ _ q1 ?_;rw[q2];exact Stp.refl _ _ _ _
   ·cases hs
  ·cases hs
 ·cases hs
 ·rename_i v;obtain⟨v',hv,rfl⟩:=hn;cases hs;exact hQ v rfl ρ v' a w1 hv hi (Stp.refl _ _ _ _)
def Ux{X:Ctx}{YX:V8->Z}{ih:Qn->O YP}(hih:∀j r,ih j=some r->Yq X j r){n wm:Nat}{rd:O Nat}{ops:Va Oper}{o:Oper}{s s':Fs}{e:XX}
 (hs:JS X YX ih n wm rd ops.toList o s=some (e,s')) {F:Fence} {a:Act} {w:V9} (hi:Inv ρ n s a w) (Zt:wm<=s.h.size) (hF:KO ρ rd F) {K:Act->V9->Prop} {Q:Exit->Act->V9->Prop}
 (hK:e=.normal->∀ρ' a' w',Inv ρ' n s' a' w'->Stp wm ρ s.h w ρ' s'.h w'->K a' w')
 (hQ:∀v,e=.panic v->∀ρ' v' a' w',VR ρ' v v'->Inv ρ' n s' a' w'->Stp wm ρ s.h w ρ' s'.h w'->Q (.panic (chainOf v')) a' w'):
 if Region.wanted o (yielded ops a.tmps) then o.wpIn F 0 X.P a w K Q else(∀f,o.about X.P w a.eval=some f->F.fn f)/\K (a.put o.dst undef) w:=by
 unfold JS at hs;cases hok:okG ops.toList o s.fr<;>rw[hok]at hs<;>simp only[GA,QP,Cq1,Cq0]at hs
 ·cases hs
 rw[Zd9 hi.fr ops o hok];cases hwt:Y0 ops.toList o s.fr<;>rw[hwt]at hs<;>simp only[Cq1,Cq0]at hs
 ·rw[if_neg (by simp)];refine⟨fun f hab=>(Zab hF f).2 (ZeN (ρ:=ρ) (fun t _ hx=>by have:=hi.fr.val t hx;exact this) hok hwt hab),?_⟩;split at hs
  ·rename_i s2 hp2;cases hs;obtain⟨q1,q2⟩:=Q7 hi (VR.undef ρ) hp2;refine hK rfl ρ _ _ q1 ?_;rw[q2];exact Stp.refl _ _ _ _
  ·cases hs
 ·rw[if_pos rfl];split at hs
  ·rename_i nx E ha;split at hs
   ·rename_i h1 hE;obtain⟨ρ1,w1,p1,p2,p3⟩:=Za9 hi.rel (Wv hi.fr) ha;obtain⟨r1,st1⟩:=Eff.sound hi.rel Zt p1 hE p2;refine⟨fun f hab=>(Zab hF f).2 (ZbE ha p3 hab),?_⟩
    have ZjH:o.semAt F.round a.eval=execOp a.eval o:=by
     cases hrd:rd with
     | none=>rw[hrd]at hF;unfold KO at hF;subst hF;rfl
     | some l=>
       refine Oper.semAt_eq _ _ _ fun c hc=>?_
       obtain⟨d,rfl⟩:=Zhj ha hc;rw[hrd]at hs;simp[Kn]at hs
    rw[ZjH];refine Zro hih hs (hi.step r1 st1) (KB Zt st1.size) (hF.mono st1.ext) p3 (fun he ρ' a' w' hi' st'=>?_) (fun v he ρ' v' a' w' hv hi' st'=>?_)
    ·exact hK he ρ' a' w' hi' (st1.trans hi.rel.lt st')
    ·exact hQ v he ρ' v' a' w' hv hi' (st1.trans hi.rel.lt st')
   ·cases hs
  ·cases hs
def ZkK{X:Ctx}{YX:V8->Z}{ih:Qn->O YP}(hih:∀j r,ih j=some r->Yq X j r){n wm:Nat}{rd:O Nat}{ops:Va Oper}(Q:Exit->Act->V9->Prop):
 ∀(l:U Oper)(s s':Fs)(e:XX),ZlC X YX ih n wm rd ops.toList l s=some (e,s')->∀{ρ:Ren}{F:Fence}{a:Act}{w:V9},Inv ρ n s a w->wm<=s.h.size->KO ρ rd F ->
   (∀e' a' w',Xj wm n ρ s.h w e s' e' a' w'->Q e' a' w')->wpListIn F 0 X.P ops Q l a w:=by
 intro l
 induction l with
 | nil=>
   intro s s' e hs ρ F a w hi Zt hF hq;simp only[ZlC,J1,Prod.mk.injEq]at hs;obtain⟨rfl,rfl⟩:=hs;exact hq .normal a w ⟨ρ,.normal,hi,Stp.refl _ _ _ _⟩
 | cons o l ihl=>
   intro s s' e hs ρ F a w hi Zt hF hq;simp only[ZlC]at hs;split at hs
   ·rename_i s1 h1;refine Ux hih h1 hi Zt hF (fun _ ρ' a' w' hi' st'=>?_) (fun v he=>by cases he);refine ihl s1 s' e hs hi' (KB Zt st'.size) (hF.mono st'.ext) fun e' a2 w2 hp=>?_
    obtain⟨ρ2,q1,q2,q3⟩:=hp;exact hq e' a2 w2 ⟨ρ2,q1,q2,st'.trans hi.rel.lt q3⟩
   ·rename_i v s1 h1;cases hs;refine Ux hih h1 hi Zt hF (fun he=>by cases he) (fun v' he ρ' v2 a' w' hv hi' st'=>?_);cases he;exact hq _ a' w' ⟨ρ',.panic hv,hi',st'⟩
   ·cases hs
def Zdt{ev ev2:V6->O N}:∀(l:U V6),(∀x∈l,ev x=ev2 x)->evs ev l=evs ev2 l:=by
 intro l
 induction l with
 | nil=>intro _;rfl
 | cons x l ih=>intro hl;simp only[evs,hl x (by simp),ih (fun y hy=>hl y (by simp[hy]))]
def Zmy{ev ev2:V6->O N}:∀(l:U (Nat×V6)),(∀x∈l.map (·.2),ev x=ev2 x)->evp ev l=evp ev2 l:=by
 intro l
 induction l with
 | nil=>intro _;rfl
 | cons x l ih=>intro hl;obtain⟨i,x⟩:=x;simp only[evp,hl x (by simp),ih (fun y hy=>hl y (by simp at hy ⊢;exact .inr hy))]
def Zg3{ev ev2:V6->O N}(x:O V6)(h:∀y∈x.toArray,ev y=ev2 y):evo ev x=evo ev2 x:=by
 cases x with
 | none=>rfl
 | some x=>simp only[evo,h x (by simp)]
def ZmK(X:Ctx)(h:H){ev ev2:V6->O N}(o:Oper)(he:∀x∈o.op.operands,ev x=ev2 x):Xm X h ev o=Xm X h ev2 o:=by
 unfold Xm;cases hop:o.op<;>rw[hop]at he<;>simp only[Op.operands]at he<;>dsimp only
 case build t ps=>rw[Zmy ps.toList (fun x hx=>he x (by simpa using hx))]
 case buildSlice t n ps=>rw[Zmy ps.toList (fun x hx=>he x (by simpa using hx))]
 case makeFunc fn a b=>rw[Zdt a.toList (fun x hx=>he x (by simp at hx ⊢;exact .inl hx)),Zdt b.toList (fun x hx=>he x (by simp at hx ⊢;exact .inr hx))]
 case slice t x lo hi mx=>
  rw[he x (by simp),Zg3 lo (fun y hy=>he y (by simp at hy ⊢;simp[hy])),Zg3 hi (fun y hy=>he y (by simp at hy ⊢;simp[hy])),Zg3 mx (fun y hy=>he y (by simp at hy ⊢;simp[hy]))]
 case call c=>
  rw[Zdt c.args.toList (fun x hx=>he x (by unfold Call.operands;simp at hx ⊢;exact .inr hx))];cases hc:c.callee with
  | value f=>
    have hf:=he f (by unfold Call.operands;rw[hc];simp);cases evs ev2 c.args.toList<;>simp only[hf]
  | invoke r m=>
    have hf:=he r (by unfold Call.operands;rw[hc];simp);cases evs ev2 c.args.toList<;>simp only[hf]
  | builtin b=>cases evs ev2 c.args.toList<;>rfl
 case defer c=>
  rw[Zdt c.args.toList (fun x hx=>he x (by unfold Call.operands;simp at hx ⊢;exact .inr hx))];cases hc:c.callee with
  | value f=>
    have hf:=he f (by unfold Call.operands;rw[hc];simp);cases evs ev2 c.args.toList<;>simp only[hf]
  | invoke r m=>cases evs ev2 c.args.toList<;>rfl
  | builtin b=>cases evs ev2 c.args.toList<;>rfl
 case makeMap t r=>cases r<;>rfl
 all_goals first
  | rfl
  | (simp at he;simp only[he];done)
  | (simp at he;simp only[he.1,he.2];done)
  | (simp at he;simp only[he.1,he.2.1,he.2.2];done)
end
section
def Zrr(P:V7)(fr:Fr)(h:H):ResultVar->O N
 | .tmp t=>bif Xt (fr.at t) then none else some (fr.at t)
 | .cell a t=>Ko P h t (fr.at a)
def ZcK(P:V7)(fr:Fr)(h:H):U ResultVar->O (U N)
 | []=>some []
 | r::rs=>match Zrr P fr h r,ZcK P fr h rs with
   | some v,some vs=>some (v::vs)
   | _,_=>none
def QJ(P:V7)(fn:Func)(fr:Fr)(h:H):O N:=
 match ZcK P fr h fn.results.toList with
 | some [v]=>some v
 | some vs=>some (.tuple vs.toArray)
 | none=>none
def X0:U N->Nat->Fr->Fr
 | [],_,fr=>fr
 | v::vs,i,fr=>X0 vs (i+1) (Tr.set fr i v)
def XJ:U (Tmp×N)->Nat->Fr->O Fr
 | [],_,fr=>some fr
 | (t,v)::r,n,fr=>bif Nat.blt t n then XJ r n (Tr.set fr t v) else none
structure Cfg where
 X:Ctx
 YX:FuncId->Bool
 draw:(Qn->Option YP)->Nat->Nat->Option Nat->List Oper->Fs->Option Fs
def Zf6(k:XX->Fs->O YP)(r:O YP):O YP:=
 match r with
 | some (.code e s)=>k e s
 | _=>none
def ZGn(ih:Qn->O YP)(a b:Code)(n wm:Nat)(rd:O Nat)(s:Fs):O YP:=
 Zf6 (fun e s=>match e with
  | .normal=>ih (.code b n wm rd s)
  | e=>some (.code e s)) (ih (.code a n wm rd s))
def Zkw(ih:Qn->O YP)(c:V6)(a b:Code)(n wm:Nat)(rd:O Nat)(s:Fs):O YP:=
 match Yo s.fr c with
 | some (.bool t)=>bif t then ih (.code a n wm rd s) else ih (.code b n wm rd s)
 | _=>none
def Zvg(ih:Qn->O YP)(id:Nat)(c:Code)(n wm:Nat)(rd:O Nat)(s:Fs):O YP:=
 Zf6 (fun e s=>match e with
  | .exit k=>bif Nat.beq k id then some (.code .normal s) else some (.code (.exit k) s)
  | e=>some (.code e s)) (ih (.code c n wm rd s))
def Zvd(ih:Qn->O YP)(c:Code)(n wm:Nat)(rd:O Nat)(s:Fs):O YP:=
 Zf6 (fun e s=>match e with
  | .goto _=>none
  | e=>some (.code e s)) (ih (.code c n wm rd s))
def Zku(ih:Qn->O YP)(c:Code)(n wm:Nat)(rd:O Nat)(s:Fs):O YP:=
 Zf6 (fun e s=>match e with
  | .normal=>ih (.loop c n wm rd s)
  | e=>some (.code e s)) (ih (.code c n wm rd s))
structure MI where
 id:Nat
 o:Oper
 l:List Oper
 ops:Array Oper
 rest:Code
 t:Tmp
 it:Nat
 m:Nat
 since:Nat
 Y6:Nat
 es:List MapEntry
 clock:Nat
def ZyT(id:Nat)(o:Oper)(l:List Oper)(ops:Array Oper)(rest:Code)(t:Tmp)(s:Fs):Option MI:=
 match s.fr.at t with
 | .pointer (some ⟨it,0,none⟩)=>match s.h.at it with
   | .iter m since Y6 none=>match s.h.at m with
     | .map es clock=>some ⟨id,o,l,ops,rest,t,it,m,since,Y6,es,clock⟩
     | _=>none
   | _=>none
 | _=>none
def ZyU(id:Nat)(ops:Va Oper)(rest:Code)(s:Fs):O MI:=
 match ops.toList with
 | o::l=>match o.op,o.guard with
   | .next (.tmp t) false,none=>ZyT id o l ops rest t s
   | _,_=>none
 | []=>none
def ZpQ(c:Code)(s:Fs):O MI:=
 match c with
 | .seq (.region id ops false) rest=>ZyU id ops rest s
 | _=>none
def Zg6:Code->U Nat
 | .seq a b=>Zg6 a++Zg6 b
 | .cond _ a b=>Zg6 a++Zg6 b
 | .block _ c=>Zg6 c
 | .scope c=>Zg6 c
 | .loop c=>Zg6 c
 | .region _ ops _=>ops.toList.filterMap (·.dst)
 | _=>[]
def Zch:U Nat->Nat
 | []=>0
 | t::ts=>Nat.lor (Nat.pow 2 t) (Zch ts)
def ZU:U Nat->Fr->Fr
 | [],fr=>fr
 | t::ts,fr=>ZU ts (Tr.set fr t ZoI)
def K4(b:Nat):U Vb->Z
 | []=>true
 | e::es=>bif Nat.beq e.born b then false else K4 b es
def Xq(clock:Nat):U Vb->Z
 | []=>true
 | e::es=>Nat.blt e.born clock&&K4 e.born es&&Xq clock es
def QI(fr:Fr)(d:O Tmp)(v:N):Fr:=
 match d with
 | none=>fr
 | some d=>Tr.set fr d v
def Zae(C:Cfg)(ih:Qn->O YP)(mi:MI)(n wm:Nat)(rd:O Nat)(s:Fs):O YP:=
 match ZlC C.X C.YX ih n wm rd mi.ops.toList mi.l s with
 | some (.normal,s1)=>ih (.code mi.rest n wm rd s1)
 | some (e,s1)=>some (.code e s1)
 | none=>none
def Zbp(C:Cfg)(ih:Qn->O YP)(mi:MI)(n:Nat)(rd:O Nat)(wr:Nat)(fr:Fr)(s:Fs):U Vb->Z
 | []=>true
 | e::es=>(match Zae C ih mi n s.h.size rd {fr:=QI fr mi.o.dst (.tuple #[.bool true,e.key,e.val]),ds:=s.ds,h:=s.h.put mi.it (.iter mi.m mi.since mi.clock (some e.born)),wr:=some wr} with
    | some (.code .normal s2)=>Nat.beq s2.ds.length s.ds.length
    | _=>false)&&Zbp C ih mi n rd wr fr s es
def Zl6(mi:MI)(n wm:Nat)(T:U Nat):Z:=
 Nat.beq mi.since mi.clock&&Nat.ble mi.clock mi.Y6&&Xq mi.clock mi.es&&Nat.ble wm mi.it && !T.contains mi.t&&(match mi.o.dst with|some d=>Nat.blt d n&&T.contains d|none=>false)
def Zes{mi:MI}{n wm:Nat}{T:U Nat}(h:Zl6 mi n wm T=true):mi.since=mi.clock/\mi.clock<=mi.Y6/\Xq mi.clock mi.es=true/\wm<=mi.it/\mi.t∉T/\∃d,mi.o.dst=some d/\d<n/\d∈T:=by
 unfold Zl6 at h;simp only[Ba0,Bool.not_eq_true']at h;obtain⟨⟨⟨⟨⟨h1,h2⟩,h3⟩,h4⟩,h5⟩,h6⟩:=h;refine⟨Nb0 h1,Nl0 h2,h3,Nl0 h4,fun z=>?_,?_⟩
 ·rw[<-Gs]at z;rw[z]at h5;cases h5
 ·cases hd:mi.o.dst with
  | none=>rw[hd]at h6;cases h6
  | some d=>
    rw[hd]at h6;simp only[Ba0,G6,Gs]at h6;exact⟨d,rfl,h6⟩
def Zod(C:Cfg)(ih:Qn->O YP)(mi:MI)(n wm:Nat)(rd:O Nat)(s:Fs)(T:U Nat):O YP:=
 bif Zl6 mi n wm T then
  bif Zbp C ih mi n rd (Zch T) (ZU T s.fr) s mi.es then
   match Zae C ih mi n wm rd {s with fr:=QI (ZU T s.fr) mi.o.dst QT,h:=s.h.put mi.it .dead} with
   | some (.code e s2)=>match e with
     | .normal=>none
     | e=>some (.code e s2)
   | _=>none
  else none
 else none
def Zkt(C:Cfg)(ih:Qn->O YP)(mi:MI)(c:Code)(n wm:Nat)(rd:O Nat)(s:Fs):O YP:=
 Zod C ih mi n wm rd s ((Zg6 c).filter (allowed s.wr))
def ZfX(C:Cfg)(ih:Qn->O YP)(c:Code)(n wm:Nat)(rd:O Nat)(s:Fs):O YP:=
 match ZpQ c s with
 | some mi=>match Zkt C ih mi c n wm rd s with
   | some r=>some r
   | none=>Zku ih c n wm rd s
 | none=>Zku ih c n wm rd s
def ZfU(C:Cfg)(ih:Qn->O YP)(ops:Va Oper)(n wm:Nat)(rd:O Nat)(s:Fs):O YP:=
 match ZlC C.X C.YX ih n wm rd ops.toList ops.toList s with
 | some (e,s)=>some (.code e s)
 | none=>none
def Zof(C:Cfg)(ih:Qn->O YP)(ops:Va Oper)(n wm:Nat)(rd:O Nat)(s:Fs):O YP:=
 match C.draw ih n wm rd ops.toList s with
 | some s=>some (.code .normal s)
 | none=>none
def Je(ih:Qn->O YP)(n wm:Nat)(rd:O Nat)(l:Nat)(s:Fs)(r:O YP):O YP:=
 match r with
 | some (.fin (.ret _) h2)=>match h2.at l with
   | .loop st pd fr n' ps Yf bd df=>
     bif st==.busy then none else
     match pd with
     | none=>some (.code .normal {s with h:=h2.put l (.loop .exhausted pd fr n' ps Yf bd df)})
     | some c=>ih (.code c n wm rd {s with h:=h2.put l (.loop .exhausted pd fr n' ps Yf bd df)})
   | _=>none
 | some (.fin (.ZX v) h2)=>some (.code (.panic v) {s with h:=h2})
 | _=>none
def Xv(C:Cfg)(ih:Qn->O YP)(g:V6)(n wm:Nat)(rd:O Nat)(l:Nat)(s:Fs):O YP:=
 match Yo s.fr g with
 | some gv=>match Uz C.X s.h gv [.func (.yield l) #[] #[]] with
   | some (.enter f args,.none)=>Je ih n wm rd l s (ih (.call f args wm s.h))
   | _=>none
 | none=>none
def ZfV(C:Cfg)(ih:Qn->O YP)(g:V6)(ps:Va Tmp)(Yf bd:Code)(n wm:Nat)(rd:O Nat)(s:Fs):O YP:=
 match rd with
 | none=>Xv C ih g n wm rd (s.h.size+1) {s with ds:= {target:=.collected s.h.size,args:=#[]}::s.ds,h:=(s.h.push .deferred).push (.loop .ready none s.fr n ps Yf bd s.h.size)}
 | some l=>match s.h.at l with
   | .loop _ _ _ _ _ _ _ df=>Xv C ih g n wm rd s.h.size {s with h:=s.h.push (.loop .ready none s.fr n ps Yf bd df)}
   | _=>none
def Kh(C:Cfg)(ih:Qn->O YP)(c:Code)(n wm:Nat)(rd:O Nat)(s:Fs):O YP:=
 match c with
 | .skip=>some (.code .normal s)
 | .label _=>some (.code .normal s)
 | .ret=>some (.code .ret s)
 | .exit id=>some (.code (.exit id) s)
 | .goto l=>some (.code (.goto l) s)
 | .seq a b=>ZGn ih a b n wm rd s
 | .cond c a b=>Zkw ih c a b n wm rd s
 | .block id c=>Zvg ih id c n wm rd s
 | .loop c=>ih (.loop c n wm rd s)
 | .scope c=>Zvd ih c n wm rd s
 | .region _ ops d=>bif d then Zof C ih ops n wm rd s else ZfU C ih ops n wm rd s
 | .rangeFunc g ps Yf bd=>ZfV C ih g ps Yf bd n wm rd s
 | .refuse _=>none
def xPM(e:XX):O PM:=
 match e with
 | .normal | .ret=>some .ret
 | .panic v=>some (.ZX v)
 | _=>none
def Zoj(C:Cfg)(ih:Qn->O YP)(f:V8)(args:Va N)(wm:Nat)(h:H):O YP:=
 match C.X.fns.get f with
 | some fn=>match fn.body with
   | some c=>bif Nat.ble args.toList.length fn.ntmps then
      Zf6 (fun e s=>match xPM e with
       | some pm=>ih (.leave fn wm pm s)
       | none=>none) (ih (.code c fn.ntmps wm none {fr:=X0 args.toList 0 .nil,ds:=[],h:=h}))
     else none
   | none=>none
 | none=>none
def Ziv(C:Cfg)(ih:Qn->O YP)(f:V8)(args:Va N)(wm:Nat)(h:H):O YP:=
 match C.X.orc f with
 | some v=>match args.toList with
   | []=>some (.fin (.ret v) h)
   | _::_=>none
 | none=>match C.X.ZHu f args h with
   | some (v,A)=>some (.fin (.ret v) (h.push A))
   | none=>Zoj C ih f args wm h
def Zic(pm:PM):PM:=
 match pm with
 | .rcv _=>.ret
 | pm=>pm
def Ua(C:Cfg)(ih:Qn->O YP)(fn:Func)(wm:Nat)(pm:PM)(s:Fs):O YP:=
 match s.ds with
 | []=>match pm with
   | .ret=>match QJ C.X.P fn s.fr s.h with
     | some v=>some (.fin (.ret v) s.h)
     | none=>none
   | .ZX v=>some (.fin (.ZX v) s.h)
   | .rcv _=>none
 | d::ds=>match d.target with
   | .collected r=>match s.h.at r with
     | .deferred=>bif Nat.ble wm r then ih (.leave fn wm pm {s with ds:=ds,h:=s.h.put r .dead}) else none
     | _=>none
   | .fn (.func f) cap=>match C.X.fns.get f with
     | some _=>match ih (.dcall f (d.args.toList++cap.toList).toArray pm wm s.h) with
       | some (.ZdQ Ku h')=>ih (.leave fn wm (Zic Ku) {s with ds:=ds,h:=h'})
       | _=>none
     | none=>none
   | _=>none
def isRecover(o:Oper):Z:=
 match o.op with
 | .call {callee:=.builtin .recover,..}=>true
 | _=>false
def dop(X:Ctx)(n wm:Nat)(ops:U Oper)(o:Oper)(pm:PM)(s:Fs):O (PM×Fs):=
 let fin (pm:PM) (s:Fs) (v:N):O (PM×Fs):=match Zhh n s o.dst v with
  | some s=>some (pm,s)
  | none=>none
 bif !okG ops o s.fr then none else bif Y0 ops o s.fr then
  match Xm X s.h (Yo s.fr) o with
  | some (nx,E)=>match E.apply wm s.h with
    | some h'=>match nx with
      | .val v=>fin pm {s with h:=h'} v
      | .skip=>fin pm {s with h:=h'} undef
      | .ZlT=>match pm with
        | .ZX v=>fin (.rcv v) {s with h:=h'} v
        | pm=>fin pm {s with h:=h'} .nilIface
      | _=>none
    | none=>none
  | none=>none
 else fin pm s undef
def Zq5(X:Ctx)(n wm:Nat)(ops:U Oper):U Oper->PM->Fs->O (PM×Fs)
 | [],pm,s=>some (pm,s)
 | o::rest,pm,s=>match dop X n wm ops o pm s with
   | some (pm,s)=>Zq5 X n wm ops rest pm s
   | none=>none
def ZA7(k:XX->PM->Fs->O YP)(r:O YP):O YP:=
 match r with
 | some (.Xx e pm s)=>k e pm s
 | _=>none
def Za5(ih:Qn->O YP)(c:Code)(n wm:Nat)(pm:PM)(s:Fs):O YP:=
 Zf6 (fun e s=>some (.Xx e pm s)) (ih (.code c n wm none s))
def Kz(C:Cfg)(ih:Qn->O YP)(c:Code)(n wm:Nat)(pm:PM)(s:Fs):O YP:=
 match c with
 | .seq a b=>ZA7 (fun e pm s=>match e with
   | .normal=>ih (.Xx b n wm pm s)
   | e=>some (.Xx e pm s)) (ih (.Xx a n wm pm s))
 | .cond c a b=>match Yo s.fr c with
   | some (.bool t)=>bif t then ih (.Xx a n wm pm s) else ih (.Xx b n wm pm s)
   | _=>none
 | .region id ops d=>bif !d&&ops.toList.any isRecover then match Zq5 C.X n wm ops.toList ops.toList pm s with
     | some (pm,s)=>some (.Xx .normal pm s)
     | none=>none
   else Za5 ih (.region id ops d) n wm pm s
 | c=>Za5 ih c n wm pm s
def ZfY(C:Cfg)(ih:Qn->O YP)(f:V8)(args:Va N)(pm:PM)(wm:Nat)(h:H):O YP:=
 match C.X.fns.get f with
 | some fn=>match fn.body with
   | some c=>bif Nat.ble args.toList.length fn.ntmps then
      ZA7 (fun e pm s=>match s.ds,e,QJ C.X.P fn s.fr s.h with
       | [],.normal,some _=>some (.ZdQ pm s.h)
       | [],.ret,some _=>some (.ZdQ pm s.h)
       | _,_,_=>none) (ih (.Xx c fn.ntmps wm pm {fr:=X0 args.toList 0 .nil,ds:=[],h:=h}))
     else none
   | none=>none
 | none=>none
def QE(l:Nat)(e:XX)(s:Fs):O YP:=
 match s.h.at l with
 | .loop _ _ fr n ps Yf bd df=>match e with
   | .normal=>some (.fin (.ret (.bool true)) (s.h.put l (.loop .ready none fr n ps Yf bd df)))
   | .ret=>some (.fin (.ret (.bool false)) (s.h.put l (.loop .done (some .ret) fr n ps Yf bd df)))
   | .exit id=>some (.fin (.ret (.bool false)) (s.h.put l (.loop .done (some (.exit id)) fr n ps Yf bd df)))
   | .goto t=>some (.fin (.ret (.bool false)) (s.h.put l (.loop .done (some (.goto t)) fr n ps Yf bd df)))
   | .panic v=>match s.ds with
     | []=>some (.fin (.ZX v) s.h)
     | _=>none
 | _=>none
def UQ(ih:Qn->O YP)(l:Nat)(bd:Code)(n wm:Nat)(e:XX)(s:Fs):O YP:=
 match e with
 | .normal=>match s.h.at l with
   | .loop .ready pd fr n' ps Yf bd' df=>Zf6 (fun e s=>QE l e s) (ih (.code bd n wm (some l) {s with h:=s.h.put l (.loop .busy pd fr n' ps Yf bd' df)}))
   | _=>none
 | _=>none
def Zbx(ih:Qn->O YP)(l:Nat)(args:Va N)(wm:Nat)(h:H):O YP:=
 match h.at l with
 | .loop _ _ fr n ps Yf bd _=>
   bif Nat.ble wm l&&Nat.beq args.toList.length ps.toList.length then
    match XJ (ps.toList.zip args.toList) n fr with
    | some WY=>Zf6 (fun e s=>UQ ih l bd n wm e s) (ih (.code Yf n wm (some l) {fr:=WY,ds:=[],h:=h}))
    | none=>none
   else none
 | _=>none
def Jf(C:Cfg)(ih:Qn->O YP)(j:Qn):O YP:=
 match j with
 | .code c n wm rd s=>Kh C ih c n wm rd s
 | .loop c n wm rd s=>ZfX C ih c n wm rd s
 | .call f args wm h=>Ziv C ih f args wm h
 | .round l args wm h=>Zbx ih l args wm h
 | .dcall f args pm wm h=>ZfY C ih f args pm wm h
 | .Xx c n wm pm s=>Kz C ih c n wm pm s
 | .leave fn wm pm s=>Ua C ih fn wm pm s
def ev(C:Cfg)(n:Nat):Qn->O YP:=Nat.rec (fun _=>none) (fun _ ih=>Jf C ih) n
end
end Go.ZF
end
end
