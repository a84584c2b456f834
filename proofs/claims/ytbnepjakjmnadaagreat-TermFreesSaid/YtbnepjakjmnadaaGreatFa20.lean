/- TermFrees returns true, whatever the arguments. No condition. -/
import Derived.Test.YtbnepjakjmnadaaGreatFa19
set_option linter.all false
set_option maxHeartbeats 2000000
section
noncomputable section
namespace Go.Proofs.YtbnepjakjmnadaaGreat
open Go.Lf
section
def ZeO{α β:Type}(y:α)(p:Int->O β)(k:α->O β):JR (.ok y) p k=k y:=rfl
def Zi4{α σ β γ:Type}{body:γ->(γ->O β)->O β}(st:Nat->σ->γ)(l:U α)(Pre:U α->σ->Prop)(Q:U α->σ->O β->Prop)
 (h0:∀s nx,Pre [] s->Q [] s (body (st l.length s) nx))
 (h1:∀(k:Nat) x rest s nx,x∈l->k<l.length->Yf l (k:Int)=some x->Pre (x::rest) s->(∀s',Pre rest s'->Q rest s' (nx (st (k+1) s')))->Q (x::rest) s (body (st k s) nx)) {F:Nat} (hF:l.length<F) (s:σ) (hp:Pre l s):Q l s (loop F body (st 0 s)):=by
 have key:∀(d j F:Nat)(s:σ),j+d=l.length->d<F->Pre (l.drop j) s->Q (l.drop j) s (loop F body (st j s)):=by
  intro d
  induction d with
  | zero=>
    intro j F s hj hF hp;obtain⟨F,rfl⟩:∃G,F=G+1:=⟨F-1,by omega⟩
    obtain rfl:j=l.length:=GZ
    rw[List.drop_length]at hp ⊢;rw[Z5];exact h0 _ _ hp
  | succ d ih=>
    intro j F s hj hF hp;obtain⟨F,rfl⟩:∃G,F=G+1:=⟨F-1,by omega⟩
    have hjl:j<l.length:=GZ
    rw[List.drop_eq_getElem_cons hjl]at hp ⊢;rw[Z5];exact h1 j _ _ s _ (List.getElem_mem hjl) hjl (Zgv hjl) hp fun s' hp'=>ih (j+1) F s' GZ GZ hp'
 have:=key l.length 0 F s GZ hF (by simpa using hp)
 simpa using this
def Zlz{t:Term}(h:ZbA t=true)(h4:t.op≠4):t.defs=[]:=by
 have e4:(t.op==4)=false:=by simpa using h4
 unfold ZbA szs at h;rw[e4,Ba0]at h;obtain⟨h,_⟩:=h
 have z:t.defs.length=0:=by
  cases a:(t.op==1)||(t.op==7)<;>rw[a]at h
  ·cases b:t.op==2<;>rw[b]at h
   ·cases c:t.op==3<;>rw[c]at h
    ·cases d:t.op==5<;>rw[d]at h<;>simp only[Cq1,Cq0,Ba0,beq_iff_eq]at h
     ·exact h.2.1.2
     ·exact h.1.2
    ·simp only[Cq1,Cq0,Ba0,beq_iff_eq]at h;exact h.1.2
   ·simp only[Cq1,Cq0,Ba0,beq_iff_eq]at h;exact h.2.1.2
  ·simp only[Cq1,Cq0,Ba0,beq_iff_eq]at h;exact h.1.2
 exact G3 z
structure TB(B:List ByteArray)(l:List Za):Prop where
 j:∀sp∈(E0,l)::l.flatMap Xc,∀c∈sp.2,∀m∈c.joins,m.text∈B
 p:∀sp∈l.flatMap Xc,sp.1∈B
def TB.sub{B:U Y}{l:U Za}(h:TB B l){c:Za}(hc:c∈l)(h2:c.form=2):TB B c.defs:=by
 have e:Xc c=(c.text,c.defs)::c.defs.flatMap Xc:=by rw[Ul,h2];rfl
 have hin:∀sp,sp∈(c.text,c.defs)::c.defs.flatMap Xc->sp∈l.flatMap Xc:=fun sp hsp=>QP.2 ⟨c,hc,by rw[e];exact hsp⟩
 constructor
 ·intro sp hsp d hd m hm;rcases Ks.1 hsp with rfl|hsp
  ·exact h.j (c.text,c.defs) (KB _ (hin _ Gz)) d hd m hm
  ·exact h.j sp (KB _ (hin _ (KB _ hsp))) d hd m hm
 ·exact fun sp hsp=>h.p sp (hin _ (KB _ hsp))
def TB.text{B:U Y}{l:U Za}(h:TB B l){c:Za}(hc:c∈l)(h2:c.form=2):c.text∈B:=h.p (c.text,c.defs) (QP.2 ⟨c,hc,by rw[Ul,h2];exact Gz⟩)
def ZJF{l:U Za}(B:U Y):TB (B++U8 l) l:=
 ⟨fun sp hsp c hc m hm=>GE _ (List.mem_append_left _ (ZwB hsp hc hm)),fun sp hsp=>GE _ (GE _ (Zu1 hsp))⟩
section
variable{F:Nat}{I:Nat->MB->Prop}{Yk:UW}{rl:Za->U Y->O MB}{fl:Term->O MB}{bd:BF MB}
def ZqY(hE:BE F I Yk rl fl bd){a b:Nat}{tk:MB}(h:b<=a)(hI:I a tk):I b tk:=hE.mono b (a-b) tk (by rw[show b+(a-b)=a by omega];exact hI)
def ZvD(hF:10000000000000000000<=F)(hE:BE F I Yk rl fl bd){B Bn:U Y}{bad:Y->Z}{c:U NM}{env:NM}(hc:CE c env B Bn bad)(nx:WS×U NM×Term->O (PR (WS×Term))):∀n (l:U Za),((l.map Part.cl).flatMap pre).length<=n->n<=60->(∀x∈(l.map Part.cl).flatMap pre,Wn x=true)->(∀t,Part.pr t∈(l.map Part.cl).flatMap pre->TXg F I bd nx t)->TB Bn l ->
 ∀Fr,n<Fr->∀(fr tk:MB)(kk:Nat),c.length+2*((l.map Part.cl).flatMap pre).length<F->B.length+12000*((l.map Part.cl).flatMap pre).length<=750000->I (kk+12000*((l.map Part.cl).flatMap pre).length) tk ->
 loop Fr (Zck F Yk rl nx c) ((fr,tk),l)=some (bif bCs bad l then .Yd 7 else .ok ((Xp (l.flatMap fun d=>QD (.cl d) B) fr,(Wcs bd tk env l).1),(Wcs bd tk env l).2))/\(bCs bad l=false->I kk (Wcs bd tk env l).1):=by
 intro n
 induction n with
 | zero=>
   intro l hl _ _ _ _ Fr hFr fr tk kk _ _ hI
   have:l=[]:=by
    cases l with
    | nil=>rfl
    | cons x l=>simp only[Gc,K2,K0]at hl;have:=Xi (.cl x);omega
   subst this;obtain⟨G,rfl⟩:∃G,Fr=G+1:=⟨Fr-1,by omega⟩
   rw[Z5];rw[Zn7,ZnW];refine⟨?_,fun _=>ZqY hE GZ hI⟩;unfold Zck;dsimp only;cases F with
   | zero=>omega
   | succ F=>rw[Z5];rfl
 | succ n ih=>
   intro l hl h60 hs hnx htb Fr hFr fr tk kk hcl hB hI;obtain⟨G,rfl⟩:∃G,Fr=G+1:=⟨Fr-1,by omega⟩
   rw[Z5];have hlen:=KZ l
   have hih:∀x∈l,x.form=2->∀(fr tk:MB)(kk:Nat),I (kk+12000*((x.defs.map Part.cl).flatMap pre).length) tk->loop G (Zck F Yk rl nx c) ((fr,tk),x.defs)=some (bif bCs bad x.defs then .Yd 7 else .ok ((Xp (x.defs.flatMap fun d=>QD (.cl d) B) fr,(Wcs bd tk env x.defs).1),(Wcs bd tk env x.defs).2))/\(bCs bad x.defs=false->I kk (Wcs bd tk env x.defs).1):=fun x hx h2 fr tk kk hI=>by
    have hsub:∀y∈(x.defs.map Part.cl).flatMap pre,y∈(l.map Part.cl).flatMap pre:=fun y hy=>by
     obtain⟨z,hz,hy⟩:=QP.1 hy;obtain⟨d,hd,rfl⟩:=Gs.1 hz;exact QP.2 ⟨_,Gi hx,Z4 (YN hd) hy⟩
    have h1:((x.defs.map Part.cl).flatMap pre).length<(pre (.cl x)).length:=by
     rw[Xz (.cl x)];show _<((x.defs.map Part.cl++x.kids.map Part.pr).flatMap pre).length+1;rw[Q4,K0];omega
    have h2':=Ut (Gi (f:=Part.cl) hx);exact ih x.defs GZ GZ (fun y hy=>hs y (hsub y hy)) (fun t ht=>hnx t (hsub _ ht)) (htb.sub hx h2) G GZ fr tk kk GZ GZ hI
   generalize loop G (Zck F Yk rl nx c)=n1 at hih;unfold Zck;dsimp only
   have:=Zi4 (body:=ZjX F Yk rl nx c l n1) (fun(q:Nat)(s:MB×MB×U Za)=>((q:Int),(s.1,s.2.1),s.2.2)) l
    (fun rest s=>s.2.2.length+rest.length<=70/\I (kk+12000*((rest.map Part.cl).flatMap pre).length) s.2.1)
    (fun rest s r=>r=some (bif bCs bad rest then .Yd 7 else .ok ((Xp (rest.flatMap fun d=>QD (.cl d) B) s.1,(Wcs bd s.2.1 env rest).1),s.2.2++(Wcs bd s.2.1 env rest).2))/\(bCs bad rest=false->I kk (Wcs bd s.2.1 env rest).1)) (F:=F) ?_ ?_ GZ (fr,tk,[]) ⟨by simp;omega,hI⟩
   ·obtain⟨e,hi⟩:=this;dsimp only at e hi;rw[G5]at e;exact⟨e,hi⟩
   ·rintro⟨fr,tk,acc⟩ nx' ⟨hp1,hp2⟩;dsimp only at hp1 hp2 ⊢;rw[Zn7,ZnW];refine⟨?_,fun _=>ZqY hE GZ hp2⟩;simp only[ZjX,Zy,Cq0,Gp];rfl
   ·rintro q x rest ⟨fr,tk,acc⟩ nx' hx hq hg ⟨hp1,hp2⟩ hr;dsimp only at hp1 hp2 ⊢;rw[Gc,K2,K0]at hp2;simp only[Kf]at hp1;have ZCd:∀y∈pre (.cl x),y∈(l.map Part.cl).flatMap pre:=fun y hy=>QP.2 ⟨_,Gi hx,hy⟩
    have hxs:(pre (.cl x)).all Wn=true:=Kd.2 fun y hy=>hs y (ZCd y hy)
    have hxC:WV x=true:=hs _ (ZCd _ (Yo _));have hxl:=Ut (Gi (f:=Part.cl) hx)
    have hif:x.form=1\/x.form=2:=by
     rcases(ZdT hxC).2 with h|h
     ·exact .inl h
     ·exact .inr h.1
    rw[K2,ZqT,ZqC,J4];dsimp only;have fin:∀y:Za,app 96 acc [y]=some (acc++[y]):=fun y=>QK (by simp;omega) GZ
    have main:(bif x.form==2 then(Zj1 F fr c x.text).bind fun y=>(n1 ((y.1,tk),x.defs)).bind fun d=>JR d (fun e=>some (.Yd e)) fun d=>(Yf x.kids 0).bind fun k=>(nx (d.1,c,k)).bind fun z=>JR z (fun e=>some (.Yd e)) fun z=>(app 96 acc [Za.mk x.form y.2 [] d.2 [z.2]]).bind fun a=>nx' (Xa ((q:Int)+1),z.1,a) else(Zl9 F Yk rl nx (fr,tk) c x).bind fun z=>JR z (fun e=>some (.Yd e)) fun z=>(app 96 acc [z.2]).bind fun a=>nx' (Xa ((q:Int)+1),z.1,a))=(bif bC bad x then some (.Yd 7) else nx' (Xa ((q:Int)+1),(Xp (QD (.cl x) B) fr,(Wc bd tk env x).1),acc++[(Wc bd tk env x).2]))/\(bC bad x=false->I (kk+12000*((rest.map Part.cl).flatMap pre).length) (Wc bd tk env x).1):=by
     rcases hif with h1|h2
     ·have hne:(x.form==2)=false:=by rw[h1];rfl
      obtain⟨e,hi⟩:=ZGE hF hE hc nx x hxs GZ h1 GZ GZ (fun m hm=>htb.j (E0,l) Gz x hx m hm) (fun k hk=>hnx k (ZCd _ (Z4 (XU hk) (Yo _)))) fr tk (kk+12000*((rest.map Part.cl).flatMap pre).length) (ZqY hE GZ hp2);rw[hne];simp only[Cq0];rw[e,Bq0];refine⟨?_,hi⟩;cases bC bad x
      ·simp only[Cq0,ZeO,fin,Bq0]
      ·rfl
     ·have he2:(x.form==2)=true:=by rw[h2];rfl
      obtain⟨_,_,k,hk⟩:=ZaL hxC
      have hj0:x.joins=[]:=by
       rcases(ZdT hxC).2 with h|h
       ·omega
       ·exact h.2
      have hsz:(pre (.cl x)).length=((x.defs.map Part.cl).flatMap pre).length+(pre (.pr k)).length+1:=by
       rw[Xz];show((x.defs.map Part.cl++x.kids.map Part.pr).flatMap pre).length+1=_;rw[hk,Q4,K0];simp
      have hbc:bC bad x=(bCs bad x.defs||bT bad k):=by
       rw[ZAv,h2,hk];show(bCs bad x.defs||bTs bad [k])=_;rw[ZfQ,Zic,Bool.or_false]
      obtain⟨e1,i1⟩:=hih x hx h2 fr tk (kk+12000*((rest.map Part.cl).flatMap pre).length+12000*(pre (.pr k)).length) (ZqY hE GZ hp2);have hkm:k∈x.kids:=by rw[hk];simp
      have ht:=Zir (F:=F) x.text fr c GZ hc (htb.text hx h2);have g0:Yf x.kids 0=some k:=by rw[hk];rfl
      rw[he2,hbc];simp only[Cq1];rw[ht,Bq0,e1,Bq0];cases hbd:bCs bad x.defs
      ·obtain⟨e2,i2⟩:=hnx k (ZCd _ (Z4 (XU hkm) (Yo _))) (Xp (x.defs.flatMap fun d=>QD (.cl d) B) fr) (Wcs bd tk env x.defs).1 c env B Bn bad (kk+12000*((rest.map Part.cl).flatMap pre).length) hc GZ GZ (i1 hbd);rw[ZqU h2,hk,ZfZ,Zig,Zj8,hj0,hk];refine⟨?_,i2⟩;simp only[Cq0,ZeO,Gk];rw[show Yf [k] 0=some k from rfl,Bq0,e2,Bq0];cases bT bad k
       ·simp only[Cq0,ZeO,fin,Bq0,ZM,List.flatMap_nil,Gp,K2,J4]
       ·rfl
      ·exact⟨rfl,fun z=>by cases z⟩
    obtain⟨m1,m2⟩:=main;simp only[ZjX,ZQ hq,Cq1,hg,Bq0];rw[m1];cases hbx:bC bad x
    ·have:=hr (Xp (QD (.cl x) B) fr,(Wc bd tk env x).1,acc++[(Wc bd tk env x).2]) ⟨by simp;omega,m2 hbx⟩;rw[X7 GZ];obtain⟨r1,r2⟩:=this;dsimp only at r1 r2;refine⟨?_,r2⟩;rw[Cq0,r1,G6];rfl
    ·exact⟨rfl,fun z=>by cases z⟩
def ZGv(hF:10000000000000000000<=F)(hE:BE F I Yk rl fl bd):∀n t,(pre (.pr t)).all Wn=true->(pre (.pr t)).length<=n->n<=60->∀Fr,n<=Fr->TXg F I bd (loop Fr (Zcl F Yk rl fl)) t:=by
 intro n
 induction n with
 | zero=>intro t _ hn;have:=Xi (.pr t);omega
 | succ n ih=>
   intro t hs hn h60 Fr hFr fr tk c env B Bn bad kk hc hcl hB hI;obtain⟨G,rfl⟩:∃G,Fr=G+1:=⟨Fr-1,by omega⟩
   rw[Z5]
   have hsz:(pre (.pr t)).length=((t.args.map Part.ex).flatMap pre).length+(((t.defs.map Part.cl).flatMap pre).length+((t.kids.map Part.pr).flatMap pre).length)+1:=by
    rw[Xz];show((t.args.map Part.ex++t.defs.map Part.cl++t.kids.map Part.pr).flatMap pre).length+1=_;rw[Q4,Q4,K0,K0];omega
   have hall:∀{x},x∈pre (.pr t)->(pre x).all Wn=true:=fun hx=>by
    rw[Kd]at hs ⊢;exact fun y hy=>hs y (Jc hy hx)
   have hnext:∀x,Part.pr x∈pre (.pr t)->(pre (.pr x)).length<=n->TXg F I bd (loop G (Zcl F Yk rl fl)) x:=fun x hx hl=>ih x (hall hx) hl GZ G GZ
   generalize loop G (Zcl F Yk rl fl)=n1 at hnext;have hal:t.args.length<=((t.args.map Part.ex).flatMap pre).length:=by have:=Uu (t.args.map Part.ex);simpa using this
   have hkl:t.kids.length<=((t.kids.map Part.pr).flatMap pre).length:=by have:=Uu (t.kids.map Part.pr);simpa using this
   have hk:∀(fr tk:MB)(c:U NM)(env:NM)(B Bn:U Y)(bad:Y->Z)(tx:Y)(args:U Zi)(ds:U Za),CE c env B Bn bad->c.length+2*((t.kids.map Part.pr).flatMap pre).length<F->B.length+12000*((t.kids.map Part.pr).flatMap pre).length<=750000->I (kk+12000*((t.kids.map Part.pr).flatMap pre).length) tk ->
    U4 F t n1 tx args ((fr,tk),c,ds)=some (bif bTs bad t.kids then .Yd 7 else .ok ((Xp (t.kids.flatMap fun k=>QD (.pr k) B) fr,(Wts bd tk env t.kids).1),Term.mk t.op tx args ds (Wts bd tk env t.kids).2))/\(bTs bad t.kids=false->I kk (Wts bd tk env t.kids).1):=fun fr tk c env B Bn bad tx args ds hc hcl hB hI=>by
    unfold U4;dsimp only
    have:=Zi4 (body:=Zfp t n1 c tx args ds) (fun(q:Nat)(s:MB×MB×U Term)=>((q:Int),(s.1,s.2.1),s.2.2)) t.kids
     (fun rest s=>s.2.2.length+rest.length<=70/\I (kk+12000*((rest.map Part.pr).flatMap pre).length) s.2.1)
     (fun rest s r=>r=some (bif bTs bad rest then .Yd 7 else .ok ((Xp (rest.flatMap fun k=>QD (.pr k) B) s.1,(Wts bd s.2.1 env rest).1),Term.mk t.op tx args ds (s.2.2++(Wts bd s.2.1 env rest).2)))/\(bTs bad rest=false->I kk (Wts bd s.2.1 env rest).1)) (F:=F) ?_ ?_ GZ (fr,tk,[]) ⟨by simp;omega,hI⟩
    ·obtain⟨e,hi⟩:=this;dsimp only at e hi;rw[G5]at e;exact⟨e,hi⟩
    ·rintro⟨fr,tk,acc⟩ nx' ⟨hp1,hp2⟩;dsimp only at hp1 hp2 ⊢;rw[Zig,Zic];refine⟨?_,fun _=>ZqY hE GZ hp2⟩;simp only[Zfp,Zy,Cq0,Gp];rfl
    ·rintro q x rest ⟨fr,tk,acc⟩ nx' hx hq hg ⟨hp1,hp2⟩ hr;dsimp only at hp1 hp2 ⊢;rw[Gc,K2,K0]at hp2;simp only[Kf]at hp1;have hxl:=Ut (Gi (f:=Part.pr) hx);have hkx:=Yr (XC hx);obtain⟨e2,i2⟩:=hnext x (Z4 (XC hx) (Yo _)) GZ fr tk c env B Bn bad (kk+12000*((rest.map Part.pr).flatMap pre).length) hc GZ GZ (ZqY hE GZ hp2);have fin:app 96 acc [(Wt bd tk env x).2]=some (acc++[(Wt bd tk env x).2]):=QK (by simp;omega) GZ;rw[K2,ZfZ,ZfQ,J4];dsimp only;simp only[Zfp,ZQ hq,Cq1,hg,Bq0,e2];cases hbx:bT bad x
     ·have:=hr (Xp (QD (.pr x) B) fr,(Wt bd tk env x).1,acc++[(Wt bd tk env x).2]) ⟨by simp;omega,i2 hbx⟩;obtain⟨r1,r2⟩:=this;dsimp only at r1 r2;refine⟨?_,r2⟩;simp only[Cq0,ZeO,fin,Bq0,Gk];rw[X7 GZ,r1,G6];rfl
     ·exact⟨rfl,fun z=>by cases z⟩
   have ha:∀(fr:MB)(tx:Y),Za0 F Yk rl fl t n1 tk c (fr,tx)=(bif t.op==4 then(Zlb F t.defs).bind fun cp=>(app 16 cp.1 cp.2).bind fun names=>(Yk tk c names (fl t)).bind fun bd=>(Zt1 F Yk rl n1 (bd.2::c) (notes B (t.args.flatMap nmE) fr,bd.1) t.defs).bind fun d=>JR d (fun e=>some (.Yd e)) fun d=>U4 F t n1 tx (t.args.map (exW env)) (d.1,bd.2::c,d.2) else U4 F t n1 tx (t.args.map (exW env)) ((notes B (t.args.flatMap nmE) fr,tk),c,[])):=fun fr tx=>by
    unfold Za0;dsimp only
    refine ZR (body:=Zfq F Yk rl fl t n1 tk c tx) (fun(q:Nat)(s:MB×U Zi)=>((q:Int),s.1,s.2)) t.args (fun rest s=>s.2.length+rest.length<=70)
     (fun rest s=>(bif t.op==4 then(Zlb F t.defs).bind fun cp=>(app 16 cp.1 cp.2).bind fun names=>(Yk tk c names (fl t)).bind fun bd=>(Zt1 F Yk rl n1 (bd.2::c) (notes B (rest.flatMap nmE) s.1,bd.1) t.defs).bind fun d=>JR d (fun e=>some (.Yd e)) fun d=>U4 F t n1 tx (s.2++rest.map (exW env)) (d.1,bd.2::c,d.2) else U4 F t n1 tx (s.2++rest.map (exW env)) ((notes B (rest.flatMap nmE) s.1,tk),c,[]))) (F:=F) ?_ ?_ GZ (fr,[]) (by simp;omega)
    ·rintro⟨fr,acc⟩ nx' hp;simp only[Zfq,Zy,Cq0,List.map_nil,Gp,List.flatMap_nil];rfl
    ·rintro q x rest ⟨fr,acc⟩ nx' hx hq hg hp hr;simp only[Kf]at hp;have hkx:=Yr (JF hx);have he:ZFD F c fr x=some (notes B (nmE x) fr,exW env x):=ZNM hF hc GZ n x fr (hall (Z4 (JF hx) (Yo _))) GZ GZ F GZ;have fin:app 56 acc [exW env x]=some (acc++[exW env x]):=QK (by simp;omega) GZ;simp only[Zfq,ZQ hq,Cq1,hg,Bq0,he,fin];rw[X7 GZ];refine(hr (notes B (nmE x) fr,acc++[exW env x]) (by simp;omega)).trans ?_;simp only[K2,ZeS,Gc,G6,List.singleton_append]
   have hb:∀(fr:MB)(tx:Y),tx=tx0 env t.text->Za0 F Yk rl fl t n1 tk c (fr,tx)=some (bif(bif t.op==4 then bCs (Jk bad (U8 t.defs)) t.defs||bTs (Jk bad (U8 t.defs)) t.kids else bTs bad t.kids) then .Yd 7 else .ok ((Xp (((t.args.flatMap nmE).map fun s=>(s,B))++(t.defs.flatMap (fun c=>QD (.cl c) (bnd t B))++t.kids.flatMap (fun k=>QD (.pr k) (bnd t B)))) fr,(Wt bd tk env t).1),(Wt bd tk env t).2))/\((bif t.op==4 then bCs (Jk bad (U8 t.defs)) t.defs||bTs (Jk bad (U8 t.defs)) t.kids else bTs bad t.kids)=false->I kk (Wt bd tk env t).1):=fun fr tx htx=>by
    rw[ha,J4,J4,Zru];by_cases h4:t.op=4
    ·have e4:(t.op==4)=true:=by rw[h4];rfl
     obtain⟨a,b,c'⟩:=ZcP GZ hs (Yo (.pr t));obtain⟨n1',n2'⟩:=ZfL a b c';have hdl:(U8 t.defs).length<=11040:=by unfold U8;rw[K0];omega
     have hbn:bnd t B=B++U8 t.defs:=by unfold bnd;rw[e4];rfl
     have hin:inT bd tk env t=((bd tk env (U8 t.defs) (.pr t)).1,ext env (U8 t.defs) (bd tk env (U8 t.defs) (.pr t)).2):=by unfold inT;rw[e4];rfl
     obtain⟨mb,hbb,hci,hIb⟩:=hE.t tk c env B Bn bad t (kk+12000*((t.kids.map Part.pr).flatMap pre).length+12000*((t.defs.map Part.cl).flatMap pre).length) hc hcl hB hs GZ h4 hdl (ZqY hE GZ hI);rw[ZA2 h4,hin,hbn,e4];simp only[Cq1];generalize bd tk env (U8 t.defs) (.pr t)=bv at hbb hci hIb;obtain⟨tk1,to⟩:=bv;dsimp only at hbb hci hIb ⊢;generalize ext env (U8 t.defs) to=en at hci ⊢;have a1:app 16 (QI t.defs).1 (QI t.defs).2=some (U8 t.defs):=QK GZ GZ;rw[Zkb hF t.defs a b c',Bq0,a1,Bq0,hbb,Bq0];dsimp only;have hBl:(B++U8 t.defs).length<=B.length+11040:=by rw[K0];omega
     obtain⟨e1,i1⟩:=ZvD hF hE hci n1 n t.defs GZ GZ (fun y hy=>Kd.1 hs y (by rw[pre_eq];refine KB _ ?_;show y∈(t.args.map Part.ex++t.defs.map Part.cl++t.kids.map Part.pr).flatMap pre;rw[Q4,Q4];exact List.mem_append_left _ (GE _ hy)))
      (fun y hy=>by
        have hym:Part.pr y∈pre (.pr t):=by rw[pre_eq];refine KB _ ?_;show _∈(t.args.map Part.ex++t.defs.map Part.cl++t.kids.map Part.pr).flatMap pre;rw[Q4,Q4];exact List.mem_append_left _ (GE _ hy)
        obtain⟨z,hz,hyz⟩:=QP.1 hy;obtain⟨d,hd,rfl⟩:=Gs.1 hz;have:=Jz hyz;have:=Ut hz;exact hnext y hym GZ) (ZJF Bn) F GZ (notes B (t.args.flatMap nmE) fr) tk1 (kk+12000*((t.kids.map Part.pr).flatMap pre).length) (by simp only[Kf];omega) GZ hIb
     unfold Zt1;rw[e1,Bq0];cases hbd:bCs (Jk bad (U8 t.defs)) t.defs
     ·obtain⟨e2,i2⟩:=hk (Xp (t.defs.flatMap fun d=>QD (.cl d) (B++U8 t.defs)) (notes B (t.args.flatMap nmE) fr)) (Wcs bd tk1 en t.defs).1 (mb::c) en (B++U8 t.defs) (Bn++U8 t.defs) (Jk bad (U8 t.defs)) tx (t.args.map (exW env)) (Wcs bd tk1 en t.defs).2 hci (by simp only[Kf];omega) GZ (i1 hbd);refine⟨?_,i2⟩;simp only[Cq0,ZeO,Gk];rw[e2,htx]
     ·exact⟨rfl,fun z=>by cases z⟩
    ·have e4:(t.op==4)=false:=by simpa using h4
     have hbn:bnd t B=B:=by unfold bnd;rw[e4];rfl
     have hd0:t.defs=[]:=Zlz (Kd.1 hs _ (Yo (.pr t))) h4;rw[Zuw h4,hbn,e4,hd0];simp only[Cq0,List.flatMap_nil];obtain⟨e2,i2⟩:=hk (notes B (t.args.flatMap nmE) fr) tk c env B Bn bad tx (t.args.map (exW env)) [] hc GZ GZ (ZqY hE GZ hI);refine⟨?_,i2⟩;rw[e2,htx];rfl
   rw[ZnC,ZFP];unfold Zcl;dsimp only;by_cases ht:t.text=E0
   ·have:decide (t.text=(⟨#[]⟩:Y))=true:=decide_eq_true ht;rw[this,if_pos ht];simp only[KK,Cq0,G5,Gn,Gk];exact hb fr E0 (by unfold tx0;rw[if_pos ht])
   ·have:decide (t.text=(⟨#[]⟩:Y))=false:=decide_eq_false ht;rw[this,if_neg ht];simp only[Gf,Cq1,G4];rw[Zoo t.text fr c GZ hc,Bq0];cases hbx:bad t.text
    ·simp only[Gk];exact hb (note fr B t.text) (tx1 env t.text) (by unfold tx0;rw[if_neg ht])
    ·exact⟨rfl,fun z=>by cases z⟩
end
end
section
def ZlP{κ ν:Type}[DecidableEq κ](p:κ×ν)(l:U (κ×ν))(k:κ):ZT (p::l) k=if p.1=k then some p.2 else ZT l k:=by
 unfold ZT;rw[Yj];by_cases h:p.1=k
 ·rw[if_pos h,if_pos h];rfl
 ·rw[if_neg h,if_neg h];cases Yj l k<;>rfl
def ZiZ{κ ν:Type}[DecidableEq κ](l r:U (κ×ν))(k:κ):ZT (l++r) k=match ZT l k with|some v=>some v|none=>ZT r k:=by
 cases h:ZT l k with
 | some v=>exact Zaq h
 | none=>exact UY h
def ZiY{κ ν:Type}[DecidableEq κ]{l:U (κ×ν)}{k:κ}{v:ν}(h:ZT l k=some v):(k,v)∈l:=by
 induction l with
 | nil=>cases h
 | cons p l ih=>
   rw[ZlP]at h;by_cases hk:p.1=k
   ·rw[if_pos hk]at h;cases h;subst hk;exact Gz
   ·rw[if_neg hk]at h;exact KB _ (ih h)
def ZbZ{κ ν:Type}[DecidableEq κ]{l:U (κ×ν)}{k:κ}:(ZT l k).isSome=true↔k∈l.map (·.1):=by
 induction l with
 | nil=>simp[ZT,Yj]
 | cons p l ih=>
   rw[ZlP];by_cases hk:p.1=k
   ·rw[if_pos hk];simp[hk]
   ·rw[if_neg hk,ih];simp[Ne.symm hk]
def zip_fst{α β:Type}:∀(l:U α)(r:U β),l.length=r.length->(l.zip r).map (·.1)=l
 | [],_,_=>rfl
 | x::l,[],h=>by cases h
 | x::l,y::r,h=>by rw[List.zip_cons_cons,Gc,zip_fst l r (by simpa using h)]
def ZBY(x:Y):(pre (.ex (nam x))).length=1:=by rw[Xz];rfl
def ext_get{l to:U Y}(hl:l.length=to.length)(env:NM)(x:Y):(x∈l/\∃y∈to,ZT (ext env l to) x=some (nam y))\/(x∉l/\ZT (ext env l to) x=ZT env x):=by
 have hk:(ZT ((l.zip to).map fun p=>(p.1,nam p.2)).reverse x).isSome=true↔x∈l:=by
  rw[ZbZ,List.map_reverse,List.mem_reverse,List.map_map];show x∈(l.zip to).map (·.1)↔_;rw[zip_fst l to hl]
 unfold ext;rw[ZiZ];cases hg:ZT ((l.zip to).map fun p=>(p.1,nam p.2)).reverse x with
 | none=>
   rw[hg]at hk;exact .inr ⟨by simpa using hk,rfl⟩
 | some v=>
   rw[hg]at hk;have:=ZiY hg;rw[List.mem_reverse,Gs]at this;obtain⟨q,hq,e⟩:=this;cases e;exact .inl ⟨hk.1 rfl,q.2,(List.of_mem_zip hq).2,rfl⟩
def ZBd{c:U NM}{env:NM}{B Bn:U Y}{bad:Y->Z}(h:CE c env B Bn bad){l to:U Y}(hl:l.length=to.length){m:NM}(hm:∀x,ZT m x=ZT ((l.zip to).map fun p=>(p.1,nam p.2)).reverse x):CE (m::c) (ext env l to) (B++l) (Bn++l) (Jk bad l):=by
 refine⟨fun x=>?_,fun x e he=>?_,fun x=>?_,fun x=>?_,fun x hx=>?_⟩
 ·unfold ext ZvG;rw[ZiZ,hm x,h.get x];cases ZT ((l.zip to).map fun p=>(p.1,nam p.2)).reverse x<;>rfl
 ·rcases ext_get hl env x with⟨_,y,_,hy⟩|⟨_,hy⟩
  ·rw[hy]at he;cases he;rw[ZBY];omega
  ·rw[hy]at he;exact h.sz x e he
 ·rw[G8,h.b x];rcases ext_get hl env x with⟨h1,y,_,hy⟩|⟨h1,hy⟩
  ·rw[hy];simp[h1]
  ·rw[hy];simp[h1]
 ·unfold Jk;rcases ext_get hl env x with⟨h1,y,_,hy⟩|⟨h1,hy⟩
  ·rw[hy,decide_eq_true h1]
   constructor
   ·intro z;simp at z
   ·rintro⟨e,he,h2⟩;cases he;exact absurd rfl h2
  ·rw[hy,decide_eq_false h1]
   simpa using h.bd x
 ·rw[G8]at hx ⊢;unfold Jk;by_cases h1:x∈l
  ·exact⟨.inr h1,by rw[decide_eq_true h1];simp⟩
  ·obtain⟨z1,z2⟩:=h.nb x (hx.resolve_right h1);exact⟨.inl z1,by rw[z2];rfl⟩
def Zg2(l:U Y)(x:Y):ZT (bindM l []) x=ZT ((l.zip l).map fun p=>(p.1,nam p.2)).reverse x:=by
 rw[Zg1]
 have:∀l:U Y,(l.zip l).map (fun p=>(p.1,nam p.2))=l.map fun y=>(y,nam y):=by
  intro l
  induction l with
  | nil=>rfl
  | cons y l ih=>rw[List.zip_cons_cons,Gc,ih];rfl
 rw[this];by_cases hx:x∈l
 ·rw[if_pos hx]
  have:(ZT (l.map fun y=>(y,nam y)).reverse x).isSome=true:=by
   rw[ZbZ,List.map_reverse,List.mem_reverse,List.map_map];exact Gs.2 ⟨x,hx,rfl⟩
  cases hg:ZT (l.map fun y=>(y,nam y)).reverse x with
  | none=>rw[hg]at this;cases this
  | some v=>
    have:=ZiY hg;rw[List.mem_reverse,Gs]at this;obtain⟨q,_,e⟩:=this;cases e;rfl
 ·rw[if_neg hx];cases hg:ZT (l.map fun y=>(y,nam y)).reverse x with
  | none=>rfl
  | some v=>
    have:=ZiY hg;rw[List.mem_reverse,Gs]at this;obtain⟨q,hq,e⟩:=this;cases e;exact absurd hq hx
def bdI{σ:Type}:BF σ:=fun s _ l _=>(s,l)
def ZOY{F:Nat}(hF:10000000000000000000<=F)(rl:Za->U Y->O MB)(fl:Term->O MB):BE F (fun _ _=>True) (Za5 F) rl fl bdI where
 mono:=fun _ _ _ _=>trivial
 t:=fun tk c env B Bn bad t k hc _ _ _ _ _ hl _=>⟨bindM (U8 t.defs) [],by unfold Za5;rw[bind_eq hF _ GZ];rfl,ZBd hc rfl (Zg2 _),trivial⟩
 r:=fun tk c env B Bn bad p k hc _ _ _ _ _ hl _=>⟨bindM (ZM p.joins) [],by unfold Za5;rw[bind_eq hF _ GZ];rfl,ZBd hc rfl (Zg2 _),trivial⟩
def IdE(env:NM):Prop:=∀x e,ZT env x=some e->e=nam x
def Zih{env:NM}(h:IdE env)(l:U Y):IdE (ext env l l):=fun x e he=>by
 unfold ext at he;rw[ZiZ,<-Zg2,Zg1]at he;by_cases hx:x∈l
 ·rw[if_pos hx]at he;cases he;rfl
 ·rw[if_neg hx]at he;simp only[ZT,Yj,Option.map_none]at he;exact h x e he
def ZEc:IdE []:=fun x e he=>by cases he
def ZmF{env:NM}(h:IdE env)(x:Y):tx1 env x=x:=by
 unfold tx1;cases hg:ZT env x with
 | none=>rfl
 | some e=>rw[h x e hg];rfl
def Zwz{env:NM}(h:IdE env)(x:Y):tx0 env x=x:=by
 unfold tx0;split
 ·rename_i e;exact e.symm
 ·exact ZmF h x
def ZIR{env:NM}(h:IdE env):∀n e,(pre (.ex e)).all Wn=true->(pre (.ex e)).length<=n->exW env e=e:=by
 intro n
 induction n with
 | zero=>intro e _ hn;have:=Xi (.ex e);omega
 | succ n ih=>
   intro e hs hn;have hsh:K6 e=true:=Kd.1 hs _ (Yo _);rw[Zz6];cases h2:e.op==2
   ·have:e.kids.map (exW env)=e.kids:=by
     conv=>rhs;rw[<-List.map_id e.kids]
     exact List.map_congr_left fun x hx=>ih x (by rw[Kd]at hs ⊢;exact fun y hy=>hs y (Z4 (XM hx) hy)) (by have:=Yr (XM hx);omega)
    rw[this];show Zi.mk e.op e.n e.text e.kids=e;cases e;rfl
   ·cases hg:ZT env e.text with
    | none=>rfl
    | some y=>
      have h2':e.op=2:=by simpa using h2
      have hk:e.kids=[]/\e.n=0:=by
       unfold K6 at hsh;rw[h2']at hsh;simp only[Int.reduceBEq,Cq1,Cq0,Ba0,beq_iff_eq]at hsh;exact⟨G3 hsh.2,hsh.1.2⟩
      rw[h _ _ hg];obtain⟨op,nn,tx,ks⟩:=e;simp only at h2' hk;obtain⟨rfl,rfl⟩:=hk;subst h2';rfl
def ZFF(t:Term):Term.mk t.op t.text t.args t.defs t.kids=t:=by cases t;rfl
def ZFG(t:Za):Za.mk t.form t.text t.joins t.defs t.kids=t:=by cases t;rfl
def ZSv{σ:Type}:∀n,(∀t,(pre (.pr t)).all Wn=true->(pre (.pr t)).length<=n->∀(s:σ) env,IdE env->Wt bdI s env t=(s,t))/\(∀c,(pre (.cl c)).all Wn=true->(pre (.cl c)).length<=n->∀(s:σ) env,IdE env->Wc bdI s env c=(s,c)):=by
 intro n
 induction n with
 | zero=>exact⟨fun t _ hn=>by have:=Xi (.pr t);omega,fun t _ hn=>by have:=Xi (.cl t);omega⟩
 | succ n ih=>
   have hts:∀(l:U Term),(∀x∈l,(pre (.pr x)).all Wn=true/\(pre (.pr x)).length<=n)->∀(s:σ) env,IdE env->Wts bdI s env l=(s,l):=by
    intro l
    induction l with
    | nil=>intro _ s env _;rw[Zig]
    | cons x l ihl=>
      intro h s env he;have hx:=h x (by simp);rw[ZfZ,ih.1 x hx.1 hx.2 s env he,ihl (fun y hy=>h y (KB _ hy)) s env he]
   have hcs:∀(l:U Za),(∀x∈l,(pre (.cl x)).all Wn=true/\(pre (.cl x)).length<=n)->∀(s:σ) env,IdE env->Wcs bdI s env l=(s,l):=by
    intro l
    induction l with
    | nil=>intro _ s env _;rw[Zn7]
    | cons x l ihl=>
      intro h s env he;have hx:=h x (by simp);rw[ZqT,ih.2 x hx.1 hx.2 s env he,ihl (fun y hy=>h y (KB _ hy)) s env he]
   have sub:∀{p k:Part},(pre p).all Wn=true->(pre p).length<=n+1->k∈Yq p->(pre k).all Wn=true/\(pre k).length<=n:=fun hs hn hk=>⟨by rw[Kd]at hs ⊢;exact fun y hy=>hs y (Z4 hk hy),by have:=Yr hk;omega⟩
   constructor
   ·intro t hs hn s env he
    have ha:t.args.map (exW env)=t.args:=by
     conv=>rhs;rw[<-List.map_id t.args]
     exact List.map_congr_left fun x hx=>ZIR he n x (sub hs hn (JF hx)).1 (sub hs hn (JF hx)).2
    by_cases h4:t.op=4
    ·have hin:inT bdI s env t=(s,ext env (U8 t.defs) (U8 t.defs)):=by unfold inT;rw[h4];rfl
     rw[ZA2 h4,hin];dsimp only;rw[hcs t.defs (fun x hx=>sub hs hn (Y5 hx)) s _ (Zih he _)];dsimp only;rw[hts t.kids (fun x hx=>sub hs hn (XC hx)) s _ (Zih he _),ha,Zwz he,ZFF]
    ·have hd0:t.defs=[]:=Zlz (Kd.1 hs _ (Yo (.pr t))) h4;rw[Zuw h4,hts t.kids (fun x hx=>sub hs hn (XC hx)) s env he,ha,Zwz he];dsimp only;rw[<-hd0,ZFF]
   ·intro c hs hn s env he;have hC:WV c=true:=Kd.1 hs _ (Yo _);by_cases h2:c.form=2
    ·rw[ZqU h2,hcs c.defs (fun x hx=>sub hs hn (YN hx)) s env he];dsimp only;rw[hts c.kids (fun x hx=>sub hs hn (XU hx)) s env he,ZmF he]
     have hj0:c.joins=[]:=by
      rcases(ZdT hC).2 with h|h
      ·omega
      ·exact h.2
     dsimp only;rw[<-hj0,ZFG]
    ·have hf:c.form=1:=by
      rcases(ZdT hC).2 with h|h
      ·exact h
      ·exact absurd h.1 h2
     obtain⟨ht,hd⟩:=ZlC hC hf;have hin:inC bdI s env c=(s,ext env (ZM c.joins) (ZM c.joins)):=by unfold inC;rw[hf];rfl
     have hj:c.joins.map (ZoT env (ext env (ZM c.joins) (ZM c.joins)))=c.joins:=by
      conv=>rhs;rw[<-List.map_id c.joins]
      refine List.map_congr_left fun m hm=>?_
      unfold ZoT;rw[ZmF he]
      have:m.names.map (tx1 (ext env (ZM c.joins) (ZM c.joins)))=m.names:=by
       conv=>rhs;rw[<-List.map_id m.names]
       exact List.map_congr_left fun x _=>ZmF (Zih he _) x
      rw[this];rfl
     rw[Zux h2,hin];dsimp only;rw[hts c.kids (fun x hx=>sub hs hn (XU hx)) s _ (Zih he _),hj];dsimp only;rw[<-ht,<-hd,ZFG]
def ZJL:CE [[]] [] [] [] (fun _=>false):=⟨fun x=>rfl,fun x e he=>(by cases he),fun x=>by simp[ZT,Yj],fun x=>⟨fun z=>(by cases z),fun⟨e,he,_⟩=>(by cases he)⟩,fun x hx=>(by cases hx)⟩
def ZDQ:∀n,(∀t,(pre (.pr t)).length<=n->∀bad,(∀x,bad x=false)->bT bad t=false)/\(∀c,(pre (.cl c)).length<=n->∀bad,(∀x,bad x=false)->bC bad c=false):=by
 intro n
 induction n with
 | zero=>exact⟨fun t hn=>by have:=Xi (.pr t);omega,fun t hn=>by have:=Xi (.cl t);omega⟩
 | succ n ih=>
   have hts:∀(l:U Term),(∀x∈l,(pre (.pr x)).length<=n)->∀bad,(∀x,bad x=false)->bTs bad l=false:=by
    intro l
    induction l with
    | nil=>intro _ bad _;rw[Zic]
    | cons x l ihl=>intro h bad hb;rw[ZfQ,ih.1 x (h x (by simp)) bad hb,ihl (fun y hy=>h y (KB _ hy)) bad hb];rfl
   have hcs:∀(l:U Za),(∀x∈l,(pre (.cl x)).length<=n)->∀bad,(∀x,bad x=false)->bCs bad l=false:=by
    intro l
    induction l with
    | nil=>intro _ bad _;rw[ZnW]
    | cons x l ihl=>intro h bad hb;rw[ZqC,ih.2 x (h x (by simp)) bad hb,ihl (fun y hy=>h y (KB _ hy)) bad hb];rfl
   have hless:∀(bad:Y->Z) l,(∀x,bad x=false)->∀x,Jk bad l x=false:=fun bad l h x=>by unfold Jk;rw[h x];rfl
   constructor
   ·intro t hn bad hb;rw[ZFP,hb,hcs t.defs (fun x hx=>by have:=Yr (Y5 hx);omega) _ (hless bad _ hb),hts t.kids (fun x hx=>by have:=Yr (XC hx);omega) _ (hless bad _ hb),hts t.kids (fun x hx=>by have:=Yr (XC hx);omega) _ hb];simp
   ·intro c hn bad hb;rw[ZAv,hcs c.defs (fun x hx=>by have:=Yr (YN hx);omega) _ hb,hts c.kids (fun x hx=>by have:=Yr (XU hx);omega) _ hb,hts c.kids (fun x hx=>by have:=Yr (XU hx);omega) _ (hless bad _ hb)];simp
def Zr8{F:Nat}(hF:10000000000000000000<=F)(t:Term)(hs:(pre (.pr t)).all Wn=true)(hn:(pre (.pr t)).length<=60):Zvv F t=some (Xp (QD (.pr t) []) [])/\ZNJ F t=some t:=by
 have h:=(ZGv hF (ZOY hF (fun _ _=>none) (fun _=>none)) 60 t hs hn V0 F GZ [] [] [[]] [] [] [] _ 0 ZJL (by simp only[Kf,List.length_nil];omega) (by simp;omega) trivial).1;rw[(ZSv 60).1 t hs hn [] [] ZEc,(ZDQ 60).1 t hn _ fun _=>rfl]at h;have h':Zt9 F (Za5 F) (fun _ _=>none) (fun _=>none) (([],[]),[[]],t)=_:=h;unfold Zvv ZNJ;rw[h'];exact⟨rfl,rfl⟩
def Zve{ν:Type}(m:U (Y×ν))(x:Y)(v:ν):(Xx m x v).map (·.1)=if x∈m.map (·.1) then m.map (·.1) else m.map (·.1)++[x]:=by
 have h:=ZbZ (l:=m) (k:=x);unfold ZT at h;unfold Xx;cases e:Yj m x with
 | none=>
   rw[e]at h;rw[if_neg (by rw[<-h];simp)];simp
 | some q=>
   rw[e]at h;rw[if_pos (h.1 rfl)];have hq:=ZaS e;apply List.ext_getElem?;intro i;simp only[GG,List.getElem?_modify];by_cases hi:q.1=i
   ·subst hi;rw[hq];show Option.map _ (some (if q.1=q.1 then(x,v) else(x,q.2)))=_;rw[if_pos rfl];rfl
   ·cases m[i]?<;>simp[hi]
def Zvd(fr:MB)(e:Evt):(note fr e.2 e.1).map (·.1)=if e.1∈e.2\/e.1∈fr.map (·.1) then fr.map (·.1) else fr.map (·.1)++[e.1]:=by
 unfold note;by_cases h1:e.1∈e.2
 ·rw[if_pos h1,if_pos (.inl h1)]
 ·rw[if_neg h1,Zve];by_cases h2:e.1∈fr.map (·.1)
  ·rw[if_pos h2,if_pos (.inr h2)]
  ·rw[if_neg h2,if_neg (by simp[h1,h2])]
def ZbX:∀(l:U Evt)(fr:MB),(fr.map (·.1)).Nodup->((Xp l fr).map (·.1)).Nodup/\(∀x,x∈(Xp l fr).map (·.1)↔x∈fr.map (·.1)\/∃e∈l,x=e.1/\e.1∉e.2)/\(Xp l fr).length<=fr.length+l.length
 | [],fr,h=>⟨h,fun x=>by simp[Xp],K1 _⟩
 | e::l,fr,h=>by
   have hk:=Zvd fr e
   have hn:((note fr e.2 e.1).map (·.1)).Nodup:=by
    rw[hk];by_cases hm:e.1∈e.2\/e.1∈fr.map (·.1)
    ·rw[if_pos hm];exact h
    ·rw[if_neg hm,List.nodup_append];refine⟨h,by simp,fun a ha b hb=>?_⟩;rw[G9.1 hb];exact fun e=>hm (.inr (e▸ha))
   obtain⟨i1,i2,i3⟩:=ZbX l (note fr e.2 e.1) hn;refine⟨i1,fun x=>(i2 x).trans ?_,?_⟩
   ·have hx:x∈(note fr e.2 e.1).map (·.1)↔x∈fr.map (·.1)\/(x=e.1/\e.1∉e.2):=by
     rw[hk];by_cases hm:e.1∈e.2\/e.1∈fr.map (·.1)
     ·rw[if_pos hm];refine⟨.inl,fun h=>h.elim id fun h=>?_⟩;rcases hm with hm|hm
      ·exact absurd hm h.2
      ·exact h.1▸hm
     ·rw[if_neg hm,G8,G9];exact⟨fun h=>h.imp id fun e=>⟨e,fun z=>hm (.inl z)⟩,fun h=>h.imp id fun e=>e.1⟩
    rw[hx]
    constructor
    ·rintro((h|h) | ⟨e',he,h⟩)
     ·exact .inl h
     ·exact .inr ⟨e,by simp,h⟩
     ·exact .inr ⟨e',by simp[he],h⟩
    ·rintro(h|⟨e',he,h⟩)
     ·exact .inl (.inl h)
     ·rcases Ks.1 he with rfl|he
      ·exact .inl (.inr h)
      ·exact .inr ⟨e',he,h⟩
   ·have:(note fr e.2 e.1).length<=fr.length+1:=by
     have:=congrArg List.length hk;rw[Ge]at this;rw[this];split<;>simp
    show(Xp l (note fr e.2 e.1)).length<=_;simp only[Kf];omega
def Zoq(a b:Y):Zdu a b=decide (a.data.toList<b.data.toList):=Go.Proofs.bytesLess_eq _ _
def leS(a b:Y):Prop:=a.data.toList<=b.data.toList
def ZxE{a b:Y}(h1:leS a b)(h2:leS b a):a=b:=by
 have:=List.le_antisymm h1 h2;cases a;cases b;exact congrArg _ (GJ.1 this)
def Zhw{s:Y}:∀{l:U Y},l.Pairwise leS->(Zdp l s).Pairwise leS
 | [],_=>by simp[Zdp]
 | x::l,h=>by
   unfold Zdp;rw[List.pairwise_cons]at h;cases hx:Zdu x s
   ·rw[Zoq,decide_eq_false_iff_not]at hx;have hsx:leS s x:=List.not_lt.1 hx;rw[Cq0,List.pairwise_cons];refine⟨fun y hy=>?_,List.pairwise_cons.2 h⟩;rcases Ks.1 hy with rfl|hy
    ·exact hsx
    ·exact List.le_trans hsx (h.1 y hy)
   ·rw[Zoq,decide_eq_true_eq]at hx;rw[Cq1,List.pairwise_cons];refine⟨fun y hy=>?_,Zhw h.2⟩;rcases Zi1.1 hy with rfl|hy
    ·exact List.le_of_lt hx
    ·exact h.1 y hy
def Zjb{s:Y}:∀{l:U Y},l.Nodup->s∉l->(Zdp l s).Nodup
 | [],_,_=>by simp[Zdp]
 | x::l,h,hs=>by
   unfold Zdp;rw[List.nodup_cons]at h;rw[Ks,not_or]at hs;cases Zdu x s
   ·rw[Cq0,List.nodup_cons,Ks,not_or,List.nodup_cons];exact⟨hs,h⟩
   ·rw[Cq1,List.nodup_cons];exact⟨fun hm=>(Zi1.1 hm).elim (fun e=>hs.1 e.symm) h.1,Zjb h.2 hs.2⟩
def ZaO:∀(l:U Evt)(o:U Y),o.Pairwise leS->o.Nodup->(Qf l o).Pairwise leS/\(Qf l o).Nodup
 | [],o,h1,h2=>⟨h1,h2⟩
 | e::l,o,h1,h2=>by
   show(Qf l (Zdn o e.2 e.1)).Pairwise leS/\(Qf l (Zdn o e.2 e.1)).Nodup;unfold Zdn;by_cases h:e.1∈e.2\/e.1∈o
   ·rw[if_pos h];exact ZaO l o h1 h2
   ·rw[if_neg h];exact ZaO l _ (Zhw h1) (Zjb h2 fun z=>h (.inr z))
def Zot(m:MB):(ZaK m).Pairwise leS:=by
 unfold ZaK ZhN;refine List.Pairwise.map _ (fun a b h=>?_) (List.pairwise_mergeSort ZlU ZlV _)
 simpa[leS]using h
def ZuT(m:MB):(ZaK m).Perm (m.map (·.1)):=by
 unfold ZaK ZhN;refine((List.mergeSort_perm _ _).map _).trans ?_;unfold kbs;rw[List.map_map];refine List.Perm.of_eq (List.map_congr_left fun p _=>?_)
 rfl
def Zrg(l:U Evt):ZaK (Xp l [])=Qf l []:=by
 obtain⟨k1,k2,_⟩:=ZbX l [] List.nodup_nil;obtain⟨p1,p2⟩:=ZaO l [] List.Pairwise.nil List.nodup_nil;refine List.Perm.eq_of_pairwise (fun a b _ _ h1 h2=>ZxE h1 h2) (Zot _) p1 ?_;refine(ZuT _).trans ((List.perm_ext_iff_of_nodup k1 p2).2 fun x=>?_);rw[k2,ZlQ];simp
def ZrB{s:Y}(h:Qb s=true):s.size<=8:=by
 unfold Qb at h;simp only[Ba0,decide_eq_true_eq]at h;exact h.1.1.2
def Zvz:∀n p,(pre p).length<=n->(pre p).all Wn=true->∀B,∀e∈QD p B,Qb e.1=true:=by
 intro n
 induction n with
 | zero=>intro p hp;have:=Xi p;omega
 | succ n ih=>
   intro p hn hs B e he;have sub:∀{k:Part},k∈Yq p->∀B,∀e∈QD k B,Qb e.1=true:=fun hk=>ih _ (by have:=Yr hk;omega) (by rw[Kd]at hs ⊢;exact fun y hy=>hs y (Z4 hk hy))
   have ZLY:∀x,(pre (.ex x)).all Wn=true->∀s∈nmE x,Qb s=true:=fun x hx s hm=>by
    unfold nmE at hm;obtain⟨y,hy,hm⟩:=QP.1 hm;cases y with
    | ex y=>
      have hy2:K6 y=true:=Kd.1 hx _ hy;cases h2:y.op==2<;>simp only[nm1,h2,Cq1,Cq0]at hm
      ·cases hm
      ·rw[G9.1 hm];have h2':y.op=2:=by simpa using h2
       unfold K6 at hy2;rw[h2']at hy2;simp only[Int.reduceBEq,Cq1,Cq0,Ba0]at hy2;exact hy2.1.1
    | pr y=>cases hm
    | cl y=>cases hm
   cases p with
   | ex x=>
     rw[QD]at he;obtain⟨s,hm,rfl⟩:=Gs.1 he;exact ZLY x hs s hm
   | pr t=>
     rw[ZnC]at he;rcases G8.1 he with he|he
     ·rcases G8.1 he with he|he
      ·by_cases ht:t.text=E0
       ·rw[if_pos ht]at he;cases he
       ·rw[if_neg ht]at he;rw[G9.1 he];have hT:ZbA t=true:=Kd.1 hs _ (Yo _);unfold ZbA at hT;rw[Ba0]at hT;have h2:=hT.2;cases h:((t.op==2)||(t.op==6))||(t.op==8)<;>rw[h]at h2<;>simp only[Cq1,Cq0,decide_eq_true_eq]at h2
        ·exact absurd h2 ht
        ·exact h2
      ·obtain⟨s,hm,rfl⟩:=Gs.1 he;obtain⟨a,ha,hm⟩:=QP.1 hm;exact ZLY a (by rw[Kd]at hs ⊢;exact fun y hy=>hs y (Z4 (JF ha) hy)) s hm
     ·rcases G8.1 he with he|he
      ·obtain⟨d,hd,he⟩:=QP.1 he;exact sub (Y5 hd) _ e he
      ·obtain⟨d,hd,he⟩:=QP.1 he;exact sub (XC hd) _ e he
   | cl c=>
     rw[Zj8]at he;rcases G8.1 he with he|he
     ·obtain⟨d,hd,he⟩:=QP.1 he;exact sub (YN hd) _ e he
     ·obtain⟨d,hd,he⟩:=QP.1 he;exact sub (XU hd) _ e he
def Zo1{t:Term}(hs:(pre (.pr t)).all Wn=true)(hn:(pre (.pr t)).length<=60):Zgo (Xp (QD (.pr t) []) [])=true:=by
 obtain⟨k1,k2,k3⟩:=ZbX (QD (.pr t) []) [] List.nodup_nil;have hl:=ZfH (.pr t) [];unfold Zgo;rw[Ba0,Ba0,decide_eq_true_eq,decide_eq_true_eq,Kd];refine⟨⟨k1,fun p hp=>?_⟩,by simp only[List.length_nil]at k3;omega⟩;have:=(k2 p.1).1 (Gi hp);simp only[List.map_nil,Jx,false_or]at this;obtain⟨e,he,h1,_⟩:=this;have:=ZrB (Zvz _ _ V0 hs [] e he);rw[<-h1]at this;exact decide_eq_true GZ
def Zjw(t:Term):U Y:=Qf (QD (.pr t) []) []
end
end Go.Proofs.YtbnepjakjmnadaaGreat
end
end
section
noncomputable section
namespace Go.ZY
section
variable{P:GQ}{W:GS}{E:Type}
def Znl(P:GQ)(T:U J)(t:J):Z:=
 match P.underlying t with
 | some .bool=>true
 | some (.int _)=>true
 | some .string=>true
 | some (.slice e)=>T.contains e&&Nat.ble 1 (P.cellsOf e)
 | some (.struct fs)=>fs.toList.all (fun x=>T.contains x.type)&&Za4 P fs.toList 0 (P.cellsOf t)
 | _=>false
def ZRA{enc:J×N->E}{T:U J}(hT:T.all (Znl P T)=true):∀(fuel:Nat)(t:J)(cs:U N)(d:DataW E)(ps:U MemPlace),T.contains t=true->DataW.trod enc P W 0 (fun _=>true) true fuel t cs=some (d,ps)->Zmu P W t cs d:=by
 intro fuel
 induction fuel with
 | zero=>intro t cs d ps _ h;unfold DataW.trod at h;cases h
 | succ fuel ih=>
   intro t cs d ps hg h;have hg:Znl P T t=true:=(Kd.1 hT) t (Gu.1 hg);unfold Znl at hg;unfold DataW.trod at h;cases hu:P.underlying t with
   | none=>rw[hu]at hg;cases hg
   | some u=>
     rw[hu]at hg h;cases u with
     | bool=>
       split at h<;>try (first | (cases h;done) | (have hx:=‹some TypeDesc.bool=some _›;cases hx;done))
       cases h;exact Zdb rfl fun h=>.bool hu
     | int k=>
       split at h<;>try (first | (cases h;done) | (have hx:=‹some (TypeDesc.int k)=some _›;cases hx;done))
       rename_i hk;cases hk;split at h
       ·rename_i hw;cases h;obtain⟨rfl,hw⟩:=hw;exact Zdb rfl fun h=>.int hu hw
       ·cases h
     | string=>
       split at h<;>try (first | (cases h;done) | (have hx:=‹some TypeDesc.string=some _›;cases hx;done))
       split at h
       ·rename_i hw;cases h;exact Zdb rfl fun h=>.string hu hw
       ·cases h
     | slice e=>
       rw[Ba0]at hg;have hsz:=Nl0 hg.2;split at h<;>try (first | (cases h;done) | (have hx:=‹some (TypeDesc.slice e)=some _›;cases hx;done))
       ·cases h;exact Zdb rfl fun h=>.nil hu
       ·rename_i e' a len cap he;cases he;dsimp only at h;split at h
        ·rename_i hc;obtain⟨-,hlc,hcm⟩:=hc;rw[Option.bind_eq_some_iff]at h;obtain⟨elems,e1,h⟩:=h;rw[if_pos rfl,Option.map_eq_some_iff]at h;obtain⟨rest,e2,h⟩:=h;cases h;obtain⟨l1,g1⟩:=ZeX e1;obtain⟨l2,g2⟩:=ZeX e2;rw[List.length_range]at l1 l2;by_cases hcap:cap=0
         ·subst hcap;have hlen:len=0:=GZ
          subst hlen;cases elems with
          | cons _ _=>simp at l1
          | nil=>
            cases rest with
            | cons _ _=>simp at l2
            | nil=>
              intro ρ h hr hn;exact⟨ρ,h,_,Ren.le_refl ρ,Grow.refl h,hr,hn,LR.single (.UC a),.empty hu⟩
         ·have hel:∀i,i<len->∃cs x,W.cells? 0 (a.add (i*P.cellsOf e)) (P.cellsOf e)=some cs/\DataW.trod enc P W 0 (fun _=>true) true fuel e cs=some x/\elems[i]? =some x:=by
           intro i hi;have hx:i<elems.length:=GZ
           have:=g1 i i elems[i] (by simp[hi]) (by simp[hx]);rw[Option.bind_eq_some_iff]at this;obtain⟨cs,q1,q2⟩:=this;exact⟨cs,_,q1,q2,by simp[hx]⟩
          have h0:∃cs,W.cells? 0 a (P.cellsOf e)=some cs:=by
           have ha:a.add (0*P.cellsOf e)=a:=by rw[Nat.zero_mul];unfold Addr.add;rw[if_pos rfl]
           rcases Nat.eq_zero_or_pos len with hl|hl
           ·subst hl;have hx:0<rest.length:=GZ
            have:=g2 0 0 rest[0] (by rw[List.getElem?_range GZ]) (by simp[hx]);rw[Option.bind_eq_some_iff]at this;obtain⟨cs,q1,q2⟩:=this;rw[Nat.add_zero,ha]at q1;exact⟨cs,q1⟩
           ·obtain⟨cs,_,q,_⟩:=hel 0 hl;rw[ha]at q;exact⟨cs,q⟩
          have hcs:∀i,i<len->W.cells? 0 (a.add (i*P.cellsOf e)) (P.cellsOf e)=some ((W.cells? 0 (a.add (i*P.cellsOf e)) (P.cellsOf e)).getD []):=by
           intro i hi;obtain⟨cs,_,q,_⟩:=hel i hi;rw[q];rfl
          generalize ZQZ:(fun i=>(W.cells? 0 (a.add (i*P.cellsOf e)) (P.cellsOf e)).getD [])=css;have hcs:∀i,i<len->W.cells? 0 (a.add (i*P.cellsOf e)) (P.cellsOf e)=some (css i):=fun i hi=>by rw[<-ZQZ];exact hcs i hi
          obtain⟨hsp,c,el,fz,hb,hlim,hcell⟩:=Zsp hsz h0 hcs
          have hlg:∀i y,((List.range len).map fun i=>(e,css i,((elems[i]?).map (·.1)).getD .nil))[i]? =some y->i<len/\y=(e,css i,((elems[i]?).map (·.1)).getD .nil):=by
           intro i y hy;rw[GG]at hy;rcases Gj i len with q|q
           ·rw[List.getElem?_range q]at hy;exact⟨q,(Oi0 hy).symm⟩
           ·rw[G7 (by simpa using q)]at hy;cases hy
          generalize hl:(List.range len).map (fun i=>(e,css i,((elems[i]?).map (·.1)).getD .nil))=l at hlg;have hll:l.length=len:=by rw[<-hl];simp
          have hm:l.map (·.2.2)=elems.map (·.1):=by
           apply List.ext_getElem?;intro i;rw[<-hl,List.map_map,GG,GG];rcases Gj i len with q|q
           ·rw[List.getElem?_range q];obtain⟨_,x,_,_,q2⟩:=hel i q;simp[q2]
           ·rw[G7 (by simpa using q),G7 GZ];rfl
          have hlE:∀x∈l,Zmu P W x.1 x.2.1 x.2.2:=by
           intro x hx;obtain⟨i,hi⟩:=Gy hx;obtain⟨hi2,rfl⟩:=hlg i x hi;obtain⟨cs,y,q1,q2,q3⟩:=hel i hi2;rw[hcs i hi2]at q1;cases q1;rw[q3];exact ih e _ _ y.2 hg.1 q2
          intro ρ h hr hn;obtain⟨ρ1,h1,els,p1,p2,p3,p4,p5,p6,p7⟩:=ZnJ l hlE ρ h hr hn
          have hec:∀(i:Nat)(x:U N×DataW E),els[i]? =some x->i<len/\LR ρ1 x.1 (css i)/\x.1.length=P.cellsOf e/\AR P h1 e x.1 x.2:=by
           intro i x hx;have hi:i<els.length:=(Li0 hx).1;have hi2:i<l.length:=GZ
           obtain⟨q,hy⟩:=hlg i l[i] (by simp[hi2]);have:=p7 i x l[i] hx (by simp[hi2]);rw[hy]at this;refine⟨q,this.1,?_,this.2⟩;rw[this.1.1];exact(Zg0 (hcs i q) hsz).1
          have hsize:∀x∈els,x.1.length=P.cellsOf e:=fun x hx=>by
           obtain⟨i,hi⟩:=Gy hx;exact(hec i x hi).2.2.1
          obtain⟨r1,r2,r3,r4⟩:=ZBV (cs:=els.flatMap (·.1)) p3 p4 hb (by rw[Zfb els hsize,p6,hll];exact hlim) (by
           intro k v v' k1 k2
           have hk:k<els.length*P.cellsOf e:=by
            rw[<-Zfb els hsize];exact(Li0 k1).1
           have hd:k / P.cellsOf e*P.cellsOf e+k % P.cellsOf e=k:=by rw[Nat.mul_comm];exact Nat.div_add_mod _ _
           have hj:k % P.cellsOf e<P.cellsOf e:=Nat.mod_lt _ hsz;rw[<-hd,flat_get els hsize _ _ hj,Option.bind_eq_some_iff]at k1;obtain⟨x,x1,x2⟩:=k1;obtain⟨y1,y2,_,_⟩:=hec _ x x1;obtain⟨u,z1,z2⟩:=hcell _ _ y1 hj;rw[hd,k2]at z1;cases z1;exact y2.2 _ _ _ x2 z2)
          refine⟨_,_,[.slice (some ⟨h1.size,0,none⟩) els.length (2*cap)],Ren.le_trans p1 r1,p2.trans r2,r3,r4,LR.single ?_,?_⟩
          ·obtain⟨blk,off,spot⟩:=a;dsimp only at hsp;subst hsp;have ZQS:els.length=len:=GZ
           rw[ZQS];exact VR.slice 0 len (2*cap) cap (Ren.add_same _ _ _ _) ⟨Kx hcm (by decide),by rw[if_pos GZ];omega⟩
          ·rw[<-hm,<-p5]
           exact .slice hu GZ hcm (by rw[H.Qa,if_pos rfl]) hsize fun x hx=>by
            obtain⟨i,hi⟩:=Gy hx;exact((hec i x hi).2.2.2).grow r2
        ·cases h
     | struct fs=>
       rw[Ba0]at hg;dsimp only at h;split at h
       ·rename_i hlen;rw[Option.map_eq_some_iff]at h;obtain⟨xs,e1,h⟩:=h;cases h;obtain⟨l1,g1⟩:=ZeX e1
        have hlg:∀(i:Nat)(y:J×U N×DataW E),(List.zipWith (fun(f:Field)(x:DataW E×U MemPlace)=>(f.type,(cs.drop f.offset).take (P.cellsOf f.type),x.1)) fs.toList xs)[i]? =some y ->
         ∃(f:Field) (x:DataW E×U MemPlace),fs.toList[i]? =some f/\xs[i]? =some x/\y=(f.type,(cs.drop f.offset).take (P.cellsOf f.type),x.1):=by
         intro i y hy;rw[List.getElem?_zipWith]at hy;split at hy
         ·rename_i f x hf hx;exact⟨f,x,hf,hx,(Oi0 hy).symm⟩
         ·cases hy
        generalize hl:List.zipWith (fun(f:Field)(x:DataW E×U MemPlace)=>(f.type,(cs.drop f.offset).take (P.cellsOf f.type),x.1)) fs.toList xs=l at hlg;have hll:l.length=fs.toList.length:=by rw[<-hl,List.length_zipWith,l1];exact Nat.min_self _
        have hget:∀(i:Nat)(f:Field),fs.toList[i]? =some f->∃x,xs[i]? =some x/\l[i]? =some (f.type,(cs.drop f.offset).take (P.cellsOf f.type),x.1)/\DataW.trod enc P W 0 (fun _=>true) true fuel f.type ((cs.drop f.offset).take (P.cellsOf f.type))=some x:=by
         intro i f hf;have hi:i<xs.length:=by rw[l1];exact(Li0 hf).1
         have hx:xs[i]? =some xs[i]:=by simp[hi]
         refine⟨xs[i],hx,?_,g1 i f _ hf hx⟩;rw[<-hl,List.getElem?_zipWith,hf,hx]
        have hm:l.map (·.2.2)=xs.map (·.1):=by
         apply List.ext_getElem?;intro i;rw[GG,GG];cases hf:fs.toList[i]? with
         | some f=>
           obtain⟨x,q1,q2,_⟩:=hget i f hf;rw[q1,q2];rfl
         | none=>
           have:=List.getElem?_eq_none_iff.1 hf;rw[G7 GZ,G7 GZ];rfl
        have hlE:∀x∈l,Zmu P W x.1 x.2.1 x.2.2:=by
         intro y hy;obtain⟨i,hi⟩:=Gy hy;obtain⟨f,x,hf,hx,rfl⟩:=hlg i y hi;have hgf:=(Kd.1 hg.1) f (GM hf);exact ih f.type _ _ x.2 hgf (g1 i f x hf hx)
        have hseg:cs=l.flatMap (·.2.1):=by
         have:=Zvt (P:=P) (cs:=cs) fs.toList 0 (by rw[hlen];exact hg.2);rw[List.drop_zero]at this
         have h3:l.map (·.2.1)=fs.toList.map fun(f:Field)=>(cs.drop f.offset).take (P.cellsOf f.type):=by
          apply List.ext_getElem?;intro i;rw[GG,GG];cases hf:fs.toList[i]? with
          | some f=>
            obtain⟨x,q1,q2,_⟩:=hget i f hf;rw[q2];rfl
          | none=>
            have:=List.getElem?_eq_none_iff.1 hf;rw[G7 GZ];rfl
         rw[List.flatMap_def,h3,<-List.flatMap_def];exact this
        intro ρ h hr hn;obtain⟨ρ1,h1,els,p1,p2,p3,p4,p5,p6,p7⟩:=ZnJ l hlE ρ h hr hn
        have hlr:LR ρ1 (els.flatMap (·.1)) cs:=by
         rw[hseg];exact LR.flat els l p6 fun i x y e1 e2=>(p7 i x y e1 e2).1
        refine⟨ρ1,h1,els.flatMap (·.1),p1,p2,p3,p4,hlr,?_⟩;rw[<-hm,<-p5];refine .struct hu GZ (fun i x f hx hf=>?_) fun i x f hx hf=>?_
        ·obtain⟨y,q1,q2,_⟩:=hget i f hf;rw[(p7 i x _ hx q2).1.1];have hmem:Za4 P fs.toList 0 cs.length=true:=by rw[hlen];exact hg.2
         obtain⟨c1,c2⟩:=Zsz _ _ _ hmem;have c3:=c2 i f hf;have hi:=(Li0 hf).1
         have c4:((fs.toList.take i).map fun f=>P.cellsOf f.type).sum+P.cellsOf f.type+((fs.toList.drop (i+1)).map fun f=>P.cellsOf f.type).sum=(fs.toList.map fun f=>P.cellsOf f.type).sum:=by
          have:fs.toList=fs.toList.take i++f::fs.toList.drop (i+1):=by
           have h5:fs.toList[i]=f:=(Li0 hf).2;rw[<-h5,List.getElem_cons_drop,List.take_append_drop]
          conv=>rhs;rw[this]
          simp only[List.map_append,Gc,List.sum_append,List.sum_cons];omega
         dsimp only;rw[Gt,GA];omega
        ·obtain⟨y,q1,q2,_⟩:=hget i f hf;exact(p7 i x _ hx q2).2
       ·cases h
     | _=>cases hg
end
section
open Go.Lf
variable{P:GQ}
def Zrm{α:Type}{e:UK α}{V:α->Prop}{E:Type}{h:H}{els:U (U N×DataW E)}{i cap:Nat}(hl:els.length<=cap)(hcap:cap<=maxLen)(hat:h.at i=.row (els.flatMap (·.1)) false 0)(hsz:∀x∈els,x.1.length=e.sz)
 (hel:∀x∈els,∃p y,x.1=e.sh p y/\V y/\∀wm,e.F wm h p y):
 ∃(p:O Addr×Nat) (ys:U α),[Value.slice (some ⟨i,0,none⟩) els.length (2*cap)]=(Y8 e).sh p ys/\(∀y∈ys,V y)/\∀wm,(Y8 e).F wm h p ys:=by
 obtain⟨ys,h1,hv,h2⟩:=Zct (e:=e) els hel;refine⟨(some ⟨i,0,none⟩,2*cap),ys,by show [Value.slice _ _ _]=[Value.slice _ _ _];rw[h1],hv,fun wm=>⟨?_,?_,.inr (.inr ⟨_,_,rfl⟩),.inr ⟨i,0,_,false,0,rfl,hat,.inr rfl,?_,fun k y hk=>?_⟩⟩⟩
 ·rw[h1];exact Kx (Kx hl hcap) (by decide)
 ·rw[h1];omega
 ·rw[h1,J1,Zfb els hsz];exact K1 _
 ·obtain⟨x,p,q1,q2,q3⟩:=h2 k y hk;refine⟨p,?_,q3 wm⟩;rw[J1,Zd6 els hsz q1,q2]
end
end Go.ZY
end
end
section
set_option maxRecDepth 100000
noncomputable section
namespace Go.Proofs.YtbnepjakjmnadaaGreat
open Go.ZY Go.Lf
section
def wfI(n:Int):Prop:=(Lit.int .i64 n).wf=true
inductive ZsY:Zi->Prop
 | mk {x:Zi} (ho:wfI x.op) (hn:wfI x.n) (ht:x.text.size<=maxLen) (hk:∀y∈x.kids,ZsY y):ZsY x
def ZD3(x:Yl):Prop:=x.text.size<=maxLen/\∀s∈x.names,s.size<=maxLen
mutual
inductive Zf0:Term->Prop
 | mk {x:Term} (ho:wfI x.op) (ht:x.text.size<=maxLen) (ha:∀y∈x.args,ZsY y) (hd:∀y∈x.defs,Zdj y) (hk:∀y∈x.kids,Zf0 y):Zf0 x
inductive Zdj:Za->Prop
 | mk {x:Za} (ho:wfI x.form) (ht:x.text.size<=maxLen) (ha:∀y∈x.joins,ZD3 y) (hd:∀y∈x.defs,Zdj y) (hk:∀y∈x.kids,Zf0 y):Zdj x
end
def ZKy:Wj XX.P (Qm .i64) wfI 34:=.int Kq0 Kq0
def ZKz:Wj XX.P (Qm .i64) wfI 28:=.int Kq0 Kq0
def ZGD:Wj XX.P (Qm .i64) wfI 127:=.int Kq0 Kq0
def ZPV:Wj XX.P (Qm .i64) wfI 3:=.int Kq0 Kq0
def ZwS:Wj XX.P Zx (fun s=>s.size<=maxLen) 9:=.str Kq0 Kq0
def ZKx:Wj XX.P (Y8 Zx) (fun l=>∀x∈l,x.size<=maxLen) 22:=.slice Kq0 Kq0 ZwS
def ZGB:Wj XX.P ZL ZD3 136:=⟨by kernel_rfl,fun a=>by
 obtain⟨els,rfl,hl,hel⟩:=a.ZuQ Tryz.underlying136
 match els,hl,hel with
 | [x0,x1],_,hel=>
   obtain⟨p0,y0,e0,v0,f0⟩:=ZwS.2 (hel 0 x0 _ rfl rfl);obtain⟨p1,y1,e1,v1,f1⟩:=ZKx.2 (hel 1 x1 _ rfl rfl);exact⟨p1,⟨y0,y1⟩,by simp only[K2,List.flatMap_nil,e0,e1];rfl,⟨v0,v1⟩,fun wm=>f1 wm⟩⟩
def ZGC:Wj XX.P (Y8 ZL) (fun l=>∀x∈l,ZD3 x) 128:=.slice Kq0 Kq0 ZGB
def ZqV(h:H)(cs:U N){α:Type}(e:UK α)(V:α->Prop):Prop:=∃p x,cs=e.sh p x/\V x/\∀wm,e.F wm h p x
structure ZA4(h:H)(t:TypeId)(cs:List Value):Prop where
 fe:t=36->ZqV h cs Zj ZsY
 fel:t=29->ZqV h cs (Y8 Zj) (fun l=>∀x∈l,ZsY x)
 ft:t=33->ZqV h cs ZB Zf0
 ftl:t=31->ZqV h cs (Y8 ZB) (fun l=>∀x∈l,Zf0 x)
 fc:t=130->ZqV h cs Zc Zdj
 fcl:t=30->ZqV h cs (Y8 Zc) (fun l=>∀x∈l,Zdj x)
def Zw7{h:H}{α:Type}{e:UK α}{V:α->Prop}:ZqV h [GW] (Y8 e) (fun l=>∀x∈l,V x):=⟨(none,0),[],rfl,by simp,fun _=>Sl.nil⟩
def ZnI{h:H}{α:Type}{e:UK α}{V:α->Prop}:ZqV h [.slice (some ⟨0,0,some 0⟩) 0 0] (Y8 e) (fun l=>∀x∈l,V x):=
 ⟨(some ⟨0,0,some 0⟩,0),[],rfl,by simp,fun _=>⟨by simp,by simp,.inr (.inl ⟨rfl,rfl⟩),.inl rfl⟩⟩
def ZGu{E:Type}{h:H}{t:J}{cs:U N}{d:DataW E}(a:AR XX.P h t cs d):ZA4 h t cs:=by
 have no:∀{t:J}{cs:U N},t≠36->t≠29->t≠33->t≠31->t≠130->t≠30->ZA4 h t cs:=fun a b c d e f=>⟨fun x=>absurd x a,fun x=>absurd x b,fun x=>absurd x c,fun x=>absurd x d,fun x=>absurd x e,fun x=>absurd x f⟩
 have u36:=Tryz.underlying36;have u29:=Tryz.underlying29;have u33:=Tryz.underlying33;have u31:=Tryz.underlying31;have Zwy:=Tryz.underlying130;have u30:=Tryz.underlying30
 have ZmO:∀{t:J}{u:TypeDesc},XX.P.underlying t=some u->(∀e,u≠.slice e)->(∀f,u≠.struct f)->∀cs,ZA4 h t cs:=by
  intro t u hu h1 h2 cs;refine no ?_ ?_ ?_ ?_ ?_ ?_<;>(rintro rfl)
  ·rw[show XX.P.underlying 36=_ from u36]at hu;cases hu;exact h2 _ rfl
  ·rw[show XX.P.underlying 29=_ from u29]at hu;cases hu;exact h1 _ rfl
  ·rw[show XX.P.underlying 33=_ from u33]at hu;cases hu;exact h2 _ rfl
  ·rw[show XX.P.underlying 31=_ from u31]at hu;cases hu;exact h1 _ rfl
  ·rw[show XX.P.underlying 130=_ from Zwy]at hu;cases hu;exact h2 _ rfl
  ·rw[show XX.P.underlying 30=_ from u30]at hu;cases hu;exact h1 _ rfl
 induction a with
 | bool hu=>exact ZmO hu (fun _=>by simp) (fun _=>by simp) _
 | int hu _=>exact ZmO hu (fun _=>by simp) (fun _=>by simp) _
 | string hu _=>exact ZmO hu (fun _=>by simp) (fun _=>by simp) _
 | nil hu=>
   refine⟨?_,fun _=>Zw7,?_,fun _=>Zw7,?_,fun _=>Zw7⟩
   ·rintro rfl;rw[show XX.P.underlying 36=_ from u36]at hu;cases hu
   ·rintro rfl;rw[show XX.P.underlying 33=_ from u33]at hu;cases hu
   ·rintro rfl;rw[show XX.P.underlying 130=_ from Zwy]at hu;cases hu
 | empty hu=>
   refine⟨?_,fun _=>ZnI,?_,fun _=>ZnI,?_,fun _=>ZnI⟩
   ·rintro rfl;rw[show XX.P.underlying 36=_ from u36]at hu;cases hu
   ·rintro rfl;rw[show XX.P.underlying 33=_ from u33]at hu;cases hu
   ·rintro rfl;rw[show XX.P.underlying 130=_ from Zwy]at hu;cases hu
 | slice hu hl hc hat hsz _ ih=>
   refine⟨?_,?_,?_,?_,?_,?_⟩
   ·rintro rfl;rw[show XX.P.underlying 36=_ from u36]at hu;cases hu
   ·rintro rfl;rw[show XX.P.underlying 29=_ from u29]at hu;cases hu;exact Zrm hl hc hat (fun x hx=>(hsz x hx).trans Kq0) fun x hx=>(ih x hx).fe rfl
   ·rintro rfl;rw[show XX.P.underlying 33=_ from u33]at hu;cases hu
   ·rintro rfl;rw[show XX.P.underlying 31=_ from u31]at hu;cases hu;exact Zrm hl hc hat (fun x hx=>(hsz x hx).trans Kq0) fun x hx=>(ih x hx).ft rfl
   ·rintro rfl;rw[show XX.P.underlying 130=_ from Zwy]at hu;cases hu
   ·rintro rfl;rw[show XX.P.underlying 30=_ from u30]at hu;cases hu;exact Zrm hl hc hat (fun x hx=>(hsz x hx).trans Kq0) fun x hx=>(ih x hx).fc rfl
 | @struct t fs els hu hl hsz hel ih=>
   refine⟨?_,?_,?_,?_,?_,?_⟩
   ·rintro rfl;rw[show XX.P.underlying 36=_ from u36]at hu;cases hu
    match els,hl,hel,ih with
    | [x0,x1,x2,x3],_,hel,ih=>
      obtain⟨p0,y0,e0,v0,f0⟩:=ZKy.2 (hel 0 x0 _ rfl rfl);obtain⟨p1,y1,e1,v1,f1⟩:=ZPV.2 (hel 1 x1 _ rfl rfl);obtain⟨p2,y2,e2,v2,f2⟩:=ZwS.2 (hel 2 x2 _ rfl rfl);obtain⟨p3,y3,e3,v3,f3⟩:=(ih 3 x3 _ rfl rfl).fel rfl;exact⟨p3,⟨y0,y1,y2,y3⟩,by simp only[K2,List.flatMap_nil,e0,e1,e2,e3];rfl,.mk v0 v1 v2 v3,fun wm=>YS.2 (f3 wm)⟩
   ·rintro rfl;rw[show XX.P.underlying 29=_ from u29]at hu;cases hu
   ·rintro rfl;rw[show XX.P.underlying 33=_ from u33]at hu;cases hu
    match els,hl,hel,ih with
    | [x0,x1,x2,x3,x4],_,hel,ih=>
      obtain⟨p0,y0,e0,v0,f0⟩:=ZKz.2 (hel 0 x0 _ rfl rfl);obtain⟨p1,y1,e1,v1,f1⟩:=ZwS.2 (hel 1 x1 _ rfl rfl);obtain⟨p2,y2,e2,v2,f2⟩:=(ih 2 x2 _ rfl rfl).fel rfl;obtain⟨p3,y3,e3,v3,f3⟩:=(ih 3 x3 _ rfl rfl).fcl rfl;obtain⟨p4,y4,e4,v4,f4⟩:=(ih 4 x4 _ rfl rfl).ftl rfl;exact⟨(p2,p3,p4),⟨y0,y1,y2,y3,y4⟩,by simp only[K2,List.flatMap_nil,e0,e1,e2,e3,e4];rfl,.mk v0 v1 v2 v3 v4,fun wm=>QC.2 ⟨f2 wm,f3 wm,f4 wm⟩⟩
   ·rintro rfl;rw[show XX.P.underlying 31=_ from u31]at hu;cases hu
   ·rintro rfl;rw[show XX.P.underlying 130=_ from Zwy]at hu;cases hu
    match els,hl,hel,ih with
    | [x0,x1,x2,x3,x4],_,hel,ih=>
      obtain⟨p0,y0,e0,v0,f0⟩:=ZGD.2 (hel 0 x0 _ rfl rfl);obtain⟨p1,y1,e1,v1,f1⟩:=ZwS.2 (hel 1 x1 _ rfl rfl);obtain⟨p2,y2,e2,v2,f2⟩:=ZGC.2 (hel 2 x2 _ rfl rfl);obtain⟨p3,y3,e3,v3,f3⟩:=(ih 3 x3 _ rfl rfl).fcl rfl;obtain⟨p4,y4,e4,v4,f4⟩:=(ih 4 x4 _ rfl rfl).ftl rfl;exact⟨(p2,p3,p4),⟨y0,y1,y2,y3,y4⟩,by simp only[K2,List.flatMap_nil,e0,e1,e2,e3,e4];rfl,.mk v0 v1 v2 v3 v4,fun wm=>ZC.2 ⟨f2 wm,f3 wm,f4 wm⟩⟩
   ·rintro rfl;rw[show XX.P.underlying 30=_ from u30]at hu;cases hu
def ZKw:Wj XX.P ZB Zf0 33:=⟨by kernel_rfl,fun a=>(ZGu a).ft rfl⟩
def ZEr:U J:=[33,28,9,29,30,31,36,34,3,130,127,128,136,22]
def ZwA:ZEr.all (Znl XX.P ZEr)=true:=Kq0
end
section
def ZcU:maxLen=BB:=by decide
def ZGQ{wm:Nat}{h:H}{p:SlP}{x:Zi}(s:ZcD wm h p x):ZsY x->Lo (.ex x):=by
 induction s with
 | @mk p x ps hk _ ih=>
   intro v;obtain⟨_,_,ht,hv⟩:=v;intro y hy;rw[pre_eq]at hy;rcases Ks.1 hy with rfl|hy
   ·exact⟨by rw[<-ZcU];exact ht,hk.max⟩
   ·obtain⟨k,hkk,hy⟩:=QP.1 hy;obtain⟨z,hz,rfl⟩:=Gs.1 hkk;obtain⟨i,hi⟩:=Gy hz;exact ih i z hi (hv z hz) y hy
def ZCa{wm:Nat}{h:H}{a:O Addr}{c:Nat}{l:U Zi}(s:Sl Zj wm h a c l)(v:∀x∈l,ZsY x):∀x∈l,Lo (.ex x):=fun x hx=>by
 obtain⟨ps,_,hF⟩:=Sl.iff.1 s;obtain⟨i,hi⟩:=Gy hx;exact ZGQ (hF i x hi) (v x hx)
def ZB9{wm:Nat}{h:H}{a:O Addr}{c:Nat}{l:U Yl}(s:Sl ZL wm h a c l)(v:∀x∈l,ZD3 x):∀m∈l,m.text.size<=BB/\m.names.length<=BB/\∀s∈m.names,s.size<=BB:=fun m hm=>by
 obtain⟨ps,_,hF⟩:=Sl.iff.1 s;obtain⟨i,hi⟩:=Gy hm;have f:Sl Zx wm h (ps i).1 (ps i).2 m.names:=hF i m hi;have:=v m hm;rw[<-ZcU];exact⟨this.1,f.max,this.2⟩
def ZxC{x:Term}(h1:x.text.size<=BB)(h2:x.args.length<=BB)(h3:x.defs.length<=BB)(h4:x.kids.length<=BB)(a:∀y∈x.args,Lo (.ex y))(b:∀y∈x.defs,Lo (.cl y))(c:∀y∈x.kids,Lo (.pr y)):Lo (.pr x):=by
 intro y hy;rw[pre_eq]at hy;rcases Ks.1 hy with rfl|hy
 ·exact⟨h1,h2,h3,h4⟩
 ·obtain⟨k,hk,hy⟩:=QP.1 hy;simp only[Yq,G8,Gs]at hk;rcases hk with(⟨z,hz,rfl⟩|⟨z,hz,rfl⟩) | ⟨z,hz,rfl⟩
  ·exact a z hz y hy
  ·exact b z hz y hy
  ·exact c z hz y hy
def ZxD{x:Za}(h1:x.text.size<=BB)(h2:x.joins.length<=BB)(h3:x.defs.length<=BB)(h4:x.kids.length<=BB)(a:∀m∈x.joins,m.text.size<=BB/\m.names.length<=BB/\∀s∈m.names,s.size<=BB)(b:∀y∈x.defs,Lo (.cl y))(c:∀y∈x.kids,Lo (.pr y)):Lo (.cl x):=by
 intro y hy;rw[pre_eq]at hy;rcases Ks.1 hy with rfl|hy
 ·exact⟨h1,h2,h3,h4,a⟩
 ·obtain⟨k,hk,hy⟩:=QP.1 hy;simp only[Yq,G8,Gs]at hk;rcases hk with⟨z,hz,rfl⟩|⟨z,hz,rfl⟩
  ·exact b z hz y hy
  ·exact c z hz y hy
def ZB8{wm:Nat}{h:H}{p:TmP}{x:Term}(s:Jp wm h p x):Zf0 x->Lo (.pr x):=
 Jp.rec (motive_1:=fun p x _=>Zf0 x->Lo (.pr x)) (motive_2:=fun p x _=>Zdj x->Lo (.cl x))
  (fun{p x} pd pk ha hd hk _ _ i1 i2 v=>by
    obtain⟨_,ht,va,vd,vk⟩:=v
    exact ZxC (by rw[<-ZcU];exact ht) ha.max hd.max hk.max (ZCa ha va)
     (fun y hy=>by obtain⟨i,hi⟩:=Gy hy;exact i1 i y hi (vd y hy)) (fun y hy=>by obtain⟨i,hi⟩:=Gy hy;exact i2 i y hi (vk y hy)))
  (fun{p x} pd pk ha hd hk _ _ i1 i2 v=>by
    obtain⟨_,ht,va,vd,vk⟩:=v
    exact ZxD (by rw[<-ZcU];exact ht) ha.max hd.max hk.max (ZB9 ha va)
     (fun y hy=>by obtain⟨i,hi⟩:=Gy hy;exact i1 i y hi (vd y hy)) (fun y hy=>by obtain⟨i,hi⟩:=Gy hy;exact i2 i y hi (vk y hy))) s
def ZtS(t:Term):Nat:=10000000000000000000+(pre (.pr t)).length
end
section
def Zxo{F:Nat}(l r:U Y)(hF:l.length<F)(hl:l.length<4000000000000000000):Zns F l r=some (decide (l=r)):=by
 unfold Zns;by_cases hne:l.length=r.length
 ·have:((l.length:Int) !=(r.length:Int))=false:=by rw[hne];exact ZB5 _
  rw[this,Cq0]
  have:=ZeY (body:=ZjU l r) (r1:=some false) (r2:=some true) (fun k:Nat=>(k:Int)) (fun k=>!decide (l[k]? =r[k]?)) (n:=l.length) hF
   (fun k hk next=>by
     simp only[ZjU,ZQ hk,Cq1,Zgv hk,Zgv (show k<r.length by omega),Bq0,ZGg (show k<4611686018427387904 by omega)];rw[Gl hk,Gl (show k<r.length by omega)];simp)
   (fun next=>by simp[ZjU])
  have e:(List.range l.length).any (fun k=>!decide (l[k]? =r[k]?))= !decide (l=r):=by
   rw[Bool.eq_iff_iff,GI,Bool.not_eq_true',decide_eq_false_iff_not]
   constructor
   ·rintro⟨k,_,hk⟩ e;rw[e]at hk;simp at hk
   ·intro hne2;by_cases hz:∃k,k<l.length/\l[k]?≠r[k]?
    ·obtain⟨k,hk,h⟩:=hz;exact⟨k,List.mem_range.2 hk,by simpa using h⟩
    ·refine absurd (List.ext_getElem? fun k=>?_) hne2;by_cases hk:k<l.length
     ·exact Decidable.byContradiction fun h=>hz ⟨k,hk,h⟩
     ·rw[G7 GZ,G7 GZ]
  refine this.trans ?_;rw[e];cases decide (l=r)<;>rfl
 ·have:((l.length:Int) !=(r.length:Int))=true:=by simpa using fun h=>hne GZ
  rw[this,Cq1,decide_eq_false fun h=>hne (congrArg _ h)]
def ZdU{F:Nat}(l:U Y)(hF:l.length<F)(hl:l.length<4000000000000000000):Zns F l l=some true:=by
 rw[Zxo l l hF hl,decide_eq_true rfl]
def ZkT(t:Term):(Zjw t).length<=(pre (.pr t)).length:=by
 have a:=Zal (QD (.pr t) []) [];have b:=ZfH (.pr t) [];unfold Zjw;simp only[List.length_nil]at a;omega
def Zvo{F:Nat}(hF:10000000000000000000<=F)(t:Term)(hs:Lo (.pr t))(hFp:(pre (.pr t)).length<=F):ZzN F t=some (bif UU AgW (.pr t) then(Zjw t,0) else([],2))/\ZzM F t=some (bif UU AgW (.pr t) then(Zjw t,0) else([],2)):=by
 unfold ZzN ZzM;rw[ZnO hF t hs hFp,Zul hF t hs hFp];cases h:UU AgW (.pr t)
 ·exact⟨rfl,rfl⟩
 ·obtain⟨a,b⟩:=Zaz h;simp only[Bq0,Cq1]
  constructor
  ·show((Zvv F t).bind fun m=>bif Zgo m then some (ZaK m,0) else none)=_;rw[(Zr8 hF t a b).1,Bq0,Zo1 a b,Zrg];rfl
  ·show((Zvu F t).bind fun x4=>some (x4,0))=_;rw[Zze hF t a b];rfl
def Zlq{F:Nat}(hF:10000000000000000000<=F)(t:Term)(hs:Lo (.pr t))(hFp:(pre (.pr t)).length<=F):f5L F t=some true:=by
 obtain⟨e1,e2⟩:=Zvo hF t hs hFp;obtain⟨r,e3,e4⟩:=ZAe hF t hs hFp
 have hl:(bif UU AgW (.pr t) then(Zjw t,(0:Int)) else([],2)).1.length<=60:=by
  cases h:UU AgW (.pr t)
  ·exact Gq _
  ·have:=(Zaz h).2;have:=ZkT t;show(Zjw t).length<=60;omega
 have hr:r.1.length<=20000/\r.2.1.length<=20000:=by
  unfold Zvx at e3;rw[ZnO hF t hs hFp]at e3;cases h:UU AgW (.pr t)
  ·rw[h]at e3;cases e3;exact⟨Gq _,Gq _⟩
  ·rw[h]at e3;simp only[Bq0,Cq1]at e3;cases h4:(t.op !=4)
   ·rw[h4]at e3;obtain⟨a,b,c⟩:=ZcP (Zaz h).2 (Zaz h).1 (Yo (.pr t));have e3':((Zlb F t.defs).bind fun x4=>some (x4.1,x4.2,(0:Int)))=some r:=e3;rw[Zkb hF t.defs a b c]at e3';cases e3';have:=ZfL a b c;exact⟨show(QI t.defs).1.length<=20000 by omega,show(QI t.defs).2.length<=20000 by omega⟩
   ·rw[h4]at e3;cases e3;exact⟨Gq _,Gq _⟩
 unfold f5L;rw[e1,e2,e3,e4];simp only[Bq0];generalize (bif UU AgW (.pr t) then(Zjw t,(0:Int)) else([],2))=q at hl;rw[ZdU q.1 GZ GZ,ZdU r.1 GZ GZ,ZdU r.2.1 GZ GZ];simp[gd,ZIP]
def Zlr(t:Term)(hs:Lo (.pr t)):f5L (ZtS t) t=some true:=Zlq (by unfold ZtS;omega) t hs (by unfold ZtS;omega)
end
section
open Go.ChangeShapes Go.WideShapes Go.ChangeAt Go.RowKit Go.ZY Go.Lf
def ZPW:Wj XX.P ZB Zf0 33:=ZKw
def Zvc(H:Type)(enc:J×N->H)(W:GS){v0:N}{d0:DataW H}{p0:U MemPlace}
 (hv0:∃cs,v0=.agg cs)
 (h0:DataW.Trod enc Tryz.prog W 0 (fun _=>true) true 33 v0 d0 p0):
 Calls Tryz.prog 5 #[v0] W fun e W'=>e=.returned (.bool true)/\Below W.heap.size W W':=by
 obtain⟨g0,h0⟩:=h0;obtain⟨c0,rfl⟩:=hv0
 obtain⟨ρ,hp,els,r1,r2,r3,r4⟩:=ZDC (P:=Tryz.prog) (W:=W) [(33,(Value.agg c0).cells.toList,d0)] (fun x hx=>by
  simp only[Ks,Jx,or_false]at hx;subst hx;exact ZRA ZwA g0 33 _ d0 p0 (by decide) h0)
 match els,r3,r4 with
 | [e0],_,r4=>
   obtain⟨q0,a0⟩:=r4 0 e0 _ rfl rfl;obtain⟨m0,x0,z0,w0,F0⟩:=ZPW.2 a0;rw[z0]at q0;have L0:=ZB8 (F0 hp.size) w0;replace F0:=fun wm=>QC.1 (F0 wm)
   obtain⟨ZSE,ZSD,ZSC⟩:=F0 hp.size;have hj:Yx XX _ _:=ZNL (F:=(ZtS x0)) (r:=true) ZSE ZSD ZSC (Zlr x0 L0) hp.size
   have hc:=Zlj (hj ρ #[.agg c0] W V0 r1 ⟨rfl,fun i v v' e1 e2=>by
    match i with
    | 0=>
      simp at e1 e2;subst e1 e2;exact ZBE q0
    | i+1=>simp at e1⟩)
   refine hc.mono fun e w' ⟨ρ',he,_,st⟩=>⟨?_,st.below fun i b d _ _ ho=>by rw[r2 i]at ho;cases ho⟩
   cases he with
   | ret hv=>cases hv;rfl
def ZxG:laidOutB Tryz.prog=true:=Kq0
def ZCb:ownKnob Tryz.prog.godebug=none:=Kq0
def ZrG(os:Os)(started:os.Started)(H:Type)(enc:J×N->H):
 ReturnsInHanded {} Tryz.checked os 5 .any (Rows.termFreesSpec.pre6 enc Tryz.prog Tryz.f5 Rows.termFreesRow.domain false) (Rows.termFreesSpec.post enc Tryz.prog Tryz.f5 false true false false):=by
 refine returnsInHanded_of_change (C:=Tryz.checked) ZCb started Kq0 Tryz.func5
  (ChangeSpec.witness6 (enc:=enc) (C:=Tryz.checked) false ⟨#[],#[.agg #[GX 0,.string ⟨#[]⟩,GW,GW,GW]],[]⟩ 8 Kq0 Kq0 Kq0 Kq0) ?_
 intro W base args ds gs before hval0 hW hcnd _;have hval:∀(j:Nat) t v,Tryz.f5.params[j]? =some t->args[j]? =some v->Value.okWide Tryz.prog W .any base t v:=hval0;have hW':=hW;obtain⟨p,q,hA0,hV,rfl,hfz,hnd⟩:=hW;have hA:DataW.TrodAll enc Tryz.prog W 0 (fun _=>true) true Tryz.f5.params.toList args.toList ds p:=hA0;rw[Tryz.params5]at hA hval;obtain⟨v0,d0,rfl,rfl,h0⟩:=trodAll_one hA;obtain⟨rfl,rfl⟩:=trodVars_none hV;clear hA0 hval0;simp only[Gp]at hW';have k0:=hval 0 33 v0 rfl rfl;have o0:∃cs,v0=.agg cs:=by obtain⟨cs,hcs,_⟩:=okWide_struct Tryz.underlying33 k0;exact⟨cs,hcs⟩
 have hlt:∀x∈p,x.block<W.heap.size:=fun x hx=>hW'.lt x hx
 refine(Zvc H enc W o0 h0).mono fun e W' ⟨he,hg⟩=>?_
 subst he
 exact⟨_,rfl,ZkV (pa:=p) (pv:=[]) hW' (fun _ _ _=>(trodAll_cons_mk (shut_bool Tryz.underlying4 _) trodAll_mk0))
  (fun sp hsp=>trodAll_mk1 (WideElems.Trod_stays ZxG Kq0 (of_decide_eq_true Kq0) h0 (fun x hx=>hg.same (hlt x (hx))) (fun x hx=>hsp x (hx)))) (fun _ _=>rfl) (by simp)
  hg (ok_one Kq0 rfl (okWide_bool_mk Tryz.underlying4 _))⟩
def ZxF:Rows.termFreesRow.holds Tryz.pinned (OpenSpec.ofChange Rows.termFreesSpec):=
 OpenClaim.holds_of_wide 5 Tryz.f5 rfl rfl rfl rfl rfl rfl rfl ⟨rfl,rfl,rfl,rfl,rfl⟩ rfl rfl rfl rfl rfl Kq0 Tryz.func5 Kq0
  (of_decide_eq_true Kq0) (by unfold Func.isWrapper;first | (rw[if_pos (by decide +kernel)];kernel_rfl) | (rw[if_neg (by decide +kernel)];exact⟨rfl,rfl⟩))
  (fun os started H enc _=>ZrG os started H enc)
theorem law_holds:Rows.TermFreesSaid:=ZxF
#print axioms law_holds
end
end Go.Proofs.YtbnepjakjmnadaaGreat
end
end
