/- TermFreePut returns true, whatever the arguments. No condition. -/
import Derived.Test.YtbnepjakjmnadaaGreatFp19
set_option linter.all false
set_option maxHeartbeats 2000000
section
set_option maxRecDepth 100000
noncomputable section
namespace Go.Proofs.YtbnepjakjmnadaaGreat
open Go.Lf
section
def Zjy{l:U Y}{body:Int->(Int->O Z)->O Z}{fin:O Z}(hl:l.length<=100000)(h1:∀(k:Nat) z nx,z∈l->k<l.length->YA l (k:Int)=some z->body (k:Int) nx=nx (XO ((k:Int)+1)))(h0:∀nx,body (l.length:Int) nx=fin){F:Nat}(hF:10000000000000000000<=F):loop F body 0=fin:=by
 refine Yt (body:=body) (fun(k:Nat)(_:Unit)=>(k:Int)) l (fun _ _=>True) (fun _ _=>fin) (F:=F) ?_ ?_ Vg () trivial
 ·intro _ nx _;exact h0 nx
 ·intro k x rest _ nx hx hk hg _ ih;rw[h1 k x nx hx hk hg,Jj Vg];exact ih () trivial
def Zfv{F:Nat}(hF:10000000000000000000<=F){x:Y}{e:Ze}{was is want:U Y}(h:∀y,y∈is↔∃z∈was,y∈Qj (vl [(x,e)] z))(hw:∀y,y∈want↔x∈was/\y∈Qj e)(l1:was.length<=100000)(l2:is.length<=100000)(l3:want.length<=100000)(i j:Int):ZhL F x (was,i) (is,j) want=some true:=by
 have hv:∀z,z≠x->Qj (vl [(x,e)] z)=[z]:=fun z hz=>by rw[Zm0,if_neg hz,Zat]
 have hx:Qj (vl [(x,e)] x)=Qj e:=by rw[Zm0,if_pos rfl]
 unfold ZhL;refine Zjy l1 (fun k z nx hz hk hg=>?_) (fun nx=>?_) hF
 ·simp only[ZuZ,ZR hk,Cq1,hg,Bq0];by_cases e1:z=x
  ·rw[decide_eq_true e1];rfl
  ·have hi:z∈is:=(h z).2 ⟨z,hz,by rw[hv z e1];exact List.mem_singleton_self z⟩;rw[decide_eq_false e1];show((ZdP F is z).bind fun x60=>bif((!false)&&(!x60)) then some false else nx (XO ((k:Int)+1)))=_;rw[has_eq F is z Vg Vg,Bq0,decide_eq_true hi];rfl
 ·simp only[ZuZ,Z6,Cq0];refine Zjy l3 (fun k z nx hz hk hg=>?_) (fun nx=>?_) hF
  ·simp only[ZuY,ZR hk,Cq1,hg,Bq0];obtain⟨hxw,hze⟩:=(hw z).1 hz;have hi:z∈is:=(h z).2 ⟨x,hxw,by rw[hx];exact hze⟩;rw[has_eq F is z Vg Vg,Bq0,decide_eq_true hi];rfl
  ·simp only[ZuY,Z6,Cq0];refine Zjy l2 (fun k z nx hz hk hg=>?_) (fun nx=>?_) hF
   ·simp only[ZuX,ZR hk,Cq1,hg,Bq0];rw[has_eq F want z Vg Vg,Bq0];obtain⟨y,hy,hyz⟩:=(h z).1 hz;by_cases ey:y=x
    ·subst ey;rw[hx]at hyz;rw[decide_eq_true ((hw z).2 ⟨hy,hyz⟩)];rfl
    ·rw[hv y ey,Q2]at hyz;subst hyz;cases decide (z∈want) with
     | true=>rfl
     | false=>
       show((gd (!false && !decide (z=x)) (some z) default).bind fun x90=>(gd (!false && !decide (z=x)) (ZdP F was x90) default).bind fun x93=>bif !false&&(decide (z=x) || !x93) then some false else nx (XO ((k:Int)+1)))=_;rw[decide_eq_false ey];show((ZdP F was z).bind fun x93=>bif((!false)&&(false||(!x93))) then some false else nx (XO ((k:Int)+1)))=_;rw[has_eq F was z Vg Vg,Bq0,decide_eq_true hy];rfl
   ·simp only[ZuX,Z6,Cq0];rfl
def ZnD(l:U Y)(z:Y):z∈puts [] l []↔z∈l:=by
 rw[<-Zv7,Zdi]
 constructor
 ·rintro(h|⟨q,hq,rfl,_⟩)
  ·cases h
  ·obtain⟨s,hs,rfl⟩:=G5.1 hq;exact hs
 ·exact fun h=>.inr ⟨(z,[]),Gl (f:=fun s=>((s,[]):Evt)) h,rfl,fun q=>by cases q⟩
def ZAb{F:Nat}(hF:10000000000000000000<=F)(e:Ze)(h60:(pre (.ex e)).length<=60):ZwI F e=some (puts [] (Qj e) []):=by
 unfold ZwI ZIU;have:=Zfd e;rw[ZsR hF [] (by simp) 60 e [] h60 Vg (by simp only[GQ];omega) F Vg];rfl
def Zua{t:Term}{x:Y}{e:Ze}(hs:Lo (.pr t))(hse:Lo (.ex e))(h:(ZaR t x e).2=0):Ql AgW (.pr t)=true/\Xi x=true/\Ql AgW (.ex e)=true/\Ql AgW (.pr (ZaR t x e).1)=true/\Lo (.pr (ZaR t x e).1)/\
 ((x∈Js t/\bT (Zhd x e) t=false/\(ZaR t x e).1=Zno x e t)\/(x∉Js t/\(ZaR t x e).1=t)):=by
 unfold ZaR at h ⊢;cases h1:Ql AgW (.pr t) with
 | false=>rw[h1]at h;cases h
 | true=>
   cases h2:Xi x with
   | false=>rw[h1,h2]at h;cases h
   | true=>
     cases h3:Ql AgW (.ex e) with
     | false=>rw[h1,h2,h3]at h;cases h
     | true=>
       rw[h1,h2,h3]at h;by_cases hx:x∈Js t
       ·rw[decide_eq_true hx]at h ⊢;cases hb:bT (Zhd x e) t with
        | true=>rw[hb]at h;cases h
        | false=>
          rw[hb]at h;cases hu:Ql AgW (.pr (Zno x e t)) with
          | false=>rw[hu]at h;cases h
          | true=>exact⟨rfl,rfl,rfl,hu,(Znn h1 hs h3 hse hb).lo,.inl ⟨hx,rfl,rfl⟩⟩
       ·rw[decide_eq_false hx];exact⟨rfl,rfl,rfl,h1,hs,.inr ⟨hx,rfl⟩⟩
def ZCU{t:Term}{x:Y}{e:Ze}(hs:Lo (.pr t))(hse:Lo (.ex e))(h:(ZaR t x e).2=0):∀y,y∈Js (ZaR t x e).1↔∃z∈Js t,y∈Qj (vl [(x,e)] z):=by
 obtain⟨h1,h2,h3,h4,h5,h6⟩:=Zua hs hse h;intro y;rcases h6 with⟨a,b,c⟩|⟨a,c⟩
 ·rw[c,Zjs,(Znn h1 hs h3 hse b).fr];simp only[Zjs]
 ·rw[c]
  constructor
  ·intro hy;have hn:y≠x:=fun q=>a (by rw[<-q];exact hy)
   exact⟨y,hy,by rw[Zm0,if_neg hn,Zat];exact List.mem_singleton_self y⟩
  ·rintro⟨z,hz,hy⟩;have hn:z≠x:=fun q=>a (by rw[<-q];exact hz)
   rw[Zm0,if_neg hn,Zat,Q2]at hy;rw[hy];exact hz
def Zyl{t:Term}{x:Y}{e:Ze}:(ZaR t x e).2≠0->(ZaR t x e).1=.mk 0 (⟨#[]⟩:Y) [] [] []:=by
 unfold ZaR;cases Ql AgW (.pr t)&&Xi x&&Ql AgW (.ex e) with
 | false=>exact fun _=>rfl
 | true=>
   cases decide (x∈Js t) with
   | false=>exact fun h=>absurd rfl h
   | true=>
     cases bT (Zhd x e) t with
     | true=>exact fun _=>rfl
     | false=>
       cases Ql AgW (.pr (Zno x e t)) with
       | false=>exact fun _=>rfl
       | true=>exact fun h=>absurd rfl h
def Zh9{F:Nat}(hF:10000000000000000000<=F)(t:Term)(x:Y)(e:Ze)(hs:Lo (.pr t))(hse:Lo (.ex e))(hFt:(pre (.pr t)).length<=F)(hFe:(pre (.ex e)).length<=F):f7L F t x e=some true:=by
 unfold f7L;cases hx:decide ((x.size:Int)>30) with
 | true=>rfl
 | false=>
   have hxs:x.size<=BB:=by have:=of_decide_eq_false hx;unfold BB;omega
   rw[Cq0,ZLk hF t x e hs hxs hse hFt hFe,Bq0];by_cases h0:(ZaR t x e).2=0
   ·obtain⟨h1,h2,h3,h4,h5,_⟩:=Zua hs hse h0;have hln:=(WI h4).2;have e1:=ZAa hF t hs hFt;have e2:=ZAa hF _ h5 Vg;rw[h1]at e1;rw[h4]at e2;have l1:(Js t).length<=60:=by have:=ZdX t;have:=(WI h1).2;omega
    have l2:(Js (ZaR t x e).1).length<=60:=by have:=ZdX (ZaR t x e).1;omega
    have ZnQ:=(WI h3).2;have e3:=ZAb hF e ZnQ;have hf:=ZCU hs hse h0;rw[show((ZaR t x e).2 !=0)=false by rw[h0];rfl,Cq0,e1,e2];simp only[Cq1,Bq0];show(bif(((0:Int) !=0)||((0:Int) !=0)) then some false else(ZdP F (Js t) x).bind fun x95=>(bif x95 then(ZwI F e).bind fun x96=>(ZhL F x (Js t,0) (Js (ZaR t x e).1,0)) x96 else(ZhL F x (Js t,0) (Js (ZaR t x e).1,0)) []))=some true;rw[has_eq F (Js t) x Vg Vg,show(((0:Int) !=0)||((0:Int) !=0))=false from rfl,Cq0,Bq0];by_cases hxf:x∈Js t
    ·rw[decide_eq_true hxf,Cq1,e3,Bq0];refine Zfv hF hf (fun y=>by rw[ZnD];simp[hxf]) Vg Vg ?_ 0 0;have:=Zi9 [] (Qj e) [];have:=Zfd e;simp only[GQ]at *;omega
    ·rw[decide_eq_false hxf,Cq0];exact Zfv hF hf (fun y=>by simp[hxf]) Vg Vg (Gv _) 0 0
   ·rw[show((ZaR t x e).2 !=0)=true by simpa using h0,Cq1,Zyl h0,ZC6 hF];rfl
def Zia(t:Term)(x:Y)(e:Ze)(hs:Lo (.pr t))(hse:Lo (.ex e)):f7L (ZjW t e) t x e=some true:=Zh9 (by unfold ZjW;omega) t x e hs hse (by unfold ZjW;omega) (by unfold ZjW;omega)
end
section
open Go.ChangeShapes Go.WideShapes Go.ChangeAt Go.RowKit Go.ZF Go.Lf
def ZQj:UA XX.P Zu Zgh 33:=ZLc
def rv9:UA XX.P ZW (fun s=>s.size<=maxLen) 9:=.str Tryz.underlying9 Kq0
def ZQi:UA XX.P Zh ZoR 36:=ZLg
def Zwk(H:Type)(enc:J×N->H)(W:V9){v0 v1 v2:N}{d0 d1 d2:DataW H}{p0 p1 p2:U MemPlace}
 (hv0:∃cs,v0=.agg cs)
 (h0:DataW.Trod enc Tryz.prog W 0 (fun _=>true) true 33 v0 d0 p0)
 (hv1:∃s,v1=.string s)
 (h1:DataW.Trod enc Tryz.prog W 0 (fun _=>true) true 9 v1 d1 p1)
 (hv2:∃cs,v2=.agg cs)
 (h2:DataW.Trod enc Tryz.prog W 0 (fun _=>true) true 36 v2 d2 p2):
 Calls Tryz.prog 7 #[v0,v1,v2] W fun e W'=>e=.returned (.bool true)/\Below W.heap.size W W':=by
 obtain⟨g0,h0⟩:=h0;obtain⟨c0,rfl⟩:=hv0;obtain⟨g1,h1⟩:=h1;obtain⟨c1,rfl⟩:=hv1;obtain⟨g2,h2⟩:=h2;obtain⟨c2,rfl⟩:=hv2
 obtain⟨ρ,hp,els,r1,r2,r3,r4⟩:=ZEB (P:=Tryz.prog) (W:=W) [(33,(Value.agg c0).cells.toList,d0),(9,[Value.string c1],d1),(36,(Value.agg c2).cells.toList,d2)] (fun x hx=>by
  simp only[Kd,G9,or_false]at hx;rcases hx with rfl|rfl|rfl
  ·exact ZJu ZiR g0 33 _ d0 p0 (by decide) h0
  ·exact ZJu ZiR g1 9 _ d1 p1 (by decide) h1
  ·exact ZJu ZiR g2 36 _ d2 p2 (by decide) h2)
 match els,r3,r4 with
 | [e0,e1,e2],_,r4=>
   obtain⟨q0,a0⟩:=r4 0 e0 _ rfl rfl;obtain⟨m0,x0,z0,w0,F0⟩:=ZQj.2 a0;rw[z0]at q0;have L0:=ZDa (F0 hp.size) w0;replace F0:=fun wm=>Qu.1 (F0 wm)
   obtain⟨ZTc,ZTb,ZTa⟩:=F0 hp.size;obtain⟨q1,a1⟩:=r4 1 e1 _ rfl rfl;obtain⟨m1,x1,z1,w1,F1⟩:=rv9.2 a1;rw[z1]at q1;obtain⟨q2,a2⟩:=r4 2 e2 _ rfl rfl;obtain⟨m2,x2,z2,w2,F2⟩:=ZQi.2 a2;rw[z2]at q2;have L2:=ZyW (F2 hp.size) w2;replace F2:=fun wm=>YB.1 (F2 wm)
   have hj:Yq XX _ _:=ZN7 (F:=(ZjW x0 x2)) (r:=true) ZTc ZTb ZTa (F2 hp.size) (Zia x0 x1 x2 L0 L2) hp.size
   have hc:=Zly (hj ρ #[.agg c0,.string c1,.agg c2] W Vh r1 ⟨rfl,fun i v v' e1 e2=>by
    match i with
    | 0=>
      simp at e1 e2;subst e1 e2;exact Zt0 q0
    | 1=>
      simp at e1 e2;subst e1 e2;exact ZGU q1
    | 2=>
      simp at e1 e2;subst e1 e2;exact Zt0 q2
    | i+3=>simp at e1⟩)
   refine hc.mono fun e w' ⟨ρ',he,_,st⟩=>⟨?_,st.below fun i b d _ _ ho=>by rw[r2 i]at ho;cases ho⟩
   cases he with
   | ret hv=>cases hv;rfl
def ZjA:laidOutB Tryz.prog=true:=Kq0
def ZDd:ownKnob Tryz.prog.godebug=none:=Kq0
def Zsy(os:Os)(started:os.Started)(H:Type)(enc:J×N->H):
 ReturnsInHanded {} Tryz.checked os 7 .any (Rows.termFreePutSpec.pre6 enc Tryz.prog Tryz.f7 Rows.termFreePutRow.domain false) (Rows.termFreePutSpec.post enc Tryz.prog Tryz.f7 false true false false):=by
 refine returnsInHanded_of_change (C:=Tryz.checked) ZDd started Kq0 Tryz.func7
  (ChangeSpec.witness6 (enc:=enc) (C:=Tryz.checked) false ⟨#[],#[.agg #[Ve 0,.string ⟨#[]⟩,Vd,Vd,Vd],.string ⟨#[]⟩,.agg #[Ve 0,Ve 0,.string ⟨#[]⟩,Vd]],[]⟩ 8 Kq0 Kq0 Kq0 Kq0) ?_
 intro W base args ds gs before hval0 hW hcnd _;have hval:∀(j:Nat) t v,Tryz.f7.params[j]? =some t->args[j]? =some v->Value.okWide Tryz.prog W .any base t v:=hval0;have hW':=hW;obtain⟨p,q,hA0,hV,rfl,hfz,hnd⟩:=hW;have hA:DataW.TrodAll enc Tryz.prog W 0 (fun _=>true) true Tryz.f7.params.toList args.toList ds p:=hA0;rw[Tryz.params7]at hA hval;obtain⟨v0,v1,v2,d0,d1,d2,p0,p1,p2,rfl,rfl,rfl,h0,h1,h2⟩:=trodAll_three hA;obtain⟨rfl,rfl⟩:=trodVars_none hV;clear hA0 hval0;simp only[Gn,Gc]at hW';have k0:=hval 0 33 v0 rfl rfl;have o0:∃cs,v0=.agg cs:=by obtain⟨cs,hcs,_⟩:=okWide_struct Tryz.underlying33 k0;exact⟨cs,hcs⟩
 have k1:=hval 1 9 v1 rfl rfl;have o1:∃s,v1=.string s:=by obtain⟨n,hn⟩:=okWide_string Tryz.underlying9 k1;exact⟨n,by first|exact hn.1|exact hn⟩
 have k2:=hval 2 36 v2 rfl rfl;have o2:∃cs,v2=.agg cs:=by obtain⟨cs,hcs,_⟩:=okWide_struct Tryz.underlying36 k2;exact⟨cs,hcs⟩
 have hlt:∀x∈p0++(p1++p2),x.block<W.heap.size:=fun x hx=>hW'.lt x hx
 refine(Zwk H enc W o0 h0 o1 h1 o2 h2).mono fun e W' ⟨he,hg⟩=>?_
 subst he
 exact⟨_,rfl,Zk8 (pa:=p0++(p1++p2)) (pv:=[]) hW' (fun _ _ _=>(trodAll_cons_mk (shut_bool Tryz.underlying4 _) trodAll_mk0))
  (fun sp hsp=>trodAll_mk3 (WideElems.Trod_stays ZjA Kq0 (of_decide_eq_true Kq0) h0 (fun x hx=>hg.same (hlt x (Gu _ hx))) (fun x hx=>hsp x (Gu _ hx)))
    (WideElems.Trod_stays ZjA Kq0 (of_decide_eq_true Kq0) h1 (fun x hx=>hg.same (hlt x (Gg _ (Gu _ hx)))) (fun x hx=>hsp x (Gg _ (Gu _ hx))))
    (WideElems.Trod_stays ZjA Kq0 (of_decide_eq_true Kq0) h2 (fun x hx=>hg.same (hlt x (Gg _ (Gg _ hx)))) (fun x hx=>hsp x (Gg _ (Gg _ hx))))) (fun _ _=>rfl) (by simp)
  hg (ok_one Kq0 rfl (okWide_bool_mk Tryz.underlying4 _))⟩
def Zy0:Rows.termFreePutRow.holds Tryz.pinned (OpenSpec.ofChange Rows.termFreePutSpec):=
 OpenClaim.holds_of_wide 7 Tryz.f7 rfl rfl rfl rfl rfl rfl rfl ⟨rfl,rfl,rfl,rfl,rfl⟩ rfl rfl rfl rfl rfl Kq0 Tryz.func7 Kq0
  (of_decide_eq_true Kq0) (by unfold Func.isWrapper;first | (rw[if_pos (by decide +kernel)];kernel_rfl) | (rw[if_neg (by decide +kernel)];exact⟨rfl,rfl⟩))
  (fun os started H enc _=>Zsy os started H enc)
theorem law_holds:Rows.TermFreePutSaid:=Zy0
#print axioms law_holds
end
end Go.Proofs.YtbnepjakjmnadaaGreat
end
end
