/- TollDrains returns true, whatever the arguments. No condition. -/
import Derived.WalkKit
import Derived.OpenShut
import Derived.Carry
import Derived.Test.YtcnahmgekicbdaaGreatDb17
set_option linter.all false
set_option maxHeartbeats 2000000
section
noncomputable section
namespace Go.Xv
open Go.Lf
variable {P:Program}
def ZbK (P:Program) {α:Type} (e:Ux α) (V:α ->Prop) (t:TypeId):Prop:=P.cellsOf t=e.sz/\∀ {E:Type} {h:H} {cs:List Value} {d:DataW E},AR P h t cs d ->∃ p x,cs=e.sh p x/\V x/\∀ wm,e.F wm h p x
theorem ZbK.int {t:TypeId} {k:IntKind} (hu:P.underlying t=some (.int k)) (hc:P.cellsOf t=1):ZbK P (Zl k) (fun n=>(Lit.int k n).wf=true) t:= ⟨hc,fun a=>by
 cases a with
 | int hu' wf=>rw [hu] at hu';cases hu';exact⟨(),_,rfl,wf,fun _=>trivial⟩
 | bool hu'=>rw [hu] at hu';cases hu'
 | string hu' _=>rw [hu] at hu';cases hu'
 | nil hu'=>rw [hu] at hu';cases hu'
 | empty hu'=>rw [hu] at hu';cases hu'
 | slice hu'=>rw [hu] at hu';cases hu'
 | struct hu'=>rw [hu] at hu';cases hu'⟩
theorem ZhI {α:Type} {e:Ux α} {V:α ->Prop} {h:H} {β:Type}:∀ (els:List (List Value×β)),(∀ x ∈ els,∃ p y,x.1=e.sh p y/\V y/\∀ wm,e.F wm h p y) ->
 ∃ ys:List α,ys.length=els.length/\(∀ y ∈ ys,V y)/\∀ (k:Nat) (y:α),ys[k]? =some y ->∃ x p,els[k]? =some x/\x.1=e.sh p y/\∀ wm,e.F wm h p y
 | [],_=>⟨[],rfl,by simp,fun k y hk=>by simp at hk⟩
 | x::els,hx=>by
   obtain⟨ys,h1,hv,h2⟩:=ZhI els (fun z hz=>hx z (by simp [hz]));obtain⟨p,y,h3,hvy,h4⟩:=hx x (by simp);refine⟨y::ys,by simp [h1],fun z hz=>?_,fun k z hk=>?_⟩
   ·rcases List.mem_cons.1 hz with q | q
    ·rw [q];exact hvy
    ·exact hv z q
   ·cases k with
    | zero=>simp at hk;subst hk;exact⟨x,p,rfl,h3,h4⟩
    | succ k=>
      obtain⟨x',p',q1,q2⟩:=h2 k z (by simpa using hk);exact⟨x',p',by simpa using q1,q2⟩
theorem Ztu {α β:Type} {f:α ->List β} {sz:Nat} (l:List α) (hl:∀ x ∈ l,(f x).length=sz) {k:Nat} {x:α} (hk:l[k]? =some x):((l.flatMap f).drop (k * sz)).take sz=f x:=by
 have hfx:(f x).length=sz:=hl x (List.mem_of_getElem? hk);refine List.ext_getElem? fun j=>?_
 by_cases hj:j < sz
 ·rw [List.getElem?_take_of_lt hj,List.getElem?_drop,flat_get l hl k j hj,hk];rfl
 ·rw [List.getElem?_eq_none (by rw [List.length_take];omega),List.getElem?_eq_none (by omega)]
theorem ZbK.slice {α:Type} {e:Ux α} {V:α ->Prop} {t el:TypeId} (hu:P.underlying t=some (.slice el)) (hc:P.cellsOf t=1) (he:ZbK P e V el):ZbK P (Xn e) (fun l=>∀ x ∈ l,V x) t:= ⟨hc,fun a=>by
 cases a with
 | bool hu'=>rw [hu] at hu';cases hu'
 | int hu' _=>rw [hu] at hu';cases hu'
 | string hu' _=>rw [hu] at hu';cases hu'
 | nil hu'=>exact⟨(none,0),[],rfl,by simp,fun _=>Sl.nil⟩
 | empty hu'=>exact⟨(some ⟨0,0,some 0⟩,0),[],rfl,by simp,fun _=>⟨by simp,by simp,.inr (.inl ⟨rfl,rfl⟩),.inl rfl⟩⟩
 | @slice t' e' els rest i cap hu' hl hcap hat hsz hel=>
   rw [hu] at hu';cases hu';obtain⟨ys,h1,hv,h2⟩:=ZhI (e:=e) els (fun x hx=>he.2 (hel x hx));have hsz':∀ x ∈ els,x.1.length=e.sz:=fun x hx=>(hsz x hx).trans he.1
   refine⟨(some ⟨i,0,none⟩,2 * cap),ys,by show [Value.slice _ _ _]= [Value.slice _ _ _];rw [h1],hv,fun wm=>⟨?_,?_,.inr (.inr ⟨_,_,rfl⟩),.inr ⟨i,0,_,false,0,rfl,hat,.inr rfl,?_,fun k y hk=>?_⟩⟩⟩
   ·rw [h1];exact Nat.le_trans (Nat.le_trans hl hcap) (by decide)
   ·rw [h1];omega
   ·rw [h1,Nat.zero_add,ZjI els hsz'];exact Nat.le_refl _
   ·obtain⟨x,p,q1,q2,q3⟩:=h2 k y hk;refine⟨p,?_,q3 wm⟩;rw [Nat.zero_add,Ztu els hsz' q1,q2]
 | struct hu'=>rw [hu] at hu';cases hu'⟩
theorem AR.Zgu {E:Type} {h:H} {t:TypeId} {cs:List Value} {d:DataW E} {fs:Array Field} (hu:P.underlying t=some (.struct fs)) (a:AR P h t cs d):
 ∃ els:List (List Value×DataW E),cs=els.flatMap (·.1)/\els.length=fs.toList.length/\∀ (i:Nat) (x:List Value×DataW E) (f:Field),els[i]? =some x ->fs.toList[i]? =some f ->AR P h f.type x.1 x.2:=by
 cases a with
 | bool hu'=>rw [hu] at hu';cases hu'
 | int hu' _=>rw [hu] at hu';cases hu'
 | string hu' _=>rw [hu] at hu';cases hu'
 | nil hu'=>rw [hu] at hu';cases hu'
 | empty hu'=>rw [hu] at hu';cases hu'
 | slice hu'=>rw [hu] at hu';cases hu'
 | struct hu' hl hsz hel=>rw [hu] at hu';cases hu';exact⟨_,rfl,hl,hel⟩
theorem ZJ7 {ρ:Ren} {acs cs:List Value} (h:LR ρ acs cs):VR ρ (.agg acs.toArray) (.agg cs.toArray):=
 .agg _ _ (by simpa using h.1) (fun i v v' e1 e2=>h.2 i v v' (by simpa using e1) (by simpa using e2))
theorem ZFp {ρ:Ren} {acs:List Value} {cs:Array Value} (h:LR ρ acs (Value.agg cs).cells.toList):VR ρ (.agg acs.toArray) (.agg cs):=by
 have:=ZJ7 h
 rwa [Array.toArray_toList] at this
theorem ZyK {ρ:Ren} {a v:Value} (h:LR ρ [a] [v]):VR ρ a v:=h.2 0 a v rfl rfl
def Zrs:Ren:= ⟨fun _=>none,fun _=>(0,0)⟩
theorem ZsN:Zgi ⟨.nil,0⟩:=fun i=>by
 have:(⟨.nil,0⟩:H).at i= .dead:=H.ZcB (Nat.zero_le _);rw [this];rfl
theorem Zzy (w:World):Rel Zrs ⟨.nil,0⟩ w:= ⟨fun _ _ _ e=>(by cases e),fun _ _ _ e=>(by cases e),fun _ _ _ _ _ e=>(by cases e)⟩
theorem ZHe {E:Type} {W:World} (l:List (TypeId×List Value×DataW E)) (hl:∀ x ∈ l,ZmN P W x.1 x.2.1 x.2.2):
 ∃ (ρ:Ren) (h:H) (els:List (List Value×DataW E)),Rel ρ h W/\Zgi h/\els.length=l.length/\
   ∀ (i:Nat) (x:List Value×DataW E) (y:TypeId×List Value×DataW E),els[i]? =some x ->l[i]? =some y ->LR ρ x.1 y.2.1/\AR P h y.1 x.1 x.2:=by
 obtain⟨ρ,h,els,q1,q2,q3,q4,q5,q6,q7⟩:=ZoG l hl Zrs ⟨.nil,0⟩ (Zzy W) ZsN;exact⟨ρ,h,els,q3,q4,q6,q7⟩
end Go.Xv
end
end
section
set_option maxRecDepth 100000
namespace Go.Proofs.YtcnahmgekicbdaaGreat
open Go.ChangeShapes Go.WideShapes Go.ChangeAt Go.RowKit Go.Xv Go.Lf
theorem rv3:ZbK XX.P (Zl .i64) (fun n=>(Lit.int .i64 n).wf=true) 3:= .int Tryz.underlying3 Kq0
def Zhs:ZG ->Prop:=fun x=>(fun n=>(Lit.int .i64 n).wf=true) x.at_/\(fun n=>(Lit.int .i64 n).wf=true) x.XA
theorem ZXN:ZbK XX.P Zj Zhs 66:= ⟨by kernel_rfl,fun a=>by
 obtain⟨els,rfl,hl,hel⟩:=a.Zgu Tryz.underlying66
 match els,hl,hel with
 | [x0,x1],_,hel=>
   obtain⟨p0,y0,e0,v0,f0⟩:=rv3.2 (hel 0 x0 _ rfl rfl);obtain⟨p1,y1,e1,v1,f1⟩:=rv3.2 (hel 1 x1 _ rfl rfl);exact⟨(),⟨y0,y1⟩,by simp only [List.flatMap_cons,List.flatMap_nil,e0,e1];rfl,⟨v0,v1⟩,fun _=>trivial⟩⟩
theorem ZXR:ZbK XX.P (Xn Zj) (fun l=>∀ x ∈ l,Zhs x) 22:= .slice Tryz.underlying22 Kq0 ZXN
def Zum:Zc ->Prop:=fun x=>(fun n=>(Lit.int .i64 n).wf=true) x.qG/\(fun l=>∀ x ∈ l,Zhs x) x.Zh
theorem ZXQ:ZbK XX.P Zsz Zum 24:= ⟨by kernel_rfl,fun a=>by
 obtain⟨els,rfl,hl,hel⟩:=a.Zgu Tryz.underlying24
 match els,hl,hel with
 | [x0,x1],_,hel=>
   obtain⟨p0,y0,e0,v0,f0⟩:=rv3.2 (hel 0 x0 _ rfl rfl);obtain⟨p1,y1,e1,v1,f1⟩:=ZXR.2 (hel 1 x1 _ rfl rfl);exact⟨p1,⟨y0,y1⟩,by simp only [List.flatMap_cons,List.flatMap_nil,e0,e1];rfl,⟨v0,v1⟩,fun wm=>f1 wm⟩⟩
theorem ZXM:ZbK XX.P (Zl .i64) (fun n=>(Lit.int .i64 n).wf=true) 72:= .int Tryz.underlying72 Kq0
def ZmM:YP ->Prop:=fun x=>(fun n=>(Lit.int .i64 n).wf=true) x.act/\(fun n=>(Lit.int .i64 n).wf=true) x.a/\(fun n=>(Lit.int .i64 n).wf=true) x.b
theorem ZXL:ZbK XX.P Ka ZmM 74:= ⟨by kernel_rfl,fun a=>by
 obtain⟨els,rfl,hl,hel⟩:=a.Zgu Tryz.underlying74
 match els,hl,hel with
 | [x0,x1,x2],_,hel=>
   obtain⟨p0,y0,e0,v0,f0⟩:=ZXM.2 (hel 0 x0 _ rfl rfl);obtain⟨p1,y1,e1,v1,f1⟩:=rv3.2 (hel 1 x1 _ rfl rfl);obtain⟨p2,y2,e2,v2,f2⟩:=rv3.2 (hel 2 x2 _ rfl rfl);exact⟨(),⟨y0,y1,y2⟩,by simp only [List.flatMap_cons,List.flatMap_nil,e0,e1,e2];rfl,⟨v0,v1,v2⟩,fun _=>trivial⟩⟩
theorem ZXP:ZbK XX.P (Xn Ka) (fun l=>∀ x ∈ l,ZmM x) 25:= .slice Tryz.underlying25 Kq0 ZXL
theorem ZXO:ZbK XX.P (Xn (Zl .i64)) (fun l=>∀ x ∈ l,(fun n=>(Lit.int .i64 n).wf=true) x) 35:= .slice Tryz.underlying35 Kq0 rv3
theorem ZwO (H:Type) (enc:TypeId×Value ->H) (W:World) {v0 v1 v2:Value} {d0 d1 d2:DataW H} {p0 p1 p2:List MemPlace}
 (hv0:∃ cs,v0= .agg cs)
 (h0:DataW.Trod enc Tryz.prog W 0 (fun _=>true) true 24 v0 d0 p0)
 (hv1:∃ a len cap,v1= .slice a len cap)
 (h1:DataW.Trod enc Tryz.prog W 0 (fun _=>true) true 25 v1 d1 p1)
 (hv2:∃ a len cap,v2= .slice a len cap)
 (h2:DataW.Trod enc Tryz.prog W 0 (fun _=>true) true 35 v2 d2 p2):
 Calls Tryz.prog 4 #[v0,v1,v2] W fun e W'=>e= .returned (.bool true)/\Below W.heap.size W W':=by
 obtain⟨g0,h0⟩:=h0;obtain⟨c0,rfl⟩:=hv0;obtain⟨g1,h1⟩:=h1;obtain⟨c1,l1,k1,rfl⟩:=hv1;obtain⟨g2,h2⟩:=h2;obtain⟨c2,l2,k2,rfl⟩:=hv2
 obtain⟨ρ,hp,els,r1,r2,r3,r4⟩:=ZHe (P:=Tryz.prog) (W:=W) [(24,(Value.agg c0).cells.toList,d0),(25,[Value.slice c1 l1 k1],d1),(35,[Value.slice c2 l2 k2],d2)] (fun x hx=>by
  simp only [List.mem_cons,List.not_mem_nil,or_false] at hx;rcases hx with rfl | rfl | rfl
  ·exact emb g0 24 _ d0 p0 9 Kq0 h0
  ·exact emb g1 25 _ d1 p1 9 Kq0 h1
  ·exact emb g2 35 _ d2 p2 9 Kq0 h2)
 match els,r3,r4 with
 | [e0,e1,e2],_,r4=>
   obtain⟨q0,a0⟩:=r4 0 e0 _ rfl rfl;obtain⟨m0,x0,z0,w0,F0⟩:=ZXQ.2 a0;rw [z0] at q0;obtain⟨q1,a1⟩:=r4 1 e1 _ rfl rfl;obtain⟨m1,x1,z1,w1,F1⟩:=ZXP.2 a1;rw [z1] at q1;obtain⟨q2,a2⟩:=r4 2 e2 _ rfl rfl;obtain⟨m2,x2,z2,w2,F2⟩:=ZXO.2 a2;rw [z2] at q2;have hj:XK XX _ _:=ZVc (F:=1000000) (r:=true) (F0 hp.size) (F1 hp.size) (F2 hp.size) (ZkB (by decide) x0 x1 x2) hp.size
   have hc:=callsIn_wide.1 (hj ρ #[.agg c0,.slice c1 l1 k1,.slice c2 l2 k2] W (Nat.le_refl _) r1 ⟨rfl,fun i v v' e1 e2=>by
    match i with
    | 0=>
      simp at e1 e2;subst e1 e2;exact ZFp q0
    | 1=>
      simp at e1 e2;subst e1 e2;exact ZyK q1
    | 2=>
      simp at e1 e2;subst e1 e2;exact ZyK q2
    | i + 3=>simp at e1⟩)
   refine hc.mono fun e w' ⟨ρ',he,_,st⟩=>⟨?_,st.below fun i b d _ _ ho=>by rw [r2 i] at ho;cases ho⟩
   cases he with
   | ret hv=>cases hv;rfl
theorem Zjs:laidOutB Tryz.prog=true:=Kq0
theorem ZFW:ownKnob Tryz.prog.godebug=none:=Kq0
theorem ZsW (os:Os) (started:os.Started) (H:Type) (enc:TypeId×Value ->H):
 ReturnsInHanded {} Tryz.checked os 4 .any (Rows.tollDrainsSpec.pre6 enc Tryz.prog Tryz.f4 Rows.tollDrainsRow.domain false) (Rows.tollDrainsSpec.post enc Tryz.prog Tryz.f4 false true false false):=by
 refine returnsInHanded_of_change (C:=Tryz.checked) ZFW started Kq0 Tryz.func4
  (ChangeSpec.witness6 (enc:=enc) (C:=Tryz.checked) false ⟨#[],#[.agg #[.int .i64 0,.slice none 0 0],.slice none 0 0,.slice none 0 0],[]⟩ 8 Kq0 Kq0 Kq0 Kq0) ?_
 intro W base args ds gs before hval0 hW hcnd _;have hval:∀ (j:Nat) t v,Tryz.f4.params[j]? =some t ->args[j]? =some v ->Value.okWide Tryz.prog W .any base t v:=hval0;have hW':=hW;obtain⟨p,q,hA0,hV,rfl,hfz,hnd⟩:=hW;have hA:DataW.TrodAll enc Tryz.prog W 0 (fun _=>true) true Tryz.f4.params.toList args.toList ds p:=hA0;rw [Tryz.params4] at hA hval;obtain⟨v0,v1,v2,d0,d1,d2,p0,p1,p2,rfl,rfl,rfl,h0,h1,h2⟩:=trodAll_three hA;obtain⟨rfl,rfl⟩:=trodVars_none hV;clear hA0 hval0;simp only [List.append_nil,List.append_assoc] at hW';have k0:=hval 0 24 v0 rfl rfl;have o0:∃ cs,v0= .agg cs:=by obtain⟨cs,hcs,_⟩:=okWide_struct Tryz.underlying24 k0;exact⟨cs,hcs⟩
 have k1:=hval 1 25 v1 rfl rfl;have o1:∃ a len cap,v1= .slice a len cap:=okWide_slice Tryz.underlying25 k1;have k2:=hval 2 35 v2 rfl rfl;have o2:∃ a len cap,v2= .slice a len cap:=okWide_slice Tryz.underlying35 k2;have hlt:∀ x ∈ p0 ++ (p1 ++ p2),x.block < W.heap.size:=fun x hx=>hW'.lt x hx
 refine(ZwO H enc W o0 h0 o1 h1 o2 h2).mono fun e W' ⟨he,hg⟩=>?_
 subst he
 exact⟨_,rfl,Zk2 (pa:=p0 ++ (p1 ++ p2)) (pv:= []) hW' (fun _ _ _=>(trodAll_cons_mk (shut_bool Tryz.underlying4 _) trodAll_mk0))
  (fun sp hsp=>trodAll_mk3 (WideElems.Trod_stays Zjs Kq0 (of_decide_eq_true Kq0) h0 (fun x hx=>hg.same (hlt x (List.mem_append_left _ hx))) (fun x hx=>hsp x (List.mem_append_left _ hx)))
    (WideElems.Trod_stays Zjs Kq0 (of_decide_eq_true Kq0) h1 (fun x hx=>hg.same (hlt x (List.mem_append_right _ (List.mem_append_left _ hx)))) (fun x hx=>hsp x (List.mem_append_right _ (List.mem_append_left _ hx))))
    (WideElems.Trod_stays Zjs Kq0 (of_decide_eq_true Kq0) h2 (fun x hx=>hg.same (hlt x (List.mem_append_right _ (List.mem_append_right _ hx)))) (fun x hx=>hsp x (List.mem_append_right _ (List.mem_append_right _ hx))))) (fun _ _=>rfl) (by simp)
  hg (ok_one Kq0 rfl (okWide_bool_mk Tryz.underlying4 _))⟩
theorem ZAQ:Rows.tollDrainsRow.holds Tryz.pinned (OpenSpec.ofChange Rows.tollDrainsSpec):=
 OpenClaim.holds_of_wide 4 Tryz.f4 rfl rfl rfl rfl rfl rfl rfl ⟨rfl,rfl,rfl,rfl,rfl⟩ rfl rfl rfl rfl rfl Kq0 Tryz.func4 Kq0
  (of_decide_eq_true Kq0) (by unfold Func.isWrapper;first | (rw [if_pos (by decide +kernel)];kernel_rfl) | (rw [if_neg (by decide +kernel)];exact⟨rfl,rfl⟩))
  (fun os started H enc _=>ZsW os started H enc)
theorem law_holds:Rows.TollDrainsSaid:=ZAQ
#print axioms law_holds
end Go.Proofs.YtcnahmgekicbdaaGreat
end
