/- WeighKept returns true for all arguments: in each account as much is held as was given out. No condition. -/
import Derived.WalkKit
import Derived.OpenShut
import Derived.Carry
import Derived.Test.YtekpjgmhkkjhgaaWa14
set_option linter.all false
section
noncomputable section
namespace Go.Yw
open Go.Lf
variable {P:Program}
def Zhe (P:Program) {α:Type} (e:Um α) (V:α ->Prop) (t:TypeId):Prop:=P.cellsOf t=e.sz∧∀ {E:Type} {h:H} {cs:List Value} {d:DataW E},AR P h t cs d ->∃ p x,cs=e.sh p x∧V x∧∀ wm,e.F wm h p x
theorem Zhe.int {t:TypeId} {k:IntKind} (hu:P.underlying t=some (.int k)) (hc:P.cellsOf t=1):Zhe P (ZW k) (fun n=>(Lit.int k n).wf=true) t:= ⟨hc,fun a=>by
 cases a with
 | int hu' wf=>rw [hu] at hu';cases hu';exact⟨(),_,rfl,wf,fun _=>trivial⟩
 | bool hu'=>rw [hu] at hu';cases hu'
 | string hu' _=>rw [hu] at hu';cases hu'
 | nil hu'=>rw [hu] at hu';cases hu'
 | empty hu'=>rw [hu] at hu';cases hu'
 | slice hu'=>rw [hu] at hu';cases hu'
 | struct hu'=>rw [hu] at hu';cases hu'⟩
theorem Zhb {α:Type} {e:Um α} {V:α ->Prop} {h:H} {β:Type}:∀ (els:List (List Value×β)),(∀ x ∈ els,∃ p y,x.1=e.sh p y∧V y∧∀ wm,e.F wm h p y) ->
 ∃ ys:List α,ys.length=els.length∧(∀ y ∈ ys,V y)∧∀ (k:Nat) (y:α),ys[k]? =some y ->∃ x p,els[k]? =some x∧x.1=e.sh p y∧∀ wm,e.F wm h p y
 | [],_=>⟨[],rfl,by simp,fun k y hk=>by simp at hk⟩
 | x::els,hx=>by
   obtain⟨ys,h1,hv,h2⟩:=Zhb els (fun z hz=>hx z (by simp [hz]));obtain⟨p,y,h3,hvy,h4⟩:=hx x (by simp);refine⟨y::ys,by simp [h1],fun z hz=>?_,fun k z hk=>?_⟩
   ·rcases List.mem_cons.1 hz with q | q
    ·rw [q];exact hvy
    ·exact hv z q
   ·cases k with
    | zero=>simp at hk;subst hk;exact⟨x,p,rfl,h3,h4⟩
    | succ k=>
      obtain⟨x',p',q1,q2⟩:=h2 k z (by simpa using hk);exact⟨x',p',by simpa using q1,q2⟩
theorem Zpv {α β:Type} {f:α ->List β} {sz:Nat} (l:List α) (hl:∀ x ∈ l,(f x).length=sz) {k:Nat} {x:α} (hk:l[k]? =some x):((l.flatMap f).drop (k * sz)).take sz=f x:=by
 have hfx:(f x).length=sz:=hl x (List.mem_of_getElem? hk);refine List.ext_getElem? fun j=>?_
 by_cases hj:j < sz
 ·rw [List.getElem?_take_of_lt hj,List.getElem?_drop,flat_get l hl k j hj,hk];rfl
 ·rw [List.getElem?_eq_none (by rw [List.length_take];omega),List.getElem?_eq_none (by omega)]
theorem Zhe.slice {α:Type} {e:Um α} {V:α ->Prop} {t el:TypeId} (hu:P.underlying t=some (.slice el)) (hc:P.cellsOf t=1) (he:Zhe P e V el):Zhe P (rSl e) (fun l=>∀ x ∈ l,V x) t:= ⟨hc,fun a=>by
 cases a with
 | bool hu'=>rw [hu] at hu';cases hu'
 | int hu' _=>rw [hu] at hu';cases hu'
 | string hu' _=>rw [hu] at hu';cases hu'
 | nil hu'=>exact⟨(none,0),[],rfl,by simp,fun _=>Sl.nil⟩
 | empty hu'=>exact⟨(some ⟨0,0,some 0⟩,0),[],rfl,by simp,fun _=>⟨by simp,by simp,.inr (.inl ⟨rfl,rfl⟩),.inl rfl⟩⟩
 | @slice t' e' els rest i cap hu' hl hcap hat hsz hel=>
   rw [hu] at hu';cases hu';obtain⟨ys,h1,hv,h2⟩:=Zhb (e:=e) els (fun x hx=>he.2 (hel x hx));have hsz':∀ x ∈ els,x.1.length=e.sz:=fun x hx=>(hsz x hx).trans he.1
   refine⟨(some ⟨i,0,none⟩,2 * cap),ys,by show [Value.slice _ _ _]= [Value.slice _ _ _];rw [h1],hv,fun wm=>⟨?_,?_,.inr (.inr ⟨_,_,rfl⟩),.inr ⟨i,0,_,false,0,rfl,hat,.inr rfl,?_,fun k y hk=>?_⟩⟩⟩
   ·rw [h1];exact Nat.le_trans (Nat.le_trans hl hcap) (by decide)
   ·rw [h1];omega
   ·rw [h1,Nat.zero_add,ZiH els hsz'];exact Nat.le_refl _
   ·obtain⟨x,p,q1,q2,q3⟩:=h2 k y hk;refine⟨p,?_,q3 wm⟩;rw [Nat.zero_add,Zpv els hsz' q1,q2]
 | struct hu'=>rw [hu] at hu';cases hu'⟩
theorem AR.ZrI {E:Type} {h:H} {t:TypeId} {cs:List Value} {d:DataW E} {fs:Array Field} (hu:P.underlying t=some (.struct fs)) (a:AR P h t cs d):
 ∃ els:List (List Value×DataW E),cs=els.flatMap (·.1)∧els.length=fs.toList.length∧∀ (i:Nat) (x:List Value×DataW E) (f:Field),els[i]? =some x ->fs.toList[i]? =some f ->AR P h f.type x.1 x.2:=by
 cases a with
 | bool hu'=>rw [hu] at hu';cases hu'
 | int hu' _=>rw [hu] at hu';cases hu'
 | string hu' _=>rw [hu] at hu';cases hu'
 | nil hu'=>rw [hu] at hu';cases hu'
 | empty hu'=>rw [hu] at hu';cases hu'
 | slice hu'=>rw [hu] at hu';cases hu'
 | struct hu' hl hsz hel=>rw [hu] at hu';cases hu';exact⟨_,rfl,hl,hel⟩
theorem Zts {ρ:Ren} {a v:Value} (h:LR ρ [a] [v]):VR ρ a v:=h.2 0 a v rfl rfl
def ZnU:Ren:= ⟨fun _=>none,fun _=>(0,0)⟩
theorem ZoS:Zfh ⟨.nil,0⟩:=fun i=>by
 have:(⟨.nil,0⟩:H).at i= .dead:=H.Zcc (Nat.zero_le _);rw [this];rfl
theorem ZtR (w:World):Rel ZnU ⟨.nil,0⟩ w:= ⟨fun _ _ _ e=>(by cases e),fun _ _ _ e=>(by cases e),fun _ _ _ _ _ e=>(by cases e)⟩
theorem ZyZ {E:Type} {W:World} (l:List (TypeId×List Value×DataW E)) (hl:∀ x ∈ l,Zk1 P W x.1 x.2.1 x.2.2):
 ∃ (ρ:Ren) (h:H) (els:List (List Value×DataW E)),Rel ρ h W∧Zfh h∧els.length=l.length∧
   ∀ (i:Nat) (x:List Value×DataW E) (y:TypeId×List Value×DataW E),els[i]? =some x ->l[i]? =some y ->LR ρ x.1 y.2.1∧AR P h y.1 x.1 x.2:=by
 obtain⟨ρ,h,els,q1,q2,q3,q4,q5,q6,q7⟩:=Zmf l hl ZnU ⟨.nil,0⟩ (ZtR W) ZoS;exact⟨ρ,h,els,q3,q4,q6,q7⟩
theorem wf_u8 {n:Int} (h:(Lit.int .u8 n).wf=true):0 <=n∧n <=255:=by
 unfold Lit.wf at h;simp [IntKind.min,IntKind.max,IntKind.bits,IntKind.signed] at h;omega
end Go.Yw
end
end
section
set_option maxRecDepth 100000
namespace Go.Proofs.Ytekpjgmhkkjhgaa
open Go.ChangeShapes Go.WideShapes Go.ChangeAt Go.RowKit Go.Yw Go.Lf
theorem rv5:Zhe XX.P (ZW .u8) (fun n=>(Lit.int .u8 n).wf=true) 5:= .int Try.underlying5 Kq0
def Zzp:Za8 ->Prop:=fun x=>(fun n=>(Lit.int .u8 n).wf=true) x.Z6∧(fun n=>(Lit.int .u8 n).wf=true) x.at_∧(fun n=>(Lit.int .u8 n).wf=true) x.name∧(fun n=>(Lit.int .u8 n).wf=true) x.Zv
theorem ZIP:Zhe XX.P ZtU Zzp 80:= ⟨by kernel_rfl,fun a=>by
 obtain⟨els,rfl,hl,hel⟩:=a.ZrI Try.underlying80
 match els,hl,hel with
 | [x0,x1,x2,x3],_,hel=>
   obtain⟨p0,y0,e0,v0,f0⟩:=rv5.2 (hel 0 x0 _ rfl rfl);obtain⟨p1,y1,e1,v1,f1⟩:=rv5.2 (hel 1 x1 _ rfl rfl);obtain⟨p2,y2,e2,v2,f2⟩:=rv5.2 (hel 2 x2 _ rfl rfl);obtain⟨p3,y3,e3,v3,f3⟩:=rv5.2 (hel 3 x3 _ rfl rfl);exact⟨(),⟨y0,y1,y2,y3⟩,by simp only [List.flatMap_cons,List.flatMap_nil,e0,e1,e2,e3];rfl,⟨v0,v1,v2,v3⟩,fun _=>trivial⟩⟩
theorem ZIQ:Zhe XX.P (rSl ZtU) (fun l=>∀ x ∈ l,Zzp x) 62:= .slice Try.underlying62 Kq0 ZIP
theorem ZAZ {x:Za8} (h:Zzp x):U8 x:= ⟨wf_u8 h.1,wf_u8 h.2.1,wf_u8 h.2.2.1,wf_u8 h.2.2.2⟩
theorem ZwA (p:Int) (l:List Za8) (hp:(Lit.int .u8 p).wf=true) (hl:∀ x ∈ l,Zzp x):ZsA 1000 p l=some true:=
 Zj4 p l (wf_u8 hp) (fun a h=>ZAZ (hl a h))
theorem Zr4 (H:Type) (enc:TypeId×Value ->H) (W:World) {v0 v1:Value} {d0 d1:DataW H} {p0 p1:List MemPlace}
 (hv0:∃ n,v0= .int .u8 n)
 (h0:DataW.Trod enc Try.prog W 0 (fun _=>true) true 5 v0 d0 p0)
 (hv1:∃ a len cap,v1= .slice a len cap)
 (h1:DataW.Trod enc Try.prog W 0 (fun _=>true) true 62 v1 d1 p1):
 Calls Try.prog 11 #[v0,v1] W fun e W'=>e= .returned (.bool true)∧Below W.heap.size W W':=by
 obtain⟨g0,h0⟩:=h0;obtain⟨c0,rfl⟩:=hv0;obtain⟨g1,h1⟩:=h1;obtain⟨c1,l1,k1,rfl⟩:=hv1
 obtain⟨ρ,hp,els,r1,r2,r3,r4⟩:=ZyZ (P:=Try.prog) (W:=W) [(5,[Value.int .u8 c0],d0),(62,[Value.slice c1 l1 k1],d1)] (fun x hx=>by
  simp only [List.mem_cons,List.not_mem_nil,or_false] at hx;rcases hx with rfl | rfl
  ·exact emb g0 5 _ d0 p0 9 Kq0 h0
  ·exact emb g1 62 _ d1 p1 9 Kq0 h1)
 match els,r3,r4 with
 | [e0,e1],_,r4=>
   obtain⟨q0,a0⟩:=r4 0 e0 _ rfl rfl;obtain⟨m0,x0,z0,w0,F0⟩:=rv5.2 a0;rw [z0] at q0;obtain⟨q1,a1⟩:=r4 1 e1 _ rfl rfl;obtain⟨m1,x1,z1,w1,F1⟩:=ZIQ.2 a1;rw [z1] at q1;have hj:Yo XX _ _:=ZCY (F:=1000) (r:=true) (F1 hp.size) (ZwA x0 x1 w0 w1) hp.size
   have hc:=callsIn_wide.1 (hj ρ #[.int .u8 c0,.slice c1 l1 k1] W (Nat.le_refl _) r1 ⟨rfl,fun i v v' e1 e2=>by
    match i with
    | 0=>
      simp at e1 e2;subst e1 e2;exact Zts q0
    | 1=>
      simp at e1 e2;subst e1 e2;exact Zts q1
    | i + 2=>simp at e1⟩)
   refine hc.mono fun e w' ⟨ρ',he,_,st⟩=>⟨?_,st.below fun i b d _ _ ho=>by rw [r2 i] at ho;cases ho⟩
   cases he with
   | ret hv=>cases hv;rfl
theorem Znf:laidOutB Try.prog=true:=Kq0
theorem ZxC:ownKnob Try.prog.godebug=none:=Kq0
theorem Zo2 (os:Os) (started:os.Started) (H:Type) (enc:TypeId×Value ->H):
 ReturnsInHanded {} Try.checked os 11 .any (Rows.weighKeptSpec.pre6 enc Try.prog Try.f11 Rows.weighKeptRow.domain false) (Rows.weighKeptSpec.post enc Try.prog Try.f11 false true false false):=by
 refine returnsInHanded_of_change (C:=Try.checked) ZxC started Kq0 Try.func11
  (ChangeSpec.witness6 (enc:=enc) (C:=Try.checked) false ⟨#[],#[.int .u8 0,.slice none 0 0],[]⟩ 8 Kq0 Kq0 Kq0 Kq0) ?_
 intro W base args ds gs before hval0 hW hcnd _;have hval:∀ (j:Nat) t v,Try.f11.params[j]? =some t ->args[j]? =some v ->Value.okWide Try.prog W .any base t v:=hval0;have hW':=hW;obtain⟨p,q,hA0,hV,rfl,hfz,hnd⟩:=hW;have hA:DataW.TrodAll enc Try.prog W 0 (fun _=>true) true Try.f11.params.toList args.toList ds p:=hA0;rw [Try.params11] at hA hval;obtain⟨v0,v1,d0,d1,p0,p1,rfl,rfl,rfl,h0,h1⟩:=trodAll_two hA;obtain⟨rfl,rfl⟩:=trodVars_none hV;clear hA0 hval0;simp only [List.append_nil] at hW';have k0:=hval 0 5 v0 rfl rfl;have o0:∃ n,v0= .int .u8 n:=by obtain⟨n,hn⟩:=okWide_int Try.underlying5 k0;exact⟨n,by first | exact hn.1 | exact hn⟩
 have k1:=hval 1 62 v1 rfl rfl;have o1:∃ a len cap,v1= .slice a len cap:=okWide_slice Try.underlying62 k1;have hlt:∀ x ∈ p0 ++ p1,x.block < W.heap.size:=fun x hx=>hW'.lt x hx
 refine(Zr4 H enc W o0 h0 o1 h1).mono fun e W' ⟨he,hg⟩=>?_
 subst he
 exact⟨_,rfl,Zjy (pa:=p0 ++ p1) (pv:= []) hW' (fun _ _ _=>(trodAll_cons_mk (shut_bool Try.underlying4 _) trodAll_mk0))
  (fun sp hsp=>trodAll_mk2 (WideElems.Trod_stays Znf Kq0 (of_decide_eq_true Kq0) h0 (fun x hx=>hg.same (hlt x (List.mem_append_left _ hx))) (fun x hx=>hsp x (List.mem_append_left _ hx)))
    (WideElems.Trod_stays Znf Kq0 (of_decide_eq_true Kq0) h1 (fun x hx=>hg.same (hlt x (List.mem_append_right _ hx))) (fun x hx=>hsp x (List.mem_append_right _ hx)))) (fun _ _=>rfl) (by simp)
  hg (ok_one Kq0 rfl (okWide_bool_mk Try.underlying4 _))⟩
theorem Zus:Rows.weighKeptRow.holds Try.pinned (OpenSpec.ofChange Rows.weighKeptSpec):=
 OpenClaim.holds_of_wide 11 Try.f11 rfl rfl rfl rfl rfl rfl rfl ⟨rfl,rfl,rfl,rfl,rfl⟩ rfl rfl rfl rfl rfl Kq0 Try.func11 Kq0
  (of_decide_eq_true Kq0) (by unfold Func.isWrapper;first | (rw [if_pos (by decide +kernel)];kernel_rfl) | (rw [if_neg (by decide +kernel)];exact⟨rfl,rfl⟩))
  (fun os started H enc _=>Zo2 os started H enc)
theorem law_holds:Rows.WeighKeptSaid:=Zus
#print axioms law_holds
end Go.Proofs.Ytekpjgmhkkjhgaa
end
