/- FerryPlays returns true, whatever the arguments. No condition. -/
import Derived.WalkKit
import Derived.OpenShut
import Derived.Carry
import Derived.Test.YtbmbbcaaimehkaaGreatPa15
set_option linter.all false
set_option maxHeartbeats 2000000
section
noncomputable section
namespace Go.YT
open Go.Lf
variable {P:Program}
def Jt (P:Program) {α:Type} (e:Jy α) (V:α ->Prop) (t:TypeId):Prop:=P.cellsOf t=e.sz∧∀ {E:Type} {h:H} {cs:List Value} {d:DataW E},AR P h t cs d ->∃ p x,cs=e.sh p x∧V x∧∀ wm,e.F wm h p x
theorem Jt.int {t:TypeId} {k:IntKind} (hu:P.underlying t=some (.int k)) (hc:P.cellsOf t=1):Jt P (Zr k) (fun n=>(Lit.int k n).wf=true) t:= ⟨hc,fun a=>by
 cases a with
 | int hu' wf=>rw [hu] at hu';cases hu';exact⟨(),_,rfl,wf,fun _=>trivial⟩
 | bool hu'=>rw [hu] at hu';cases hu'
 | string hu' _=>rw [hu] at hu';cases hu'
 | nil hu'=>rw [hu] at hu';cases hu'
 | empty hu'=>rw [hu] at hu';cases hu'
 | slice hu'=>rw [hu] at hu';cases hu'
 | struct hu'=>rw [hu] at hu';cases hu'⟩
theorem Jt.bool {t:TypeId} (hu:P.underlying t=some .bool) (hc:P.cellsOf t=1):Jt P ZpH (fun _=>True) t:= ⟨hc,fun a=>by
 cases a with
 | bool hu'=>exact⟨(),_,rfl,trivial,fun _=>trivial⟩
 | int hu' _=>rw [hu] at hu';cases hu'
 | string hu' _=>rw [hu] at hu';cases hu'
 | nil hu'=>rw [hu] at hu';cases hu'
 | empty hu'=>rw [hu] at hu';cases hu'
 | slice hu'=>rw [hu] at hu';cases hu'
 | struct hu'=>rw [hu] at hu';cases hu'⟩
theorem ZhR {α:Type} {e:Jy α} {V:α ->Prop} {h:H} {β:Type}:∀ (els:List (List Value×β)),(∀ x ∈ els,∃ p y,x.1=e.sh p y∧V y∧∀ wm,e.F wm h p y) ->
 ∃ ys:List α,ys.length=els.length∧(∀ y ∈ ys,V y)∧∀ (k:Nat) (y:α),ys[k]? =some y ->∃ x p,els[k]? =some x∧x.1=e.sh p y∧∀ wm,e.F wm h p y
 | [],_=>⟨[],rfl,by simp,fun k y hk=>by simp at hk⟩
 | x::els,hx=>by
   obtain⟨ys,h1,hv,h2⟩:=ZhR els (fun z hz=>hx z (by simp [hz]));obtain⟨p,y,h3,hvy,h4⟩:=hx x (by simp);refine⟨y::ys,by simp [h1],fun z hz=>?_,fun k z hk=>?_⟩
   ·rcases List.mem_cons.1 hz with q | q
    ·rw [q];exact hvy
    ·exact hv z q
   ·cases k with
    | zero=>simp at hk;subst hk;exact⟨x,p,rfl,h3,h4⟩
    | succ k=>
      obtain⟨x',p',q1,q2⟩:=h2 k z (by simpa using hk);exact⟨x',p',by simpa using q1,q2⟩
theorem ZsS {α β:Type} {f:α ->List β} {sz:Nat} (l:List α) (hl:∀ x ∈ l,(f x).length=sz) {k:Nat} {x:α} (hk:l[k]? =some x):((l.flatMap f).drop (k * sz)).take sz=f x:=by
 have hfx:(f x).length=sz:=hl x (List.mem_of_getElem? hk);refine List.ext_getElem? fun j=>?_
 by_cases hj:j < sz
 ·rw [List.getElem?_take_of_lt hj,List.getElem?_drop,flat_get l hl k j hj,hk];rfl
 ·rw [List.getElem?_eq_none (by rw [List.length_take];omega),List.getElem?_eq_none (by omega)]
theorem Jt.slice {α:Type} {e:Jy α} {V:α ->Prop} {t el:TypeId} (hu:P.underlying t=some (.slice el)) (hc:P.cellsOf t=1) (he:Jt P e V el):Jt P (ZJ e) (fun l=>∀ x ∈ l,V x) t:= ⟨hc,fun a=>by
 cases a with
 | bool hu'=>rw [hu] at hu';cases hu'
 | int hu' _=>rw [hu] at hu';cases hu'
 | string hu' _=>rw [hu] at hu';cases hu'
 | nil hu'=>exact⟨(none,0),[],rfl,by simp,fun _=>Sl.nil⟩
 | empty hu'=>exact⟨(some ⟨0,0,some 0⟩,0),[],rfl,by simp,fun _=>⟨by simp,by simp,.inr (.inl ⟨rfl,rfl⟩),.inl rfl⟩⟩
 | @slice t' e' els rest i cap hu' hl hcap hat hsz hel=>
   rw [hu] at hu';cases hu';obtain⟨ys,h1,hv,h2⟩:=ZhR (e:=e) els (fun x hx=>he.2 (hel x hx));have hsz':∀ x ∈ els,x.1.length=e.sz:=fun x hx=>(hsz x hx).trans he.1
   refine⟨(some ⟨i,0,none⟩,2 * cap),ys,by show [Value.slice _ _ _]= [Value.slice _ _ _];rw [h1],hv,fun wm=>⟨?_,?_,.inr (.inr ⟨_,_,rfl⟩),.inr ⟨i,0,_,false,0,rfl,hat,.inr rfl,?_,fun k y hk=>?_⟩⟩⟩
   ·rw [h1];exact Nat.le_trans (Nat.le_trans hl hcap) (by decide)
   ·rw [h1];omega
   ·rw [h1,Nat.zero_add,Zc1 els hsz'];exact Nat.le_refl _
   ·obtain⟨x,p,q1,q2,q3⟩:=h2 k y hk;refine⟨p,?_,q3 wm⟩;rw [Nat.zero_add,ZsS els hsz' q1,q2]
 | struct hu'=>rw [hu] at hu';cases hu'⟩
theorem AR.ZaZ {E:Type} {h:H} {t:TypeId} {cs:List Value} {d:DataW E} {fs:Array Field} (hu:P.underlying t=some (.struct fs)) (a:AR P h t cs d):
 ∃ els:List (List Value×DataW E),cs=els.flatMap (·.1)∧els.length=fs.toList.length∧∀ (i:Nat) (x:List Value×DataW E) (f:Field),els[i]? =some x ->fs.toList[i]? =some f ->AR P h f.type x.1 x.2:=by
 cases a with
 | bool hu'=>rw [hu] at hu';cases hu'
 | int hu' _=>rw [hu] at hu';cases hu'
 | string hu' _=>rw [hu] at hu';cases hu'
 | nil hu'=>rw [hu] at hu';cases hu'
 | empty hu'=>rw [hu] at hu';cases hu'
 | slice hu'=>rw [hu] at hu';cases hu'
 | struct hu' hl hsz hel=>rw [hu] at hu';cases hu';exact⟨_,rfl,hl,hel⟩
theorem ZHQ {ρ:Ren} {acs cs:List Value} (h:LR ρ acs cs):VR ρ (.agg acs.toArray) (.agg cs.toArray):=
 .agg _ _ (by simpa using h.1) (fun i v v' e1 e2=>h.2 i v v' (by simpa using e1) (by simpa using e2))
theorem ZDh {ρ:Ren} {acs:List Value} {cs:Array Value} (h:LR ρ acs (Value.agg cs).cells.toList):VR ρ (.agg acs.toArray) (.agg cs):=by
 have:=ZHQ h
 rwa [Array.toArray_toList] at this
theorem ZHP {ρ:Ren} {a v:Value} (h:LR ρ [a] [v]):VR ρ a v:=h.2 0 a v rfl rfl
def ZqM:Ren:= ⟨fun _=>none,fun _=>(0,0)⟩
theorem Zr9:ZfS ⟨.nil,0⟩:=fun i=>by
 have:(⟨.nil,0⟩:H).at i= .dead:=H.Zb3 (Nat.zero_le _);rw [this];rfl
theorem Zye (w:World):Rel ZqM ⟨.nil,0⟩ w:= ⟨fun _ _ _ e=>(by cases e),fun _ _ _ e=>(by cases e),fun _ _ _ _ _ e=>(by cases e)⟩
theorem ZFg {E:Type} {W:World} (l:List (TypeId×List Value×DataW E)) (hl:∀ x ∈ l,Zmt P W x.1 x.2.1 x.2.2):
 ∃ (ρ:Ren) (h:H) (els:List (List Value×DataW E)),Rel ρ h W∧ZfS h∧els.length=l.length∧
   ∀ (i:Nat) (x:List Value×DataW E) (y:TypeId×List Value×DataW E),els[i]? =some x ->l[i]? =some y ->LR ρ x.1 y.2.1∧AR P h y.1 x.1 x.2:=by
 obtain⟨ρ,h,els,q1,q2,q3,q4,q5,q6,q7⟩:=Zov l hl ZqM ⟨.nil,0⟩ (Zye W) Zr9;exact⟨ρ,h,els,q3,q4,q6,q7⟩
end Go.YT
end
end
section
set_option maxRecDepth 100000
namespace Go.Proofs.YtbmbbcaaimehkaaGreat
open Go.ChangeShapes Go.WideShapes Go.ChangeAt Go.RowKit Go.YT Go.Lf
theorem rv3:Jt XX.P (Zr .i64) (fun n=>(Lit.int .i64 n).wf=true) 3:= .int Tryz.underlying3 Kq0
theorem ZDy:Jt XX.P (ZJ (Zr .i64)) (fun l=>∀ x ∈ l,(fun n=>(Lit.int .i64 n).wf=true) x) 22:= .slice Tryz.underlying22 Kq0 rv3
theorem ZTv:Jt XX.P (ZJ (ZJ (Zr .i64))) (fun l=>∀ x ∈ l,(fun l=>∀ x ∈ l,(fun n=>(Lit.int .i64 n).wf=true) x) x) 24:= .slice Tryz.underlying24 Kq0 ZDy
theorem rv4:Jt XX.P ZpH (fun _=>True) 4:= .bool Tryz.underlying4 Kq0
def ZaE:Zz ->Prop:=fun x=>(fun _=>True) x.here∧(fun n=>(Lit.int .i64 n).wf=true) x.ZX∧(fun n=>(Lit.int .i64 n).wf=true) x.age
theorem ZTn:Jt XX.P Zc ZaE 63:= ⟨by kernel_rfl,fun a=>by
 obtain⟨els,rfl,hl,hel⟩:=a.ZaZ Tryz.underlying63
 match els,hl,hel with
 | [x0,x1,x2],_,hel=>
   obtain⟨p0,y0,e0,v0,f0⟩:=rv4.2 (hel 0 x0 _ rfl rfl);obtain⟨p1,y1,e1,v1,f1⟩:=rv3.2 (hel 1 x1 _ rfl rfl);obtain⟨p2,y2,e2,v2,f2⟩:=rv3.2 (hel 2 x2 _ rfl rfl);exact⟨(),⟨y0,y1,y2⟩,by simp only [List.flatMap_cons,List.flatMap_nil,e0,e1,e2];rfl,⟨v0,v1,v2⟩,fun _=>trivial⟩⟩
theorem ZTm:Jt XX.P (ZJ Zc) (fun l=>∀ x ∈ l,ZaE x) 64:= .slice Tryz.underlying64 Kq0 ZTn
theorem ZTu:Jt XX.P (ZJ (ZJ Zc)) (fun l=>∀ x ∈ l,(fun l=>∀ x ∈ l,ZaE x) x) 25:= .slice Tryz.underlying25 Kq0 ZTm
def Zai:Zq ->Prop:=fun x=>(fun n=>(Lit.int .i64 n).wf=true) x.msg∧(fun n=>(Lit.int .i64 n).wf=true) x.place∧(fun n=>(Lit.int .i64 n).wf=true) x.from_∧(fun n=>(Lit.int .i64 n).wf=true) x.age∧(fun n=>(Lit.int .i64 n).wf=true) x.hops
theorem ZM1:Jt XX.P Ze Zai 92:= ⟨by kernel_rfl,fun a=>by
 obtain⟨els,rfl,hl,hel⟩:=a.ZaZ Tryz.underlying92
 match els,hl,hel with
 | [x0,x1,x2,x3,x4],_,hel=>
   obtain⟨p0,y0,e0,v0,f0⟩:=rv3.2 (hel 0 x0 _ rfl rfl);obtain⟨p1,y1,e1,v1,f1⟩:=rv3.2 (hel 1 x1 _ rfl rfl);obtain⟨p2,y2,e2,v2,f2⟩:=rv3.2 (hel 2 x2 _ rfl rfl);obtain⟨p3,y3,e3,v3,f3⟩:=rv3.2 (hel 3 x3 _ rfl rfl);obtain⟨p4,y4,e4,v4,f4⟩:=rv3.2 (hel 4 x4 _ rfl rfl);exact⟨(),⟨y0,y1,y2,y3,y4⟩,by simp only [List.flatMap_cons,List.flatMap_nil,e0,e1,e2,e3,e4];rfl,⟨v0,v1,v2,v3,v4⟩,fun _=>trivial⟩⟩
theorem ZTl:Jt XX.P (ZJ Ze) (fun l=>∀ x ∈ l,Zai x) 90:= .slice Tryz.underlying90 Kq0 ZM1
theorem ZTt:Jt XX.P (ZJ (ZJ Ze)) (fun l=>∀ x ∈ l,(fun l=>∀ x ∈ l,Zai x) x) 26:= .slice Tryz.underlying26 Kq0 ZTl
theorem ZTk:Jt XX.P (Zr .i64) (fun n=>(Lit.int .i64 n).wf=true) 93:= .int Tryz.underlying93 Kq0
def ZbV:Zf ->Prop:=fun x=>(fun n=>(Lit.int .i64 n).wf=true) x.kind∧(fun n=>(Lit.int .i64 n).wf=true) x.ZX∧Zai x.ZV∧(fun l=>∀ x ∈ l,(fun n=>(Lit.int .i64 n).wf=true) x) x.qV∧(fun l=>∀ x ∈ l,(fun n=>(Lit.int .i64 n).wf=true) x) x.Yd∧(fun n=>(Lit.int .i64 n).wf=true) x.place∧(fun n=>(Lit.int .i64 n).wf=true) x.at_∧(fun n=>(Lit.int .i64 n).wf=true) x.age
theorem ZTj:Jt XX.P Zd ZbV 95:= ⟨by kernel_rfl,fun a=>by
 obtain⟨els,rfl,hl,hel⟩:=a.ZaZ Tryz.underlying95
 match els,hl,hel with
 | [x0,x1,x2,x3,x4,x5,x6,x7],_,hel=>
   obtain⟨p0,y0,e0,v0,f0⟩:=ZTk.2 (hel 0 x0 _ rfl rfl);obtain⟨p1,y1,e1,v1,f1⟩:=rv3.2 (hel 1 x1 _ rfl rfl);obtain⟨p2,y2,e2,v2,f2⟩:=ZM1.2 (hel 2 x2 _ rfl rfl);obtain⟨p3,y3,e3,v3,f3⟩:=ZDy.2 (hel 3 x3 _ rfl rfl);obtain⟨p4,y4,e4,v4,f4⟩:=ZDy.2 (hel 4 x4 _ rfl rfl);obtain⟨p5,y5,e5,v5,f5⟩:=rv3.2 (hel 5 x5 _ rfl rfl);obtain⟨p6,y6,e6,v6,f6⟩:=rv3.2 (hel 6 x6 _ rfl rfl);obtain⟨p7,y7,e7,v7,f7⟩:=rv3.2 (hel 7 x7 _ rfl rfl);exact⟨(p3,p4),⟨y0,y1,y2,y3,y4,y5,y6,y7⟩,by simp only [List.flatMap_cons,List.flatMap_nil,e0,e1,e2,e3,e4,e5,e6,e7];rfl,⟨v0,v1,v2,v3,v4,v5,v6,v7⟩,fun wm=>⟨f3 wm,f4 wm⟩⟩⟩
theorem ZTs:Jt XX.P (ZJ Zd) (fun l=>∀ x ∈ l,ZbV x) 27:= .slice Tryz.underlying27 Kq0 ZTj
def Zrp:Zb ->Prop:=fun x=>(fun l=>∀ x ∈ l,(fun n=>(Lit.int .i64 n).wf=true) x) x.Zx∧(fun l=>∀ x ∈ l,(fun l=>∀ x ∈ l,(fun n=>(Lit.int .i64 n).wf=true) x) x) x.qK∧(fun l=>∀ x ∈ l,(fun l=>∀ x ∈ l,ZaE x) x) x.qQ∧(fun l=>∀ x ∈ l,(fun l=>∀ x ∈ l,Zai x) x) x.qJ∧(fun l=>∀ x ∈ l,ZbV x) x.qG∧(fun n=>(Lit.int .i64 n).wf=true) x.said
theorem ZTr:Jt XX.P ZpG Zrp 29:= ⟨by kernel_rfl,fun a=>by
 obtain⟨els,rfl,hl,hel⟩:=a.ZaZ Tryz.underlying29
 match els,hl,hel with
 | [x0,x1,x2,x3,x4,x5],_,hel=>
   obtain⟨p0,y0,e0,v0,f0⟩:=ZDy.2 (hel 0 x0 _ rfl rfl);obtain⟨p1,y1,e1,v1,f1⟩:=ZTv.2 (hel 1 x1 _ rfl rfl);obtain⟨p2,y2,e2,v2,f2⟩:=ZTu.2 (hel 2 x2 _ rfl rfl);obtain⟨p3,y3,e3,v3,f3⟩:=ZTt.2 (hel 3 x3 _ rfl rfl);obtain⟨p4,y4,e4,v4,f4⟩:=ZTs.2 (hel 4 x4 _ rfl rfl);obtain⟨p5,y5,e5,v5,f5⟩:=rv3.2 (hel 5 x5 _ rfl rfl);exact⟨(p0,p1,p2,p3,p4),⟨y0,y1,y2,y3,y4,y5⟩,by simp only [List.flatMap_cons,List.flatMap_nil,e0,e1,e2,e3,e4,e5];rfl,⟨v0,v1,v2,v3,v4,v5⟩,fun wm=>⟨f0 wm,f1 wm,f2 wm,f3 wm,f4 wm⟩⟩⟩
theorem ZTq:Jt XX.P (Zr .i64) (fun n=>(Lit.int .i64 n).wf=true) 38:= .int Tryz.underlying38 Kq0
def ZkS:ZF ->Prop:=fun x=>(fun n=>(Lit.int .i64 n).wf=true) x.act∧(fun n=>(Lit.int .i64 n).wf=true) x.a∧(fun n=>(Lit.int .i64 n).wf=true) x.b
theorem ZTp:Jt XX.P Wi ZkS 40:= ⟨by kernel_rfl,fun a=>by
 obtain⟨els,rfl,hl,hel⟩:=a.ZaZ Tryz.underlying40
 match els,hl,hel with
 | [x0,x1,x2],_,hel=>
   obtain⟨p0,y0,e0,v0,f0⟩:=ZTq.2 (hel 0 x0 _ rfl rfl);obtain⟨p1,y1,e1,v1,f1⟩:=rv3.2 (hel 1 x1 _ rfl rfl);obtain⟨p2,y2,e2,v2,f2⟩:=rv3.2 (hel 2 x2 _ rfl rfl);exact⟨(),⟨y0,y1,y2⟩,by simp only [List.flatMap_cons,List.flatMap_nil,e0,e1,e2];rfl,⟨v0,v1,v2⟩,fun _=>trivial⟩⟩
theorem ZTo:Jt XX.P (ZJ Wi) (fun l=>∀ x ∈ l,ZkS x) 46:= .slice Tryz.underlying46 Kq0 ZTp
theorem Zwd (H:Type) (enc:TypeId×Value ->H) (W:World) {v0 v1:Value} {d0 d1:DataW H} {p0 p1:List MemPlace}
 (hv0:∃ cs,v0= .agg cs)
 (h0:DataW.Trod enc Tryz.prog W 0 (fun _=>true) true 29 v0 d0 p0)
 (hv1:∃ a len cap,v1= .slice a len cap)
 (h1:DataW.Trod enc Tryz.prog W 0 (fun _=>true) true 46 v1 d1 p1):
 Calls Tryz.prog 5 #[v0,v1] W fun e W'=>e= .returned (.bool true)∧Below W.heap.size W W':=by
 obtain⟨g0,h0⟩:=h0;obtain⟨c0,rfl⟩:=hv0;obtain⟨g1,h1⟩:=h1;obtain⟨c1,l1,k1,rfl⟩:=hv1
 obtain⟨ρ,hp,els,r1,r2,r3,r4⟩:=ZFg (P:=Tryz.prog) (W:=W) [(29,(Value.agg c0).cells.toList,d0),(46,[Value.slice c1 l1 k1],d1)] (fun x hx=>by
  simp only [List.mem_cons,List.not_mem_nil,or_false] at hx;rcases hx with rfl | rfl
  ·exact emb g0 29 _ d0 p0 9 Kq0 h0
  ·exact emb g1 46 _ d1 p1 9 Kq0 h1)
 match els,r3,r4 with
 | [e0,e1],_,r4=>
   obtain⟨q0,a0⟩:=r4 0 e0 _ rfl rfl;obtain⟨m0,x0,z0,w0,F0⟩:=ZTr.2 a0;rw [z0] at q0;obtain⟨ZYy,ZYx,ZYw,ZYv,ZYu⟩:=F0 hp.size;obtain⟨q1,a1⟩:=r4 1 e1 _ rfl rfl;obtain⟨m1,x1,z1,w1,F1⟩:=ZTo.2 a1;rw [z1] at q1;have hj:Y1 XX _ _:=ZQ2 (F:=1000000) (r:=true) ZYy ZYx ZYw ZYv ZYu (F1 hp.size) (ZkY 1000000 (by decide) (by decide) x0 x1) hp.size
   have hc:=callsIn_wide.1 (hj ρ #[.agg c0,.slice c1 l1 k1] W (Nat.le_refl _) r1 ⟨rfl,fun i v v' e1 e2=>by
    match i with
    | 0=>
      simp at e1 e2;subst e1 e2;exact ZDh q0
    | 1=>
      simp at e1 e2;subst e1 e2;exact ZHP q1
    | i + 2=>simp at e1⟩)
   refine hc.mono fun e w' ⟨ρ',he,_,st⟩=>⟨?_,st.below fun i b d _ _ ho=>by rw [r2 i] at ho;cases ho⟩
   cases he with
   | ret hv=>cases hv;rfl
theorem ZpY:laidOutB Tryz.prog=true:=Kq0
theorem ZDQ:ownKnob Tryz.prog.godebug=none:=Kq0
theorem Zsh (os:Os) (started:os.Started) (H:Type) (enc:TypeId×Value ->H):
 ReturnsInHanded {} Tryz.checked os 5 .any (Rows.ferryPlaysSpec.pre6 enc Tryz.prog Tryz.f5 Rows.ferryPlaysRow.domain false) (Rows.ferryPlaysSpec.post enc Tryz.prog Tryz.f5 false true false false):=by
 refine returnsInHanded_of_change (C:=Tryz.checked) ZDQ started Kq0 Tryz.func5
  (ChangeSpec.witness6 (enc:=enc) (C:=Tryz.checked) false ⟨#[],#[.agg #[.slice none 0 0,.slice none 0 0,.slice none 0 0,.slice none 0 0,.slice none 0 0,.int .i64 0],.slice none 0 0],[]⟩ 8 Kq0 Kq0 Kq0 Kq0) ?_
 intro W base args ds gs before hval0 hW hcnd _;have hval:∀ (j:Nat) t v,Tryz.f5.params[j]? =some t ->args[j]? =some v ->Value.okWide Tryz.prog W .any base t v:=hval0;have hW':=hW;obtain⟨p,q,hA0,hV,rfl,hfz,hnd⟩:=hW;have hA:DataW.TrodAll enc Tryz.prog W 0 (fun _=>true) true Tryz.f5.params.toList args.toList ds p:=hA0;rw [Tryz.params5] at hA hval;obtain⟨v0,v1,d0,d1,p0,p1,rfl,rfl,rfl,h0,h1⟩:=trodAll_two hA;obtain⟨rfl,rfl⟩:=trodVars_none hV;clear hA0 hval0;simp only [List.append_nil] at hW';have k0:=hval 0 29 v0 rfl rfl;have o0:∃ cs,v0= .agg cs:=by obtain⟨cs,hcs,_⟩:=okWide_struct Tryz.underlying29 k0;exact⟨cs,hcs⟩
 have k1:=hval 1 46 v1 rfl rfl;have o1:∃ a len cap,v1= .slice a len cap:=okWide_slice Tryz.underlying46 k1;have hlt:∀ x ∈ p0 ++ p1,x.block < W.heap.size:=fun x hx=>hW'.lt x hx
 refine(Zwd H enc W o0 h0 o1 h1).mono fun e W' ⟨he,hg⟩=>?_
 subst he
 exact⟨_,rfl,Zle (pa:=p0 ++ p1) (pv:= []) hW' (fun _ _ _=>(trodAll_cons_mk (shut_bool Tryz.underlying4 _) trodAll_mk0))
  (fun sp hsp=>trodAll_mk2 (WideElems.Trod_stays ZpY Kq0 (of_decide_eq_true Kq0) h0 (fun x hx=>hg.same (hlt x (List.mem_append_left _ hx))) (fun x hx=>hsp x (List.mem_append_left _ hx)))
    (WideElems.Trod_stays ZpY Kq0 (of_decide_eq_true Kq0) h1 (fun x hx=>hg.same (hlt x (List.mem_append_right _ hx))) (fun x hx=>hsp x (List.mem_append_right _ hx)))) (fun _ _=>rfl) (by simp)
  hg (ok_one Kq0 rfl (okWide_bool_mk Tryz.underlying4 _))⟩
theorem Zzb:Rows.ferryPlaysRow.holds Tryz.pinned (OpenSpec.ofChange Rows.ferryPlaysSpec):=
 OpenClaim.holds_of_wide 5 Tryz.f5 rfl rfl rfl rfl rfl rfl rfl ⟨rfl,rfl,rfl,rfl,rfl⟩ rfl rfl rfl rfl rfl Kq0 Tryz.func5 Kq0
  (of_decide_eq_true Kq0) (by unfold Func.isWrapper;first | (rw [if_pos (by decide +kernel)];kernel_rfl) | (rw [if_neg (by decide +kernel)];exact⟨rfl,rfl⟩))
  (fun os started H enc _=>Zsh os started H enc)
theorem law_holds:Rows.FerryPlaysSaid:=Zzb
#print axioms law_holds
end Go.Proofs.YtbmbbcaaimehkaaGreat
end
