/- Together Part 10 of the proof. -/
import Derived.Shelf.Sort.Plain
import Derived.Test.YtbmbbcaaimehkaaGreatTa9
set_option linter.all false
set_option maxHeartbeats 2000000
section
noncomputable section
namespace Go.YJ
open Go.Lf
def Zz4 (P:Program) (f:FuncId):Prop:=∀ (blk off cap:Nat) (zs:List Int) (w:World),Go.Sort.Holds (Value.int .i64) w blk off zs.toArray ->blk < w.heap.size ->zs.length < 4611686018427387904 ->
 Calls P f #[.slice (some ⟨blk,off,none⟩) zs.length cap] w fun e w'=>e= .returned (.tuple #[])∧∃ n os,w'=Go.Sort.grow (Go.Sort.putRow (Value.int .i64) (Go.Sort.ahead w n) blk off (zs.mergeSort fun x y=>decide (x <=y)).toArray) os
def Zab (cs:List Value) (o:Nat) (ys:List Int):List Value:=cs.mapIdx fun k x=>if o <=k∧k < o + ys.length then .int .i64 (ys.getD (k - o) 0) else x
theorem Zdo (cs:List Value) (o:Nat) (ys:List Int):(Zab cs o ys).length=cs.length:=by simp [Zab]
theorem ZhA (cs:List Value) (o:Nat) (ys:List Int) (k:Nat):(Zab cs o ys)[k]? =cs[k]?.map fun x=>if o <=k∧k < o + ys.length then .int .i64 (ys.getD (k - o) 0) else x:=by simp [Zab]
variable {X:Ctx} {f:FuncId} {wm wm0:Nat} {h:H} {i o c:Nat} {cs:List Value} {xs:List Int}
theorem Zv4 (he:QG (Zu .i64) wm0 h cs o xs) {j:Nat} (hj:j < xs.length):cs[o + j]? =some (.int .i64 xs[j]):=by
 obtain⟨q,h1,_⟩:=he.get j xs[j] (List.getElem?_eq_getElem hj);have h1:(cs.drop (o + j * 1)).take 1= [.int .i64 xs[j]]:=h1;rw [Nat.mul_one] at h1;have:=congrArg (fun l=>l[0]?) h1
 simpa [List.getElem?_take,List.getElem?_drop] using this
theorem ZvJ (SC:Zz4 X.P f) (hat:h.at i= .row cs true 1) (hw:wm <=i) (he:QG (Zu .i64) wm0 h cs o xs) (hne:0 < xs.length) (hlen:xs.length < 4611686018427387904):
 YL X (.call f #[.slice (some ⟨i,o,none⟩) xs.length c] wm h) (.fin (.ret (.tuple #[])) (h.put i (.row (Zab cs o (xs.mergeSort fun x y=>decide (x <=y))) true 1))):=by
 intro ρ args' w ZX rel hv;obtain⟨hsz,hvv⟩:=hv;have hsz:args'.size=1:=hsz.symm
 obtain⟨v',rfl⟩:∃ v',args'=#[v']:= ⟨args'[0],by
  apply Array.ext
  ·simpa using hsz
  ·intro k h1 h2;have:k=0:=by omega
   subst this;rfl⟩
 have hvr:=hvv 0 _ _ rfl rfl;generalize hn:xs.length=n at hvr;cases hvr with
 | XH=>omega
 | @slice _ b d _ _ _ c' hρ hc=>
   subst hn;have hb:= (rel.dom i b d hρ).2;have hil:= (rel.dom i b d hρ).1;have hob:=rel.obj i b d hρ;rw [hat] at hob;obtain⟨cc,el,fz,hcc,hfz,hdl,hcv⟩:=hob;obtain⟨ZPW,ZPV⟩:=hfz rfl;subst ZPW;have ZSn:o + xs.length * 1 <=cs.length:=he.len
   have hcell:∀ j (hj:j < xs.length),cc[d + (o + j)]? =some (.int .i64 xs[j]):=fun j hj=>by
    have hk:d + (o + j) < cc.size:=by omega
    have:=hcv (o + j) _ cc[d + (o + j)] (Zv4 he hj) (Array.getElem?_eq_getElem hk);rw [Array.getElem?_eq_getElem hk];cases hx:cc[d + (o + j)] <;> rw [hx] at this <;> cases this
    rfl
   have hH:Go.Sort.Holds (Value.int .i64) w b (d + o) xs.toArray:=by
    intro j hj;have hj':j < xs.length:=by simpa using hj
    refine⟨?_,by simp [World.frozen?,hcc]⟩;have h1:=hcell j hj';simp only [World.cell?,hcc];simp only [Option.isSome_none,Bool.false_eq_true,if_false];rw [show d + o + j=d + (o + j) by omega,h1];simp [hj']
   refine callsIn_wide.2 ((SC b (d + o) c' xs w hH hb hlen).mono ?_);rintro e w' ⟨rfl,n,os,rfl⟩;generalize hys:(xs.mergeSort fun x y=>decide (x <=y))=ys;have hyl:ys.length=xs.length:=by rw [← hys,List.length_mergeSort]
   have hheap:∀ b',b' < w.heap.size ->(Go.Sort.grow (Go.Sort.putRow (Value.int .i64) (Go.Sort.ahead w n) b (d + o) ys.toArray) os).heap[b']? =if b=b' then(w.heap[b']?).map (Go.Sort.onCells (Go.Sort.putCells (Value.int .i64) (d + o) ys.toArray)) else w.heap[b']?:=fun b' hb'=>by
    have hs:b' < (w.heap.modify b (Go.Sort.onCells (Go.Sort.putCells (Value.int .i64) (d + o) ys.toArray))).size:=by simpa using hb'
    simp only [Go.Sort.grow,Go.Sort.putRow,Go.Sort.mapBlock,Go.Sort.ahead];rw [Array.getElem?_append_left hs,Array.getElem?_modify]
   have hsame:∀ b',b' < w.heap.size ->b' ≠ b ->(Go.Sort.grow (Go.Sort.putRow (Value.int .i64) (Go.Sort.ahead w n) b (d + o) ys.toArray) os).heap[b']? =w.heap[b']?:=fun b' hb' hne'=>by rw [hheap b' hb',if_neg (fun q=>hne' q.symm)]
   have hsize:w.heap.size <= (Go.Sort.grow (Go.Sort.putRow (Value.int .i64) (Go.Sort.ahead w n) b (d + o) ys.toArray) os).heap.size:=by simp [Go.Sort.grow,Go.Sort.putRow,Go.Sort.mapBlock,Go.Sort.ahead]
   have hat':∀ j,(h.put i (.row (Zab cs o ys) true 1)).at j=if j=i then .row (Zab cs o ys) true 1 else h.at j:=fun j=>by
    rw [H.XK];by_cases e:j=i
    ·subst e;rw [if_pos ⟨rfl,hil⟩,if_pos rfl]
    ·rw [if_neg (fun q=>e q.1),if_neg e]
   have ZKl:∀ j d',ρ j=some (b,d') ->j ≠ i ->(h.at j).live=false:=fun j d' hj hji=>by
    cases hl:(h.at j).live with
    | false=>rfl
    | true=>exact absurd (rel.inj i j b d d' hρ hj (by rw [hat];rfl) hl).symm hji
   refine⟨ρ,.ret (.tuple _ _ rfl fun k v v' e=>by simp at e),⟨fun j b' d' hj=>⟨(rel.dom j b' d' hj).1,Nat.lt_of_lt_of_le (rel.dom j b' d' hj).2 hsize⟩,fun j b' d' hj=>?_,fun j k b' d1 d2 h1 h2 h3 h4=>?_⟩,?_⟩
   ·rw [hat'];by_cases e:j=i
    ·subst e;rw [hρ] at hj;cases hj;rw [if_pos rfl];refine⟨Go.Sort.putCells (Value.int .i64) (d + o) ys.toArray cc,el,(0,0),?_,fun _=>⟨rfl,fun hz=>?_⟩,?_,fun k v v' e1 e2=>?_⟩
     ·rw [hheap b hb,if_pos rfl,hcc];rfl
     ·rw [ZPV hz];simp [Go.Sort.putCells]
     ·rw [Zdo];simpa [Go.Sort.putCells] using hdl
     ·rw [ZhA] at e1;obtain⟨v0,e0,rfl⟩:=Option.map_eq_some_iff.1 e1;have hkl:k < cs.length:= (Li0 e0).1;have hkc:d + k < cc.size:=by omega
      have e3:(Go.Sort.putCells (Value.int .i64) (d + o) ys.toArray cc)[d + k]? =some (if d + o <=d + k∧d + k < d + o + ys.length then .int .i64 ys.toArray[d + k - (d + o)]! else cc[d + k]):=by
       simp [Go.Sort.putCells,Array.getElem?_eq_getElem hkc]
      rw [e3] at e2;cases e2;by_cases hin:o <=k∧k < o + ys.length
      ·rw [if_pos hin,if_pos (by omega)]
       have:ys.toArray[d + k - (d + o)]! =ys.getD (k - o) 0:=by
        rw [show d + k - (d + o)=k - o by omega];have hlt:k - o < ys.length:=by omega
        simp [hlt]
       rw [this];exact .int _ _
      ·rw [if_neg hin,if_neg (by omega)];exact hcv k v0 _ e0 (Array.getElem?_eq_getElem hkc)
    ·rw [if_neg e];by_cases eb:b'=b
     ·subst eb;have:=ZKl j d' hj e;cases hh:h.at j with
      | dead=>trivial
      | row _ _ _=>rw [hh] at this;cases this
      | map _ _=>rw [hh] at this;cases this
      | loop _ _ _ _ _ _ _ _=>rw [hh] at this;cases this
      | deferred=>rw [hh] at this;cases this
      | Zcu _ _=>rw [hh] at this;cases this
      | iter _ _ _ _=>rw [hh] at this;cases this
      | Zel=>rw [hh] at this;cases this
     ·exact(rel.obj j b' d' hj).world (hsame b' (rel.dom j b' d' hj).2 eb)
   ·rw [hat'] at h3 h4;refine rel.inj j k b' d1 d2 h1 h2 ?_ ?_
    ·by_cases e:j=i
     ·subst e;rw [hat];rfl
     ·rwa [if_neg e] at h3
    ·by_cases e:k=i
     ·subst e;rw [hat];rfl
     ·rwa [if_neg e] at h4
   ·refine⟨Ren.le_refl ρ,Nat.le_refl _,fun j hj=>?_,fun j hj hx=>?_,fun j hj hx=>?_,rfl,rfl,rfl,hsize,fun b' hb' hno=>?_,fun j b' d' e e'=>by rw [e] at e';cases e'⟩
    ·rw [hat',if_neg (by omega)]
    ·rw [hat'] at hx;by_cases e:j=i
     ·subst e;rw [hat];rfl
     ·rwa [if_neg e] at hx
    ·rw [hat'] at hx;by_cases e:j=i
     ·subst e;rw [hat];rfl
     ·rwa [if_neg e] at hx
    ·exact hsame b' hb' fun q=>hno i d hw (by rw [q];exact hρ) (by rw [hat];rfl)
theorem ZAP (SC:Zz4 X.P f) (H0:∀ (wm:Nat) (h:H) (a:Option Addr) (c:Nat),YL X (.call f #[.slice a 0 c] wm h) (.fin (.ret (.tuple #[])) h)) {a:Option Addr} {n:Nat} (hlen:xs.length < 4611686018427387904)
 (ZX:wm <=h.size) (hO:Yd (wm:=wm) [ow wm (Zu .i64) a n c xs] h):
 WR X f #[.slice a n c] wm h (CP (fun(v:Value) (Gb:List (Ast wm))=>v= .tuple [].toArray∧Gb= [ow wm (Zu .i64) a n c (xs.mergeSort fun x y=>decide (x <=y))]) [ow wm (Zu .i64) a n c xs] h):=by
 have hP:(ow wm (Zu .i64) a n c xs).P h:=hO.all _ (by simp);obtain⟨hn,so⟩:=hP;have s0:Sp wm (X8 [ow wm (Zu .i64) a n c xs]) h [ow wm (Zu .i64) a n c xs] h:=Sp.start ZX hO
 have empty:xs= [] ->WR X f #[.slice a n c] wm h (CP (fun(v:Value) (Gb:List (Ast wm))=>v= .tuple [].toArray∧Gb= [ow wm (Zu .i64) a n c (xs.mergeSort fun x y=>decide (x <=y))]) [ow wm (Zu .i64) a n c xs] h):=fun e=>by
  subst e;have hn:n=0:=hn;subst hn;exact⟨_,h,⟨_,rfl,_,⟨rfl,rfl⟩,by simpa using s0⟩,H0 wm h a c⟩
 rcases so.mem with⟨_,_,h3⟩ | ⟨i,o,cs,rfl,h2,h3,h4,h5,h6⟩
 ·exact empty h3
 ·rcases Nat.eq_zero_or_pos xs.length with z | z
  ·exact empty (List.length_eq_zero_iff.1 z)
  ·subst hn;have h3:h.at i= .row cs true 1:=h3;have hj:=ZvJ (c:=c) SC h3 h2 h6 z hlen;refine⟨_,_,⟨_,rfl,_,⟨rfl,rfl⟩,?_⟩,hj⟩;have hil:i < h.size:=Xy h3 rfl
   have hu:Up wm (Xq (some ⟨i,o,none⟩)) h (h.put i (.row (Zab cs o (xs.mergeSort fun x y=>decide (x <=y))) true 1)):=
    let u:=Up.put (lo:=wm) (A:= .row (Zab cs o (xs.mergeSort fun x y=>decide (x <=y))) true 1) h2 (show(h.at i).own=true by rw [h3];rfl)
    ⟨u.size,fun j hj hn=>u.keep j hj fun e=>hn ⟨o,by rw [e]⟩,fun j ⟨o',e⟩=>by cases e;exact⟨h2,by rw [h3];rfl⟩⟩
   refine s0.one .z hu (fun j q=>q) ⟨?_,?_,.inr ⟨i,o,_,rfl,h2,Yw hil _,?_,?_,?_⟩⟩ fun j q=>.inl q
   ·rw [List.length_mergeSort]
   ·rw [List.length_mergeSort];exact so.max
   ·rw [List.length_mergeSort];exact h4
   ·rw [Zdo];exact h5
   ·refine⟨?_,fun k x hk=>⟨(),?_,trivial⟩⟩
    ·rw [Zdo,List.length_mergeSort];exact h6.len
    ·have hkl:k < (xs.mergeSort fun x y=>decide (x <=y)).length:= (Li0 hk).1;have hl:o + xs.length * 1 <=cs.length:=h6.len;have ZU3:k < xs.length:=by rwa [List.length_mergeSort] at hkl
     show((Zab cs o _).drop (o + k * 1)).take 1= [.int .i64 x];rw [Nat.mul_one];apply List.ext_getElem?;intro j;cases j with
     | zero=>
       rw [List.getElem?_take_of_lt (by omega),List.getElem?_drop,Nat.add_zero,ZhA,List.getElem?_eq_getElem (show o + k < cs.length by omega)];simp only [Option.map_some,List.getElem?_cons_zero];rw [if_pos (by omega),show o + k - o=k by omega,List.getD_eq_getElem?_getD,hk];rfl
     | succ j=>rw [List.getElem?_take_eq_none (by omega)];simp
end Go.YJ
end
end
section
set_option maxRecDepth 100000
noncomputable section
namespace Go.Proofs.YtbmbbcaaimehkaaGreat
open Go.YJ Go.Lf
def ZFb:Go.Shelf.Ren:= ⟨fun | 189=>94 | 125=>108 | 257=>107 | 128=>119 | 129=>120 | 294=>110 | 295=>111 | 296=>112 | 297=>113 | 298=>114 | 299=>115 | 216=>116 | 300=>117 | 301=>118 | 328=>121 | 329=>122 | 330=>123 | 331=>124 | 332=>125 | 215=>126 | 343=>127 | n=>n,fun | 28=>22 | 3=>3 | 46=>155 | 0=>0 | 51=>165 | 53=>167 | 4=>4 | 183=>159 | 182=>158 | 131=>69 | 5=>5 | 9=>9 | 218=>168 | 222=>172 | 228=>174 | 229=>175 | n=>n,fun n=>n⟩
theorem ZJf:Lays.n189 Tryz.prog ZFb:= {
 mixed:=by kernel_rfl,
 f125:=Tryz.func108.trans (congrArg some Kq0),
 f128:=Tryz.func119.trans (congrArg some Kq0),
 f129:=Tryz.func120.trans (congrArg some Kq0),
 f189:=Tryz.func94.trans (congrArg some Kq0),
 f215:=Tryz.func126.trans (congrArg some Kq0),
 f216:=Tryz.func116.trans (congrArg some Kq0),
 f257:=Tryz.func107.trans (congrArg some Kq0),
 f294:=Tryz.func110.trans (congrArg some Kq0),
 f295:=Tryz.func111.trans (congrArg some Kq0),
 f296:=Tryz.func112.trans (congrArg some Kq0),
 f297:=Tryz.func113.trans (congrArg some Kq0),
 f298:=Tryz.func114.trans (congrArg some Kq0),
 f299:=Tryz.func115.trans (congrArg some Kq0),
 f300:=Tryz.func117.trans (congrArg some Kq0),
 f301:=Tryz.func118.trans (congrArg some Kq0),
 f328:=Tryz.func121.trans (congrArg some Kq0),
 f329:=Tryz.func122.trans (congrArg some Kq0),
 f330:=Tryz.func123.trans (congrArg some Kq0),
 f331:=Tryz.func124.trans (congrArg some Kq0),
 f332:=Tryz.func125.trans (congrArg some Kq0),
 f343:=Tryz.func127.trans (congrArg some Kq0),
 t0:=Tryz.underlying0,
 a0:=Tryz.isAgg0,
 z0:=Tryz.sizeOf0,
 v0:=Tryz.zeroValue0,
 t3:=Tryz.underlying3,
 a3:=Tryz.isAgg3,
 z3:=Tryz.sizeOf3,
 v3:=Tryz.zeroValue3,
 t4:=Tryz.underlying4,
 a4:=Tryz.isAgg4,
 z4:=Tryz.sizeOf4,
 v4:=Tryz.zeroValue4,
 t5:=Tryz.underlying5,
 a5:=Tryz.isAgg5,
 z5:=Tryz.sizeOf5,
 v5:=Tryz.zeroValue5,
 t9:=Tryz.underlying9,
 a9:=Tryz.isAgg9,
 z9:=Tryz.sizeOf9,
 v9:=Tryz.zeroValue9,
 t28:=Tryz.underlying22,
 a28:=Tryz.isAgg22,
 z28:=Tryz.sizeOf22,
 v28:=Tryz.zeroValue22,
 t46:=Tryz.underlying155,
 a46:=Tryz.isAgg155,
 z46:=Tryz.sizeOf155,
 v46:=Tryz.zeroValue155,
 t51:=Tryz.underlying165,
 a51:=Tryz.isAgg165,
 z51:=Tryz.sizeOf165,
 v51:=Tryz.zeroValue165,
 t53:=Tryz.underlying167,
 a53:=Tryz.isAgg167,
 z53:=Tryz.sizeOf167,
 v53:=Tryz.zeroValue167,
 t131:=Tryz.underlying69,
 a131:=Tryz.isAgg69,
 z131:=Tryz.sizeOf69,
 v131:=Tryz.zeroValue69,
 t182:=Tryz.underlying158,
 a182:=Tryz.isAgg158,
 z182:=Tryz.sizeOf158,
 v182:=Tryz.zeroValue158,
 t183:=Tryz.underlying159,
 a183:=Tryz.isAgg159,
 z183:=Tryz.sizeOf159,
 v183:=Tryz.zeroValue159,
 t218:=Tryz.underlying168,
 a218:=Tryz.isAgg168,
 z218:=Tryz.sizeOf168,
 v218:=Tryz.zeroValue168,
 t222:=Tryz.underlying172,
 a222:=Tryz.isAgg172,
 z222:=Tryz.sizeOf172,
 v222:=Tryz.zeroValue172,
 t228:=Tryz.underlying174,
 a228:=Tryz.isAgg174,
 z228:=Tryz.sizeOf174,
 v228:=Tryz.zeroValue174,
 t229:=Tryz.underlying175,
 a229:=Tryz.isAgg175,
 z229:=Tryz.sizeOf175,
 v229:=Tryz.zeroValue175}
theorem ZIK:Zz4 XX.P 94:=fun blk off cap zs w h1 h2 h3=>Any.slices_Sort_int ZJf blk off cap zs w h1 h2 h3
theorem ZvI (wm:Nat) (h:H) (a:Option Addr) (c:Nat):YL XX (.call 94 #[.slice a 0 c] wm h) (.fin (.ret (.tuple #[])) h):=by
 have e:ev (cfg XX fun _=>false) 100 (.call 94 #[.slice a 0 c] wm h)=some (.fin (.ret (.tuple #[])) h):=Kq0
 exact Zfa (X:=XX) mixed 100 _ _ e
theorem ZyS {wm:Nat} {h:H} {p0:List Int} {Zi:Option Addr} {Zh XP:Nat} {r:List Int} (ZX:wm <=h.size) (hO:Yd (wm:=wm) [ow wm (Zu .i64) Zi XP Zh p0] h) (hL:Zq8 p0=some r):
 WR XX 94 #[.slice Zi XP Zh] wm h (CP (fun(v:Value) (Gb:List (Ast wm))=>v= .tuple [].toArray∧Gb= [ow wm (Zu .i64) Zi XP Zh r]) [ow wm (Zu .i64) Zi XP Zh p0] h):=by
 unfold Zq8 at hL;cases hb:Nat.ble p0.length 1000000 with
 | false=>rw [hb] at hL;cases hL
 | true=>
   rw [hb] at hL;cases hL;have:=Nl0 hb;exact ZAP ZIK ZvI (by omega) ZX hO
end Go.Proofs.YtbmbbcaaimehkaaGreat
end
end
section
namespace Go.Proofs.YtbmbbcaaimehkaaGreat
open Go.Lf
def ZiJ (v17:Int) (U5:(Int×Int×Int×Bool×Int ->Option (Ym×Int))):Int×Int×Bool×Int ->Option (Ym×Int):=fun(v29,v34,v35,v36)=>
 U5 (v29,Xa (v17 + 1),v34,v35,v36)
def ZfC (v58:Int) (ZbP:(Int×Int×Int×Bool×Int ->Option (Ym×Int))):Int×Int×Bool×Int ->Option (Ym×Int):=fun(v69,v74,v75,v76)=>
 ZbP (v69,Xa (v58 + 1),v74,v75,v76)
def ZiI (ZgJ:Int) (ZcA:(Int×Int×Int×Bool×Int ->Option (Ym×Int))):Int×Int×Bool×Int ->Option (Ym×Int):=fun(Zd0,ZAF,ZAE,ZAD)=>
 ZcA (Zd0,Xa (ZgJ + 1),ZAF,ZAE,ZAD)
def Zmj (p1:Int) (v58:Int) (ZbP:(Int×Int×Int×Bool×Int ->Option (Ym×Int))) (x77:Ze):Int×Int×Int×Bool×Int ->(Int×Int×Int×Bool×Int ->Option (Ym×Int)) ->Option (Ym×Int):=fun(v92,ZgJ,ZcU,Znq,JH) ZcA=>
 (bif decide (ZgJ < (x77.qV.length:Int)) then(ZQ x77.qV ZgJ).bind fun ZjF=>(bif(ZjF==p1) then(ZQ x77.Yh ZgJ).bind fun Ztn=>(ZiI ZgJ ZcA) (Xa (v92 + 1),x77.Z8,false,Ztn) else(ZiI ZgJ ZcA) (v92,ZcU,Znq,JH)) else(ZfC v58 ZbP) (v92,ZcU,Znq,JH))
def ZiK (F:Nat) (p0:Zb) (p1:Int):Int×Int×Int×Bool×Int ->(Int×Int×Int×Bool×Int ->Option (Ym×Int)) ->Option (Ym×Int):=fun(v54,v58,v60,v61,v62) ZbP=>
 (bif decide (v58 < (p0.qG.length:Int)) then(ZQ p0.qG v58).bind fun x77=>(bif(x77.kind !=2) then(ZfC v58 ZbP) (v54,v60,v61,v62) else loop F (Zmj p1 v58 ZbP x77) (v54,0,v60,v61,v62)) else some ((Ym.mk v60 v61 v62),v54))
def Zmk (F:Nat) (p0:Zb) (p1:Int):Int×Int×Int×Bool×Int ->(Int×Int×Int×Bool×Int ->Option (Ym×Int)) ->Option (Ym×Int):=fun(v13,v17,v19,v20,v21) U5=>
 (bif decide (v17 < (p0.qQ.length:Int)) then(ZQ p0.qQ v17).bind fun x37=>(ZQ x37 p1).bind fun x42=>(bif x42.here then(ZQ x37 p1).bind fun U0=>(ZiJ v17 U5) (Xa (v13 + 1),v17,true,U0.age) else(ZiJ v17 U5) (v13,v19,v20,v21)) else loop F (ZiK F p0 p1) (v13,0,v19,v20,v21))
def ZdB (F:Nat) (p0:Zb) (p1:Int):Option (Ym×Int):=
 loop F (Zmk F p0 p1) (0,0,0,false,0)
def ZfA (p0:Zb) (v23:Int) (KD:(Int ->Option Bool)):Int×Int ->(Int×Int ->Option Bool) ->Option Bool:=fun(v33,v35) ZhQ=>
 (bif decide (v35 >=0) then(bif decide ((Xa (v33 + 1)) > (p0.Zv.length:Int)) then some false else(ZQ p0.Zv v35).bind fun x41=>(gd (!(decide (x41 < (-1)))) (ZQ p0.Zv v35) default).bind fun x44=>(bif((decide (x41 < (-1))) || (decide (x44 >= (p0.Zv.length:Int)))) then some false else(ZQ p0.Zv v35).bind fun x47=>ZhQ (Xa (v33 + 1),x47))) else KD (Xa (v23 + 1)))
def ZfB (F:Nat) (p0:Zb):Int ->(Int ->Option Bool) ->Option Bool:=fun v23 KD=>
 (bif decide (v23 < (p0.Zv.length:Int)) then(ZQ p0.Zv v23).bind fun Ki=>(bif((decide (Ki < (-1))) || (decide (Ki >= (p0.Zv.length:Int)))) then some false else loop F (ZfA p0 v23 KD) (0,v23)) else some true)
def ZiH (F:Nat) (p0:Zb):Int ->(Int ->Option Bool) ->Option Bool:=fun v9 ZhT=>
 (bif decide (v9 < (p0.qQ.length:Int)) then(ZQ p0.qQ v9).bind fun x12=>(bif((x12.length:Int) != (p0.Zv.length:Int)) then some false else ZhT (Xa (v9 + 1))) else loop F (ZfB F p0) 0)
def Zy2 (F:Nat) (p0:Zb):Option Bool:=
 (bif((((((decide ((p0.qQ.length:Int) < 1)) || (decide ((p0.qQ.length:Int) > 5))) || (decide ((p0.Zv.length:Int) < 1))) || (decide ((p0.Zv.length:Int) > 8))) || ((p0.qK.length:Int) != (p0.Zv.length:Int))) || ((p0.qJ.length:Int) != (p0.qQ.length:Int))) then some false else loop F (ZiH F p0) 0)
def Za4 (v8:Int) (J3:(Int ->Option Bool)):Unit ->Option Bool:=fun _=>
 J3 (Xa (v8 + 1))
def ZdA (p0:Zb) (v8:Int) (J3:(Int ->Option Bool)) (UO:Ze):Int ->(Int ->Option Bool) ->Option Bool:=fun v46 ZhP=>
 (bif decide (v46 < (UO.qV.length:Int)) then(ZQ UO.qV v46).bind fun x49=>(gd ((!((decide (x49 < 0)) || (decide (x49 >= (p0.Zv.length:Int))))) && (decide (v46 > 0))) (ZQ UO.qV (Xa (v46 - 1))) default).bind fun x52=>(gd (!(((decide (x49 < 0)) || (decide (x49 >= (p0.Zv.length:Int)))) || ((decide (v46 > 0)) && (decide (x49 <=x52))))) (ZQ UO.Yh v46) default).bind fun x55=>(gd (!((((decide (x49 < 0)) || (decide (x49 >= (p0.Zv.length:Int)))) || ((decide (v46 > 0)) && (decide (x49 <=x52)))) || (decide (x55 < 1)))) (ZQ UO.Yh v46) default).bind fun x58=>(bif(((((decide (x49 < 0)) || (decide (x49 >= (p0.Zv.length:Int)))) || ((decide (v46 > 0)) && (decide (x49 <=x52)))) || (decide (x55 < 1))) || (decide (x58 > 30))) then some false else ZhP (Xa (v46 + 1))) else(Za4 v8 J3) ())
def Zdz (F:Nat) (p0:Zb) (v8:Int) (J3:(Int ->Option Bool)) (UO:Ze):Bool ->Option Bool:=fun v35=>
 (bif v35 then(Za4 v8 J3) () else(bif(UO.kind==2) then(bif((decide ((UO.qV.length:Int) < 1)) || ((UO.Yh.length:Int) != (UO.qV.length:Int))) then some false else loop F (ZdA p0 v8 J3 UO) 0) else some false))
def Zae (F:Nat) (p0:Zb):Int ->(Int ->Option Bool) ->Option Bool:=fun v8 J3=>
 (bif decide (v8 < (p0.qG.length:Int)) then(ZQ p0.qG v8).bind fun UO=>(bif(UO.kind==1) then(Zdz F p0 v8 J3 UO) (UO.kind==1) else(Zdz F p0 v8 J3 UO) (UO.kind==3)) else some true)
def Zus (F:Nat) (p0:Zb):Option Bool:=
 loop F (Zae F p0) 0
def Zmi (v33:Int) (ZlC:((List Int)×Int ->Option Bool)) (x36:(List Zr)):(List Int)×Int ->((List Int)×Int ->Option Bool) ->Option Bool:=fun(v44,v54) ZwB=>
 (bif decide (v54 < (x36.length:Int)) then(ZQ x36 v54).bind fun QT=>(app 8 v44 [QT.msg]).bind fun z65=>ZwB (z65,Xa (v54 + 1)) else ZlC (v44,Xa (v33 + 1)))
def ZiC (v79:Int) (Zfj:((List Int)×Int ->Option Bool)):(List Int) ->Option Bool:=fun v85=>
 Zfj (v85,Xa (v79 + 1))
def Za3 (p0:ZV) (Znh:(List Int)):Int ->(Int ->Option Bool) ->Option Bool:=fun ZgI Zsn=>
 (bif decide (ZgI < (Znh.length:Int)) then(ZQ Znh ZgI).bind fun ZaL=>(bif(ZaL !=ZgI) then some false else Zsn (Xa (ZgI + 1))) else some ((Znh.length:Int)==p0.Za.said))
def ZiD (F:Nat) (p0:ZV):(List Int)×Int ->((List Int)×Int ->Option Bool) ->Option Bool:=fun(v72,v79) Zfj=>
 (bif decide (v79 < (p0.Za.qG.length:Int)) then(ZQ p0.Za.qG v79).bind fun x93=>(bif(x93.kind==1) then(app 8 v72 [x93.Yi.msg]).bind fun z105=>(ZiC v79 Zfj) z105 else(ZiC v79 Zfj) v72) else(Zq8 v72).bind fun Znh=>loop F (Za3 p0 Znh) 0)
def ZiE (F:Nat) (p0:ZV):(List Int)×Int ->((List Int)×Int ->Option Bool) ->Option Bool:=fun(v26,v33) ZlC=>
 (bif decide (v33 < (p0.Za.qJ.length:Int)) then(ZQ p0.Za.qJ v33).bind fun x36=>loop F (Zmi v33 ZlC x36) (v26,0) else loop F (ZiD F p0) (v26,0))
def ZiF (F:Nat) (p0:ZV):(List Int)×Int ->((List Int)×Int ->Option Bool) ->Option Bool:=fun(v4,v11) KE=>
 (bif decide (v11 < (p0.Za.qK.length:Int)) then(ZQ p0.Za.qK v11).bind fun x14=>(app 8 v4 x14).bind fun z19=>KE (z19,Xa (v11 + 1)) else loop F (ZiE F p0) (v4,0))
def Zuq (F:Nat) (p0:ZV):Option Bool:=
 (bif((decide (p0.Za.said < 0)) || (decide (p0.Za.said > 40))) then some false else loop F (ZiF F p0) ([],0))
end Go.Proofs.YtbmbbcaaimehkaaGreat
end
section
set_option maxRecDepth 20000
noncomputable section
namespace Go.Proofs.YtbmbbcaaimehkaaGreat
open Go.YJ Go.Lf
theorem Zb9 {F wm:Nat} {h:H} {p0:Zb} {p1:Int} {Zi:Option Addr} {Zh:Nat} {Zq:Option Addr} {Zo:Nat} {Zk:Option Addr} {Zj:Nat} {Zp:Option Addr} {Zn:Nat} {Zm:Option Addr} {Zl:Nat} {r:(Ym×Int)} (ZX:wm <=h.size) (ZA:Sl (Zu .i64) wm h Zi Zh p0.Zv) (ZN:Sl (Zz (Zu .i64)) wm h Zq Zo p0.qK) (ZL:Sl (Zz Zc) wm h Zk Zj p0.qQ) (ZO:Sl (Zz Zg) wm h Zp Zn p0.qJ) (ZK:Sl Zd wm h Zm Zl p0.qG) (hL:ZdB F p0 p1=some r):
 WR XX 67 #[.agg [.slice Zi p0.Zv.length Zh,.slice Zq p0.qK.length Zo,.slice Zk p0.qQ.length Zj,.slice Zp p0.qJ.length Zn,.slice Zm p0.qG.length Zl,.int .i64 p0.said].toArray,.int .i64 p1] wm h (CP (fun(v:Value) (Gb:List (Ast wm))=>v= .tuple [.agg [.int .i64 r.1.machine,.bool r.1.here,.int .i64 r.1.age].toArray,.int .i64 r.2].toArray∧Gb= []) [] h):=by
 refine bg Tryz.ntmps67 ZX Yd.nil ?_;intro T hT hS;unfold ZdB at hL;refine r3 ?_;rintro _ h2 ⟨b1,eb1,rfl,hS⟩;refine r1 ?_;rintro _ h4 ⟨b3,eb3,rfl,hS⟩;refine r6 ?_;rintro _ h6 ⟨b5,eb5,rfl,hS⟩;refine r16 ?_;refine r1 ?_;refine WC.loop (WL.lift hL (fun(p:Int×Int×Int×Bool×Int) (s:Fs)=>match p with | (v13,v17,v19,v20,v21)=>∃ (fr8:Fr) (h7:H),s= ⟨fr8,[],h7,none⟩∧Sp wm T h [bx wm b1 (cW p0 Zi Zh Zq Zo Zk Zj Zp Zn Zm Zl),bx wm b3 [.int .i64 0,.bool false,.int .i64 0],bx wm b5 [.int .i64 v19,.bool v20,.int .i64 v21]] h7∧fr8.at 1= .int .i64 p1∧fr8.at 2= .pointer (some ⟨b1,0,none⟩)∧fr8.at 4= .pointer (some ⟨b3,0,none⟩)∧fr8.at 6= .pointer (some ⟨b5,0,none⟩)∧fr8.at 7= .int .i64 v13∧fr8.at 15= .slice Zk p0.qQ.length Zj∧fr8.at 16= .int .i64 (p0.qQ.length:Int)∧fr8.at 17= .int .i64 v17) ⟨_,_,rfl,hS.only (.c k2 (.c k1 (.c k0 .n))),YD⟩ ?_);clear hL hS;rintro U5 ⟨v13,v17,v19,v20,v21⟩ s ZlT hL ⟨fr8,h7,rfl,hS,e9,e10,e11,e12,e14,e15,e16,e18⟩;dsimp only [Zmk] at hL;refine r6 ?_;refine cn hL ?_ ?_
 ·intro hc hL;refine r2 ?_;refine WC.Zbn (r:=r) (fun(p:Int×Int×Bool×Int) (s:Fs)=>match p with | (v29,v34,v35,v36)=>∃ (UL:Fr) (h23:H),s= ⟨UL,[],h23,none⟩∧Sp wm T h [bx wm b1 (cW p0 Zi Zh Zq Zo Zk Zj Zp Zn Zm Zl),bx wm b3 [.int .i64 0,.bool false,.int .i64 0],bx wm b5 [.int .i64 v34,.bool v35,.int .i64 v36]] h23∧UL.at 1= .int .i64 p1∧UL.at 2= .pointer (some ⟨b1,0,none⟩)∧UL.at 4= .pointer (some ⟨b3,0,none⟩)∧UL.at 6= .pointer (some ⟨b5,0,none⟩)∧UL.at 7= .int .i64 v29∧UL.at 15= .slice Zk p0.qQ.length Zj∧UL.at 16= .int .i64 (p0.qQ.length:Int)∧UL.at 17= .int .i64 v17) (ZiJ v17 U5) ?_ ?_
  ·clear hL hS;rintro⟨v29,v34,v35,v36⟩ s hL ⟨UL,h23,rfl,hS,e25,e26,e27,e28,e30,e31,e32,e33⟩;dsimp only [ZiJ] at hL;refine r4 ?_;exact Ye.Y2 (ZlT _ _ hL ⟨_,_,rfl,hS.only (.c k0 (.c k0 (.c k0 .n))),YD⟩)
  ·skip;refine r4 ?_;obtain⟨x37,Zfq,hL⟩:=bind_some hL;obtain⟨b38,o39,⟨a40,c41⟩,Zig,Zim,Zik,ZkM⟩:=Sl.at_ ZL Zfq;refine WO.w gN rfl (ZE UR QZ lk lk rfl Zig Zfq) ?_;have ZoF:Sl Zc wm h a40 c41 x37:=ZkM;refine WO.w gN rfl (ZW WG (Yo fh rfl) (At.fz hS.fz Zik Zim) (j:=0) rfl (v:= .slice a40 x37.length c41) rfl) ?_;refine r8 ?_;obtain⟨x42,Zqw,hL⟩:=bind_some hL;obtain⟨b43,o44,_,ZxP,Zym,Zx4,ZLu⟩:=Sl.at_ ZoF Zqw;refine WO.w gN rfl (ZE UQ XA lk lk rfl ZxP Zqw) ?_;refine r1 ?_;refine WO.w gN rfl (ZW ZuW (Yo fh rfl) (At.fz hS.fz Zx4 Zym) (j:=0) rfl (v:= .bool x42.here) rfl) ?_;refine r2 ?_;refine cn hL ?_ ?_
   ·intro hc hL;refine r4 ?_;refine r1 ?_;obtain⟨U0,Zov,hL⟩:=bind_some hL;obtain⟨b46,o47,_,ZoP,ZoV,ZoS,ZoR⟩:=Sl.at_ ZoF Zov;refine WO.w gN rfl (ZE UQ XA lk lk rfl ZoP Zov) ?_;refine r1 ?_;refine WO.w gN rfl (ZW Xv (Yo fh rfl) (At.fz hS.fz ZoS ZoV) (j:=2) rfl (v:= .int .i64 U0.age) rfl) ?_;refine WO.w gN rfl (X4 Zrw (ZC lk (ZC lk (ZC lk Yf))) rfl (cs':= [.int .i64 v17,.bool true,.int .i64 U0.age]) rfl) ?_;refine r1 ?_;rintro h48 hS;refine r8 ?_;exact YO.Y2 _ hL ⟨_,_,rfl,hS.only (.c k1 (.c k1 (.c k0 .n))),YD⟩
   ·intro hc hL;refine r2 ?_;exact YO.Y2 _ hL ⟨_,_,rfl,hS.only (.c k0 (.c k0 (.c k0 .n))),YD⟩
 ·intro hc hL;refine XC ?_;refine r3 ?_;refine WC.loop (WL.lift hL (fun(p:Int×Int×Int×Bool×Int) (s:Fs)=>match p with | (v54,v58,v60,v61,v62)=>∃ (Zl5:Fr) (h49:H),s= ⟨Zl5,[],h49,none⟩∧Sp wm T h [bx wm b3 [.int .i64 0,.bool false,.int .i64 0],bx wm b5 [.int .i64 v60,.bool v61,.int .i64 v62]] h49∧Zl5.at 1= .int .i64 p1∧Zl5.at 4= .pointer (some ⟨b3,0,none⟩)∧Zl5.at 6= .pointer (some ⟨b5,0,none⟩)∧Zl5.at 7= .int .i64 v54∧Zl5.at 38= .slice Zm p0.qG.length Zl∧Zl5.at 39= .int .i64 (p0.qG.length:Int)∧Zl5.at 40= .int .i64 v58) ⟨_,_,rfl,hS.only (.c k1 (.c k1 .n)),YD⟩ ?_);clear hL hS;rintro ZbP ⟨v54,v58,v60,v61,v62⟩ s ZBw hL ⟨Zl5,h49,rfl,hS,e51,e52,e53,e55,e56,e57,e59⟩;dsimp only [ZiK] at hL;refine r6 ?_;refine cn hL ?_ ?_
  ·intro hc hL;refine r2 ?_;refine WC.Zbn (r:=r) (fun(p:Int×Int×Bool×Int) (s:Fs)=>match p with | (v69,v74,v75,v76)=>∃ (Zl4:Fr) (h64:H),s= ⟨Zl4,[],h64,none⟩∧Sp wm T h [bx wm b3 [.int .i64 0,.bool false,.int .i64 0],bx wm b5 [.int .i64 v74,.bool v75,.int .i64 v76]] h64∧Zl4.at 1= .int .i64 p1∧Zl4.at 4= .pointer (some ⟨b3,0,none⟩)∧Zl4.at 6= .pointer (some ⟨b5,0,none⟩)∧Zl4.at 7= .int .i64 v69∧Zl4.at 38= .slice Zm p0.qG.length Zl∧Zl4.at 39= .int .i64 (p0.qG.length:Int)∧Zl4.at 40= .int .i64 v58) (ZfC v58 ZbP) ?_ ?_
   ·clear hL hS;rintro⟨v69,v74,v75,v76⟩ s hL ⟨Zl4,h64,rfl,hS,e66,e67,e68,e70,e71,e72,e73⟩;dsimp only [ZfC] at hL;refine r4 ?_;exact Ye.Y2 (ZBw _ _ hL ⟨_,_,rfl,hS.only (.c k0 (.c k0 .n)),YD⟩)
   ·skip;refine r3 ?_;obtain⟨x77,ZJv,hL⟩:=bind_some hL;obtain⟨b78,o79,⟨⟨a80,c81⟩,⟨a82,c83⟩⟩,ZK2,ZL7,ZLE,ZD1⟩:=Sl.at_ ZK ZJv;refine WO.w gN rfl (ZE JK Y4 lk lk rfl ZK2 ZJv) ?_;have ZJY:Sl (Zu .i64) wm h a80 c81 x77.qV:=ZD1.1;have ZJX:Sl (Zu .i64) wm h a82 c83 x77.Yh:=ZD1.2;refine WO.w gN rfl (Xh ZaE Y4 (Yo fh rfl) (At.fz hS.fz ZLE ZL7) (j:=0) rfl rfl (ws:= (cL x77 a80 c81 a82 c83)) rfl) ?_;refine r1 ?_;rintro _ h85 ⟨b84,ZWj,rfl,hS⟩;refine r1 ?_;rintro h86 hS;refine r8 ?_;refine r2 ?_;refine cn hL ?_ ?_
    ·intro hc hL;refine r3 ?_;exact YO.Y2 _ hL ⟨_,_,rfl,hS.only (.c k1 (.c k1 .n)),YD⟩
    ·intro hc hL;refine r8 ?_;refine r3 ?_;refine WC.loop (WL.lift hL (fun(p:Int×Int×Int×Bool×Int) (s:Fs)=>match p with | (v92,ZgJ,ZcU,Znq,JH)=>∃ (Zfu:Fr) (h87:H),s= ⟨Zfu,[],h87,none⟩∧Sp wm T h [bx wm b3 [.int .i64 0,.bool false,.int .i64 0],bx wm b5 [.int .i64 ZcU,.bool Znq,.int .i64 JH],bx wm b84 (cL x77 a80 c81 a82 c83)] h87∧Zfu.at 1= .int .i64 p1∧Zfu.at 4= .pointer (some ⟨b3,0,none⟩)∧Zfu.at 6= .pointer (some ⟨b5,0,none⟩)∧Zfu.at 7= .int .i64 v92∧Zfu.at 11= .pointer (some ⟨b84,0,none⟩)∧Zfu.at 38= .slice Zm p0.qG.length Zl∧Zfu.at 39= .int .i64 (p0.qG.length:Int)∧Zfu.at 40= .int .i64 v58∧Zfu.at 48= .slice a80 x77.qV.length c81∧Zfu.at 49= .int .i64 (x77.qV.length:Int)∧Zfu.at 50= .int .i64 ZgJ) ⟨_,_,rfl,hS.only (.c k1 (.c k1 (.c k0 .n))),YD⟩ ?_);clear hL hS;rintro ZcA ⟨v92,ZgJ,ZcU,Znq,JH⟩ s Zxu hL ⟨Zfu,h87,rfl,hS,e89,e90,e91,e93,e94,e95,e96,e97,e98,e99,ZHE⟩;dsimp only [Zmj] at hL;refine r6 ?_;refine cn hL ?_ ?_
     ·intro hc hL;refine r2 ?_;refine WC.Zbn (r:=r) (fun(p:Int×Int×Bool×Int) (s:Fs)=>match p with | (Zd0,ZAF,ZAE,ZAD)=>∃ (Zaz:Fr) (ZBU:H),s= ⟨Zaz,[],ZBU,none⟩∧Sp wm T h [bx wm b3 [.int .i64 0,.bool false,.int .i64 0],bx wm b5 [.int .i64 ZAF,.bool ZAE,.int .i64 ZAD],bx wm b84 (cL x77 a80 c81 a82 c83)] ZBU∧Zaz.at 1= .int .i64 p1∧Zaz.at 4= .pointer (some ⟨b3,0,none⟩)∧Zaz.at 6= .pointer (some ⟨b5,0,none⟩)∧Zaz.at 7= .int .i64 Zd0∧Zaz.at 11= .pointer (some ⟨b84,0,none⟩)∧Zaz.at 38= .slice Zm p0.qG.length Zl∧Zaz.at 39= .int .i64 (p0.qG.length:Int)∧Zaz.at 40= .int .i64 v58∧Zaz.at 48= .slice a80 x77.qV.length c81∧Zaz.at 49= .int .i64 (x77.qV.length:Int)∧Zaz.at 50= .int .i64 ZgJ) (ZiI ZgJ ZcA) ?_ ?_
      ·clear hL hS;rintro⟨Zd0,ZAF,ZAE,ZAD⟩ s hL ⟨Zaz,ZBU,rfl,hS,e108,e109,ZHB,ZMU,ZMT,ZCu,e115,e116,e117,e118,e119⟩;dsimp only [ZiI] at hL;refine r4 ?_;exact Ye.Y2 (Zxu _ _ hL ⟨_,_,rfl,hS.only (.c k0 (.c k0 (.c k0 .n))),YD⟩)
      ·skip;refine r4 ?_;obtain⟨ZjF,ZoB,hL⟩:=bind_some hL;obtain⟨ZmS,ZO6,_,ZqK,ZqP,ZqN,ZF5⟩:=Sl.at_ ZJY ZoB;refine WO.w gN rfl (ZE YE YF lk lk rfl ZqK ZoB) ?_;refine WO.w gN rfl (ZW Xv (Yo fh rfl) (At.fz hS.fz ZqN ZqP) (j:=0) rfl (v:= .int .i64 ZjF) rfl) ?_;refine r8 ?_;refine r3 ?_;refine cn hL ?_ ?_
       ·intro hc hL;refine r1 ?_;refine WC.Xx mixed Kq0 ?_;refine r4 ?_;refine r1 ?_;obtain⟨Ztn,ZDG,hL⟩:=bind_some hL;obtain⟨ZYl,ZUv,_,ZFY,ZGE,ZGe,ZQn⟩:=Sl.at_ ZJX ZDG;refine WX.w gN rfl (ZE YE YF lk lk rfl ZFY ZDG) ?_ rfl;refine WX.w gN rfl (ZW Xv (Yo fh rfl) (At.fz hS.fz ZGe ZGE) (j:=0) rfl (v:= .int .i64 Ztn) rfl) ?_ rfl;refine WX.w gN rfl (X4 Zrw (ZC lk (ZC lk (ZC lk Yf))) rfl (cs':= [.int .i64 x77.Z8,.bool false,.int .i64 Ztn]) rfl) ?_ rfl;refine WX.hu gN (ZaQ hS k1 Wl lk lk (vs:= [.int .i64 x77.Z8,.bool false,.int .i64 Ztn]) rfl rfl rfl rfl (cs':= [.int .i64 x77.Z8,.bool false,.int .i64 Ztn]) rfl) ?_ rfl rfl [] Kq0 YV.e;rintro ZQK hS;refine r8 ?_;exact YO.Y2 _ hL ⟨_,_,rfl,hS.only (.c k1 (.c k0 (.c k0 .n))),YD⟩
       ·intro hc hL;refine r2 ?_;exact YO.Y2 _ hL ⟨_,_,rfl,hS.only (.c k0 (.c k0 (.c k0 .n))),YD⟩
     ·intro hc hL;refine r4 ?_;refine r1 ?_;exact YO.Y2 _ hL ⟨_,_,rfl,hS.only (.c k0 (.c k0 .n)),YD⟩
  ·intro hc hL;refine r8 ?_;refine r2 ?_;rintro ZBT hS;refine r4 ?_;have hr:=Oi0 hL;subst hr;exact Yl.gen (vs:= [.agg [.int .i64 v60,.bool v61,.int .i64 v62].toArray,.int .i64 v54]) rfl (Xd (Y3 rfl e52) (Kn Zm1 Wl (hS.atB k0) (j:=0) rfl rfl (ws:= [.int .i64 v60,.bool v61,.int .i64 v62]) rfl) (ZU lk ZB)) rfl ⟨_,⟨rfl,rfl⟩,hT ▸ hS.only .n⟩
theorem ZHd {F wm:Nat} {h:H} {p0:Zb} {Zi:Option Addr} {Zh:Nat} {Zq:Option Addr} {Zo:Nat} {Zk:Option Addr} {Zj:Nat} {Zp:Option Addr} {Zn:Nat} {Zm:Option Addr} {Zl:Nat} {r:Bool} (ZX:wm <=h.size) (ZA:Sl (Zu .i64) wm h Zi Zh p0.Zv) (ZN:Sl (Zz (Zu .i64)) wm h Zq Zo p0.qK) (ZL:Sl (Zz Zc) wm h Zk Zj p0.qQ) (ZO:Sl (Zz Zg) wm h Zp Zn p0.qJ) (ZK:Sl Zd wm h Zm Zl p0.qG) (hL:Zy2 F p0=some r):
 WR XX 68 #[.agg [.slice Zi p0.Zv.length Zh,.slice Zq p0.qK.length Zo,.slice Zk p0.qQ.length Zj,.slice Zp p0.qJ.length Zn,.slice Zm p0.qG.length Zl,.int .i64 p0.said].toArray] wm h (CP (fun(v:Value) (Gb:List (Ast wm))=>v= .bool r∧Gb= []) [] h):=by
 refine bg Tryz.ntmps68 ZX Yd.nil ?_;intro T hT hS;unfold Zy2 at hL;refine r3 ?_;rintro _ h2 ⟨b1,eb1,rfl,hS⟩;refine r4 ?_;refine WC.Xx mixed Kq0 ?_;refine r16 ?_;refine r16 ?_;refine r8 ?_;refine r3 ?_;refine cn hL ?_ ?_
 ·intro hc hL;refine r6 ?_;refine r1 ?_;exact rt hL hT hS
 ·intro hc hL;refine XC ?_;refine WC.loop (WL.lift hL (fun(v9:Int) (s:Fs)=>∃ (KU:Fr) (h3:H),s= ⟨KU,[],h3,none⟩∧Sp wm T h [bx wm b1 (cW p0 Zi Zh Zq Zo Zk Zj Zp Zn Zm Zl)] h3∧KU.at 1= .pointer (some ⟨b1,0,none⟩)∧KU.at 4= .int .i64 (p0.Zv.length:Int)∧KU.at 46= .slice Zk p0.qQ.length Zj∧KU.at 47= .int .i64 (p0.qQ.length:Int)∧KU.at 48= .int .i64 v9) ⟨_,_,rfl,hS.only (.c k0 .n),YD⟩ ?_);clear hL hS;rintro ZhT v9 s ZlW hL ⟨KU,h3,rfl,hS,e5,e6,e7,e8,e10⟩;dsimp only [ZiH] at hL;refine r6 ?_;refine cn hL ?_ ?_
  ·intro hc hL;refine r6 ?_;obtain⟨x12,Zqy,hL⟩:=bind_some hL;obtain⟨b13,o14,⟨a15,c16⟩,ZxX,Zys,Zx9,Zx1⟩:=Sl.at_ ZL Zqy;refine WO.w gN rfl (ZE UR QZ lk lk rfl ZxX Zqy) ?_;have ZDL:Sl Zc wm h a15 c16 x12:=Zx1;refine WO.w gN rfl (ZW WG (Yo fh rfl) (At.fz hS.fz Zx9 Zys) (j:=0) rfl (v:= .slice a15 x12.length c16) rfl) ?_;refine r8 ?_;refine r3 ?_;refine cn hL ?_ ?_
   ·intro hc hL;refine r8 ?_;refine r3 ?_;exact rt hL hT hS
   ·intro hc hL;refine r6 ?_;refine r1 ?_;exact Ye.Y2 (ZlW _ _ hL ⟨_,_,rfl,hS.only (.c k0 .n),YD⟩)
  ·intro hc hL;refine XC ?_;refine r3 ?_;refine WC.loop (WL.lift hL (fun(v23:Int) (s:Fs)=>∃ (Zq3:Fr) (h17:H),s= ⟨Zq3,[],h17,none⟩∧Sp wm T h [bx wm b1 (cW p0 Zi Zh Zq Zo Zk Zj Zp Zn Zm Zl)] h17∧Zq3.at 1= .pointer (some ⟨b1,0,none⟩)∧Zq3.at 4= .int .i64 (p0.Zv.length:Int)∧Zq3.at 58= .slice Zi p0.Zv.length Zh∧Zq3.at 59= .int .i64 (p0.Zv.length:Int)∧Zq3.at 60= .int .i64 v23) ⟨_,_,rfl,hS.only (.c k0 .n),YD⟩ ?_);clear hL hS;rintro KD v23 s ZlS hL ⟨Zq3,h17,rfl,hS,e19,e20,e21,e22,e24⟩;dsimp only [ZfB] at hL;refine r6 ?_;refine cn hL ?_ ?_
   ·intro hc hL;refine r6 ?_;refine r1 ?_;obtain⟨Ki,ZjR,hL⟩:=bind_some hL;obtain⟨b27,o28,_,ZLd,ZMj,ZLU,ZSF⟩:=Sl.at_ ZA ZjR;refine WO.w gN rfl (ZE YE YF lk lk rfl ZLd ZjR) ?_;refine WO.w gN rfl (ZW Xv (Yo fh rfl) (At.fz hS.fz ZLU ZMj) (j:=0) rfl (v:= .int .i64 Ki) rfl) ?_;refine r16 ?_;refine cn hL ?_ ?_
    ·intro hc hL;refine XC ?_;exact rt hL hT hS
    ·intro hc hL;refine XC ?_;refine r2 ?_;refine WC.loop (WL.lift hL (fun(p:Int×Int) (s:Fs)=>match p with | (v33,v35)=>∃ (KG:Fr) (h29:H),s= ⟨KG,[],h29,none⟩∧Sp wm T h [bx wm b1 (cW p0 Zi Zh Zq Zo Zk Zj Zp Zn Zm Zl)] h29∧KG.at 1= .pointer (some ⟨b1,0,none⟩)∧KG.at 4= .int .i64 (p0.Zv.length:Int)∧KG.at 9= .int .i64 v33∧KG.at 10= .int .i64 v35∧KG.at 58= .slice Zi p0.Zv.length Zh∧KG.at 59= .int .i64 (p0.Zv.length:Int)∧KG.at 60= .int .i64 v23) ⟨_,_,rfl,hS.only (.c k0 .n),YD⟩ ?_);clear hL hS;rintro ZhQ ⟨v33,v35⟩ s ZlQ hL ⟨KG,h29,rfl,hS,e31,e32,e34,e36,e37,e38,e39⟩;dsimp only [ZfA] at hL;refine r6 ?_;refine r1 ?_;refine cn hL ?_ ?_
     ·intro hc hL;refine r16 ?_;refine r3 ?_;refine cn hL ?_ ?_
      ·intro hc hL;refine r16 ?_;exact rt hL hT hS
      ·intro hc hL;refine r6 ?_;refine r1 ?_;obtain⟨x41,Zw4,hL⟩:=bind_some hL;obtain⟨b42,o43,_,ZxQ,Zyn,Zx5,ZLv⟩:=Sl.at_ ZA Zw4;refine WO.w gN rfl (ZE YE YF lk lk rfl ZxQ Zw4) ?_;refine WO.w gN rfl (ZW Xv (Yo fh rfl) (At.fz hS.fz Zx5 Zyn) (j:=0) rfl (v:= .int .i64 x41) rfl) ?_;refine r4 ?_;refine r1 ?_;obtain⟨x44,ZBe,hL⟩:=Yt hL;obtain⟨b45,o46,_,hQ⟩:=Sl.atG (fun hg=>ZA) ZBe;have ZLa:=fun hg=>(hQ hg).1
       have ZMf:=fun hg=>(hQ hg).2.1
       have ZLR:=fun hg=>(hQ hg).2.2.1
       have ZSC:=fun hg=>(hQ hg).2.2.2
       refine WO.gv (Zt.no rfl rfl rfl (YA rfl (Zy rfl fh))) rfl (fun hg=>(ZE YE YF (YX (Zy rfl fh) rfl hg) (YX fh rfl hg) rfl (ZLa hg) (ZBe hg))) ?_;refine WO.gv (Zt.no rfl rfl rfl (Y3 rfl fh)) rfl (fun hg=>(ZW Xv (YX fh rfl hg) (At.fz hS.fz (ZLR hg) (ZMf hg)) (j:=0) rfl (v:= .int .i64 x44) rfl)) ?_;refine r4 ?_;refine r1 ?_;refine cn hL ?_ ?_
       ·intro hc hL;refine XC ?_;refine r3 ?_;exact rt hL hT hS
       ·intro hc hL;refine r6 ?_;refine r1 ?_;obtain⟨x47,ZJA,hL⟩:=bind_some hL;obtain⟨b48,o49,_,ZK9,ZMe,ZLQ,ZSB⟩:=Sl.at_ ZA ZJA;refine WO.w gN rfl (ZE YE YF lk lk rfl ZK9 ZJA) ?_;refine WO.w gN rfl (ZW Xv (Yo fh rfl) (At.fz hS.fz ZLQ ZMe) (j:=0) rfl (v:= .int .i64 x47) rfl) ?_;refine r2 ?_;exact Ye.Y2 (ZlQ _ _ hL ⟨_,_,rfl,hS.only (.c k0 .n),YD⟩)
     ·intro hc hL;refine r8 ?_;refine r2 ?_;exact Ye.Y2 (ZlS _ _ hL ⟨_,_,rfl,hS.only (.c k0 .n),YD⟩)
   ·intro hc hL;refine r8 ?_;refine r3 ?_;exact rt hL hT hS
theorem ZHb {F wm:Nat} {h:H} {p0:Zb} {Zi:Option Addr} {Zh:Nat} {Zq:Option Addr} {Zo:Nat} {Zk:Option Addr} {Zj:Nat} {Zp:Option Addr} {Zn:Nat} {Zm:Option Addr} {Zl:Nat} {r:Bool} (ZX:wm <=h.size) (ZA:Sl (Zu .i64) wm h Zi Zh p0.Zv) (ZN:Sl (Zz (Zu .i64)) wm h Zq Zo p0.qK) (ZL:Sl (Zz Zc) wm h Zk Zj p0.qQ) (ZO:Sl (Zz Zg) wm h Zp Zn p0.qJ) (ZK:Sl Zd wm h Zm Zl p0.qG) (hL:Zus F p0=some r):
 WR XX 69 #[.agg [.slice Zi p0.Zv.length Zh,.slice Zq p0.qK.length Zo,.slice Zk p0.qQ.length Zj,.slice Zp p0.qJ.length Zn,.slice Zm p0.qG.length Zl,.int .i64 p0.said].toArray] wm h (CP (fun(v:Value) (Gb:List (Ast wm))=>v= .bool r∧Gb= []) [] h):=by
 refine bg Tryz.ntmps69 ZX Yd.nil ?_;intro T hT hS;unfold Zus at hL;refine r3 ?_;rintro _ h2 ⟨b1,eb1,rfl,hS⟩;refine XC ?_;refine r1 ?_;refine WC.loop (WL.lift hL (fun(v8:Int) (s:Fs)=>∃ (KU:Fr) (h3:H),s= ⟨KU,[],h3,none⟩∧Sp wm T h [bx wm b1 (cW p0 Zi Zh Zq Zo Zk Zj Zp Zn Zm Zl)] h3∧KU.at 1= .pointer (some ⟨b1,0,none⟩)∧KU.at 8= .slice Zm p0.qG.length Zl∧KU.at 9= .int .i64 (p0.qG.length:Int)∧KU.at 10= .int .i64 v8) ⟨_,_,rfl,hS.only (.c k0 .n),YD⟩ ?_);clear hL hS;rintro J3 v8 s ZlX hL ⟨KU,h3,rfl,hS,e5,e6,e7,e9⟩;dsimp only [Zae] at hL;refine r6 ?_;refine cn hL ?_ ?_
 ·intro hc hL;refine r2 ?_;refine WC.Zbn (r:=r) (fun(_:Unit) (s:Fs)=>∃ (Zum:Fr) (h11:H),s= ⟨Zum,[],h11,none⟩∧Sp wm T h [bx wm b1 (cW p0 Zi Zh Zq Zo Zk Zj Zp Zn Zm Zl)] h11∧Zum.at 1= .pointer (some ⟨b1,0,none⟩)∧Zum.at 8= .slice Zm p0.qG.length Zl∧Zum.at 9= .int .i64 (p0.qG.length:Int)∧Zum.at 10= .int .i64 v8) (Za4 v8 J3) ?_ ?_
  ·clear hL hS;rintro _ s hL ⟨Zum,h11,rfl,hS,e13,e14,e15,e16⟩;dsimp only [Za4] at hL;refine r4 ?_;exact Ye.Y2 (ZlX _ _ hL ⟨_,_,rfl,hS.only (.c k0 .n),YD⟩)
  ·skip;refine r3 ?_;obtain⟨UO,Zoy,hL⟩:=bind_some hL;obtain⟨b18,o19,⟨⟨a20,c21⟩,⟨a22,c23⟩⟩,ZLg,ZMm,ZLY,ZD4⟩:=Sl.at_ ZK Zoy;refine WO.w gN rfl (ZE JK Y4 lk lk rfl ZLg Zoy) ?_;have ZDK:Sl (Zu .i64) wm h a20 c21 UO.qV:=ZD4.1;have ZDJ:Sl (Zu .i64) wm h a22 c23 UO.Yh:=ZD4.2;refine WO.w gN rfl (Xh ZaE Y4 (Yo fh rfl) (At.fz hS.fz ZLY ZMm) (j:=0) rfl rfl (ws:= (cL UO a20 c21 a22 c23)) rfl) ?_;refine r1 ?_;rintro _ h25 ⟨b24,ZMO,rfl,hS⟩;refine r1 ?_;rintro h26 hS;refine r8 ?_;refine r2 ?_;refine WC.Zbn (r:=r) (fun(v35:Bool) (s:Fs)=>∃ (Zl6:Fr) (h27:H),s= ⟨Zl6,[],h27,none⟩∧Sp wm T h [bx wm b1 (cW p0 Zi Zh Zq Zo Zk Zj Zp Zn Zm Zl),bx wm b24 (cL UO a20 c21 a22 c23)] h27∧Zl6.at 1= .pointer (some ⟨b1,0,none⟩)∧Zl6.at 4= .pointer (some ⟨b24,0,none⟩)∧Zl6.at 8= .slice Zm p0.qG.length Zl∧Zl6.at 9= .int .i64 (p0.qG.length:Int)∧Zl6.at 10= .int .i64 v8∧Zl6.at 15= .int .i64 UO.kind∧Zl6.at 16= .bool v35) (Zdz F p0 v8 J3 UO) ?_ ?_
   ·clear hL hS;rintro v35 s hL ⟨Zl6,h27,rfl,hS,e29,e30,e31,e32,e33,e34,e36⟩;dsimp only [Zdz] at hL;refine cn hL ?_ ?_
    ·intro hc hL;refine r1 ?_;refine UN.other rfl ?_;refine r2 ?_;exact YO.Y2 _ hL ⟨_,_,rfl,hS.only (.c k0 .n),YD⟩
    ·intro hc hL;refine r6 ?_;refine cn hL ?_ ?_
     ·intro hc hL;refine r16 ?_;refine r1 ?_;refine cn hL ?_ ?_
      ·intro hc hL;refine r8 ?_;refine r1 ?_;refine YO.ret ?_;refine r3 ?_;exact rt hL hT hS
      ·intro hc hL;refine XC ?_;refine WC.loop (WL.lift hL (fun(v46:Int) (s:Fs)=>∃ (Zay:Fr) (h37:H),s= ⟨Zay,[],h37,none⟩∧Sp wm T h [bx wm b1 (cW p0 Zi Zh Zq Zo Zk Zj Zp Zn Zm Zl),bx wm b24 (cL UO a20 c21 a22 c23)] h37∧Zay.at 1= .pointer (some ⟨b1,0,none⟩)∧Zay.at 4= .pointer (some ⟨b24,0,none⟩)∧Zay.at 8= .slice Zm p0.qG.length Zl∧Zay.at 9= .int .i64 (p0.qG.length:Int)∧Zay.at 10= .int .i64 v8∧Zay.at 35= .slice a20 UO.qV.length c21∧Zay.at 36= .int .i64 (UO.qV.length:Int)∧Zay.at 37= .int .i64 v46) ⟨_,_,rfl,hS.only (.c k0 (.c k0 .n)),YD⟩ ?_);clear hL hS;rintro ZhP v46 s ZlP hL ⟨Zay,h37,rfl,hS,e39,e40,e41,e42,e43,e44,e45,e47⟩;dsimp only [ZdA] at hL;refine r6 ?_;refine cn hL ?_ ?_
       ·intro hc hL;refine r6 ?_;refine r1 ?_;obtain⟨x49,Zou,hL⟩:=bind_some hL;obtain⟨b50,o51,_,ZoO,ZoU,Zx3,ZsO⟩:=Sl.at_ ZDK Zou;refine WO.w gN rfl (ZE YE YF lk lk rfl ZoO Zou) ?_;refine WO.w gN rfl (ZW Xv (Yo fh rfl) (At.fz hS.fz Zx3 ZoU) (j:=0) rfl (v:= .int .i64 x49) rfl) ?_;refine r16 ?_;refine r8 ?_;obtain⟨x52,Zw2,hL⟩:=Yt hL;obtain⟨b53,o54,_,hQ⟩:=Sl.atG (fun hg=>ZDK) Zw2;have ZxN:=fun hg=>(hQ hg).1
        have Zyi:=fun hg=>(hQ hg).2.1
        have ZLN:=fun hg=>(hQ hg).2.2.1
        have ZLr:=fun hg=>(hQ hg).2.2.2
        refine WO.gv (Zt.ZjD rfl rfl rfl (Y3 rfl (Zy rfl fh))) rfl (fun hg=>(ZE YE YF (YX (YA rfl fh) rfl hg) (YX fh rfl hg) rfl (ZxN hg) (Zw2 hg))) ?_;refine WO.gv (Zt.ZjD rfl rfl rfl (Y3 rfl (YA rfl fh))) rfl (fun hg=>(ZW Xv (YX fh rfl hg) (At.fz hS.fz (ZLN hg) (Zyi hg)) (j:=0) rfl (v:= .int .i64 x52) rfl)) ?_;refine r1 ?_;refine WO.gv (Zt.no rfl rfl rfl (Y8 rfl (YA rfl (Zy rfl fh)))) rfl (fun hg=>(Zjl (YX (Y8 rfl fh) rfl hg) (ZgC fh hg) lk)) ?_;refine r4 ?_;refine r1 ?_;obtain⟨x55,ZlN,hL⟩:=Yt hL;obtain⟨b56,o57,_,hQ⟩:=Sl.atG (fun hg=>ZDJ) ZlN;have ZxM:=fun hg=>(hQ hg).1
        have Zyg:=fun hg=>(hQ hg).2.1
        have ZLL:=fun hg=>(hQ hg).2.2.1
        have ZLp:=fun hg=>(hQ hg).2.2.2
        refine WO.gv (Zt.no rfl rfl rfl (YA rfl (Zy rfl fh))) rfl (fun hg=>(ZE YE YF (YX (Zy rfl fh) rfl hg) (YX fh rfl hg) rfl (ZxM hg) (ZlN hg))) ?_;refine WO.gv (Zt.no rfl rfl rfl (Y3 rfl fh)) rfl (fun hg=>(ZW Xv (YX fh rfl hg) (At.fz hS.fz (ZLL hg) (Zyg hg)) (j:=0) rfl (v:= .int .i64 x55) rfl)) ?_;refine r6 ?_;obtain⟨x58,Zw1,hL⟩:=Yt hL;obtain⟨b59,o60,_,hQ⟩:=Sl.atG (fun hg=>ZDJ) Zw1;have ZxL:=fun hg=>(hQ hg).1
        have Zyf:=fun hg=>(hQ hg).2.1
        have ZLJ:=fun hg=>(hQ hg).2.2.1
        have ZLo:=fun hg=>(hQ hg).2.2.2
        refine WO.gv (Zt.no rfl rfl rfl (YA rfl (Zy rfl fh))) rfl (fun hg=>(ZE YE YF (YX (Zy rfl fh) rfl hg) (YX fh rfl hg) rfl (ZxL hg) (Zw1 hg))) ?_;refine WO.gv (Zt.no rfl rfl rfl (Y3 rfl fh)) rfl (fun hg=>(ZW Xv (YX fh rfl hg) (At.fz hS.fz (ZLJ hg) (Zyf hg)) (j:=0) rfl (v:= .int .i64 x58) rfl)) ?_;refine r4 ?_;refine cn hL ?_ ?_
        ·intro hc hL;refine r8 ?_;refine r3 ?_;refine YO.ret ?_;refine r3 ?_;exact rt hL hT hS
        ·intro hc hL;refine r6 ?_;refine r1 ?_;exact Ye.Y2 (ZlP _ _ hL ⟨_,_,rfl,hS.only (.c k0 (.c k0 .n)),YD⟩)
       ·intro hc hL;refine r4 ?_;refine r1 ?_;exact YO.Y2 _ hL ⟨_,_,rfl,hS.only (.c k0 .n),YD⟩
     ·intro hc hL;refine r8 ?_;refine r1 ?_;refine YO.ret ?_;refine r3 ?_;exact rt hL hT hS
   ·skip;refine r6 ?_;refine cn hL ?_ ?_
    ·intro hc hL;refine r1 ?_;exact YO.Y2 _ hL ⟨_,_,rfl,hS.only (.c k1 (.c k0 .n)),YD⟩
    ·intro hc hL;refine r4 ?_;exact YO.Y2 _ hL ⟨_,_,rfl,hS.only (.c k1 (.c k0 .n)),YD⟩
 ·intro hc hL;refine r8 ?_;refine r3 ?_;exact rt hL hT hS
theorem ZHc {F:Nat} {h:H} {p0:Zb} {Zi:Option Addr} {Zh:Nat} {Zq:Option Addr} {Zo:Nat} {Zk:Option Addr} {Zj:Nat} {Zp:Option Addr} {Zn:Nat} {Zm:Option Addr} {Zl:Nat} {r:Bool} (ZA:Sl (Zu .i64) h.size h Zi Zh p0.Zv) (ZN:Sl (Zz (Zu .i64)) h.size h Zq Zo p0.qK) (ZL:Sl (Zz Zc) h.size h Zk Zj p0.qQ) (ZO:Sl (Zz Zg) h.size h Zp Zn p0.qJ) (ZK:Sl Zd h.size h Zm Zl p0.qG) (hL:Zus F p0=some r):Pure XX 69 #[.agg [.slice Zi p0.Zv.length Zh,.slice Zq p0.qK.length Zo,.slice Zk p0.qQ.length Zj,.slice Zp p0.qJ.length Zn,.slice Zm p0.qG.length Zl,.int .i64 p0.said].toArray] h (.bool r):=
 WR.XO rfl (ZHb (Nat.le_refl _) ZA ZN ZL ZO ZK hL)
theorem ZG6 {F wm:Nat} {h:H} {p0:ZV} {Zi:Option Addr} {Zh:Nat} {Zq:Option Addr} {Zo:Nat} {Zk:Option Addr} {Zj:Nat} {Zp:Option Addr} {Zn:Nat} {Zm:Option Addr} {Zl:Nat} {Z4:Option Addr} {Z0 YW WS:Nat} {r:Bool} (ZX:wm <=h.size) (XT:At h YW WS [.slice Zi p0.Za.Zv.length Zh,.slice Zq p0.Za.qK.length Zo,.slice Zk p0.Za.qQ.length Zj,.slice Zp p0.Za.qJ.length Zn,.slice Zm p0.Za.qG.length Zl,.int .i64 p0.Za.said,.slice Z4 p0.Y0.length Z0]) (XR:Stb wm h YW) (ZA:Sl (Zu .i64) wm h Zi Zh p0.Za.Zv) (ZN:Sl (Zz (Zu .i64)) wm h Zq Zo p0.Za.qK) (ZL:Sl (Zz Zc) wm h Zk Zj p0.Za.qQ) (ZO:Sl (Zz Zg) wm h Zp Zn p0.Za.qJ) (ZK:Sl Zd wm h Zm Zl p0.Za.qG) (Xn:Sl XB wm h Z4 Z0 p0.Y0) (hL:Zuq F p0=some r):
 WR XX 72 #[.pointer (some ⟨YW,WS,none⟩)] wm h (CP (fun(v:Value) (Gb:List (Ast wm))=>v= .bool r∧Gb= []) [] h):=by
 refine bg Tryz.ntmps72 ZX Yd.nil ?_;intro T hT hS;unfold Zuq at hL;refine XC ?_;refine WO.w gN rfl (ZW Xv (Yo fh rfl) (At.fz hS.fz XR XT) (j:=5) rfl (v:= .int .i64 p0.Za.said) rfl) ?_;refine r6 ?_;refine WO.gv (Zt.no rfl rfl rfl (Y3 rfl fh)) rfl (fun hg=>(ZW Xv (YX fh rfl hg) (At.fz hS.fz XR XT) (j:=5) rfl (v:= .int .i64 p0.Za.said) rfl)) ?_;refine r4 ?_;refine cn hL ?_ ?_
 ·intro hc hL;refine r6 ?_;refine r1 ?_;exact rt hL hT hS
 ·intro hc hL;refine XC ?_;refine r2 ?_;refine WO.w gN rfl (ZW ZzQ (Yo fh rfl) (At.fz hS.fz XR XT) (j:=1) rfl (v:= .slice Zq p0.Za.qK.length Zo) rfl) ?_;refine r4 ?_;refine r1 ?_;have hS:=hS.nil (e:= (Zu .i64));refine WC.loop (WL.lift hL (fun(p:(List Int)×Int) (s:Fs)=>match p with | (v4,v11)=>∃ (Qm:Fr) (h1:H) (a5:Option Addr) (c6:Nat) (n7:Nat),s= ⟨Qm,[],h1,none⟩∧Sp wm T h [ow wm (Zu .i64) a5 n7 c6 v4] h1∧Qm.at 0= .pointer (some ⟨YW,WS,none⟩)∧Qm.at 3= .slice a5 n7 c6∧Qm.at 32= .slice Zq p0.Za.qK.length Zo∧Qm.at 33= .int .i64 (p0.Za.qK.length:Int)∧Qm.at 34= .int .i64 v11) ⟨_,_,none,0,0,rfl,hS.only (.c k0 .n),YD⟩ ?_);clear hL hS;rintro KE ⟨v4,v11⟩ s Za0 hL ⟨Qm,h1,a5,c6,n7,rfl,hS,e3,e8,e9,e10,e12⟩;obtain rfl:=hS.on k0;dsimp only [ZiF] at hL;refine r6 ?_;refine cn hL ?_ ?_
  ·intro hc hL;refine r6 ?_;obtain⟨x14,Zh7,hL⟩:=bind_some hL;obtain⟨b15,o16,⟨a17,c18⟩,Zih,Zin,Zil,Zij⟩:=Sl.at_ ZN Zh7;refine WO.w gN rfl (ZE Zd2 U1 lk lk rfl Zih Zh7) ?_;have Zh8:Sl (Zu .i64) wm h a17 c18 x14:=Zij;refine WO.w gN rfl (ZW ZgG (Yo fh rfl) (At.fz hS.fz Zil Zin) (j:=0) rfl (v:= .slice a17 x14.length c18) rfl) ?_;refine r6 ?_;obtain⟨z19,ZPn,hL⟩:=bind_some hL;refine WO.hv gN rfl (Ky (e:= (Zu .i64)) hS k0 JF lk lk (Sl.src (hS.sl Zh8)) rfl ZPn) ?_;rintro _ h22 ⟨a20,c21,rfl,hS⟩;refine r8 ?_;exact Ye.Y2 (Za0 _ _ hL ⟨_,_,a20,c21,z19.length,rfl,hS.only (.c k0 .n),YD⟩)
  ·intro hc hL;refine XC ?_;refine WO.w gN rfl (ZW Zte (Yo fh rfl) (At.fz hS.fz XR XT) (j:=3) rfl (v:= .slice Zp p0.Za.qJ.length Zn) rfl) ?_;refine r4 ?_;refine r1 ?_;refine WC.loop (WL.lift hL (fun(p:(List Int)×Int) (s:Fs)=>match p with | (v26,v33)=>∃ (UL:Fr) (h23:H) (a27:Option Addr) (c28:Nat) (n29:Nat),s= ⟨UL,[],h23,none⟩∧Sp wm T h [ow wm (Zu .i64) a27 n29 c28 v26] h23∧UL.at 0= .pointer (some ⟨YW,WS,none⟩)∧UL.at 3= .slice a27 n29 c28∧UL.at 46= .slice Zp p0.Za.qJ.length Zn∧UL.at 47= .int .i64 (p0.Za.qJ.length:Int)∧UL.at 48= .int .i64 v33) ⟨_,_,a5,c6,v4.length,rfl,hS.only (.c k0 .n),YD⟩ ?_);clear hL hS;rintro ZlC ⟨v26,v33⟩ s ZBG hL ⟨UL,h23,a27,c28,n29,rfl,hS,e25,e30,e31,e32,e34⟩;obtain rfl:=hS.on k0;dsimp only [ZiE] at hL;refine r6 ?_;refine cn hL ?_ ?_
   ·intro hc hL;refine r6 ?_;obtain⟨x36,Zw5,hL⟩:=bind_some hL;obtain⟨b37,o38,⟨a39,c40⟩,ZxR,Zyo,Zx6,ZD3⟩:=Sl.at_ ZO Zw5;refine WO.w gN rfl (ZE KZ Jf lk lk rfl ZxR Zw5) ?_;have ZJ7:Sl Zg wm h a39 c40 x36:=ZD3;refine WO.w gN rfl (ZW Zdf (Yo fh rfl) (At.fz hS.fz Zx6 Zyo) (j:=0) rfl (v:= .slice a39 x36.length c40) rfl) ?_;refine r8 ?_;refine r3 ?_;refine WC.loop (WL.lift hL (fun(p:(List Int)×Int) (s:Fs)=>match p with | (v44,v54)=>∃ (ZjZ:Fr) (h41:H) (a45:Option Addr) (c46:Nat) (n47:Nat),s= ⟨ZjZ,[],h41,none⟩∧Sp wm T h [ow wm (Zu .i64) a45 n47 c46 v44] h41∧ZjZ.at 0= .pointer (some ⟨YW,WS,none⟩)∧ZjZ.at 3= .slice a45 n47 c46∧ZjZ.at 46= .slice Zp p0.Za.qJ.length Zn∧ZjZ.at 47= .int .i64 (p0.Za.qJ.length:Int)∧ZjZ.at 48= .int .i64 v33∧ZjZ.at 52= .slice a39 x36.length c40∧ZjZ.at 53= .int .i64 (x36.length:Int)∧ZjZ.at 54= .int .i64 v54) ⟨_,_,a27,c28,v26.length,rfl,hS.only (.c k0 .n),YD⟩ ?_);clear hL hS;rintro ZwB ⟨v44,v54⟩ s ZBB hL ⟨ZjZ,h41,a45,c46,n47,rfl,hS,e43,e48,e49,e50,e51,e52,e53,e55⟩;obtain rfl:=hS.on k0;dsimp only [Zmi] at hL;refine r6 ?_;refine cn hL ?_ ?_
    ·intro hc hL;refine r6 ?_;obtain⟨QT,ZBd,hL⟩:=bind_some hL;obtain⟨b58,o59,_,ZK7,ZMc,ZLK,ZSz⟩:=Sl.at_ ZJ7 ZBd;refine WO.w gN rfl (ZE Zbf Uq lk lk rfl ZK7 ZBd) ?_;refine WO.w gN rfl (Xh ZkZ Uq (Yo fh rfl) (At.fz hS.fz ZLK ZMc) (j:=0) rfl rfl (ws:= (cM QT)) rfl) ?_;refine r1 ?_;rintro _ h61 ⟨b60,ZQT,rfl,hS⟩;refine r1 ?_;rintro h62 hS;refine r6 ?_;refine WO.hn gN rfl (Zar (e:= (Zu .i64)) hS YE YF WQ rfl rfl rfl (ZC lk Yf) rfl [((),QT.msg)] rfl (xs:= [QT.msg]) rfl (by intro q hq;simp only [List.mem_cons,List.not_mem_nil,or_false] at hq;subst hq;exact trivial) rfl) ?_;rintro _ h64 ⟨b63,ZWs,rfl,hS⟩;obtain⟨z65,ZPh,hL⟩:=bind_some hL;refine WO.hv gN rfl (Ky (e:= (Zu .i64)) hS k2 JF lk lk (hS.QH k0) (hS.on k0) ZPh) ?_;rintro _ h68 ⟨a66,c67,rfl,hS⟩;refine r8 ?_;exact Ye.Y2 (ZBB _ _ hL ⟨_,_,a66,c67,z65.length,rfl,hS.only (.c k0 .n),YD⟩)
    ·intro hc hL;refine r8 ?_;refine r2 ?_;exact Ye.Y2 (ZBG _ _ hL ⟨_,_,a45,c46,v44.length,rfl,hS.only (.c k0 .n),YD⟩)
   ·intro hc hL;refine XC ?_;refine WO.w gN rfl (ZW ZzP (Yo fh rfl) (At.fz hS.fz XR XT) (j:=4) rfl (v:= .slice Zm p0.Za.qG.length Zl) rfl) ?_;refine r4 ?_;refine r1 ?_;refine WC.loop (WL.lift hL (fun(p:(List Int)×Int) (s:Fs)=>match p with | (v72,v79)=>∃ (ZqW:Fr) (h69:H) (a73:Option Addr) (c74:Nat) (n75:Nat),s= ⟨ZqW,[],h69,none⟩∧Sp wm T h [ow wm (Zu .i64) a73 n75 c74 v72] h69∧ZqW.at 0= .pointer (some ⟨YW,WS,none⟩)∧ZqW.at 3= .slice a73 n75 c74∧ZqW.at 69= .slice Zm p0.Za.qG.length Zl∧ZqW.at 70= .int .i64 (p0.Za.qG.length:Int)∧ZqW.at 71= .int .i64 v79) ⟨_,_,a27,c28,v26.length,rfl,hS.only (.c k0 .n),YD⟩ ?_);clear hL hS;rintro Zfj ⟨v72,v79⟩ s ZBr hL ⟨ZqW,h69,a73,c74,n75,rfl,hS,e71,e76,e77,e78,e80⟩;obtain rfl:=hS.on k0;dsimp only [ZiD] at hL;refine r6 ?_;refine cn hL ?_ ?_
    ·intro hc hL;refine r2 ?_;refine WC.Zbn (r:=r) (fun(v85:(List Int)) (s:Fs)=>∃ (ZqU:Fr) (h82:H) (a86:Option Addr) (c87:Nat) (n88:Nat),s= ⟨ZqU,[],h82,none⟩∧Sp wm T h [ow wm (Zu .i64) a86 n88 c87 v85] h82∧ZqU.at 0= .pointer (some ⟨YW,WS,none⟩)∧ZqU.at 3= .slice a86 n88 c87∧ZqU.at 69= .slice Zm p0.Za.qG.length Zl∧ZqU.at 70= .int .i64 (p0.Za.qG.length:Int)∧ZqU.at 71= .int .i64 v79) (ZiC v79 Zfj) ?_ ?_
     ·clear hL hS;rintro v85 s hL ⟨ZqU,h82,a86,c87,n88,rfl,hS,e84,e89,e90,e91,e92⟩;obtain rfl:=hS.on k0;dsimp only [ZiC] at hL;refine r4 ?_;exact Ye.Y2 (ZBr _ _ hL ⟨_,_,a86,c87,v85.length,rfl,hS.only (.c k0 .n),YD⟩)
     ·skip;refine r3 ?_;obtain⟨x93,hx93,hL⟩:=bind_some hL;obtain⟨b94,o95,⟨⟨a96,c97⟩,⟨a98,c99⟩⟩,ZxI,Zyb,Zx2,ZoQ⟩:=Sl.at_ ZK hx93;refine WO.w gN rfl (ZE JK Y4 lk lk rfl ZxI hx93) ?_;have ZJW:Sl (Zu .i64) wm h a96 c97 x93.qV:=ZoQ.1;have ZJV:Sl (Zu .i64) wm h a98 c99 x93.Yh:=ZoQ.2;refine WO.w gN rfl (Xh ZaE Y4 (Yo fh rfl) (At.fz hS.fz Zx2 Zyb) (j:=0) rfl rfl (ws:= (cL x93 a96 c97 a98 c99)) rfl) ?_;refine r1 ?_;rintro _ Zuf ⟨Zcg,ZEe,rfl,hS⟩;refine r1 ?_;rintro ZQO hS;refine r8 ?_;refine r1 ?_;refine cn hL ?_ ?_
      ·intro hc hL;refine r4 ?_;refine r1 ?_;refine WO.hn gN rfl (Zar (e:= (Zu .i64)) hS YE YF WQ rfl rfl rfl (ZC lk Yf) rfl [((),x93.Yi.msg)] rfl (xs:= [x93.Yi.msg]) rfl (by intro q hq;simp only [List.mem_cons,List.not_mem_nil,or_false] at hq;subst hq;exact trivial) rfl) ?_;rintro _ ZMD ⟨ZRy,ZMS,rfl,hS⟩;obtain⟨z105,ZwY,hL⟩:=bind_some hL;refine WO.hv gN rfl (Ky (e:= (Zu .i64)) hS k2 JF lk lk (hS.QH k0) (hS.on k0) ZwY) ?_;rintro _ ZQN ⟨ZH3,c107,rfl,hS⟩;refine r3 ?_;exact YO.Y2 _ hL ⟨_,_,ZH3,c107,z105.length,rfl,hS.only (.c k0 .n),YD⟩
      ·intro hc hL;refine r2 ?_;exact YO.Y2 _ hL ⟨_,_,a73,c74,v72.length,rfl,hS.only (.c k1 .n),YD⟩
    ·intro hc hL;refine r8 ?_;obtain⟨Znh,ZJT,hL⟩:=bind_some hL;refine WO.cl gN rfl (Xi.fn ZDQ (Zf lk Zx)) hS (.c k0 .n) (fun g' hz hf hO=>ZyS (by rw [hz];exact hS.hw) hO ZJT) ?_;rintro _ ZV6 _ ⟨rfl,rfl⟩ hS;refine r6 ?_;refine WO.w gN rfl (ZcP YE lk (congrArg Nat.cast (hS.on k0))) ?_;refine r4 ?_;refine WC.loop (WL.lift hL (fun(ZgI:Int) (s:Fs)=>∃ (UD:Fr) (h112:H),s= ⟨UD,[],h112,none⟩∧Sp wm T h [ow wm (Zu .i64) a73 v72.length c74 Znh] h112∧UD.at 0= .pointer (some ⟨YW,WS,none⟩)∧UD.at 3= .slice a73 v72.length c74∧UD.at 87= .slice a73 v72.length c74∧UD.at 88= .int .i64 (Znh.length:Int)∧UD.at 89= .int .i64 ZgI) ⟨_,_,rfl,hS.only (.c k0 .n),YD⟩ ?_);clear hL hS;rintro Zsn ZgI s Zxq hL ⟨UD,h112,rfl,hS,ZCu,e115,e116,e117,e119⟩;dsimp only [Za3] at hL;refine r6 ?_;refine cn hL ?_ ?_
     ·intro hc hL;refine r6 ?_;refine r1 ?_;obtain⟨ZaL,Zeo,hL⟩:=bind_some hL;obtain⟨ZNr,ZO7,_,ZqL,ZqQ,ZF6⟩:=Src.at_ (hS.QH k0) Zeo;refine WO.w gN rfl (ZE YE YF lk lk (hS.on k0) ZqL Zeo) ?_;refine WO.w gN rfl (ZW Xv (Yo fh rfl) ZqQ (j:=0) rfl (v:= .int .i64 ZaL) rfl) ?_;refine r8 ?_;refine r3 ?_;refine cn hL ?_ ?_
      ·intro hc hL;refine r8 ?_;refine r3 ?_;exact rt hL hT hS
      ·intro hc hL;refine r6 ?_;refine r1 ?_;exact Ye.Y2 (Zxq _ _ hL ⟨_,_,rfl,hS.only (.c k0 .n),YD⟩)
     ·intro hc hL;refine r8 ?_;refine WO.w gN rfl (ZcP YE lk (congrArg Nat.cast (hS.on k0))) ?_;refine r4 ?_;refine WO.w gN rfl (ZW Xv (Yo fh rfl) (At.fz hS.fz XR XT) (j:=5) rfl (v:= .int .i64 p0.Za.said) rfl) ?_;refine r4 ?_;refine r1 ?_;exact rt hL hT hS
theorem ZG7 {F:Nat} {h:H} {p0:ZV} {Zi:Option Addr} {Zh:Nat} {Zq:Option Addr} {Zo:Nat} {Zk:Option Addr} {Zj:Nat} {Zp:Option Addr} {Zn:Nat} {Zm:Option Addr} {Zl:Nat} {Z4:Option Addr} {Z0 YW WS:Nat} {r:Bool} (XT:At h YW WS [.slice Zi p0.Za.Zv.length Zh,.slice Zq p0.Za.qK.length Zo,.slice Zk p0.Za.qQ.length Zj,.slice Zp p0.Za.qJ.length Zn,.slice Zm p0.Za.qG.length Zl,.int .i64 p0.Za.said,.slice Z4 p0.Y0.length Z0]) (XR:Stb h.size h YW) (ZA:Sl (Zu .i64) h.size h Zi Zh p0.Za.Zv) (ZN:Sl (Zz (Zu .i64)) h.size h Zq Zo p0.Za.qK) (ZL:Sl (Zz Zc) h.size h Zk Zj p0.Za.qQ) (ZO:Sl (Zz Zg) h.size h Zp Zn p0.Za.qJ) (ZK:Sl Zd h.size h Zm Zl p0.Za.qG) (Xn:Sl XB h.size h Z4 Z0 p0.Y0) (hL:Zuq F p0=some r):Pure XX 72 #[.pointer (some ⟨YW,WS,none⟩)] h (.bool r):=
 WR.XO rfl (ZG6 (Nat.le_refl _) XT XR ZA ZN ZL ZO ZK Xn hL)
end Go.Proofs.YtbmbbcaaimehkaaGreat
end
end
section
namespace Go.Proofs.YtbmbbcaaimehkaaGreat
open Go.Lf
def Zmh (p0:(List Int)):Option (List Int):=
 (app 8 ([]:List Int) p0).bind fun z3=>some z3
def Zmf (p0:(List (List Int))):(List (List Int))×Int ->((List (List Int))×Int ->Option (List (List Int))) ->Option (List (List Int)):=fun(v3,v11) KE=>
 (bif decide (v11 < (p0.length:Int)) then(ZQ p0 v11).bind fun x14=>(Zmh x14).bind fun x19=>(app 24 v3 [x19]).bind fun z27=>KE (z27,Xa (v11 + 1)) else some v3)
def ZyY (F:Nat) (p0:(List (List Int))):Option (List (List Int)):=
 loop F (Zmf p0) ([],0)
def ZiB (p0:Z6) (p1:Int) (p2:Int) (x1:(Ym×Int)) (x31:(List Int)):Int×(List ZG)×(List Int)×(List (List Zw)) ->(Int×(List ZG)×(List Int)×(List (List Zw)) ->Option Z6) ->Option Z6:=fun(v45,v47,v51,v55) ZwA=>
 (bif decide (v45 < (x31.length:Int)) then(ZQ x31 v45).bind fun x58=>(ZQ v55 x1.1.machine).bind fun x61=>(ZQ x61 x58).bind fun x67=>(app 8 v51 [Xa (x67.age + 1)]).bind fun z76=>(app 40 v47 [(ZG.mk 2 x58 x1.1.machine p2 0)]).bind fun z83=>ZwA (Xa (v45 + 1),z83,z76,Yr v55 x1.1.machine (Yr x61 x58 (Zw.mk false p2 (Xa (x67.age + 1))))) else(app 128 p0.Za.qG [(Ze.mk 2 p2 (Zr.mk 0 0 0 0 0) x31 v51 0 0 0)]).bind fun z95=>some (Z6.mk (Zb.mk (Yr p0.Za.Zv p1 (-1)) p0.Za.qK v55 p0.Za.qJ z95 p0.Za.said) v47))
def Zmc (F:Nat) (p0:Z6) (p1:Int) (p2:Int) (x1:(Ym×Int)):(List Int) ->Option Z6:=fun v25=>
 (Zq8 v25).bind fun x31=>loop F (ZiB p0 p1 p2 x1 x31) (0,p0.qX,[],p0.Za.qQ)
def Zrb (p0:Z6) (p1:Int) (v107:Int) (Zg0:(Int×(List Int) ->Option (Bool×(List Int)))):Int×(List Int) ->(Int×(List Int) ->Option (Bool×(List Int))) ->Option (Bool×(List Int)):=fun(Zno,v138) ZlF=>
 (bif decide (Zno < ((Yr p0.Za.Zv p1 (-1)).length:Int)) then(ZQ (Yr p0.Za.Zv p1 (-1)) Zno).bind fun ZED=>(bif(ZED==v107) then(Zg0 (Zno,v138)).bind fun(ZID,ZjI)=>(bif(!ZID) then some (false,ZjI) else ZlF (Xa (Zno + 1),ZjI)) else ZlF (Xa (Zno + 1),v138)) else some (true,v138))
def ZiA (F:Nat) (p0:Z6) (p1:Int):Int×(List Int) ->(Int×(List Int) ->Option (Bool×(List Int))) ->Option (Bool×(List Int)):=fun(v107,Zp1) Zg0=>
 (app 8 Zp1 [v107]).bind fun z124=>(bif(!true) then some (false,z124) else loop F (Zrb p0 p1 v107 Zg0) (0,z124))
def ZyU (F:Nat) (p0:Z6) (p1:Int) (p2:Int):Option Z6:=
 (ZdB F p0.Za p1).bind fun x1=>(ZQ p0.Za.Zv p1).bind fun x7=>(loop F (ZiA F p0 p1) (p1,[])).bind fun(Zhs,v159)=>(Zmc F p0 p1 p2 x1) v159
def Zuo (p0:Ze):Option Bool:=
 (bif(p0.kind==1) then some ((!(((p0.place !=0) || (p0.at_ !=0)) || (p0.age !=0))) && (!((decide ((p0.qV.length:Int) > 0)) || (decide ((p0.Yh.length:Int) > 0))))) else(bif(p0.kind==2) then some ((((!(((p0.place !=0) || (p0.at_ !=0)) || (p0.age !=0))) && (!(!(JB p0.Yi (Zr.mk 0 0 0 0 0))))) && (decide ((p0.qV.length:Int) > 0))) && ((p0.qV.length:Int)== (p0.Yh.length:Int))) else(bif(p0.kind==3) then some ((!(!(JB p0.Yi (Zr.mk 0 0 0 0 0)))) && (!((decide ((p0.qV.length:Int) > 0)) || (decide ((p0.Yh.length:Int) > 0))))) else some false)))
def ZyT (p0:(List Ze)) (p1:Int) (p2:Int):Option (List Ze):=
 (slL p0 p1 p2).bind fun z1=>(bif(p1==p2) then some p0 else(slL p0 0 p1).bind fun z4=>(slL p0 p2 (p0.length:Int)).bind fun z13=>(app 128 z4 z13).bind fun z17=>some z17)
end Go.Proofs.YtbmbbcaaimehkaaGreat
end
section
set_option maxRecDepth 20000
noncomputable section
namespace Go.Proofs.YtbmbbcaaimehkaaGreat
open Go.YJ Go.Lf
theorem Zmg {wm:Nat} {h:H} {p0:(List Int)} {Zi:Option Addr} {Zh:Nat} {r:(List Int)} (ZX:wm <=h.size) (ZA:Sl (Zu .i64) wm h Zi Zh p0) (hL:Zmh p0=some r):
 WR XX 80 #[.slice Zi p0.length Zh] wm h (CP (fun(v:Value) (Gb:List (Ast wm))=>∃ (Qi:Option Addr) (Qg:Nat) (Qh:Nat),v= .slice Qi Qg Qh∧Gb= [ow wm (Zu .i64) Qi Qg Qh r]) [] h):=by
 refine bg Tryz.ntmps80 ZX Yd.nil ?_;intro T hT hS;unfold Zmh at hL;refine r8 ?_;rcases Sl.cases ZA with⟨rfl,rfl,rfl⟩ | ⟨qa,rfl⟩
 ·
  refine r1 ?_;refine WO.w gN rfl (JE (Yo fh rfl) (evC rfl) (Zgc YE)) ?_;refine r2 ?_;refine WC.ZmK lk rfl ?_;rw [ZrC _ (by decide)] at hL;replace hL:some []=some r:=hL;refine r6 ?_;refine r1 ?_;have hS:=hS.nil (e:= (Zu .i64));have hr:=Oi0 hL;subst hr;exact Yl.Qd rfl (ZU lk ZB) ⟨_,⟨none,0,0,rfl,rfl⟩,hT ▸ hS.only (.c k0 .n)⟩
 ·
  refine r1 ?_;refine WO.w gN rfl (JE (Yo fh rfl) (evC rfl) (Zgd YE)) ?_;refine r2 ?_;refine WC.ZdF lk rfl ?_;refine r4 ?_;refine WO.hn gN rfl (Zar (e:= (Zu .i64)) hS YE YF WQ rfl rfl rfl Yf rfl [] rfl (xs:= ([]:List Int)) rfl (by intro q hq;cases hq) rfl) ?_;rintro _ h2 ⟨b1,eb1,rfl,hS⟩;refine r1 ?_;obtain⟨z3,hz3,hL⟩:=bind_some hL;refine WO.hv gN rfl (Ky (e:= (Zu .i64)) hS k0 JF lk lk (Sl.src (hS.sl ZA)) rfl hz3) ?_;rintro _ h6 ⟨a4,c5,rfl,hS⟩;refine r4 ?_;have hr:=Oi0 hL;subst hr;exact Yl.Qd rfl (ZU lk ZB) ⟨_,⟨a4,z3.length,c5,rfl,rfl⟩,hT ▸ hS.only (.c k0 .n)⟩
theorem ZG3 {F wm:Nat} {h:H} {p0:(List (List Int))} {Zi:Option Addr} {Zh:Nat} {r:(List (List Int))} (ZX:wm <=h.size) (ZA:Sl (Zz (Zu .i64)) wm h Zi Zh p0) (hL:ZyY F p0=some r):
 WR XX 81 #[.slice Zi p0.length Zh] wm h (CP (fun(v:Value) (Gb:List (Ast wm))=>∃ (Qi:Option Addr) (Qg:Nat) (Qh:Nat) (Zeb:Nat ->Option Addr×Nat×Nat),v= .slice Qi Qg Qh∧Gb= [Y9 wm (Z5 (Zu .i64)) Qi Qg Qh Zeb r]) [] h):=by
 refine bg Tryz.ntmps81 ZX Yd.nil ?_;intro T hT hS;unfold ZyY at hL;refine r16 ?_;refine r3 ?_;have hS:=hS.Zlv (e:= (Z5 (Zu .i64))) (ps:=fun _=>(Z5 (Zu .i64)).dflt);refine WC.loop (WL.lift hL (fun(p:(List (List Int))×Int) (s:Fs)=>match p with | (v3,v11)=>∃ (Qm:Fr) (h1:H) (a4:Option Addr) (c5:Nat) (n6:Nat) (ps7:Nat ->Option Addr×Nat×Nat),s= ⟨Qm,[],h1,none⟩∧Sp wm T h [Y9 wm (Z5 (Zu .i64)) a4 n6 c5 ps7 v3] h1∧Qm.at 3= .slice a4 n6 c5∧Qm.at 6= .slice Zi p0.length Zh∧Qm.at 7= .int .i64 (p0.length:Int)∧Qm.at 8= .int .i64 v11) ⟨_,_,none,0,0,(fun _=>(Z5 (Zu .i64)).dflt),rfl,hS.only (.c k0 .n),YD⟩ ?_);clear hL hS;rintro KE ⟨v3,v11⟩ s Za0 hL ⟨Qm,h1,a4,c5,n6,ps7,rfl,hS,e8,e9,e10,e12⟩;obtain rfl:=hS.Xk k0;dsimp only [Zmf] at hL;refine r6 ?_;refine cn hL ?_ ?_
 ·intro hc hL;refine r6 ?_;obtain⟨x14,Zh7,hL⟩:=bind_some hL;obtain⟨b15,o16,⟨a17,c18⟩,Zih,Zin,Zil,Zij⟩:=Sl.at_ ZA Zh7;refine WO.w gN rfl (ZE Zd2 U1 lk lk rfl Zih Zh7) ?_;have Zh8:Sl (Zu .i64) wm h a17 c18 x14:=Zij;refine WO.w gN rfl (ZW ZgG (Yo fh rfl) (At.fz hS.fz Zil Zin) (j:=0) rfl (v:= .slice a17 x14.length c18) rfl) ?_;refine r6 ?_;obtain⟨x19,Zqx,hL⟩:=bind_some hL;refine WO.cl gN rfl (Xi.fn ZsG (Zf lk Zx)) hS .n (fun g' hz hf hO=>Zmg (by rw [hz];exact hS.hw) ((hS.sl Zh8).mono hf) Zqx) ?_;rintro _ h23 _ ⟨a20,n21,c22,rfl,rfl⟩ hS;obtain rfl:=hS.on k0;refine WO.hn gN rfl (ZvW (e:= (Zu .i64)) (x:=x19) hS k0 Zd2 U1 Zvj rfl rfl (ZC lk Yf) rfl rfl) ?_;rintro _ h26 ⟨b25,ZMN,rfl,hS⟩;obtain⟨z27,ZwX,hL⟩:=bind_some hL;refine WO.hv gN rfl (ZvX (e:= (Z5 (Zu .i64))) hS (.c k1 (.c k0 .n)) ZzG lk lk ZwX) ?_;rintro _ h31 ⟨a28,c29,Zwa,rfl,hS⟩;refine r8 ?_;exact Ye.Y2 (Za0 _ _ hL ⟨_,_,a28,c29,z27.length,Zwa,rfl,hS.only (.c k0 .n),YD⟩)
 ·intro hc hL;refine XC ?_;have hr:=Oi0 hL;subst hr;exact Yl.Qd rfl (ZU lk ZB) ⟨_,⟨a4,v3.length,c5,ps7,rfl,rfl⟩,hT ▸ hS.only (.c k0 .n)⟩
theorem ZG0 {F wm:Nat} {h:H} {p0:Z6} {p1 p2:Int} {Zi:Option Addr} {Zh XP:Nat} {Zq:Option Addr} {Zo Q8:Nat} {YH:Nat ->Option Addr×Nat×Nat} {Zk:Option Addr} {Zj Q7:Nat} {YR:Nat ->Option Addr×Nat×Nat} {Zp:Option Addr} {Zn Q6:Nat} {YG:Nat ->Option Addr×Nat×Nat} {Zm:Option Addr} {Zl Q5:Nat} {Z4:Option Addr} {Z0 Qj YW:Nat} {r:Z6} (ZX:wm <=h.size) (hO:Yd (wm:=wm) [bx wm YW (cG Zi XP Zh Zq Q8 Zo Zk Q7 Zj Zp Q6 Zn Zm Q5 Zl p0.Za.said Z4 Qj Z0),ow wm (Zu .i64) Zi XP Zh p0.Za.Zv,Y9 wm (Z5 (Zu .i64)) Zq Q8 Zo YH p0.Za.qK,Y9 wm (Z5 Zc) Zk Q7 Zj YR p0.Za.qQ,Y9 wm (Z5 Zg) Zp Q6 Zn YG p0.Za.qJ,ow wm Zd Zm Q5 Zl p0.Za.qG,ow wm ZP Z4 Qj Z0 p0.qX] h) (hL:ZyU F p0 p1 p2=some r):
 WR XX 85 #[.pointer (some ⟨YW,0,none⟩),.int .i64 p1,.int .i64 p2] wm h (CP (fun(v:Value) (Gb:List (Ast wm))=>∃ (Jt:Option Addr) (Uw:Nat) (Jm:Nat) (Js:Option Addr) (Uv:Nat) (Jl:Nat) (Uz:Nat ->Option Addr×Nat×Nat) (Jr:Option Addr) (Uu:Nat) (Jk:Nat) (Uy:Nat ->Option Addr×Nat×Nat) (Jq:Option Addr) (Ut:Nat) (Jj:Nat) (Ux:Nat ->Option Addr×Nat×Nat) (Jp:Option Addr) (Us:Nat) (Ji:Nat) (Jo:Option Addr) (Jg:Nat) (Jh:Nat),v= .tuple [].toArray∧Gb= [bx wm YW (cG Jt Uw Jm Js Uv Jl Jr Uu Jk Jq Ut Jj Jp Us Ji r.Za.said Jo Jg Jh),ow wm (Zu .i64) Jt Uw Jm r.Za.Zv,Y9 wm (Z5 (Zu .i64)) Js Uv Jl Uz r.Za.qK,Y9 wm (Z5 Zc) Jr Uu Jk Uy r.Za.qQ,Y9 wm (Z5 Zg) Jq Ut Jj Ux r.Za.qJ,ow wm Zd Jp Us Ji r.Za.qG,ow wm ZP Jo Jg Jh r.qX]) [bx wm YW (cG Zi XP Zh Zq Q8 Zo Zk Q7 Zj Zp Q6 Zn Zm Q5 Zl p0.Za.said Z4 Qj Z0),ow wm (Zu .i64) Zi XP Zh p0.Za.Zv,Y9 wm (Z5 (Zu .i64)) Zq Q8 Zo YH p0.Za.qK,Y9 wm (Z5 Zc) Zk Q7 Zj YR p0.Za.qQ,Y9 wm (Z5 Zg) Zp Q6 Zn YG p0.Za.qJ,ow wm Zd Zm Q5 Zl p0.Za.qG,ow wm ZP Z4 Qj Z0 p0.qX] h):=by
 refine bg Tryz.ntmps85 ZX hO ?_;intro T hT hS;unfold ZyU at hL;obtain rfl:=hS.on k1;obtain rfl:=hS.Xk k2;obtain rfl:=hS.Xk k3;obtain rfl:=hS.Xk k4;obtain rfl:=hS.on k5;obtain rfl:=hS.on k6;refine r6 ?_;refine r1 ?_;obtain⟨x1,hx1,hL⟩:=bind_some hL;refine WO.clR gN rfl (Xi.fn Zgw (Zf lk (Zf lk Zx))) hS.hw (Zb9 (Nat.le_refl _) (hS.ord k1) (hS.nrd k2 Zqm) (hS.nrd k3 Zqm) (hS.nrd k4 Zqm) (hS.ord k5) hx1) ?_;rintro _ h2 _ ⟨rfl,rfl⟩ hR3;have hS:=hS.clR hR3 .n;refine r4 ?_;rintro _ h5 ⟨b4,eb4,rfl,hS⟩;refine r1 ?_;rintro h6 hS;refine r8 ?_;refine r3 ?_;obtain⟨x7,hx7,hL⟩:=bind_some hL;obtain⟨b8,o9,_,Zud,ZGk,ZU8⟩:=Src.at_ (hS.QH k2) hx7;refine WO.w gN rfl (ZE YE YF lk lk rfl Zud hx7) ?_;refine WO.hu gN (Zd7 (e:= (Zu .i64)) (-1) () hS k2 YF (Yo fh rfl) (evC rfl) Zud hx7 ZGk (j:=0) rfl (vs:= [.int .i64 (-1)]) rfl rfl rfl rfl rfl (cs':= [.int .i64 (-1)]) rfl rfl trivial) ?_;rintro h10 ⟨hS,ZVf⟩;refine r8 ?_;refine r2 ?_;refine WO.inl gN rfl (Xi.fn ZxE (Zf lk (Zf lk Zx))) (WF.begin (args:= [_,_]) (fn:=Tryz.f77) Kq0 (by exact rfl) Tryz.ntmps77 (by simp) ?_);simp only [Z7,Z9,Nat.reduceAdd];refine r3 ?_;rintro _ h13 ⟨b12,ZQV,rfl,hS⟩;refine r1 ?_;rintro _ h15 ⟨b14,ZWL,rfl,hS⟩;refine r4 ?_;refine r1 ?_;refine WO.w gN rfl (Zba (Zf lk (Zf lk Zx))) ?_;refine r4 ?_;refine Yl.Qd rfl (ZU lk ZB) ?_;refine WO.inl gN rfl (Xi.fn ZFF (Zf lk Zx)) (WF.begin (args:= [_]) (fn:=Tryz.f104) Kq0 (by exact rfl) Tryz.ntmps104 (by simp) ?_);simp only [Z7,Z9,Nat.reduceAdd];refine r8 ?_;refine WO.inl gN rfl (Xi.fn ZDS (Zf lk Zx)) (WF.begin (args:= [_]) (fn:=Tryz.f79) Kq0 (by exact rfl) Tryz.ntmps79 (by simp) ?_);simp only [Z7,Z9,Nat.reduceAdd];refine r8 ?_;refine WO.inl gN rfl (Xi.fn ZxH (Zf lk (Zf lk Zx))) (WF.Zrx (args:= [_,_]) (fn:=Tryz.f100) Kq0 (by exact rfl) Tryz.ntmps100 (by simp) ?_);simp only [Z7,Z9,Nat.reduceAdd];refine r3 ?_;rintro _ h17 ⟨b16,ZWK,rfl,hS⟩;refine r8 ?_;refine r2 ?_;refine WC.Zv3 (first:= []) (cap:= [.pointer (some ⟨b12,0,none⟩),.pointer (some ⟨b14,0,none⟩)]) hS lk ZxA ?_;intro h18 l19 Zrl ZrQ ZsN hS;refine WR.Zt4 (r:=r) (fun(v25:(List Int)) (v:Value) (h23:H)=>∃ (a26:Option Addr) (c27:Nat) (n28:Nat),v= .tuple [].toArray∧Sp wm T h [bx wm b12 (cW p0.Za Zi Zh Zq Zo Zk Zj Zp Zn Zm Zl),bx wm b14 [.int .i64 p1],ow wm (Zu .i64) a26 n28 c27 v25,bx wm b16 [.slice a26 n28 c27],bx wm YW (cH p0 Zi Zh Zq Zo Zk Zj Zp Zn Zm Zl Z4 Z0),bx wm b4 [.int .i64 x1.1.machine,.bool x1.1.here,.int .i64 x1.1.age],ow wm (Zu .i64) Zi p0.Za.Zv.length Zh (Yr p0.Za.Zv p1 (-1)),Y9 wm (Z5 (Zu .i64)) Zq p0.Za.qK.length Zo YH p0.Za.qK,Y9 wm (Z5 Zc) Zk p0.Za.qQ.length Zj YR p0.Za.qQ,Y9 wm (Z5 Zg) Zp p0.Za.qJ.length Zn YG p0.Za.qJ,ow wm Zd Zm p0.Za.qG.length Zl p0.Za.qG,ow wm ZP Z4 p0.qX.length Z0 p0.qX,ob wm l19 ZrQ,ob wm Zrl .deferred] h23) (Zmc F p0 p1 p2 x1) ?_ (WF.begin (args:= [_,_,_]) (fn:=Tryz.f97) Kq0 (by exact rfl) Tryz.ntmps97 (by simp) ?_)
 ·clear hL hS;rintro v25 v h23 hL ⟨a26,c27,n28,rfl,hS⟩;obtain rfl:=hS.on k2;dsimp only [Zmc] at hL;refine RgE.sp ZsN hS k12 ?_;rintro h29 hS;refine r8 ?_;refine r1 ?_;refine UH.Zzo hS k12 ?_;rintro h30 hS;refine UH.gen rfl (ZU lk ZB) rfl ?_;refine r4 ?_;refine Yl.Qd rfl (ZU lk ZB) ?_;refine r6 ?_;obtain⟨x31,hx31,hL⟩:=bind_some hL;refine WO.cl gN rfl (Xi.fn ZDQ (Zf lk Zx)) hS (.c k2 .n) (fun g' hz hf hO=>ZyS (by rw [hz];exact hS.hw) hO hx31) ?_;rintro _ h32 _ ⟨rfl,rfl⟩ hS;refine r8 ?_;refine r1 ?_;refine Yl.Qd rfl (ZU lk ZB) ?_;refine WO.w gN rfl (X4 Ztb (ZC lk (ZC lk (ZC lk Yf))) rfl (cs':= [.int .i64 2,.int .i64 p2,.int .i64 0,.int .i64 0,.int .i64 0,.int .i64 0,.int .i64 0,.slice a26 v25.length c27,.slice none 0 0,.int .i64 0,.int .i64 0,.int .i64 0]) rfl) ?_;refine r1 ?_;rintro _ h35 ⟨b34,ZWF,rfl,hS⟩;refine r1 ?_;rintro h36 hS;refine r6 ?_;refine r1 ?_;refine WO.w gN rfl (ZcP YE lk (congrArg Nat.cast (hS.on k1))) ?_;refine r4 ?_;have hS:=hS.nil (e:= (Zu .i64));refine WC.loop (WL.lift hL (fun(p:Int×(List ZG)×(List Int)×(List (List Zw))) (s:Fs)=>match p with | (v45,v47,v51,v55)=>∃ (Zay:Fr) (h37:H) (a48:Option Addr) (c49:Nat) (n50:Nat) (a52:Option Addr) (c53:Nat) (n54:Nat) (ZE1:Nat ->Option Addr×Nat×Nat),s= ⟨Zay,[],h37,none⟩∧Sp wm T h [ow wm ZP a48 n50 c49 v47,bx wm YW (cG Zi p0.Za.Zv.length Zh Zq p0.Za.qK.length Zo Zk p0.Za.qQ.length Zj Zp p0.Za.qJ.length Zn Zm p0.Za.qG.length Zl p0.Za.said a48 n50 c49),bx wm b4 [.int .i64 x1.1.machine,.bool x1.1.here,.int .i64 x1.1.age],ow wm (Zu .i64) a52 n54 c53 v51,bx wm b34 [.int .i64 2,.int .i64 p2,.int .i64 0,.int .i64 0,.int .i64 0,.int .i64 0,.int .i64 0,.slice a26 v25.length c27,.slice a52 n54 c53,.int .i64 0,.int .i64 0,.int .i64 0],ow wm (Zu .i64) a26 v25.length c27 x31,ow wm (Zu .i64) Zi p0.Za.Zv.length Zh (Yr p0.Za.Zv p1 (-1)),Y9 wm (Z5 (Zu .i64)) Zq p0.Za.qK.length Zo YH p0.Za.qK,Y9 wm (Z5 Zc) Zk p0.Za.qQ.length Zj ZE1 v55,Y9 wm (Z5 Zg) Zp p0.Za.qJ.length Zn YG p0.Za.qJ,ow wm Zd Zm p0.Za.qG.length Zl p0.Za.qG] h37∧Zay.at 0= .pointer (some ⟨YW,0,none⟩)∧Zay.at 2= .int .i64 p2∧Zay.at 6= .pointer (some ⟨b4,0,none⟩)∧Zay.at 8= .pointer (some ⟨b34,0,none⟩)∧Zay.at 38= .slice a26 v25.length c27∧Zay.at 39= .int .i64 (x31.length:Int)∧Zay.at 40= .int .i64 v45) ⟨_,_,Z4,Z0,p0.qX.length,none,0,0,YR,rfl,hS.only (.c k13 (.c k6 (.c k6 (.c k0 (.c k0 (.c k0 (.c k3 (.c k3 (.c k3 (.c k3 (.c k3 .n))))))))))),YD⟩ ?_);clear hL hS;rintro ZwA ⟨v45,v47,v51,v55⟩ s ZBA hL ⟨Zay,h37,a48,c49,n50,a52,c53,n54,ZE1,rfl,hS,e39,e40,e41,e42,e43,e44,e46⟩;obtain rfl:=hS.on k0;obtain rfl:=hS.on k3;dsimp only [ZiB] at hL;refine r6 ?_;refine cn hL ?_ ?_
  ·intro hc hL;refine r6 ?_;obtain⟨x58,Zw1,hL⟩:=bind_some hL;obtain⟨b59,o60,_,ZxL,Zyf,ZLo⟩:=Src.at_ (hS.QH k5) Zw1;refine WO.w gN rfl (ZE YE YF lk lk (hS.on k5) ZxL Zw1) ?_;refine WO.w gN rfl (ZW Xv (Yo fh rfl) Zyf (j:=0) rfl (v:= .int .i64 x58) rfl) ?_;refine r4 ?_;refine WC.Xx mixed Kq0 ?_;refine r6 ?_;refine r1 ?_;obtain⟨x61,Zh6,hL⟩:=bind_some hL;obtain⟨b62,o63,a64,n65,c66,Zxg,ZxK,Zye⟩:=hS.atS k8 Zh6;refine WX.w gN rfl (ZE UR QZ lk lk (hS.Xk k8) ZxK Zh6) ?_ rfl;refine WX.w gN rfl (ZW WG (Yo fh rfl) Zye (j:=0) rfl (v:= .slice a64 n65 c66) rfl) ?_ rfl;refine r1 ?_;obtain⟨x67,Zt6,hL⟩:=bind_some hL;obtain⟨b68,o69,_,ZsJ,ZsR,ZD2⟩:=Src.at_ (hS.inS k8 Zh6 Zxg).2.1 Zt6;refine WX.w gN rfl (ZE UQ XA lk lk (hS.inS k8 Zh6 Zxg).1 ZsJ Zt6) ?_ rfl;refine r8 ?_;refine r2 ?_;refine WO.w gN rfl (ZW Xv (Yo fh rfl) ZsR (j:=2) rfl (v:= .int .i64 x67.age) rfl) ?_;refine r1 ?_;refine WO.w gN rfl (X4 Ztc (ZC lk (ZC lk Yf)) rfl (cs':= [.bool false,.int .i64 p2,.int .i64 (Xa (x67.age + 1))]) rfl) ?_;refine r1 ?_;have hS:=hS.Zhv k8 Zh6 Zxg;refine WO.hu gN (Zd7 (e:=Zc) (Zw.mk false p2 (Xa (x67.age + 1))) () hS k1 XA (Yo fh rfl) (Yo (Zy rfl fh) rfl) ZsJ Zt6 ZsR (j:=0) rfl (vs:= [.bool false,.int .i64 p2,.int .i64 (Xa (x67.age + 1))]) rfl rfl rfl rfl rfl (cs':= [.bool false,.int .i64 p2,.int .i64 (Xa (x67.age + 1))]) rfl rfl trivial) ?_;rintro h70 ⟨hS,ZQB⟩;obtain⟨ZO0,ZUO,hS⟩:=hS.Ziv (.c k1 (.c k0 .n)) Zh6;refine r3 ?_;refine WC.Xx mixed Kq0 ?_;refine r4 ?_;refine r1 ?_;refine WX.w gN rfl (ZW Xv (Yo fh rfl) ZQB (j:=2) rfl (v:= .int .i64 (Xa (x67.age + 1))) rfl) ?_ rfl;refine WX.hn gN rfl (Zar (e:= (Zu .i64)) hS YE YF WQ rfl rfl rfl (ZC lk Yf) rfl [((),Xa (x67.age + 1))] rfl (xs:= [Xa (x67.age + 1)]) rfl (by intro q hq;simp only [List.mem_cons,List.not_mem_nil,or_false] at hq;subst hq;exact trivial) rfl) ?_ rfl;rintro _ h75 ⟨b74,ZWp,rfl,hS⟩;obtain⟨z76,ZPe,hL⟩:=bind_some hL;refine WX.hv gN rfl (Ky (e:= (Zu .i64)) hS k5 JF lk lk (hS.QH k0) (hS.on k0) ZPe) ?_ rfl rfl [] Kq0 YV.e;rintro _ h79 ⟨a77,c78,rfl,hS⟩;refine WX.w gN rfl (J6 Zl7 lk) ?_ Kq0;refine WX.hu gN (ZaQ hS k6 U1 lk lk (vs:= [.slice a77 z76.length c78]) rfl rfl rfl rfl (cs':= [.int .i64 2,.int .i64 p2,.int .i64 0,.int .i64 0,.int .i64 0,.int .i64 0,.int .i64 0,.slice a26 v25.length c27,.slice a77 z76.length c78,.int .i64 0,.int .i64 0,.int .i64 0]) rfl) ?_ rfl Kq0 [] Kq0 YV.e;rintro h80 hS;refine r2 ?_;refine WC.Xx mixed Kq0 ?_;refine r8 ?_;refine r1 ?_;refine WX.w gN rfl (X4 Zzw (ZC lk (ZC lk (ZC lk (ZC lk Yf)))) rfl (cs':= [.int .i64 2,.int .i64 x58,.int .i64 x1.1.machine,.int .i64 p2,.int .i64 0]) rfl) ?_ rfl;refine WX.hn gN rfl (Zar (e:=ZP) hS Zns Ze8 Zhn rfl rfl rfl (ZC lk Yf) rfl [((),(ZG.mk 2 x58 x1.1.machine p2 0))] rfl (xs:= [(ZG.mk 2 x58 x1.1.machine p2 0)]) rfl (by intro q hq;simp only [List.mem_cons,List.not_mem_nil,or_false] at hq;subst hq;exact trivial) rfl) ?_ rfl;rintro _ h82 ⟨b81,ZWl,rfl,hS⟩;obtain⟨z83,ZPd,hL⟩:=bind_some hL;refine WX.hv gN rfl (Ky (e:=ZP) hS k5 Zjp lk lk (hS.QH k0) (hS.on k0) ZPd) ?_ rfl rfl [] Kq0 YV.e;rintro _ h86 ⟨a84,c85,rfl,hS⟩;refine WX.w gN rfl (ZdK lk) ?_ Kq0;refine WX.w gN rfl (J6 Zes lk) ?_ Kq0;refine WX.hu gN (ZaQ hS k6 Zlj lk lk (vs:= [.slice a84 z83.length c85]) rfl rfl rfl rfl (cs':= (cG Zi p0.Za.Zv.length Zh Zq p0.Za.qK.length Zo Zk p0.Za.qQ.length Zj Zp p0.Za.qJ.length Zn Zm p0.Za.qG.length Zl p0.Za.said a84 z83.length c85)) rfl) ?_ rfl Kq0 [] Kq0 YV.e;rintro h87 hS;refine r6 ?_;refine r1 ?_;exact Ye.Y2 (ZBA _ _ hL ⟨_,_,a84,c85,z83.length,a77,c78,z76.length,ZO0,rfl,hS.only (.c k1 (.c k0 (.c k5 (.c k2 (.c k1 (.c k3 (.c k3 (.c k3 (.c k2 (.c k2 (.c k2 .n))))))))))),YD⟩)
  ·intro hc hL;refine r4 ?_;refine r1 ?_;have ZFm:=hS.on k5;rw [ZFm] at hS;rw [ZFm] at e43
   try rw [ZFm]
   refine WC.fzn hS k5 ?_;rintro h89 ⟨ZUS,hS⟩;refine WC.fzn hS k4 ?_;rintro h91 ⟨ZUR,hS⟩;refine WC.Xx mixed Kq0 ?_;refine r6 ?_;refine r1 ?_;refine WX.hn gN rfl (Zar (e:=Zd) hS JK Y4 Zdh rfl rfl rfl (ZC lk Yf) rfl [(((a26,c27),(a52,c53)),(Ze.mk 2 p2 (Zr.mk 0 0 0 0 0) x31 v51 0 0 0))] rfl (xs:= [(Ze.mk 2 p2 (Zr.mk 0 0 0 0 0) x31 v51 0 0 0)]) rfl (by intro q hq;simp only [List.mem_cons,List.not_mem_nil,or_false] at hq;subst hq;exact⟨(hS.fsl k1),(hS.fsl k0)⟩) rfl) ?_ rfl;rintro _ h94 ⟨b93,ZWf,rfl,hS⟩;obtain⟨z95,ZPc,hL⟩:=bind_some hL;refine WX.hv gN rfl (Ky (e:=Zd) hS k11 Zcl lk lk (hS.QH k0) (hS.on k0) ZPc) ?_ rfl rfl [] Kq0 YV.e;rintro _ h98 ⟨a96,c97,rfl,hS⟩;refine WX.w gN rfl (ZdK lk) ?_ Kq0;refine WX.w gN rfl (J6 Zet lk) ?_ Kq0;refine WX.w gN rfl (J6 Zg8 lk) ?_ Kq0;refine WX.hu gN (ZaQ hS k5 Zlk lk lk (vs:= [.slice a96 z95.length c97]) rfl rfl rfl rfl (cs':= (cG Zi p0.Za.Zv.length Zh Zq p0.Za.qK.length Zo Zk p0.Za.qQ.length Zj Zp p0.Za.qJ.length Zn a96 z95.length c97 p0.Za.said a48 v47.length c49)) rfl) ?_ rfl Kq0 [] Kq0 YV.e;rintro h99 hS;refine r1 ?_;refine Yl.Y2 ?_;have hr:=Oi0 hL;subst hr;exact Yl.gen (vs:= []) rfl ZB rfl ⟨_,⟨Zi,p0.Za.Zv.length,Zh,Zq,p0.Za.qK.length,Zo,YH,Zk,p0.Za.qQ.length,Zj,ZE1,Zp,p0.Za.qJ.length,Zn,YG,a96,z95.length,c97,a48,v47.length,c49,rfl,rfl⟩,hT ▸ hS.only (.c k0 (.c k7 (.c k7 (.c k7 (.c k7 (.c k0 (.c k3 .n)))))))⟩
 ·skip;simp only [Z7,Z9,Nat.reduceAdd];refine r3 ?_;rintro _ Zuf ⟨Zcg,ZEe,rfl,hS⟩;refine r4 ?_;refine r1 ?_;rintro _ ZV7 ⟨ZcX,ZTg,rfl,hS⟩;refine r4 ?_;refine WO.w gN rfl (Zba (Zf lk (Zf lk (Zf lk Zx)))) ?_;refine r1 ?_;rintro ZMD hS;refine r4 ?_;refine r1 ?_
  have ZBn:∀ (Fr:Nat) (x:Int×(List Int)) (r:Bool×(List Int)),loop Fr (ZiA F p0 p1) x=some r ->match x with | (v107,Zp1)=>∀ {h:H} (a109:Option Addr) (ZmO:Nat) (n111:Nat),wm <=h.size ->Yd (wm:=wm) [bx wm YW (cH p0 Zi Zh Zq Zo Zk Zj Zp Zn Zm Zl Z4 Z0),bx wm b4 [.int .i64 x1.1.machine,.bool x1.1.here,.int .i64 x1.1.age],bx wm b12 (cW p0.Za Zi Zh Zq Zo Zk Zj Zp Zn Zm Zl),bx wm b14 [.int .i64 p1],ow wm (Zu .i64) a109 n111 ZmO Zp1,bx wm b16 [.slice a109 n111 ZmO],bx wm Zcg [.func (.yield l19) #[] #[]],bx wm ZcX [.func (.func 98) #[] [.pointer (some ⟨Zcg,0,none⟩),.pointer (some ⟨b12,0,none⟩),.pointer (some ⟨ZcX,0,none⟩)].toArray],ow wm (Zu .i64) Zi p0.Za.Zv.length Zh (Yr p0.Za.Zv p1 (-1)),Y9 wm (Z5 (Zu .i64)) Zq p0.Za.qK.length Zo YH p0.Za.qK,Y9 wm (Z5 Zc) Zk p0.Za.qQ.length Zj YR p0.Za.qQ,Y9 wm (Z5 Zg) Zp p0.Za.qJ.length Zn YG p0.Za.qJ,ow wm Zd Zm p0.Za.qG.length Zl p0.Za.qG,ow wm ZP Z4 p0.qX.length Z0 p0.qX,ob wm l19 ZrQ,ob wm Zrl .deferred] h ->WR XX 98 #[.int .i64 v107,.pointer (some ⟨Zcg,0,none⟩),.pointer (some ⟨b12,0,none⟩),.pointer (some ⟨ZcX,0,none⟩)] wm h (CP (fun(v:Value) (Gb:List (Ast wm))=>match r with | (Ztt,v117)=>∃ (ZNG:Option Addr) (c119:Nat) (n120:Nat),v= .bool Ztt∧Gb= [bx wm YW (cH p0 Zi Zh Zq Zo Zk Zj Zp Zn Zm Zl Z4 Z0),bx wm b4 [.int .i64 x1.1.machine,.bool x1.1.here,.int .i64 x1.1.age],bx wm b12 (cW p0.Za Zi Zh Zq Zo Zk Zj Zp Zn Zm Zl),bx wm b14 [.int .i64 p1],ow wm (Zu .i64) ZNG n120 c119 v117,bx wm b16 [.slice ZNG n120 c119],bx wm Zcg [.func (.yield l19) #[] #[]],bx wm ZcX [.func (.func 98) #[] [.pointer (some ⟨Zcg,0,none⟩),.pointer (some ⟨b12,0,none⟩),.pointer (some ⟨ZcX,0,none⟩)].toArray],ow wm (Zu .i64) Zi p0.Za.Zv.length Zh (Yr p0.Za.Zv p1 (-1)),Y9 wm (Z5 (Zu .i64)) Zq p0.Za.qK.length Zo YH p0.Za.qK,Y9 wm (Z5 Zc) Zk p0.Za.qQ.length Zj YR p0.Za.qQ,Y9 wm (Z5 Zg) Zp p0.Za.qJ.length Zn YG p0.Za.qJ,ow wm Zd Zm p0.Za.qG.length Zl p0.Za.qG,ow wm ZP Z4 p0.qX.length Z0 p0.qX,ob wm l19 ZrQ,ob wm Zrl .deferred]) [bx wm YW (cH p0 Zi Zh Zq Zo Zk Zj Zp Zn Zm Zl Z4 Z0),bx wm b4 [.int .i64 x1.1.machine,.bool x1.1.here,.int .i64 x1.1.age],bx wm b12 (cW p0.Za Zi Zh Zq Zo Zk Zj Zp Zn Zm Zl),bx wm b14 [.int .i64 p1],ow wm (Zu .i64) a109 n111 ZmO Zp1,bx wm b16 [.slice a109 n111 ZmO],bx wm Zcg [.func (.yield l19) #[] #[]],bx wm ZcX [.func (.func 98) #[] [.pointer (some ⟨Zcg,0,none⟩),.pointer (some ⟨b12,0,none⟩),.pointer (some ⟨ZcX,0,none⟩)].toArray],ow wm (Zu .i64) Zi p0.Za.Zv.length Zh (Yr p0.Za.Zv p1 (-1)),Y9 wm (Z5 (Zu .i64)) Zq p0.Za.qK.length Zo YH p0.Za.qK,Y9 wm (Z5 Zc) Zk p0.Za.qQ.length Zj YR p0.Za.qQ,Y9 wm (Z5 Zg) Zp p0.Za.qJ.length Zn YG p0.Za.qJ,ow wm Zd Zm p0.Za.qG.length Zl p0.Za.qG,ow wm ZP Z4 p0.qX.length Z0 p0.qX,ob wm l19 ZrQ,ob wm Zrl .deferred] h):=by
   clear hL hS;refine ZhE _ ?_;rintro Zg0 Zxs ⟨v107,Zp1⟩ r hL h a109 ZmO n111 ZX hO;dsimp only [ZiA] at hL;obtain⟨T,hT,hS⟩:∃ T,T=X8 (wm:=wm) [bx wm YW (cH p0 Zi Zh Zq Zo Zk Zj Zp Zn Zm Zl Z4 Z0),bx wm b4 [.int .i64 x1.1.machine,.bool x1.1.here,.int .i64 x1.1.age],bx wm b12 (cW p0.Za Zi Zh Zq Zo Zk Zj Zp Zn Zm Zl),bx wm b14 [.int .i64 p1],ow wm (Zu .i64) a109 n111 ZmO Zp1,bx wm b16 [.slice a109 n111 ZmO],bx wm Zcg [.func (.yield l19) #[] #[]],bx wm ZcX [.func (.func 98) #[] [.pointer (some ⟨Zcg,0,none⟩),.pointer (some ⟨b12,0,none⟩),.pointer (some ⟨ZcX,0,none⟩)].toArray],ow wm (Zu .i64) Zi p0.Za.Zv.length Zh (Yr p0.Za.Zv p1 (-1)),Y9 wm (Z5 (Zu .i64)) Zq p0.Za.qK.length Zo YH p0.Za.qK,Y9 wm (Z5 Zc) Zk p0.Za.qQ.length Zj YR p0.Za.qQ,Y9 wm (Z5 Zg) Zp p0.Za.qJ.length Zn YG p0.Za.qJ,ow wm Zd Zm p0.Za.qG.length Zl p0.Za.qG,ow wm ZP Z4 p0.qX.length Z0 p0.qX,ob wm l19 ZrQ,ob wm Zrl .deferred]∧Sp wm T h [bx wm YW (cH p0 Zi Zh Zq Zo Zk Zj Zp Zn Zm Zl Z4 Z0),bx wm b4 [.int .i64 x1.1.machine,.bool x1.1.here,.int .i64 x1.1.age],bx wm b12 (cW p0.Za Zi Zh Zq Zo Zk Zj Zp Zn Zm Zl),bx wm b14 [.int .i64 p1],ow wm (Zu .i64) a109 n111 ZmO Zp1,bx wm b16 [.slice a109 n111 ZmO],bx wm Zcg [.func (.yield l19) #[] #[]],bx wm ZcX [.func (.func 98) #[] [.pointer (some ⟨Zcg,0,none⟩),.pointer (some ⟨b12,0,none⟩),.pointer (some ⟨ZcX,0,none⟩)].toArray],ow wm (Zu .i64) Zi p0.Za.Zv.length Zh (Yr p0.Za.Zv p1 (-1)),Y9 wm (Z5 (Zu .i64)) Zq p0.Za.qK.length Zo YH p0.Za.qK,Y9 wm (Z5 Zc) Zk p0.Za.qQ.length Zj YR p0.Za.qQ,Y9 wm (Z5 Zg) Zp p0.Za.qJ.length Zn YG p0.Za.qJ,ow wm Zd Zm p0.Za.qG.length Zl p0.Za.qG,ow wm ZP Z4 p0.qX.length Z0 p0.qX,ob wm l19 ZrQ,ob wm Zrl .deferred] h:= ⟨_,rfl,Sp.start ZX hO⟩
   obtain rfl:=hS.on k4;refine WF.begin (args:= [_,_,_,_]) (fn:=Tryz.f98) Kq0 (by exact rfl) Tryz.ntmps98 (by simp) ?_;simp only [Z7,Z9,Nat.reduceAdd];refine r8 ?_;refine r2 ?_;refine WO.ZIp gN rfl lk lks hS k14 ZsN rfl rfl ?_;refine r3 ?_;refine AsK.sp ZsN hS k14 ?_;rintro ZQM hS;refine r4 ?_;refine WO.hn gN rfl (Zar (e:= (Zu .i64)) hS YE YF WQ rfl rfl rfl (ZC lk Yf) rfl [((),v107)] rfl (xs:= [v107]) rfl (by intro q hq;simp only [List.mem_cons,List.not_mem_nil,or_false] at hq;subst hq;exact trivial) rfl) ?_;rintro _ ZQL ⟨ZNr,ZTd,rfl,hS⟩;obtain⟨z124,ZJp,hL⟩:=bind_some hL;refine WO.hv gN rfl (Ky (e:= (Zu .i64)) hS k6 JF lk lk (hS.QH k0) (hS.on k0) ZJp) ?_;rintro _ h127 ⟨ZNF,ZNi,rfl,hS⟩;refine r1 ?_;rintro h128 hS;refine r2 ?_;refine BdK.sp ZsN hS k3 ?_;rintro ZQK hS;refine r3 ?_;refine cn hL ?_ ?_
   ·intro hc hL;refine r6 ?_;refine r1 ?_;have hr:=Oi0 hL;subst hr;exact Yl.Qd rfl (ZU lk ZB) ⟨_,⟨ZNF,ZNi,z124.length,rfl,rfl⟩,hT ▸ hS.only (.c k4 (.c k4 (.c k4 (.c k4 (.c k2 (.c k1 (.c k2 (.c k2 (.c k2 (.c k2 (.c k2 (.c k2 (.c k2 (.c k2 (.c k0 (.c k1 .n))))))))))))))))⟩
   ·intro hc hL;refine r6 ?_;refine r1 ?_;refine WO.w gN rfl (ZcP YE lk (congrArg Nat.cast (hS.on k10))) ?_;refine r4 ?_;refine WC.loop (WL.lift hL (fun(p:Int×(List Int)) (s:Fs)=>match p with | (Zno,v138)=>∃ (Ziu:Fr) (ZBT:H) (a139:Option Addr) (ZuL:Nat) (n141:Nat),s= ⟨Ziu,[],ZBT,none⟩∧Sp wm T h [bx wm ZcX [.func (.func 98) #[] [.pointer (some ⟨Zcg,0,none⟩),.pointer (some ⟨b12,0,none⟩),.pointer (some ⟨ZcX,0,none⟩)].toArray],bx wm Zcg [.func (.yield l19) #[] #[]],bx wm b12 (cW p0.Za Zi Zh Zq Zo Zk Zj Zp Zn Zm Zl),bx wm YW (cH p0 Zi Zh Zq Zo Zk Zj Zp Zn Zm Zl Z4 Z0),bx wm b4 [.int .i64 x1.1.machine,.bool x1.1.here,.int .i64 x1.1.age],bx wm b14 [.int .i64 p1],ow wm (Zu .i64) a139 n141 ZuL v138,bx wm b16 [.slice a139 n141 ZuL],ow wm (Zu .i64) Zi p0.Za.Zv.length Zh (Yr p0.Za.Zv p1 (-1)),Y9 wm (Z5 (Zu .i64)) Zq p0.Za.qK.length Zo YH p0.Za.qK,Y9 wm (Z5 Zc) Zk p0.Za.qQ.length Zj YR p0.Za.qQ,Y9 wm (Z5 Zg) Zp p0.Za.qJ.length Zn YG p0.Za.qJ,ow wm Zd Zm p0.Za.qG.length Zl p0.Za.qG,ow wm ZP Z4 p0.qX.length Z0 p0.qX,ob wm l19 ZrQ,ob wm Zrl .deferred] ZBT∧Ziu.at 0= .int .i64 v107∧Ziu.at 3= .pointer (some ⟨ZcX,0,none⟩)∧Ziu.at 13= .slice Zi p0.Za.Zv.length Zh∧Ziu.at 14= .int .i64 ((Yr p0.Za.Zv p1 (-1)).length:Int)∧Ziu.at 15= .int .i64 Zno) ⟨_,_,ZNF,ZNi,z124.length,rfl,hS.only (.c k9 (.c k8 (.c k6 (.c k4 (.c k4 (.c k4 (.c k2 (.c k1 (.c k2 (.c k2 (.c k2 (.c k2 (.c k2 (.c k2 (.c k0 (.c k1 .n)))))))))))))))),YD⟩ ?_);clear hL hS;rintro ZlF ⟨Zno,v138⟩ s ZoI hL ⟨Ziu,ZBT,a139,ZuL,n141,rfl,hS,ZRb,ZRa,ZQ9,ZXm,e137⟩;obtain rfl:=hS.on k6;dsimp only [Zrb] at hL;refine r6 ?_;refine cn hL ?_ ?_
    ·intro hc hL;refine r6 ?_;refine r1 ?_;obtain⟨ZED,ZDE,hL⟩:=bind_some hL;obtain⟨ZYh,ZUr,_,ZFW,ZGC,ZQk⟩:=Src.at_ (hS.QH k8) ZDE;refine WO.w gN rfl (ZE YE YF lk lk (hS.on k8) ZFW ZDE) ?_;refine WO.w gN rfl (ZW Xv (Yo fh rfl) ZGC (j:=0) rfl (v:= .int .i64 ZED) rfl) ?_;refine XC ?_;refine WO.Zb0 (Zt.yes rfl rfl rfl (YA rfl fh)) (fun ZbX=>?_) (fun ZbX=>?_)
     ·replace hL:=JV ZbX hL;obtain⟨⟨ZID,ZjI⟩,Zw8,hL⟩:=bind_some hL;dsimp only at hL;refine WO.cl (Zt.on (Zt.yes rfl rfl rfl (YA rfl fh)) ZbX) rfl (Xi.clo (first:= []) (cap:= [.pointer (some ⟨Zcg,0,none⟩),.pointer (some ⟨b12,0,none⟩),.pointer (some ⟨ZcX,0,none⟩)]) (YX (Zy rfl fh) rfl ZbX) Zif (Zf (YX fh rfl ZbX) Zx) rfl) hS (.c k3 (.c k3 (.c k2 (.c k2 (.c k2 (.c k2 (.c k1 (.c k0 (.c k0 (.c k0 (.c k0 (.c k0 (.c k0 (.c k0 (.c k0 (.c k0 .n)))))))))))))))) (fun g' hz hf hO=>Zxs _ _ Zw8 a139 ZuL v138.length (by rw [hz];exact hS.hw) hO) ?_;rintro _ ZMA _ ⟨ZNB,c152,n153,rfl,rfl⟩ hS;simp only [List.cons_append,List.nil_append] at hS;obtain rfl:=hS.on k4;refine WO.w (Zt.on (Zt.yes rfl rfl rfl (YA rfl (Zy rfl fh))) ZbX) rfl (Zjk lk) ?_;refine WO.w gN rfl (ZdI lk ZbX lk) ?_;refine r2 ?_;refine cn hL ?_ ?_
      ·intro hc hL;refine r8 ?_;refine r3 ?_;have hr:=Oi0 hL;subst hr;exact Yl.Qd rfl (ZU lk ZB) ⟨_,⟨ZNB,c152,ZjI.length,rfl,rfl⟩,hT ▸ hS.only (.c k0 (.c k0 (.c k0 (.c k0 (.c k0 (.c k0 (.c k0 (.c k0 (.c k0 (.c k0 (.c k0 (.c k0 (.c k0 (.c k0 (.c k0 (.c k0 .n))))))))))))))))⟩
      ·intro hc hL;refine r6 ?_;refine r1 ?_;exact Ye.Y2 (ZoI _ _ hL ⟨_,_,ZNB,c152,ZjI.length,rfl,hS.only (.c k7 (.c k6 (.c k2 (.c k0 (.c k0 (.c k0 (.c k0 (.c k0 (.c k0 (.c k0 (.c k0 (.c k0 (.c k0 (.c k0 (.c k0 (.c k0 .n)))))))))))))))),YD⟩)
     ·replace hL:=JW ZbX hL;refine WO.ZbO (Zt.yes rfl rfl rfl (YA rfl fh)) ZbX rfl ?_;refine WO.ZbO (Zt.yes rfl rfl rfl (YA rfl (Zy rfl fh))) ZbX rfl ?_;refine WO.w gN rfl (ZdJ lk ZbX lk) ?_;refine r2 ?_;refine WC.ZdF lk rfl ?_;refine r6 ?_;refine r1 ?_;exact Ye.Y2 (ZoI _ _ hL ⟨_,_,a139,ZuL,v138.length,rfl,hS.only (.c k0 (.c k0 (.c k0 (.c k0 (.c k0 (.c k0 (.c k0 (.c k0 (.c k0 (.c k0 (.c k0 (.c k0 (.c k0 (.c k0 (.c k0 (.c k0 .n)))))))))))))))),YD⟩)
    ·intro hc hL;refine r8 ?_;refine r3 ?_;have hr:=Oi0 hL;subst hr;exact Yl.Qd rfl (ZU lk ZB) ⟨_,⟨a139,ZuL,v138.length,rfl,rfl⟩,hT ▸ hS.only (.c k3 (.c k3 (.c k2 (.c k2 (.c k2 (.c k2 (.c k1 (.c k0 (.c k0 (.c k0 (.c k0 (.c k0 (.c k0 (.c k0 (.c k0 (.c k0 .n))))))))))))))))⟩
  have hS:=hS.nil (e:= (Zu .i64));obtain⟨⟨Zhs,v159⟩,ZJO,hL⟩:=bind_some hL;dsimp only at hL;refine WO.cl gN rfl (Xi.clo (first:= []) (cap:= [.pointer (some ⟨Zcg,0,none⟩),.pointer (some ⟨b12,0,none⟩),.pointer (some ⟨ZcX,0,none⟩)]) lk Zif lks rfl) hS (.c k10 (.c k9 (.c k7 (.c k6 (.c k0 (.c k4 (.c k1 (.c k0 (.c k2 (.c k2 (.c k2 (.c k2 (.c k2 (.c k2 (.c k0 (.c k0 .n)))))))))))))))) (fun g' hz hf hO=>ZBn _ _ _ ZJO none 0 0 (by rw [hz];exact hS.hw) hO) ?_;rintro _ ZQI _ ⟨a160,ZRq,n162,rfl,rfl⟩ hS;simp only [List.cons_append,List.nil_append] at hS;obtain rfl:=hS.on k4;refine r1 ?_;refine Yl.Y2 ?_;exact Yl.gen (vs:= []) rfl ZB rfl ⟨_,hL,⟨a160,ZRq,v159.length,rfl,hS.only (.c k2 (.c k2 (.c k2 (.c k2 (.c k0 (.c k0 (.c k2 (.c k2 (.c k2 (.c k2 (.c k2 (.c k2 (.c k2 (.c k2 .n))))))))))))))⟩⟩
theorem ZGY {wm:Nat} {h:H} {p0:Ze} {Zi:Option Addr} {Zh:Nat} {Zq:Option Addr} {Zo:Nat} {r:Bool} (ZX:wm <=h.size) (ZA:Sl (Zu .i64) wm h Zi Zh p0.qV) (ZN:Sl (Zu .i64) wm h Zq Zo p0.Yh) (hL:Zuo p0=some r):
 WR XX 86 #[.agg [.int .i64 p0.kind,.int .i64 p0.Z8,.int .i64 p0.Yi.msg,.int .i64 p0.Yi.place,.int .i64 p0.Yi.from_,.int .i64 p0.Yi.age,.int .i64 p0.Yi.hops,.slice Zi p0.qV.length Zh,.slice Zq p0.Yh.length Zo,.int .i64 p0.place,.int .i64 p0.at_,.int .i64 p0.age].toArray] wm h (CP (fun(v:Value) (Gb:List (Ast wm))=>v= .bool r∧Gb= []) [] h):=by
 refine bg Tryz.ntmps86 ZX Yd.nil ?_;intro T hT hS;unfold Zuo at hL;refine r3 ?_;rintro _ h2 ⟨b1,eb1,rfl,hS⟩;refine r16 ?_;refine r16 ?_;refine r8 ?_;refine WO.w gN rfl (X4 ZEh Yf rfl (cs':= [.int .i64 0,.int .i64 0,.int .i64 0,.int .i64 0,.int .i64 0]) rfl) ?_;refine WO.w gN rfl (JE (Yo (Zy rfl fh) rfl) (Yo fh rfl) (ZpF (xs:= [.int .i64 p0.Yi.msg,.int .i64 p0.Yi.place,.int .i64 p0.Yi.from_,.int .i64 p0.Yi.age,.int .i64 p0.Yi.hops]) (ys:= [.int .i64 0,.int .i64 0,.int .i64 0,.int .i64 0,.int .i64 0]) (ZEc p0.Yi (Zr.mk 0 0 0 0 0)) rfl rfl)) ?_;refine r16 ?_;refine r1 ?_;refine cn hL ?_ ?_
 ·intro hc hL;refine XC ?_;refine r2 ?_;exact rt hL hT hS
 ·intro hc hL;refine r6 ?_;refine cn hL ?_ ?_
  ·intro hc hL;refine r16 ?_;refine XC ?_;refine r1 ?_;exact rt hL hT hS
  ·intro hc hL;refine r6 ?_;refine cn hL ?_ ?_
   ·intro hc hL;refine XC ?_;refine r2 ?_;exact rt hL hT hS
   ·intro hc hL;refine r8 ?_;refine r1 ?_;exact rt hL hT hS
theorem ZGZ {h:H} {p0:Ze} {Zi:Option Addr} {Zh:Nat} {Zq:Option Addr} {Zo:Nat} {r:Bool} (ZA:Sl (Zu .i64) h.size h Zi Zh p0.qV) (ZN:Sl (Zu .i64) h.size h Zq Zo p0.Yh) (hL:Zuo p0=some r):Pure XX 86 #[.agg [.int .i64 p0.kind,.int .i64 p0.Z8,.int .i64 p0.Yi.msg,.int .i64 p0.Yi.place,.int .i64 p0.Yi.from_,.int .i64 p0.Yi.age,.int .i64 p0.Yi.hops,.slice Zi p0.qV.length Zh,.slice Zq p0.Yh.length Zo,.int .i64 p0.place,.int .i64 p0.at_,.int .i64 p0.age].toArray] h (.bool r):=
 WR.XO rfl (ZGY (Nat.le_refl _) ZA ZN hL)
theorem ZGX {wm:Nat} {h:H} {p0:(List Ze)} {p1 p2:Int} {Zi:Option Addr} {Zh XP:Nat} {r:(List Ze)} (ZX:wm <=h.size) (hO:Yd (wm:=wm) [ow wm Zd Zi XP Zh p0] h) (hL:ZyT p0 p1 p2=some r):
 WR XX 88 #[.slice Zi XP Zh,.int .i64 p1,.int .i64 p2] wm h (CP (fun(v:Value) (Gb:List (Ast wm))=>∃ (Qi:Option Addr) (Qg:Nat) (Qh:Nat),v= .slice Qi Qg Qh∧Gb= [ow wm Zd Qi Qg Qh r]) [ow wm Zd Zi XP Zh p0] h):=by
 refine bg Tryz.ntmps88 ZX hO ?_;intro T hT hS;unfold ZyT at hL;obtain rfl:=hS.on k0;refine XC ?_;obtain⟨z1,hz1,hL⟩:=bind_some hL;refine WO.he gN rfl (ZEV (hS.get k0).2 rfl JK Y4 (Yo (Y3 rfl fh) rfl) (Yo (YA rfl (Zy rfl fh)) rfl) (Yo (YA rfl fh) rfl) (Yo fh rfl) hz1) ?_;rintro v2 hv3;refine r8 ?_;refine r2 ?_;refine cn hL ?_ ?_
 ·intro hc hL;refine r8 ?_;have hr:=Oi0 hL;subst hr;exact Yl.Qd rfl (ZU lk ZB) ⟨_,⟨Zi,p0.length,Zh,rfl,rfl⟩,hT ▸ hS.only (.c k0 .n)⟩
 ·intro hc hL;refine r8 ?_;refine r2 ?_;refine WC.Xx mixed Kq0 ?_;refine r2 ?_;obtain⟨z4,hz4,hL⟩:=bind_some hL;have Zxz:= (hS.get k0).2.cap;refine WX.he gN rfl (ZEU (hS.get k0).2 rfl JK Y4 (Yo (Zy rfl fh) rfl) (Yo fh rfl) hz4) ?_ rfl;rintro _ ⟨a5,c6,ea7,ec8,rfl,ZPC⟩;have ZML:=ec8.symm;refine r2 ?_;obtain⟨z13,ZFf,hL⟩:=bind_some hL;refine WX.he gN rfl (ZIL (hS.get k0).2 rfl JK Y4 (Yo (Zy rfl fh) rfl) (.inr ⟨_,XD (Yo fh rfl)⟩) (.inl ⟨rfl,rfl⟩) ZFf) ?_ rfl;rintro _ ⟨a14,c15,rfl,ZPB⟩;obtain⟨z17,ZFe,hL⟩:=bind_some hL;have ZPp:= (ZPB.own (hS.get k0).2).src;have hS:=hS.sub k0 ZPC;refine WX.hv gN rfl (ZIO (e:=Zd) hS k0 Zcl lk lk ZPp rfl ZFe (ZML ▸ Nat.le_trans (Zs7 hz1 hz4 ZFf ZFe) Zxz)) ?_ rfl rfl [] Kq0 YV.e;rintro _ h19 ⟨rfl,hS⟩;refine WX.w gN rfl (ZcQ lk) ?_ Kq0;refine r8 ?_;refine WO.he gN rfl (ZET (hS.get k0).2 JK Y4 (Yo (YA rfl (Zy rfl fh)) rfl) (Yo (Zy rfl fh) rfl) (Yo fh rfl) (Zs7 hz1 hz4 ZFf ZFe) (ZML ▸ Zxz)) ?_;rintro _ ⟨a20,c21,rfl,ZPE⟩;refine WO.hw gN (ZIM hS k0 ZPE rfl JK Zdh rfl (Yo fh rfl)) ?_;rintro h24 hS;refine r8 ?_;refine r1 ?_;have hr:=Oi0 hL;subst hr;exact Yl.Qd rfl (ZU lk ZB) ⟨_,⟨a5,z17.length,c6,rfl,rfl⟩,hT ▸ hS.only (.c k0 .n)⟩
end Go.Proofs.YtbmbbcaaimehkaaGreat
end
end
section
namespace Go.Proofs.YtbmbbcaaimehkaaGreat
open Go.Lf
def Zma (p0:ZV) (p1:Int):Option Bool:=
 some ((decide (p1 >=0)) && (decide (p1 < (p0.Za.qQ.length:Int))))
def Zq6 (p0:ZV) (p1:Int):Option Bool:=
 some ((decide (p1 >=0)) && (decide (p1 < (p0.Za.Zv.length:Int))))
def Zix (p0:(List Int)) (p1:Int):Int ->(Int ->Option Int) ->Option Int:=fun v6 Zc6=>
 (bif decide (v6 < (p0.length:Int)) then(ZQ p0 v6).bind fun x9=>(bif(p1==x9) then some v6 else Zc6 (Xa (v6 + 1))) else some (-1))
def ZyQ (F:Nat) (p0:(List Int)) (p1:Int):Option Int:=
 loop F (Zix p0 p1) 0
def Zs0 (p0:(List Zw)):Option (List Zw):=
 (app 24 ([]:List Zw) p0).bind fun z3=>some z3
end Go.Proofs.YtbmbbcaaimehkaaGreat
end
section
set_option maxRecDepth 20000
noncomputable section
namespace Go.Proofs.YtbmbbcaaimehkaaGreat
open Go.YJ Go.Lf
theorem ZGT {wm:Nat} {h:H} {p0:ZV} {p1:Int} {Zi:Option Addr} {Zh:Nat} {Zq:Option Addr} {Zo:Nat} {Zk:Option Addr} {Zj:Nat} {Zp:Option Addr} {Zn:Nat} {Zm:Option Addr} {Zl:Nat} {Z4:Option Addr} {Z0 YW WS:Nat} {r:Bool} (ZX:wm <=h.size) (XT:At h YW WS [.slice Zi p0.Za.Zv.length Zh,.slice Zq p0.Za.qK.length Zo,.slice Zk p0.Za.qQ.length Zj,.slice Zp p0.Za.qJ.length Zn,.slice Zm p0.Za.qG.length Zl,.int .i64 p0.Za.said,.slice Z4 p0.Y0.length Z0]) (XR:Stb wm h YW) (ZA:Sl (Zu .i64) wm h Zi Zh p0.Za.Zv) (ZN:Sl (Zz (Zu .i64)) wm h Zq Zo p0.Za.qK) (ZL:Sl (Zz Zc) wm h Zk Zj p0.Za.qQ) (ZO:Sl (Zz Zg) wm h Zp Zn p0.Za.qJ) (ZK:Sl Zd wm h Zm Zl p0.Za.qG) (Xn:Sl XB wm h Z4 Z0 p0.Y0) (hL:Zma p0 p1=some r):
 WR XX 95 #[.pointer (some ⟨YW,WS,none⟩),.int .i64 p1] wm h (CP (fun(v:Value) (Gb:List (Ast wm))=>v= .bool r∧Gb= []) [] h):=by
 refine bg Tryz.ntmps95 ZX Yd.nil ?_;intro T hT hS;unfold Zma at hL;refine XC ?_;refine r3 ?_;refine WO.gv (Zt.yes rfl rfl rfl (Y3 rfl (Zy rfl fh))) rfl (fun hg=>(ZW Ztf (YX fh rfl hg) (At.fz hS.fz XR XT) (j:=2) rfl (v:= .slice Zk p0.Za.qQ.length Zj) rfl)) ?_;refine r6 ?_;refine r1 ?_;exact rt hL hT hS
theorem Zq7 {h:H} {p0:ZV} {p1:Int} {Zi:Option Addr} {Zh:Nat} {Zq:Option Addr} {Zo:Nat} {Zk:Option Addr} {Zj:Nat} {Zp:Option Addr} {Zn:Nat} {Zm:Option Addr} {Zl:Nat} {Z4:Option Addr} {Z0 YW WS:Nat} {r:Bool} (XT:At h YW WS [.slice Zi p0.Za.Zv.length Zh,.slice Zq p0.Za.qK.length Zo,.slice Zk p0.Za.qQ.length Zj,.slice Zp p0.Za.qJ.length Zn,.slice Zm p0.Za.qG.length Zl,.int .i64 p0.Za.said,.slice Z4 p0.Y0.length Z0]) (XR:Stb h.size h YW) (ZA:Sl (Zu .i64) h.size h Zi Zh p0.Za.Zv) (ZN:Sl (Zz (Zu .i64)) h.size h Zq Zo p0.Za.qK) (ZL:Sl (Zz Zc) h.size h Zk Zj p0.Za.qQ) (ZO:Sl (Zz Zg) h.size h Zp Zn p0.Za.qJ) (ZK:Sl Zd h.size h Zm Zl p0.Za.qG) (Xn:Sl XB h.size h Z4 Z0 p0.Y0) (hL:Zma p0 p1=some r):Pure XX 95 #[.pointer (some ⟨YW,WS,none⟩),.int .i64 p1] h (.bool r):=
 WR.XO rfl (ZGT (Nat.le_refl _) XT XR ZA ZN ZL ZO ZK Xn hL)
theorem ZGS {wm:Nat} {h:H} {p0:ZV} {p1:Int} {Zi:Option Addr} {Zh:Nat} {Zq:Option Addr} {Zo:Nat} {Zk:Option Addr} {Zj:Nat} {Zp:Option Addr} {Zn:Nat} {Zm:Option Addr} {Zl:Nat} {Z4:Option Addr} {Z0 YW WS:Nat} {r:Bool} (ZX:wm <=h.size) (XT:At h YW WS [.slice Zi p0.Za.Zv.length Zh,.slice Zq p0.Za.qK.length Zo,.slice Zk p0.Za.qQ.length Zj,.slice Zp p0.Za.qJ.length Zn,.slice Zm p0.Za.qG.length Zl,.int .i64 p0.Za.said,.slice Z4 p0.Y0.length Z0]) (XR:Stb wm h YW) (ZA:Sl (Zu .i64) wm h Zi Zh p0.Za.Zv) (ZN:Sl (Zz (Zu .i64)) wm h Zq Zo p0.Za.qK) (ZL:Sl (Zz Zc) wm h Zk Zj p0.Za.qQ) (ZO:Sl (Zz Zg) wm h Zp Zn p0.Za.qJ) (ZK:Sl Zd wm h Zm Zl p0.Za.qG) (Xn:Sl XB wm h Z4 Z0 p0.Y0) (hL:Zq6 p0 p1=some r):
 WR XX 96 #[.pointer (some ⟨YW,WS,none⟩),.int .i64 p1] wm h (CP (fun(v:Value) (Gb:List (Ast wm))=>v= .bool r∧Gb= []) [] h):=by
 refine bg Tryz.ntmps96 ZX Yd.nil ?_;intro T hT hS;unfold Zq6 at hL;refine XC ?_;refine r3 ?_;refine WO.gv (Zt.yes rfl rfl rfl (Y3 rfl (Zy rfl fh))) rfl (fun hg=>(ZW ZgG (YX fh rfl hg) (At.fz hS.fz XR XT) (j:=0) rfl (v:= .slice Zi p0.Za.Zv.length Zh) rfl)) ?_;refine r6 ?_;refine r1 ?_;exact rt hL hT hS
theorem ZyR {h:H} {p0:ZV} {p1:Int} {Zi:Option Addr} {Zh:Nat} {Zq:Option Addr} {Zo:Nat} {Zk:Option Addr} {Zj:Nat} {Zp:Option Addr} {Zn:Nat} {Zm:Option Addr} {Zl:Nat} {Z4:Option Addr} {Z0 YW WS:Nat} {r:Bool} (XT:At h YW WS [.slice Zi p0.Za.Zv.length Zh,.slice Zq p0.Za.qK.length Zo,.slice Zk p0.Za.qQ.length Zj,.slice Zp p0.Za.qJ.length Zn,.slice Zm p0.Za.qG.length Zl,.int .i64 p0.Za.said,.slice Z4 p0.Y0.length Z0]) (XR:Stb h.size h YW) (ZA:Sl (Zu .i64) h.size h Zi Zh p0.Za.Zv) (ZN:Sl (Zz (Zu .i64)) h.size h Zq Zo p0.Za.qK) (ZL:Sl (Zz Zc) h.size h Zk Zj p0.Za.qQ) (ZO:Sl (Zz Zg) h.size h Zp Zn p0.Za.qJ) (ZK:Sl Zd h.size h Zm Zl p0.Za.qG) (Xn:Sl XB h.size h Z4 Z0 p0.Y0) (hL:Zq6 p0 p1=some r):Pure XX 96 #[.pointer (some ⟨YW,WS,none⟩),.int .i64 p1] h (.bool r):=
 WR.XO rfl (ZGS (Nat.le_refl _) XT XR ZA ZN ZL ZO ZK Xn hL)
theorem ZGR {F wm:Nat} {h:H} {p0:(List Int)} {p1:Int} {Zi:Option Addr} {Zh:Nat} {r:Int} (ZX:wm <=h.size) (ZA:Sl (Zu .i64) wm h Zi Zh p0) (hL:ZyQ F p0 p1=some r):
 WR XX 99 #[.slice Zi p0.length Zh,.int .i64 p1] wm h (CP (fun(v:Value) (Gb:List (Ast wm))=>v= .int .i64 r∧Gb= []) [] h):=by
 refine bg Tryz.ntmps99 ZX Yd.nil ?_;intro T hT hS;unfold ZyQ at hL;refine XC ?_;refine r2 ?_;refine WC.loop (WL.lift hL (fun(v6:Int) (s:Fs)=>∃ (Qm:Fr) (h1:H),s= ⟨Qm,[],h1,none⟩∧Sp wm T h [] h1∧Qm.at 0= .slice Zi p0.length Zh∧Qm.at 1= .int .i64 p1∧Qm.at 7= .int .i64 (p0.length:Int)∧Qm.at 8= .int .i64 v6) ⟨_,_,rfl,hS.only .n,YD⟩ ?_);clear hL hS;rintro Zc6 v6 s Zh9 hL ⟨Qm,h1,rfl,hS,e3,e4,e5,e7⟩;dsimp only [Zix] at hL;refine r6 ?_;refine cn hL ?_ ?_
 ·intro hc hL;refine XC ?_;refine r3 ?_;obtain⟨x9,hx9,hL⟩:=bind_some hL;obtain⟨b10,o11,_,Zii,Zio,ZoT,ZsQ⟩:=Sl.at_ ZA hx9;refine WO.w gN rfl (ZE YE YF lk lk rfl Zii hx9) ?_;refine WO.w gN rfl (ZW Xv (Yo fh rfl) (At.fz hS.fz ZoT Zio) (j:=0) rfl (v:= .int .i64 x9) rfl) ?_;refine r3 ?_;refine cn hL ?_ ?_
  ·intro hc hL;refine XC ?_;exact rt hL hT hS
  ·intro hc hL;refine r6 ?_;refine r1 ?_;exact Ye.Y2 (Zh9 _ _ hL ⟨_,_,rfl,hS.only .n,YD⟩)
 ·intro hc hL;refine r8 ?_;refine r3 ?_;exact rt hL hT hS
theorem ZCq {wm:Nat} {h:H} {p0:(List Zw)} {Zi:Option Addr} {Zh:Nat} {r:(List Zw)} (ZX:wm <=h.size) (ZA:Sl Zc wm h Zi Zh p0) (hL:Zs0 p0=some r):
 WR XX 101 #[.slice Zi p0.length Zh] wm h (CP (fun(v:Value) (Gb:List (Ast wm))=>∃ (Qi:Option Addr) (Qg:Nat) (Qh:Nat),v= .slice Qi Qg Qh∧Gb= [ow wm Zc Qi Qg Qh r]) [] h):=by
 refine bg Tryz.ntmps101 ZX Yd.nil ?_;intro T hT hS;unfold Zs0 at hL;refine r8 ?_;rcases Sl.cases ZA with⟨rfl,rfl,rfl⟩ | ⟨qa,rfl⟩
 ·
  refine r1 ?_;refine WO.w gN rfl (JE (Yo fh rfl) (evC rfl) (Zgc UQ)) ?_;refine r2 ?_;refine WC.ZmK lk rfl ?_;rw [ZrC _ (by decide)] at hL;replace hL:some []=some r:=hL;refine r6 ?_;refine r1 ?_;have hS:=hS.nil (e:=Zc);have hr:=Oi0 hL;subst hr;exact Yl.Qd rfl (ZU lk ZB) ⟨_,⟨none,0,0,rfl,rfl⟩,hT ▸ hS.only (.c k0 .n)⟩
 ·
  refine r1 ?_;refine WO.w gN rfl (JE (Yo fh rfl) (evC rfl) (Zgd UQ)) ?_;refine r2 ?_;refine WC.ZdF lk rfl ?_;refine r4 ?_;refine WO.hn gN rfl (Zar (e:=Zc) hS UQ XA Zho rfl rfl rfl Yf rfl [] rfl (xs:= ([]:List Zw)) rfl (by intro q hq;cases hq) rfl) ?_;rintro _ h2 ⟨b1,eb1,rfl,hS⟩;refine r1 ?_;obtain⟨z3,hz3,hL⟩:=bind_some hL;refine WO.hv gN rfl (Ky (e:=Zc) hS k0 ZzD lk lk (Sl.src (hS.sl ZA)) rfl hz3) ?_;rintro _ h6 ⟨a4,c5,rfl,hS⟩;refine r4 ?_;have hr:=Oi0 hL;subst hr;exact Yl.Qd rfl (ZU lk ZB) ⟨_,⟨a4,z3.length,c5,rfl,rfl⟩,hT ▸ hS.only (.c k0 .n)⟩
end Go.Proofs.YtbmbbcaaimehkaaGreat
end
end
section
namespace Go.Proofs.YtbmbbcaaimehkaaGreat
open Go.Lf
def ZsZ (p0:(List Zr)):Option (List Zr):=
 (app 40 ([]:List Zr) p0).bind fun z3=>some z3
def ZgA (p0:Z6) (p1:Int) (p2:Zr):Option Z6:=
 (ZQ p0.Za.qK p2.place).bind fun x7=>(app 8 x7 [p2.msg]).bind fun z15=>(ZQ p0.Za.qK p2.place).bind fun x19=>(app 40 p0.qX [(ZG.mk 1 p2.place p1 p2.msg p2.hops)]).bind fun z26=>some (Z6.mk (Zb.mk p0.Za.Zv (Yr p0.Za.qK p2.place z15) p0.Za.qQ p0.Za.qJ p0.Za.qG p0.Za.said) z26)
end Go.Proofs.YtbmbbcaaimehkaaGreat
end
section
set_option maxRecDepth 20000
noncomputable section
namespace Go.Proofs.YtbmbbcaaimehkaaGreat
open Go.YJ Go.Lf
theorem ZCp {wm:Nat} {h:H} {p0:(List Zr)} {Zi:Option Addr} {Zh:Nat} {r:(List Zr)} (ZX:wm <=h.size) (ZA:Sl Zg wm h Zi Zh p0) (hL:ZsZ p0=some r):
 WR XX 102 #[.slice Zi p0.length Zh] wm h (CP (fun(v:Value) (Gb:List (Ast wm))=>∃ (Qi:Option Addr) (Qg:Nat) (Qh:Nat),v= .slice Qi Qg Qh∧Gb= [ow wm Zg Qi Qg Qh r]) [] h):=by
 refine bg Tryz.ntmps102 ZX Yd.nil ?_;intro T hT hS;unfold ZsZ at hL;refine r8 ?_;rcases Sl.cases ZA with⟨rfl,rfl,rfl⟩ | ⟨qa,rfl⟩
 ·
  refine r1 ?_;refine WO.w gN rfl (JE (Yo fh rfl) (evC rfl) (Zgc Zbf)) ?_;refine r2 ?_;refine WC.ZmK lk rfl ?_;rw [ZrC _ (by decide)] at hL;replace hL:some []=some r:=hL;refine r6 ?_;refine r1 ?_;have hS:=hS.nil (e:=Zg);have hr:=Oi0 hL;subst hr;exact Yl.Qd rfl (ZU lk ZB) ⟨_,⟨none,0,0,rfl,rfl⟩,hT ▸ hS.only (.c k0 .n)⟩
 ·
  refine r1 ?_;refine WO.w gN rfl (JE (Yo fh rfl) (evC rfl) (Zgd Zbf)) ?_;refine r2 ?_;refine WC.ZdF lk rfl ?_;refine r4 ?_;refine WO.hn gN rfl (Zar (e:=Zg) hS Zbf Uq Zhm rfl rfl rfl Yf rfl [] rfl (xs:= ([]:List Zr)) rfl (by intro q hq;cases hq) rfl) ?_;rintro _ h2 ⟨b1,eb1,rfl,hS⟩;refine r1 ?_;obtain⟨z3,hz3,hL⟩:=bind_some hL;refine WO.hv gN rfl (Ky (e:=Zg) hS k0 Zjo lk lk (Sl.src (hS.sl ZA)) rfl hz3) ?_;rintro _ h6 ⟨a4,c5,rfl,hS⟩;refine r4 ?_;have hr:=Oi0 hL;subst hr;exact Yl.Qd rfl (ZU lk ZB) ⟨_,⟨a4,z3.length,c5,rfl,rfl⟩,hT ▸ hS.only (.c k0 .n)⟩
theorem ZsY {wm:Nat} {h:H} {p0:Z6} {p1:Int} {p2:Zr} {Zi:Option Addr} {Zh XP:Nat} {Zq:Option Addr} {Zo Q8:Nat} {YH:Nat ->Option Addr×Nat×Nat} {Zk:Option Addr} {Zj Q7:Nat} {YR:Nat ->Option Addr×Nat×Nat} {Zp:Option Addr} {Zn Q6:Nat} {YG:Nat ->Option Addr×Nat×Nat} {Zm:Option Addr} {Zl Q5:Nat} {Z4:Option Addr} {Z0 Qj YW:Nat} {r:Z6} (ZX:wm <=h.size) (hO:Yd (wm:=wm) [bx wm YW (cG Zi XP Zh Zq Q8 Zo Zk Q7 Zj Zp Q6 Zn Zm Q5 Zl p0.Za.said Z4 Qj Z0),ow wm (Zu .i64) Zi XP Zh p0.Za.Zv,Y9 wm (Z5 (Zu .i64)) Zq Q8 Zo YH p0.Za.qK,Y9 wm (Z5 Zc) Zk Q7 Zj YR p0.Za.qQ,Y9 wm (Z5 Zg) Zp Q6 Zn YG p0.Za.qJ,ow wm Zd Zm Q5 Zl p0.Za.qG,ow wm ZP Z4 Qj Z0 p0.qX] h) (hL:ZgA p0 p1 p2=some r):
 WR XX 103 #[.pointer (some ⟨YW,0,none⟩),.int .i64 p1,.agg [.int .i64 p2.msg,.int .i64 p2.place,.int .i64 p2.from_,.int .i64 p2.age,.int .i64 p2.hops].toArray] wm h (CP (fun(v:Value) (Gb:List (Ast wm))=>∃ (Jt:Option Addr) (Uw:Nat) (Jm:Nat) (Js:Option Addr) (Uv:Nat) (Jl:Nat) (Uz:Nat ->Option Addr×Nat×Nat) (Jr:Option Addr) (Uu:Nat) (Jk:Nat) (Uy:Nat ->Option Addr×Nat×Nat) (Jq:Option Addr) (Ut:Nat) (Jj:Nat) (Ux:Nat ->Option Addr×Nat×Nat) (Jp:Option Addr) (Us:Nat) (Ji:Nat) (Jo:Option Addr) (Jg:Nat) (Jh:Nat),v= .tuple [].toArray∧Gb= [bx wm YW (cG Jt Uw Jm Js Uv Jl Jr Uu Jk Jq Ut Jj Jp Us Ji r.Za.said Jo Jg Jh),ow wm (Zu .i64) Jt Uw Jm r.Za.Zv,Y9 wm (Z5 (Zu .i64)) Js Uv Jl Uz r.Za.qK,Y9 wm (Z5 Zc) Jr Uu Jk Uy r.Za.qQ,Y9 wm (Z5 Zg) Jq Ut Jj Ux r.Za.qJ,ow wm Zd Jp Us Ji r.Za.qG,ow wm ZP Jo Jg Jh r.qX]) [bx wm YW (cG Zi XP Zh Zq Q8 Zo Zk Q7 Zj Zp Q6 Zn Zm Q5 Zl p0.Za.said Z4 Qj Z0),ow wm (Zu .i64) Zi XP Zh p0.Za.Zv,Y9 wm (Z5 (Zu .i64)) Zq Q8 Zo YH p0.Za.qK,Y9 wm (Z5 Zc) Zk Q7 Zj YR p0.Za.qQ,Y9 wm (Z5 Zg) Zp Q6 Zn YG p0.Za.qJ,ow wm Zd Zm Q5 Zl p0.Za.qG,ow wm ZP Z4 Qj Z0 p0.qX] h):=by
 refine bg Tryz.ntmps103 ZX hO ?_;intro T hT hS;unfold ZgA at hL;obtain rfl:=hS.on k1;obtain rfl:=hS.Xk k2;obtain rfl:=hS.Xk k3;obtain rfl:=hS.Xk k4;obtain rfl:=hS.on k5;obtain rfl:=hS.on k6;refine r3 ?_;rintro _ h2 ⟨b1,eb1,rfl,hS⟩;refine r3 ?_;refine WC.Xx mixed Kq0 ?_;refine r4 ?_;refine WX.wr (fun x=>x=YW) hS gN rfl (fun _ _ hR=>ZW ZzQ (Yo fh rfl) (At.eqv (hR YW rfl) (hS.atB k1)) (j:=1) rfl (v:= .slice Zq p0.Za.qK.length Zo) rfl) ?_ rfl rfl;rintro h3 e4 hS;refine r1 ?_;refine WX.wr (fun x=>x=b1) hS gN rfl (fun _ _ hR=>ZW Xv (Yo fh rfl) (At.eqv (hR b1 rfl) (hS.atB k0)) (j:=1) rfl (v:= .int .i64 p2.place) rfl) ?_ rfl rfl;rintro h5 e6 hS;refine r6 ?_;refine r1 ?_;obtain⟨x7,hx7,hL⟩:=bind_some hL;obtain⟨b8,o9,a10,n11,c12,ZPL,Zud,ZGk⟩:=hS.atS k3 hx7;refine WX.w gN rfl (ZE Zd2 U1 lk lk rfl Zud hx7) ?_ rfl;refine WX.w gN rfl (ZW ZgG (Yo fh rfl) ZGk (j:=0) rfl (v:= .slice a10 n11 c12) rfl) ?_ rfl;refine r2 ?_;refine WX.hn gN rfl (Zar (e:= (Zu .i64)) hS YE YF WQ rfl rfl rfl (ZC lk Yf) rfl [((),p2.msg)] rfl (xs:= [p2.msg]) rfl (by intro q hq;simp only [List.mem_cons,List.not_mem_nil,or_false] at hq;subst hq;exact trivial) rfl) ?_ rfl;rintro _ h14 ⟨b13,ZWM,rfl,hS⟩;obtain⟨z15,ZPo,hL⟩:=bind_some hL;have hS:=hS.Zhv k4 hx7 ZPL;refine WX.hv gN rfl (Ky (e:= (Zu .i64)) hS k1 JF lk lk (hS.QH k2) (hS.on k2) ZPo) ?_ rfl rfl [4,6] Kq0 (.c (.s (.s .z)) (hS.dj (.c k1 (.c k3 .n))) (.c (.s .z) (hS.dj (.c k1 (.c k2 .n))) YV.e));rintro _ h18 ⟨a16,c17,rfl,hS⟩;obtain⟨x19,Zqx,hL⟩:=bind_some hL;refine WX.w gN rfl (ZE Zd2 U1 lk lk rfl Zud Zqx) ?_ Kq0;refine WX.hu gN (Zr7 hS k1 U1 (Yo fh rfl) (Yo (Zy rfl fh) rfl) Zud hx7 (j:=0) rfl (vs:= [.slice a16 z15.length c17]) rfl rfl rfl rfl rfl (cs':= [.slice a16 z15.length c17]) rfl rfl rfl) ?_ rfl Kq0 [] Kq0 YV.e;rintro h21 hS;obtain⟨ZO2,ZUQ,hS⟩:=hS.Ziv (.c k0 (.c k0 .n)) hx7;refine r2 ?_;refine WC.Xx mixed Kq0 ?_;refine XC ?_;refine WX.w gN rfl (X4 Zzw (ZC lk (ZC lk (ZC lk (ZC lk (ZC lk Yf))))) rfl (cs':= [.int .i64 1,.int .i64 p2.place,.int .i64 p1,.int .i64 p2.msg,.int .i64 p2.hops]) rfl) ?_ rfl;refine WX.hn gN rfl (Zar (e:=ZP) hS Zns Ze8 Zhn rfl rfl rfl (ZC lk Yf) rfl [((),(ZG.mk 1 p2.place p1 p2.msg p2.hops))] rfl (xs:= [(ZG.mk 1 p2.place p1 p2.msg p2.hops)]) rfl (by intro q hq;simp only [List.mem_cons,List.not_mem_nil,or_false] at hq;subst hq;exact trivial) rfl) ?_ rfl;rintro _ h25 ⟨b24,ZMO,rfl,hS⟩;obtain⟨z26,ZPl,hL⟩:=bind_some hL;refine WX.hv gN rfl (Ky (e:=ZP) hS k9 Zjp lk lk (hS.QH k0) (hS.on k0) ZPl) ?_ rfl rfl [] Kq0 YV.e;rintro _ h29 ⟨a27,c28,rfl,hS⟩;refine WX.w gN rfl (ZdK lk) ?_ Kq0;refine WX.w gN rfl (J6 Zes lk) ?_ Kq0;refine WX.hu gN (ZaQ hS k5 Zlj lk lk (vs:= [.slice a27 z26.length c28]) rfl rfl rfl rfl (cs':= (cG Zi p0.Za.Zv.length Zh Zq p0.Za.qK.length Zo Zk p0.Za.qQ.length Zj Zp p0.Za.qJ.length Zn Zm p0.Za.qG.length Zl p0.Za.said a27 z26.length c28)) rfl) ?_ rfl Kq0 [] Kq0 YV.e;rintro h30 hS;refine r1 ?_;refine Yl.Y2 ?_;have hr:=Oi0 hL;subst hr;exact Yl.gen (vs:= []) rfl ZB rfl ⟨_,⟨Zi,p0.Za.Zv.length,Zh,Zq,p0.Za.qK.length,Zo,ZO2,Zk,p0.Za.qQ.length,Zj,YR,Zp,p0.Za.qJ.length,Zn,YG,Zm,p0.Za.qG.length,Zl,a27,z26.length,c28,rfl,rfl⟩,hT ▸ hS.only (.c k0 (.c k5 (.c k2 (.c k4 (.c k4 (.c k4 (.c k0 .n)))))))⟩
end Go.Proofs.YtbmbbcaaimehkaaGreat
end
end
section
namespace Go.Proofs.YtbmbbcaaimehkaaGreat
open Go.Lf
def Zj4 (F:Nat) (p0:Zb) (p1:Int):Option (Int×Bool×Int):=
 (Zre F p0 p1).bind fun x3=>some (x3.1.at_,x3.1.is,x3.1.age)
end Go.Proofs.YtbmbbcaaimehkaaGreat
end
section
set_option maxRecDepth 20000
noncomputable section
namespace Go.Proofs.YtbmbbcaaimehkaaGreat
open Go.YJ Go.Lf
theorem ZfJ {F wm:Nat} {h:H} {p0:Zb} {p1:Int} {Zi:Option Addr} {Zh:Nat} {Zq:Option Addr} {Zo:Nat} {Zk:Option Addr} {Zj:Nat} {Zp:Option Addr} {Zn:Nat} {Zm:Option Addr} {Zl:Nat} {r:(Int×Bool×Int)} (ZX:wm <=h.size) (ZA:Sl (Zu .i64) wm h Zi Zh p0.Zv) (ZN:Sl (Zz (Zu .i64)) wm h Zq Zo p0.qK) (ZL:Sl (Zz Zc) wm h Zk Zj p0.qQ) (ZO:Sl (Zz Zg) wm h Zp Zn p0.qJ) (ZK:Sl Zd wm h Zm Zl p0.qG) (hL:Zj4 F p0 p1=some r):
 WR XX 33 #[.agg [.slice Zi p0.Zv.length Zh,.slice Zq p0.qK.length Zo,.slice Zk p0.qQ.length Zj,.slice Zp p0.qJ.length Zn,.slice Zm p0.qG.length Zl,.int .i64 p0.said].toArray,.int .i64 p1] wm h (CP (fun(v:Value) (Gb:List (Ast wm))=>v= .tuple [.int .i64 r.1,.bool r.2.1,.int .i64 r.2.2].toArray∧Gb= []) [] h):=by
 refine bg Tryz.ntmps33 ZX Yd.nil ?_;intro T hT hS;unfold Zj4 at hL;refine r3 ?_;rintro _ h2 ⟨b1,eb1,rfl,hS⟩;refine r8 ?_;refine r1 ?_;obtain⟨x3,hx3,hL⟩:=bind_some hL;refine WO.cl gN rfl (Xi.fn ZDW (Zf lk (Zf lk Zx))) hS .n (fun g' hz hf hO=>Zy6 (by rw [hz];exact hS.hw) ((hS.sl ZA).mono hf) ((hS.sl ZN).mono hf) ((hS.sl ZL).mono hf) ((hS.sl ZO).mono hf) ((hS.sl ZK).mono hf) hx3) ?_;rintro _ h4 _ ⟨rfl,rfl⟩ hS;refine r4 ?_;rintro _ h7 ⟨b6,eb6,rfl,hS⟩;refine r1 ?_;rintro h8 hS;refine r4 ?_;refine WC.Xx mixed Kq0 ?_;refine XC ?_;have hr:=Oi0 hL;subst hr;exact Yl.gen (vs:= [.int .i64 x3.1.at_,.bool x3.1.is,.int .i64 x3.1.age]) rfl (ZU lk (ZU lk (ZU lk ZB))) rfl ⟨_,⟨rfl,rfl⟩,hT ▸ hS.only .n⟩
end Go.Proofs.YtbmbbcaaimehkaaGreat
end
end
section
namespace Go.Proofs.YtbmbbcaaimehkaaGreat
open Go.Lf
def ZiV (p0:Zb) (v22:Int) (ZlD:(Int ->Option Bool)):Int×Int ->(Int×Int ->Option Bool) ->Option Bool:=fun(v34,v36) ZhQ=>
 (bif((decide (v36 <= (p0.Zv.length:Int))) && (decide (v34 >=0))) then(bif(v34==v22) then some false else(ZQ p0.Zv v34).bind fun x41=>ZhQ (x41,Xa (v36 + 1))) else ZlD (Xa (v22 + 1)))
def ZfF (p0:Zb) (v51:Int) (ZlA:(Int ->Option Bool)) (x54:(List Zw)):Int ->(Int ->Option Bool) ->Option Bool:=fun v70 Zwx=>
 (bif decide (v70 < (x54.length:Int)) then(ZQ x54 v70).bind fun x73=>(bif(((((decide (x73.age < 0)) || (decide (x73.age > 30))) || (decide (x73.Z8 < 0))) || (decide (x73.Z8 >= (p0.qQ.length:Int)))) || (x73.here != (x73.Z8==v51))) then some false else Zwx (Xa (v70 + 1))) else ZlA (Xa (v51 + 1)))
def ZfE (p0:Zb) (v85:Int) (Zlw:(Int ->Option Bool)) (x88:Ze):Int ->(Int ->Option Bool) ->Option Bool:=fun v109 Zso=>
 (bif decide (v109 < (x88.qV.length:Int)) then(ZQ x88.qV v109).bind fun x112=>(gd ((!((decide (x112 < 0)) || (decide (x112 >= (p0.Zv.length:Int))))) && (decide (v109 > 0))) (ZQ x88.qV (Xa (v109 - 1))) default).bind fun x115=>(gd (!(((decide (x112 < 0)) || (decide (x112 >= (p0.Zv.length:Int)))) || ((decide (v109 > 0)) && (decide (x112 <=x115))))) (ZQ x88.Yh v109) default).bind fun Zdi=>(gd (!((((decide (x112 < 0)) || (decide (x112 >= (p0.Zv.length:Int)))) || ((decide (v109 > 0)) && (decide (x112 <=x115)))) || (decide (Zdi < 1)))) (ZQ x88.Yh v109) default).bind fun ZaL=>(bif(((((decide (x112 < 0)) || (decide (x112 >= (p0.Zv.length:Int)))) || ((decide (v109 > 0)) && (decide (x112 <=x115)))) || (decide (Zdi < 1))) || (decide (ZaL > 30))) then some false else Zso (Xa (v109 + 1))) else(bif((x88.kind==3) && (((decide (x88.place < 0)) || (decide (x88.place >= (p0.Zv.length:Int)))) || (x88.at_==x88.Z8))) then some false else Zlw (Xa (v85 + 1))))
def KI (F:Nat) (p0:Zb):Int ->(Int ->Option Bool) ->Option Bool:=fun v85 Zlw=>
 (bif decide (v85 < (p0.qG.length:Int)) then(ZQ p0.qG v85).bind fun x88=>(gd (!((decide (x88.Z8 < 0)) || (decide (x88.Z8 >= (p0.qQ.length:Int))))) (Zuo x88) default).bind fun x98=>(bif(((decide (x88.Z8 < 0)) || (decide (x88.Z8 >= (p0.qQ.length:Int)))) || (!x98)) then some false else loop F (ZfE p0 v85 Zlw x88) 0) else some true)
def ZdC (F:Nat) (p0:Zb):Int ->(Int ->Option Bool) ->Option Bool:=fun v51 ZlA=>
 (bif decide (v51 < (p0.qQ.length:Int)) then(ZQ p0.qQ v51).bind fun x54=>(bif((x54.length:Int) != (p0.Zv.length:Int)) then some false else loop F (ZfF p0 v51 ZlA x54) 0) else loop F (KI F p0) 0)
def ZfG (F:Nat) (p0:Zb):Int ->(Int ->Option Bool) ->Option Bool:=fun v22 ZlD=>
 (bif decide (v22 < (p0.Zv.length:Int)) then(ZQ p0.Zv v22).bind fun x25=>loop F (ZiV p0 v22 ZlD) (x25,0) else loop F (ZdC F p0) 0)
def ZiW (F:Nat) (p0:Zb):Int ->(Int ->Option Bool) ->Option Bool:=fun v10 ZaX=>
 (bif decide (v10 < (p0.Zv.length:Int)) then(ZQ p0.Zv v10).bind fun x13=>(bif((decide (x13 < (-1))) || (decide (x13 >= (p0.Zv.length:Int)))) then some false else ZaX (Xa (v10 + 1))) else loop F (ZfG F p0) 0)
def Zy7 (F:Nat) (p0:Zb):Option Bool:=
 (bif((((((((decide ((p0.Zv.length:Int) < 1)) || (decide ((p0.Zv.length:Int) > 8))) || (decide ((p0.qQ.length:Int) < 1))) || (decide ((p0.qQ.length:Int) > 5))) || ((p0.qK.length:Int) != (p0.Zv.length:Int))) || ((p0.qJ.length:Int) != (p0.qQ.length:Int))) || (decide (p0.said < 0))) || (decide (p0.said > 40))) then some false else loop F (ZiW F p0) 0)
def Zo4 (F:Nat) (p0:(List Int)) (p1:Int):Option Bool:=
 (ZyQ F p0 p1).bind fun x1=>some (decide (x1 >=0))
end Go.Proofs.YtbmbbcaaimehkaaGreat
end
section
set_option maxRecDepth 20000
noncomputable section
namespace Go.Proofs.YtbmbbcaaimehkaaGreat
open Go.YJ Go.Lf
theorem ZHi {F wm:Nat} {h:H} {p0:Zb} {Zi:Option Addr} {Zh:Nat} {Zq:Option Addr} {Zo:Nat} {Zk:Option Addr} {Zj:Nat} {Zp:Option Addr} {Zn:Nat} {Zm:Option Addr} {Zl:Nat} {r:Bool} (ZX:wm <=h.size) (ZA:Sl (Zu .i64) wm h Zi Zh p0.Zv) (ZN:Sl (Zz (Zu .i64)) wm h Zq Zo p0.qK) (ZL:Sl (Zz Zc) wm h Zk Zj p0.qQ) (ZO:Sl (Zz Zg) wm h Zp Zn p0.qJ) (ZK:Sl Zd wm h Zm Zl p0.qG) (hL:Zy7 F p0=some r):
 WR XX 51 #[.agg [.slice Zi p0.Zv.length Zh,.slice Zq p0.qK.length Zo,.slice Zk p0.qQ.length Zj,.slice Zp p0.qJ.length Zn,.slice Zm p0.qG.length Zl,.int .i64 p0.said].toArray] wm h (CP (fun(v:Value) (Gb:List (Ast wm))=>v= .bool r∧Gb= []) [] h):=by
 refine bg Tryz.ntmps51 ZX Yd.nil ?_;intro T hT hS;unfold Zy7 at hL;refine r3 ?_;rintro _ h2 ⟨b1,eb1,rfl,hS⟩;refine r4 ?_;refine WC.Xx mixed Kq0 ?_;refine r16 ?_;refine r16 ?_;refine r16 ?_;refine r4 ?_;refine r1 ?_;refine cn hL ?_ ?_
 ·intro hc hL;refine r6 ?_;refine r1 ?_;exact rt hL hT hS
 ·intro hc hL;refine XC ?_;refine WC.loop (WL.lift hL (fun(v10:Int) (s:Fs)=>∃ (KU:Fr) (h3:H),s= ⟨KU,[],h3,none⟩∧Sp wm T h [bx wm b1 (cW p0 Zi Zh Zq Zo Zk Zj Zp Zn Zm Zl)] h3∧KU.at 1= .pointer (some ⟨b1,0,none⟩)∧KU.at 3= .int .i64 (p0.Zv.length:Int)∧KU.at 4= .int .i64 (p0.qQ.length:Int)∧KU.at 63= .slice Zi p0.Zv.length Zh∧KU.at 64= .int .i64 (p0.Zv.length:Int)∧KU.at 65= .int .i64 v10) ⟨_,_,rfl,hS.only (.c k0 .n),YD⟩ ?_);clear hL hS;rintro ZaX v10 s ZlV hL ⟨KU,h3,rfl,hS,e5,e6,e7,e8,e9,e11⟩;dsimp only [ZiW] at hL;refine r6 ?_;refine cn hL ?_ ?_
  ·intro hc hL;refine r6 ?_;obtain⟨x13,Zw9,hL⟩:=bind_some hL;obtain⟨b14,o15,_,ZxV,Zyr,Zx8,ZLz⟩:=Sl.at_ ZA Zw9;refine WO.w gN rfl (ZE YE YF lk lk rfl ZxV Zw9) ?_;refine WO.w gN rfl (ZW Xv (Yo fh rfl) (At.fz hS.fz Zx8 Zyr) (j:=0) rfl (v:= .int .i64 x13) rfl) ?_;refine XC ?_;refine r2 ?_;refine cn hL ?_ ?_
   ·intro hc hL;refine r8 ?_;refine r3 ?_;exact rt hL hT hS
   ·intro hc hL;refine r6 ?_;refine r1 ?_;exact Ye.Y2 (ZlV _ _ hL ⟨_,_,rfl,hS.only (.c k0 .n),YD⟩)
  ·intro hc hL;refine XC ?_;refine r3 ?_;refine WC.loop (WL.lift hL (fun(v22:Int) (s:Fs)=>∃ (Zer:Fr) (h16:H),s= ⟨Zer,[],h16,none⟩∧Sp wm T h [bx wm b1 (cW p0 Zi Zh Zq Zo Zk Zj Zp Zn Zm Zl)] h16∧Zer.at 1= .pointer (some ⟨b1,0,none⟩)∧Zer.at 3= .int .i64 (p0.Zv.length:Int)∧Zer.at 4= .int .i64 (p0.qQ.length:Int)∧Zer.at 79= .int .i64 (p0.Zv.length:Int)∧Zer.at 80= .int .i64 v22) ⟨_,_,rfl,hS.only (.c k0 .n),YD⟩ ?_);clear hL hS;rintro ZlD v22 s ZBI hL ⟨Zer,h16,rfl,hS,e18,e19,e20,e21,e23⟩;dsimp only [ZfG] at hL;refine r6 ?_;refine cn hL ?_ ?_
   ·intro hc hL;refine XC ?_;refine r3 ?_;obtain⟨x25,hx25,hL⟩:=bind_some hL;obtain⟨b26,o27,_,ZLe,ZMk,ZLV,ZSG⟩:=Sl.at_ ZA hx25;refine WO.w gN rfl (ZE YE YF lk lk rfl ZLe hx25) ?_;refine WO.w gN rfl (ZW Xv (Yo fh rfl) (At.fz hS.fz ZLV ZMk) (j:=0) rfl (v:= .int .i64 x25) rfl) ?_;refine r8 ?_;refine r1 ?_;refine WC.loop (WL.lift hL (fun(p:Int×Int) (s:Fs)=>match p with | (v34,v36)=>∃ (Zbp:Fr) (h28:H),s= ⟨Zbp,[],h28,none⟩∧Sp wm T h [bx wm b1 (cW p0 Zi Zh Zq Zo Zk Zj Zp Zn Zm Zl)] h28∧Zbp.at 1= .pointer (some ⟨b1,0,none⟩)∧Zbp.at 3= .int .i64 (p0.Zv.length:Int)∧Zbp.at 4= .int .i64 (p0.qQ.length:Int)∧Zbp.at 7= .int .i64 v22∧Zbp.at 8= .int .i64 v34∧Zbp.at 9= .int .i64 v36∧Zbp.at 79= .int .i64 (p0.Zv.length:Int)∧Zbp.at 80= .int .i64 v22) ⟨_,_,rfl,hS.only (.c k0 .n),YD⟩ ?_);clear hL hS;rintro ZhQ ⟨v34,v36⟩ s ZlQ hL ⟨Zbp,h28,rfl,hS,e30,e31,e32,e33,e35,e37,e38,e39⟩;dsimp only [ZiV] at hL;refine XC ?_;refine cn hL ?_ ?_
    ·intro hc hL;refine XC ?_;refine cn hL ?_ ?_
     ·intro hc hL;refine r16 ?_;exact rt hL hT hS
     ·intro hc hL;refine r6 ?_;obtain⟨x41,Zw4,hL⟩:=bind_some hL;obtain⟨b42,o43,_,ZxQ,Zyn,Zx5,ZLv⟩:=Sl.at_ ZA Zw4;refine WO.w gN rfl (ZE YE YF lk lk rfl ZxQ Zw4) ?_;refine WO.w gN rfl (ZW Xv (Yo fh rfl) (At.fz hS.fz Zx5 Zyn) (j:=0) rfl (v:= .int .i64 x41) rfl) ?_;refine r8 ?_;refine r1 ?_;exact Ye.Y2 (ZlQ _ _ hL ⟨_,_,rfl,hS.only (.c k0 .n),YD⟩)
    ·intro hc hL;refine r8 ?_;refine r2 ?_;exact Ye.Y2 (ZBI _ _ hL ⟨_,_,rfl,hS.only (.c k0 .n),YD⟩)
   ·intro hc hL;refine XC ?_;refine r3 ?_;refine WC.loop (WL.lift hL (fun(v51:Int) (s:Fs)=>∃ (ZoX:Fr) (h44:H),s= ⟨ZoX,[],h44,none⟩∧Sp wm T h [bx wm b1 (cW p0 Zi Zh Zq Zo Zk Zj Zp Zn Zm Zl)] h44∧ZoX.at 1= .pointer (some ⟨b1,0,none⟩)∧ZoX.at 3= .int .i64 (p0.Zv.length:Int)∧ZoX.at 4= .int .i64 (p0.qQ.length:Int)∧ZoX.at 107= .slice Zk p0.qQ.length Zj∧ZoX.at 108= .int .i64 (p0.qQ.length:Int)∧ZoX.at 109= .int .i64 v51) ⟨_,_,rfl,hS.only (.c k0 .n),YD⟩ ?_);clear hL hS;rintro ZlA v51 s ZBC hL ⟨ZoX,h44,rfl,hS,e46,e47,e48,e49,e50,e52⟩;dsimp only [ZdC] at hL;refine r6 ?_;refine cn hL ?_ ?_
    ·intro hc hL;refine r6 ?_;refine r1 ?_;obtain⟨x54,Zot,hL⟩:=bind_some hL;obtain⟨b55,o56,⟨a57,c58⟩,ZoN,Zyh,ZLM,ZLq⟩:=Sl.at_ ZL Zot;refine WO.w gN rfl (ZE UR QZ lk lk rfl ZoN Zot) ?_;have ZJ3:Sl Zc wm h a57 c58 x54:=ZLq;refine WO.w gN rfl (ZW WG (Yo fh rfl) (At.fz hS.fz ZLM Zyh) (j:=0) rfl (v:= .slice a57 x54.length c58) rfl) ?_;refine XC ?_;refine r1 ?_;refine cn hL ?_ ?_
     ·intro hc hL;refine XC ?_;exact rt hL hT hS
     ·intro hc hL;refine r8 ?_;refine r2 ?_;refine WC.loop (WL.lift hL (fun(v70:Int) (s:Fs)=>∃ (ZgN:Fr) (h59:H),s= ⟨ZgN,[],h59,none⟩∧Sp wm T h [bx wm b1 (cW p0 Zi Zh Zq Zo Zk Zj Zp Zn Zm Zl)] h59∧ZgN.at 1= .pointer (some ⟨b1,0,none⟩)∧ZgN.at 3= .int .i64 (p0.Zv.length:Int)∧ZgN.at 4= .int .i64 (p0.qQ.length:Int)∧ZgN.at 10= .int .i64 v51∧ZgN.at 107= .slice Zk p0.qQ.length Zj∧ZgN.at 108= .int .i64 (p0.qQ.length:Int)∧ZgN.at 109= .int .i64 v51∧ZgN.at 118= .slice a57 x54.length c58∧ZgN.at 119= .int .i64 (x54.length:Int)∧ZgN.at 120= .int .i64 v70) ⟨_,_,rfl,hS.only (.c k0 .n),YD⟩ ?_);clear hL hS;rintro Zwx v70 s ZBt hL ⟨ZgN,h59,rfl,hS,e61,e62,e63,e64,e65,e66,e67,e68,e69,e71⟩;dsimp only [ZfF] at hL;refine r6 ?_;refine cn hL ?_ ?_
      ·intro hc hL;refine r6 ?_;obtain⟨x73,Zt5,hL⟩:=bind_some hL;obtain⟨b74,o75,_,ZsI,Zyc,ZLF,ZLl⟩:=Sl.at_ ZJ3 Zt5;refine WO.w gN rfl (ZE UQ XA lk lk rfl ZsI Zt5) ?_;refine WO.w gN rfl (Xh Zk0 XA (Yo fh rfl) (At.fz hS.fz ZLF Zyc) (j:=0) rfl rfl (ws:= (cE x73)) rfl) ?_;refine r1 ?_;rintro _ h77 ⟨b76,ZWo,rfl,hS⟩;refine r1 ?_;rintro h78 hS;refine r16 ?_;refine XC ?_;refine r2 ?_;refine WO.gv (Zt.no rfl rfl rfl (Y3 rfl (YA rfl fh))) rfl (fun hg=>(JE (YX (Y3 rfl fh) rfl hg) (YX fh rfl hg) (Wh Zp2))) ?_;refine r3 ?_;refine cn hL ?_ ?_
       ·intro hc hL;refine XC ?_;refine r3 ?_;exact rt hL hT hS
       ·intro hc hL;refine r6 ?_;refine r1 ?_;exact Ye.Y2 (ZBt _ _ hL ⟨_,_,rfl,hS.only (.c k1 .n),YD⟩)
      ·intro hc hL;refine r8 ?_;refine r2 ?_;exact Ye.Y2 (ZBC _ _ hL ⟨_,_,rfl,hS.only (.c k0 .n),YD⟩)
    ·intro hc hL;refine XC ?_;refine r3 ?_;refine WC.loop (WL.lift hL (fun(v85:Int) (s:Fs)=>∃ (ZqV:Fr) (h79:H),s= ⟨ZqV,[],h79,none⟩∧Sp wm T h [] h79∧ZqV.at 3= .int .i64 (p0.Zv.length:Int)∧ZqV.at 4= .int .i64 (p0.qQ.length:Int)∧ZqV.at 155= .slice Zm p0.qG.length Zl∧ZqV.at 156= .int .i64 (p0.qG.length:Int)∧ZqV.at 157= .int .i64 v85) ⟨_,_,rfl,hS.only .n,YD⟩ ?_);clear hL hS;rintro Zlw v85 s ZBo hL ⟨ZqV,h79,rfl,hS,e81,e82,e83,e84,e86⟩;dsimp only [KI] at hL;refine r6 ?_;refine cn hL ?_ ?_
     ·intro hc hL;refine r6 ?_;obtain⟨x88,ZJs,hL⟩:=bind_some hL;obtain⟨b89,o90,⟨⟨a91,c92⟩,⟨a93,c94⟩⟩,ZKY,ZL3,ZLB,ZD0⟩:=Sl.at_ ZK ZJs;refine WO.w gN rfl (ZE JK Y4 lk lk rfl ZKY ZJs) ?_;have Zxd:Sl (Zu .i64) wm h a91 c92 x88.qV:=ZD0.1;have Zxc:Sl (Zu .i64) wm h a93 c94 x88.Yh:=ZD0.2;refine WO.w gN rfl (Xh ZaE Y4 (Yo fh rfl) (At.fz hS.fz ZLB ZL3) (j:=0) rfl rfl (ws:= (cL x88 a91 c92 a93 c94)) rfl) ?_;refine r1 ?_;rintro _ h96 ⟨b95,ZWe,rfl,hS⟩;refine r1 ?_;rintro h97 hS;refine r16 ?_;obtain⟨x98,hx98,hL⟩:=Yt hL;refine WO.gcp (Zt.no rfl rfl rfl (Zy rfl fh)) rfl (fun hg=>(Xi.fn ZKw (Zf (YX fh rfl hg) Zx))) (fun hg=>ZGZ (hS.YZ Zxd) (hS.YZ Zxc) (hx98 hg)) ?_;refine r4 ?_;refine cn hL ?_ ?_
      ·intro hc hL;refine XC ?_;exact rt hL hT hS
      ·intro hc hL;refine XC ?_;refine WC.loop (WL.lift hL (fun(v109:Int) (s:Fs)=>∃ (Zb6:Fr) (h99:H),s= ⟨Zb6,[],h99,none⟩∧Sp wm T h [bx wm b95 (cL x88 a91 c92 a93 c94)] h99∧Zb6.at 3= .int .i64 (p0.Zv.length:Int)∧Zb6.at 4= .int .i64 (p0.qQ.length:Int)∧Zb6.at 15= .pointer (some ⟨b95,0,none⟩)∧Zb6.at 155= .slice Zm p0.qG.length Zl∧Zb6.at 156= .int .i64 (p0.qG.length:Int)∧Zb6.at 157= .int .i64 v85∧Zb6.at 176= .slice a91 x88.qV.length c92∧Zb6.at 177= .int .i64 (x88.qV.length:Int)∧Zb6.at 178= .int .i64 v109) ⟨_,_,rfl,hS.only (.c k0 .n),YD⟩ ?_);clear hL hS;rintro Zso v109 s Zxt hL ⟨Zb6,h99,rfl,hS,ZHE,ZMV,ZHD,ZRe,ZHC,ZXt,ZRd,e108,ZHB⟩;dsimp only [ZfE] at hL;refine r6 ?_;refine cn hL ?_ ?_
       ·intro hc hL;refine r6 ?_;refine r1 ?_;obtain⟨x112,hx112,hL⟩:=bind_some hL;obtain⟨ZYp,ZUz,_,ZF2,ZGI,ZGi,ZQr⟩:=Sl.at_ Zxd hx112;refine WO.w gN rfl (ZE YE YF lk lk rfl ZF2 hx112) ?_;refine WO.w gN rfl (ZW Xv (Yo fh rfl) (At.fz hS.fz ZGi ZGI) (j:=0) rfl (v:= .int .i64 x112) rfl) ?_;refine r16 ?_;refine r6 ?_;obtain⟨x115,hx115,hL⟩:=Yt hL;obtain⟨ZYo,ZUy,_,hQ⟩:=Sl.atG (fun hg=>Zxd) hx115;have ZF1:=fun hg=>(hQ hg).1
        have ZGH:=fun hg=>(hQ hg).2.1
        have ZGh:=fun hg=>(hQ hg).2.2.1
        have ZQq:=fun hg=>(hQ hg).2.2.2
        refine WO.gv (Zt.ZjD rfl rfl rfl (Y3 rfl (Zy rfl fh))) rfl (fun hg=>(ZE YE YF (YX (YA rfl fh) rfl hg) (YX fh rfl hg) rfl (ZF1 hg) (hx115 hg))) ?_;refine WO.gv (Zt.ZjD rfl rfl rfl (Y3 rfl (YA rfl fh))) rfl (fun hg=>(ZW Xv (YX fh rfl hg) (At.fz hS.fz (ZGh hg) (ZGH hg)) (j:=0) rfl (v:= .int .i64 x115) rfl)) ?_;refine r1 ?_;refine WO.gv (Zt.no rfl rfl rfl (Y8 rfl (YA rfl (Zy rfl fh)))) rfl (fun hg=>(Zjl (YX (Y8 rfl fh) rfl hg) (ZgC fh hg) lk)) ?_;refine r4 ?_;refine r1 ?_;obtain⟨Zdi,ZoC,hL⟩:=Yt hL;obtain⟨ZRw,ZO8,_,hQ⟩:=Sl.atG (fun hg=>Zxc) ZoC;have ZqM:=fun hg=>(hQ hg).1
        have ZqR:=fun hg=>(hQ hg).2.1
        have Zya:=fun hg=>(hQ hg).2.2.1
        have ZF7:=fun hg=>(hQ hg).2.2.2
        refine WO.gv (Zt.no rfl rfl rfl (YA rfl (Zy rfl fh))) rfl (fun hg=>(ZE YE YF (YX (Zy rfl fh) rfl hg) (YX fh rfl hg) rfl (ZqM hg) (ZoC hg))) ?_;refine WO.gv (Zt.no rfl rfl rfl (Y3 rfl fh)) rfl (fun hg=>(ZW Xv (YX fh rfl hg) (At.fz hS.fz (Zya hg) (ZqR hg)) (j:=0) rfl (v:= .int .i64 Zdi) rfl)) ?_;refine r6 ?_;obtain⟨ZaL,Zeo,hL⟩:=Yt hL;obtain⟨ZNr,ZO7,_,hQ⟩:=Sl.atG (fun hg=>Zxc) Zeo;have ZqL:=fun hg=>(hQ hg).1
        have ZqQ:=fun hg=>(hQ hg).2.1
        have ZGf:=fun hg=>(hQ hg).2.2.1
        have ZF6:=fun hg=>(hQ hg).2.2.2
        refine WO.gv (Zt.no rfl rfl rfl (YA rfl (Zy rfl fh))) rfl (fun hg=>(ZE YE YF (YX (Zy rfl fh) rfl hg) (YX fh rfl hg) rfl (ZqL hg) (Zeo hg))) ?_;refine WO.gv (Zt.no rfl rfl rfl (Y3 rfl fh)) rfl (fun hg=>(ZW Xv (YX fh rfl hg) (At.fz hS.fz (ZGf hg) (ZqQ hg)) (j:=0) rfl (v:= .int .i64 ZaL) rfl)) ?_;refine r4 ?_;refine cn hL ?_ ?_
        ·intro hc hL;refine r16 ?_;exact rt hL hT hS
        ·intro hc hL;refine r6 ?_;refine r1 ?_;exact Ye.Y2 (Zxt _ _ hL ⟨_,_,rfl,hS.only (.c k0 .n),YD⟩)
       ·intro hc hL;refine r16 ?_;refine r3 ?_;refine WO.gv (Zt.yes rfl rfl rfl (Y8 rfl fh)) rfl (fun hg=>(Zpv (YX (Y3 rfl fh) rfl hg) lk (ZgC fh hg))) ?_;refine r6 ?_;refine WO.gv (Zt.yes rfl rfl rfl (Y8 rfl (Y3 rfl (YA rfl (Zy rfl fh))))) rfl (fun hg=>(Zpv (YX (Y3 rfl (Zy rfl fh)) rfl hg) lk (ZgC fh hg))) ?_;refine r3 ?_;refine cn hL ?_ ?_
        ·intro hc hL;refine r8 ?_;refine r3 ?_;exact rt hL hT hS
        ·intro hc hL;refine r6 ?_;refine r1 ?_;exact Ye.Y2 (ZBo _ _ hL ⟨_,_,rfl,hS.only .n,YD⟩)
     ·intro hc hL;refine r8 ?_;refine r3 ?_;exact rt hL hT hS
theorem ZG4 {F wm:Nat} {h:H} {p0:(List Int)} {p1:Int} {Zi:Option Addr} {Zh:Nat} {r:Bool} (ZX:wm <=h.size) (ZA:Sl (Zu .i64) wm h Zi Zh p0) (hL:Zo4 F p0 p1=some r):
 WR XX 78 #[.slice Zi p0.length Zh,.int .i64 p1] wm h (CP (fun(v:Value) (Gb:List (Ast wm))=>v= .bool r∧Gb= []) [] h):=by
 refine bg Tryz.ntmps78 ZX Yd.nil ?_;intro T hT hS;unfold Zo4 at hL;refine r8 ?_;refine r1 ?_;obtain⟨x1,hx1,hL⟩:=bind_some hL;refine WO.cp gN rfl (Xi.fn ZKq (Zf lk (Zf lk Zx))) (WR.XO rfl (ZGR (Nat.le_refl _) (hS.YZ ZA) hx1)) ?_;refine r4 ?_;refine r1 ?_;exact rt hL hT hS
theorem Zrc {F:Nat} {h:H} {p0:(List Int)} {p1:Int} {Zi:Option Addr} {Zh:Nat} {r:Bool} (ZA:Sl (Zu .i64) h.size h Zi Zh p0) (hL:Zo4 F p0 p1=some r):Pure XX 78 #[.slice Zi p0.length Zh,.int .i64 p1] h (.bool r):=
 WR.XO rfl (ZG4 (Nat.le_refl _) ZA hL)
end Go.Proofs.YtbmbbcaaimehkaaGreat
end
end
section
namespace Go.Proofs.YtbmbbcaaimehkaaGreat
open Go.Lf
def Zme (p0:(List (List Zw))):(List (List Zw))×Int ->((List (List Zw))×Int ->Option (List (List Zw))) ->Option (List (List Zw)):=fun(v3,v11) KE=>
 (bif decide (v11 < (p0.length:Int)) then(ZQ p0 v11).bind fun x14=>(Zs0 x14).bind fun x19=>(app 24 v3 [x19]).bind fun z27=>KE (z27,Xa (v11 + 1)) else some v3)
def ZyX (F:Nat) (p0:(List (List Zw))):Option (List (List Zw)):=
 loop F (Zme p0) ([],0)
def Zmd (p0:(List (List Zr))):(List (List Zr))×Int ->((List (List Zr))×Int ->Option (List (List Zr))) ->Option (List (List Zr)):=fun(v3,v11) KE=>
 (bif decide (v11 < (p0.length:Int)) then(ZQ p0 v11).bind fun x14=>(ZsZ x14).bind fun x19=>(app 24 v3 [x19]).bind fun z27=>KE (z27,Xa (v11 + 1)) else some v3)
def ZyW (F:Nat) (p0:(List (List Zr))):Option (List (List Zr)):=
 loop F (Zmd p0) ([],0)
def Zo3 (p0:Z6) (p1:Int) (p2:Zr) (p3:Bool):Option Z6:=
 (ZQ p0.Za.qQ p1).bind fun x3=>(ZQ x3 p2.place).bind fun x9=>(bif x9.here then(ZgA p0 p1 p2).bind fun x15=>some x15 else(bif((decide (x9.age > p2.age)) || p3) then(app 128 p0.Za.qG ([(Ze.mk 1 x9.Z8 (Zr.mk p2.msg p2.place p2.from_ x9.age (Xa (p2.hops + 1))) [] [] 0 0 0)])).bind fun z40=>(bif(((!p3) && (p2.from_ !=p1)) && (p2.from_ !=x9.Z8)) then(app 128 z40 ([(Ze.mk 3 p2.from_ (Zr.mk 0 0 0 0 0) [] [] p2.place x9.Z8 x9.age)])).bind fun z47=>some (Z6.mk (Zb.mk p0.Za.Zv p0.Za.qK p0.Za.qQ p0.Za.qJ z47 p0.Za.said) p0.qX) else some (Z6.mk (Zb.mk p0.Za.Zv p0.Za.qK p0.Za.qQ p0.Za.qJ z40 p0.Za.said) p0.qX)) else(ZQ p0.Za.qJ p1).bind fun x54=>(app 40 x54 [p2]).bind fun z62=>(ZQ p0.Za.qJ p1).bind fun x66=>some (Z6.mk (Zb.mk p0.Za.Zv p0.Za.qK p0.Za.qQ (Yr p0.Za.qJ p1 z62) p0.Za.qG p0.Za.said) p0.qX)))
end Go.Proofs.YtbmbbcaaimehkaaGreat
end
section
set_option maxRecDepth 20000
noncomputable section
namespace Go.Proofs.YtbmbbcaaimehkaaGreat
open Go.YJ Go.Lf
theorem ZG2 {F wm:Nat} {h:H} {p0:(List (List Zw))} {Zi:Option Addr} {Zh:Nat} {r:(List (List Zw))} (ZX:wm <=h.size) (ZA:Sl (Zz Zc) wm h Zi Zh p0) (hL:ZyX F p0=some r):
 WR XX 82 #[.slice Zi p0.length Zh] wm h (CP (fun(v:Value) (Gb:List (Ast wm))=>∃ (Qi:Option Addr) (Qg:Nat) (Qh:Nat) (Zeb:Nat ->Option Addr×Nat×Nat),v= .slice Qi Qg Qh∧Gb= [Y9 wm (Z5 Zc) Qi Qg Qh Zeb r]) [] h):=by
 refine bg Tryz.ntmps82 ZX Yd.nil ?_;intro T hT hS;unfold ZyX at hL;refine r16 ?_;refine r3 ?_;have hS:=hS.Zlv (e:= (Z5 Zc)) (ps:=fun _=>(Z5 Zc).dflt);refine WC.loop (WL.lift hL (fun(p:(List (List Zw))×Int) (s:Fs)=>match p with | (v3,v11)=>∃ (Qm:Fr) (h1:H) (a4:Option Addr) (c5:Nat) (n6:Nat) (ps7:Nat ->Option Addr×Nat×Nat),s= ⟨Qm,[],h1,none⟩∧Sp wm T h [Y9 wm (Z5 Zc) a4 n6 c5 ps7 v3] h1∧Qm.at 3= .slice a4 n6 c5∧Qm.at 6= .slice Zi p0.length Zh∧Qm.at 7= .int .i64 (p0.length:Int)∧Qm.at 8= .int .i64 v11) ⟨_,_,none,0,0,(fun _=>(Z5 Zc).dflt),rfl,hS.only (.c k0 .n),YD⟩ ?_);clear hL hS;rintro KE ⟨v3,v11⟩ s Za0 hL ⟨Qm,h1,a4,c5,n6,ps7,rfl,hS,e8,e9,e10,e12⟩;obtain rfl:=hS.Xk k0;dsimp only [Zme] at hL;refine r6 ?_;refine cn hL ?_ ?_
 ·intro hc hL;refine r6 ?_;obtain⟨x14,Zh7,hL⟩:=bind_some hL;obtain⟨b15,o16,⟨a17,c18⟩,Zih,Zin,Zil,Zij⟩:=Sl.at_ ZA Zh7;refine WO.w gN rfl (ZE UR QZ lk lk rfl Zih Zh7) ?_;have Zh8:Sl Zc wm h a17 c18 x14:=Zij;refine WO.w gN rfl (ZW WG (Yo fh rfl) (At.fz hS.fz Zil Zin) (j:=0) rfl (v:= .slice a17 x14.length c18) rfl) ?_;refine r6 ?_;obtain⟨x19,Zqx,hL⟩:=bind_some hL;refine WO.cl gN rfl (Xi.fn ZFH (Zf lk Zx)) hS .n (fun g' hz hf hO=>ZCq (by rw [hz];exact hS.hw) ((hS.sl Zh8).mono hf) Zqx) ?_;rintro _ h23 _ ⟨a20,n21,c22,rfl,rfl⟩ hS;obtain rfl:=hS.on k0;refine WO.hn gN rfl (ZvW (e:=Zc) (x:=x19) hS k0 UR QZ Zvi rfl rfl (ZC lk Yf) rfl rfl) ?_;rintro _ h26 ⟨b25,ZMN,rfl,hS⟩;obtain⟨z27,ZwX,hL⟩:=bind_some hL;refine WO.hv gN rfl (ZvX (e:= (Z5 Zc)) hS (.c k1 (.c k0 .n)) ZzF lk lk ZwX) ?_;rintro _ h31 ⟨a28,c29,Zwa,rfl,hS⟩;refine r8 ?_;exact Ye.Y2 (Za0 _ _ hL ⟨_,_,a28,c29,z27.length,Zwa,rfl,hS.only (.c k0 .n),YD⟩)
 ·intro hc hL;refine XC ?_;have hr:=Oi0 hL;subst hr;exact Yl.Qd rfl (ZU lk ZB) ⟨_,⟨a4,v3.length,c5,ps7,rfl,rfl⟩,hT ▸ hS.only (.c k0 .n)⟩
theorem ZG1 {F wm:Nat} {h:H} {p0:(List (List Zr))} {Zi:Option Addr} {Zh:Nat} {r:(List (List Zr))} (ZX:wm <=h.size) (ZA:Sl (Zz Zg) wm h Zi Zh p0) (hL:ZyW F p0=some r):
 WR XX 83 #[.slice Zi p0.length Zh] wm h (CP (fun(v:Value) (Gb:List (Ast wm))=>∃ (Qi:Option Addr) (Qg:Nat) (Qh:Nat) (Zeb:Nat ->Option Addr×Nat×Nat),v= .slice Qi Qg Qh∧Gb= [Y9 wm (Z5 Zg) Qi Qg Qh Zeb r]) [] h):=by
 refine bg Tryz.ntmps83 ZX Yd.nil ?_;intro T hT hS;unfold ZyW at hL;refine r16 ?_;refine r3 ?_;have hS:=hS.Zlv (e:= (Z5 Zg)) (ps:=fun _=>(Z5 Zg).dflt);refine WC.loop (WL.lift hL (fun(p:(List (List Zr))×Int) (s:Fs)=>match p with | (v3,v11)=>∃ (Qm:Fr) (h1:H) (a4:Option Addr) (c5:Nat) (n6:Nat) (ps7:Nat ->Option Addr×Nat×Nat),s= ⟨Qm,[],h1,none⟩∧Sp wm T h [Y9 wm (Z5 Zg) a4 n6 c5 ps7 v3] h1∧Qm.at 3= .slice a4 n6 c5∧Qm.at 6= .slice Zi p0.length Zh∧Qm.at 7= .int .i64 (p0.length:Int)∧Qm.at 8= .int .i64 v11) ⟨_,_,none,0,0,(fun _=>(Z5 Zg).dflt),rfl,hS.only (.c k0 .n),YD⟩ ?_);clear hL hS;rintro KE ⟨v3,v11⟩ s Za0 hL ⟨Qm,h1,a4,c5,n6,ps7,rfl,hS,e8,e9,e10,e12⟩;obtain rfl:=hS.Xk k0;dsimp only [Zmd] at hL;refine r6 ?_;refine cn hL ?_ ?_
 ·intro hc hL;refine r6 ?_;obtain⟨x14,Zh7,hL⟩:=bind_some hL;obtain⟨b15,o16,⟨a17,c18⟩,Zih,Zin,Zil,Zij⟩:=Sl.at_ ZA Zh7;refine WO.w gN rfl (ZE KZ Jf lk lk rfl Zih Zh7) ?_;have Zh8:Sl Zg wm h a17 c18 x14:=Zij;refine WO.w gN rfl (ZW Zdf (Yo fh rfl) (At.fz hS.fz Zil Zin) (j:=0) rfl (v:= .slice a17 x14.length c18) rfl) ?_;refine r6 ?_;obtain⟨x19,Zqx,hL⟩:=bind_some hL;refine WO.cl gN rfl (Xi.fn ZFG (Zf lk Zx)) hS .n (fun g' hz hf hO=>ZCp (by rw [hz];exact hS.hw) ((hS.sl Zh8).mono hf) Zqx) ?_;rintro _ h23 _ ⟨a20,n21,c22,rfl,rfl⟩ hS;obtain rfl:=hS.on k0;refine WO.hn gN rfl (ZvW (e:=Zg) (x:=x19) hS k0 KZ Jf Zvh rfl rfl (ZC lk Yf) rfl rfl) ?_;rintro _ h26 ⟨b25,ZMN,rfl,hS⟩;obtain⟨z27,ZwX,hL⟩:=bind_some hL;refine WO.hv gN rfl (ZvX (e:= (Z5 Zg)) hS (.c k1 (.c k0 .n)) ZzE lk lk ZwX) ?_;rintro _ h31 ⟨a28,c29,Zwa,rfl,hS⟩;refine r8 ?_;exact Ye.Y2 (Za0 _ _ hL ⟨_,_,a28,c29,z27.length,Zwa,rfl,hS.only (.c k0 .n),YD⟩)
 ·intro hc hL;refine XC ?_;have hr:=Oi0 hL;subst hr;exact Yl.Qd rfl (ZU lk ZB) ⟨_,⟨a4,v3.length,c5,ps7,rfl,rfl⟩,hT ▸ hS.only (.c k0 .n)⟩
theorem ZyV {wm:Nat} {h:H} {p0:Z6} {p1:Int} {p2:Zr} {p3:Bool} {Zi:Option Addr} {Zh XP:Nat} {Zq:Option Addr} {Zo Q8:Nat} {YH:Nat ->Option Addr×Nat×Nat} {Zk:Option Addr} {Zj Q7:Nat} {YR:Nat ->Option Addr×Nat×Nat} {Zp:Option Addr} {Zn Q6:Nat} {YG:Nat ->Option Addr×Nat×Nat} {Zm:Option Addr} {Zl Q5:Nat} {Z4:Option Addr} {Z0 Qj YW:Nat} {r:Z6} (ZX:wm <=h.size) (hO:Yd (wm:=wm) [bx wm YW (cG Zi XP Zh Zq Q8 Zo Zk Q7 Zj Zp Q6 Zn Zm Q5 Zl p0.Za.said Z4 Qj Z0),ow wm (Zu .i64) Zi XP Zh p0.Za.Zv,Y9 wm (Z5 (Zu .i64)) Zq Q8 Zo YH p0.Za.qK,Y9 wm (Z5 Zc) Zk Q7 Zj YR p0.Za.qQ,Y9 wm (Z5 Zg) Zp Q6 Zn YG p0.Za.qJ,ow wm Zd Zm Q5 Zl p0.Za.qG,ow wm ZP Z4 Qj Z0 p0.qX] h) (hL:Zo3 p0 p1 p2 p3=some r):
 WR XX 84 #[.pointer (some ⟨YW,0,none⟩),.int .i64 p1,.agg [.int .i64 p2.msg,.int .i64 p2.place,.int .i64 p2.from_,.int .i64 p2.age,.int .i64 p2.hops].toArray,.bool p3] wm h (CP (fun(v:Value) (Gb:List (Ast wm))=>∃ (Jt:Option Addr) (Uw:Nat) (Jm:Nat) (Js:Option Addr) (Uv:Nat) (Jl:Nat) (Uz:Nat ->Option Addr×Nat×Nat) (Jr:Option Addr) (Uu:Nat) (Jk:Nat) (Uy:Nat ->Option Addr×Nat×Nat) (Jq:Option Addr) (Ut:Nat) (Jj:Nat) (Ux:Nat ->Option Addr×Nat×Nat) (Jp:Option Addr) (Us:Nat) (Ji:Nat) (Jo:Option Addr) (Jg:Nat) (Jh:Nat),v= .tuple [].toArray∧Gb= [bx wm YW (cG Jt Uw Jm Js Uv Jl Jr Uu Jk Jq Ut Jj Jp Us Ji r.Za.said Jo Jg Jh),ow wm (Zu .i64) Jt Uw Jm r.Za.Zv,Y9 wm (Z5 (Zu .i64)) Js Uv Jl Uz r.Za.qK,Y9 wm (Z5 Zc) Jr Uu Jk Uy r.Za.qQ,Y9 wm (Z5 Zg) Jq Ut Jj Ux r.Za.qJ,ow wm Zd Jp Us Ji r.Za.qG,ow wm ZP Jo Jg Jh r.qX]) [bx wm YW (cG Zi XP Zh Zq Q8 Zo Zk Q7 Zj Zp Q6 Zn Zm Q5 Zl p0.Za.said Z4 Qj Z0),ow wm (Zu .i64) Zi XP Zh p0.Za.Zv,Y9 wm (Z5 (Zu .i64)) Zq Q8 Zo YH p0.Za.qK,Y9 wm (Z5 Zc) Zk Q7 Zj YR p0.Za.qQ,Y9 wm (Z5 Zg) Zp Q6 Zn YG p0.Za.qJ,ow wm Zd Zm Q5 Zl p0.Za.qG,ow wm ZP Z4 Qj Z0 p0.qX] h):=by
 refine bg Tryz.ntmps84 ZX hO ?_;intro T hT hS;unfold Zo3 at hL;obtain rfl:=hS.on k1;obtain rfl:=hS.Xk k2;obtain rfl:=hS.Xk k3;obtain rfl:=hS.Xk k4;obtain rfl:=hS.on k5;obtain rfl:=hS.on k6;refine r3 ?_;rintro _ h2 ⟨b1,eb1,rfl,hS⟩;refine r3 ?_;refine WC.Xx mixed Kq0 ?_;refine r6 ?_;obtain⟨x3,hx3,hL⟩:=bind_some hL;obtain⟨b4,o5,a6,n7,c8,ZKd,ZP6,ZQz⟩:=hS.atS k4 hx3;refine WX.w gN rfl (ZE UR QZ lk lk rfl ZP6 hx3) ?_ rfl;refine WX.w gN rfl (ZW WG (Yo fh rfl) ZQz (j:=0) rfl (v:= .slice a6 n7 c8) rfl) ?_ rfl;refine r2 ?_;obtain⟨x9,hx9,hL⟩:=bind_some hL;obtain⟨b10,o11,_,Zii,Zio,ZsQ⟩:=Src.at_ (hS.inS k4 hx3 ZKd).2.1 hx9;refine WX.w gN rfl (ZE UQ XA lk lk (hS.inS k4 hx3 ZKd).1 Zii hx9) ?_ rfl;refine WX.w gN rfl (Xh Zk0 XA (Yo fh rfl) Zio (j:=0) rfl rfl (ws:= (cE x9)) rfl) ?_ rfl;refine WX.hn gN rfl (Zr8 hS Zho (vs:= [.bool false,.int .i64 0,.int .i64 0]) rfl) ?_ rfl;rintro _ h13 ⟨b12,ZQV,rfl,hS⟩;refine WX.hu gN (ZaQ hS k0 XA lk lk (vs:= (cE x9)) rfl rfl rfl rfl (cs':= (cE x9)) rfl) ?_ rfl rfl [] Kq0 YV.e;rintro h14 hS;refine r8 ?_;refine r2 ?_;refine cn hL ?_ ?_
 ·intro hc hL;refine r4 ?_;obtain⟨x15,ZPy,hL⟩:=bind_some hL;refine WO.cl gN rfl (Xi.fn ZxG (Zf lk (Zf lk (Zf lk Zx)))) hS (.c k2 (.c k2 (.c k2 (.c k2 (.c k2 (.c k2 (.c k2 .n))))))) (fun g' hz hf hO=>ZsY (by rw [hz];exact hS.hw) hO ZPy) ?_;rintro _ h34 _ ⟨a16,n17,c18,a19,n20,c21,ZDp,a22,n23,c24,ZDo,a25,n26,c27,ZI2,a28,n29,c30,a31,n32,c33,rfl,rfl⟩ hS;obtain rfl:=hS.on k1;obtain rfl:=hS.Xk k2;obtain rfl:=hS.Xk k3;obtain rfl:=hS.Xk k4;obtain rfl:=hS.on k5;obtain rfl:=hS.on k6;refine r2 ?_;refine Yl.Y2 ?_;have hr:=Oi0 hL;subst hr;exact Yl.gen (vs:= []) rfl ZB rfl ⟨_,⟨a16,x15.Za.Zv.length,c18,a19,x15.Za.qK.length,c21,ZDp,a22,x15.Za.qQ.length,c24,ZDo,a25,x15.Za.qJ.length,c27,ZI2,a28,x15.Za.qG.length,c30,a31,x15.qX.length,c33,rfl,rfl⟩,hT ▸ hS.only (.c k0 (.c k0 (.c k0 (.c k0 (.c k0 (.c k0 (.c k0 .n)))))))⟩
 ·intro hc hL;refine XC ?_;refine r1 ?_;refine cn hL ?_ ?_
  ·intro hc hL;refine r6 ?_;rintro h36 hS;refine r8 ?_;refine r1 ?_;rintro h37 hS;refine r3 ?_;refine WC.Xx mixed Kq0 ?_;refine r8 ?_;refine r1 ?_;refine WX.w gN rfl (X4 Ztb (ZC lk (ZC lk (ZC lk Yf))) rfl (cs':= [.int .i64 1,.int .i64 x9.Z8,.int .i64 p2.msg,.int .i64 p2.place,.int .i64 p2.from_,.int .i64 x9.age,.int .i64 (Xa (p2.hops + 1)),.slice none 0 0,.slice none 0 0,.int .i64 0,.int .i64 0,.int .i64 0]) rfl) ?_ rfl;refine WX.hn gN rfl (Zar (e:=Zd) hS JK Y4 Zdh rfl rfl rfl (ZC lk Yf) rfl [(((none,0),(none,0)),(Ze.mk 1 x9.Z8 (Zr.mk p2.msg p2.place p2.from_ x9.age (Xa (p2.hops + 1))) [] [] 0 0 0))] rfl (xs:= [(Ze.mk 1 x9.Z8 (Zr.mk p2.msg p2.place p2.from_ x9.age (Xa (p2.hops + 1))) [] [] 0 0 0)]) rfl (by intro q hq;simp only [List.mem_cons,List.not_mem_nil,or_false] at hq;subst hq;exact⟨Sl.nil,Sl.nil⟩) rfl) ?_ rfl;rintro _ h39 ⟨b38,ZQU,rfl,hS⟩;obtain⟨z40,ZPk,hL⟩:=bind_some hL;refine WX.hv gN rfl (Ky (e:=Zd) hS k8 Zcl lk lk (hS.QH k0) (hS.on k0) ZPk) ?_ rfl rfl [] Kq0 YV.e;rintro _ h43 ⟨a41,c42,rfl,hS⟩;refine WX.w gN rfl (ZdK lk) ?_ Kq0;refine WX.w gN rfl (J6 Zet lk) ?_ Kq0;refine WX.w gN rfl (J6 Zg8 lk) ?_ Kq0;refine WX.hu gN (ZaQ hS k4 Zlk lk lk (vs:= [.slice a41 z40.length c42]) rfl rfl rfl rfl (cs':= (cG Zi p0.Za.Zv.length Zh Zq p0.Za.qK.length Zo Zk p0.Za.qQ.length Zj Zp p0.Za.qJ.length Zn a41 z40.length c42 p0.Za.said Z4 p0.qX.length Z0)) rfl) ?_ rfl Kq0 [] Kq0 YV.e;rintro h44 hS;refine r16 ?_;refine r4 ?_;refine r1 ?_;refine cn hL ?_ ?_
   ·intro hc hL;refine WC.Xx mixed Kq0 ?_;refine XC ?_;refine r2 ?_;refine WX.w gN rfl (X4 Ztb (ZC lk (ZC lk (ZC lk (ZC lk (ZC lk Yf))))) rfl (cs':= [.int .i64 3,.int .i64 p2.from_,.int .i64 0,.int .i64 0,.int .i64 0,.int .i64 0,.int .i64 0,.slice none 0 0,.slice none 0 0,.int .i64 p2.place,.int .i64 x9.Z8,.int .i64 x9.age]) rfl) ?_ rfl;refine WX.hn gN rfl (Zar (e:=Zd) hS JK Y4 Zdh rfl rfl rfl (ZC lk Yf) rfl [(((none,0),(none,0)),(Ze.mk 3 p2.from_ (Zr.mk 0 0 0 0 0) [] [] p2.place x9.Z8 x9.age))] rfl (xs:= [(Ze.mk 3 p2.from_ (Zr.mk 0 0 0 0 0) [] [] p2.place x9.Z8 x9.age)]) rfl (by intro q hq;simp only [List.mem_cons,List.not_mem_nil,or_false] at hq;subst hq;exact⟨Sl.nil,Sl.nil⟩) rfl) ?_ rfl;rintro _ h46 ⟨b45,ZWB,rfl,hS⟩;obtain⟨z47,ZPj,hL⟩:=bind_some hL;refine WX.hv gN rfl (Ky (e:=Zd) hS k2 Zcl lk lk (hS.QH k0) (hS.on k0) ZPj) ?_ rfl rfl [] Kq0 YV.e;rintro _ h50 ⟨a48,c49,rfl,hS⟩;refine WX.w gN rfl (ZdK lk) ?_ Kq0;refine WX.w gN rfl (J6 Zet lk) ?_ Kq0;refine WX.w gN rfl (J6 Zg8 lk) ?_ Kq0;refine WX.hu gN (ZaQ hS k2 Zlk lk lk (vs:= [.slice a48 z47.length c49]) rfl rfl rfl rfl (cs':= (cG Zi p0.Za.Zv.length Zh Zq p0.Za.qK.length Zo Zk p0.Za.qQ.length Zj Zp p0.Za.qJ.length Zn a48 z47.length c49 p0.Za.said Z4 p0.qX.length Z0)) rfl) ?_ rfl Kq0 [] Kq0 YV.e;rintro h51 hS;refine r2 ?_;refine Yl.Y2 ?_;have hr:=Oi0 hL;subst hr;exact Yl.gen (vs:= []) rfl ZB rfl ⟨_,⟨Zi,p0.Za.Zv.length,Zh,Zq,p0.Za.qK.length,Zo,YH,Zk,p0.Za.qQ.length,Zj,YR,Zp,p0.Za.qJ.length,Zn,YG,a48,z47.length,c49,Z4,p0.qX.length,Z0,rfl,rfl⟩,hT ▸ hS.only (.c k0 (.c k5 (.c k5 (.c k5 (.c k5 (.c k0 (.c k4 .n)))))))⟩
   ·intro hc hL;refine r2 ?_;refine Yl.Y2 ?_;have hr:=Oi0 hL;subst hr;exact Yl.gen (vs:= []) rfl ZB rfl ⟨_,⟨Zi,p0.Za.Zv.length,Zh,Zq,p0.Za.qK.length,Zo,YH,Zk,p0.Za.qQ.length,Zj,YR,Zp,p0.Za.qJ.length,Zn,YG,a41,z40.length,c42,Z4,p0.qX.length,Z0,rfl,rfl⟩,hT ▸ hS.only (.c k0 (.c k4 (.c k4 (.c k4 (.c k4 (.c k0 (.c k3 .n)))))))⟩
  ·intro hc hL;refine WC.Xx mixed Kq0 ?_;refine r4 ?_;refine WX.wr (fun x=>x=YW) hS gN rfl (fun _ _ hR=>ZW Zte (Yo fh rfl) (At.eqv (hR YW rfl) (hS.atB k2)) (j:=3) rfl (v:= .slice Zp p0.Za.qJ.length Zn) rfl) ?_ rfl rfl;rintro h52 e53 hS;refine r6 ?_;refine r1 ?_;obtain⟨x54,Zot,hL⟩:=bind_some hL;obtain⟨b55,o56,a57,n58,c59,ZKc,ZoN,Zyh⟩:=hS.atS k6 Zot;refine WX.w gN rfl (ZE KZ Jf lk lk rfl ZoN Zot) ?_ rfl;refine WX.w gN rfl (ZW Zdf (Yo fh rfl) Zyh (j:=0) rfl (v:= .slice a57 n58 c59) rfl) ?_ rfl;refine r1 ?_;refine WX.hn gN rfl (Zar (e:=Zg) hS Zbf Uq Zhm rfl rfl rfl (ZC lk Yf) rfl [((),p2)] rfl (xs:= [p2]) rfl (by intro q hq;simp only [List.mem_cons,List.not_mem_nil,or_false] at hq;subst hq;exact trivial) rfl) ?_ rfl;rintro _ h61 ⟨b60,ZQT,rfl,hS⟩;obtain⟨z62,ZPi,hL⟩:=bind_some hL;have hS:=hS.Zhv k7 Zot ZKc;refine WX.hv gN rfl (Ky (e:=Zg) hS k1 Zjo lk lk (hS.QH k2) (hS.on k2) ZPi) ?_ rfl rfl [4] Kq0 (.c (.s .z) (hS.dj (.c k1 (.c k4 .n))) YV.e);rintro _ h65 ⟨a63,c64,rfl,hS⟩;obtain⟨x66,ZPs,hL⟩:=bind_some hL;refine WX.w gN rfl (ZE KZ Jf lk lk rfl ZoN ZPs) ?_ Kq0;refine WX.hu gN (Zr7 hS k1 Jf (Yo fh rfl) (Yo (Zy rfl fh) rfl) ZoN Zot (j:=0) rfl (vs:= [.slice a63 z62.length c64]) rfl rfl rfl rfl rfl (cs':= [.slice a63 z62.length c64]) rfl rfl rfl) ?_ rfl Kq0 [] Kq0 YV.e;rintro h68 hS;obtain⟨ZO1,ZUP,hS⟩:=hS.Ziv (.c k0 (.c k0 .n)) Zot;refine r2 ?_;refine Yl.Y2 ?_;have hr:=Oi0 hL;subst hr;exact Yl.gen (vs:= []) rfl ZB rfl ⟨_,⟨Zi,p0.Za.Zv.length,Zh,Zq,p0.Za.qK.length,Zo,YH,Zk,p0.Za.qQ.length,Zj,YR,Zp,p0.Za.qJ.length,Zn,ZO1,Zm,p0.Za.qG.length,Zl,Z4,p0.qX.length,Z0,rfl,rfl⟩,hT ▸ hS.only (.c k4 (.c k4 (.c k4 (.c k4 (.c k0 (.c k3 (.c k3 .n)))))))⟩
end Go.Proofs.YtbmbbcaaimehkaaGreat
end
end
section
namespace Go.Proofs.YtbmbbcaaimehkaaGreat
open Go.Lf
def Ziy:Int ->Option Bool:=fun v7=>
 some (decide (v7 >=0))
def Ziz (F:Nat) (p0:ZV) (p1:Int) (p2:Int):Int ->(Int ->Option Bool) ->Option Bool:=fun v13 ZhS=>
 (bif decide (v13 < (p0.Za.qG.length:Int)) then(ZQ p0.Za.qG v13).bind fun x16=>(gd (x16.kind==2) (Zo4 F x16.qV p1) default).bind fun x25=>(gd ((x16.kind==2) && x25) (Zo4 F x16.qV p2) default).bind fun Ki=>(bif(((x16.kind==2) && x25) && Ki) then(Ziy) v13 else ZhS (Xa (v13 + 1))) else(Ziy) (-1))
def Zra (F:Nat) (p0:ZV) (p1:Int) (p2:Int):Option Bool:=
 loop F (Ziz F p0 p1 p2) 0
def Zmb (p0:ZV) (p1:Int) (p2:Int) (p3:Int):Option Bool:=
 (ZQ p0.Y0 p1).bind fun x1=>(gd (!((decide (p3 < 0)) || (decide (p3 > x1.age)))) (Zma p0 p2) default).bind fun x7=>(bif(((decide (p3 < 0)) || (decide (p3 > x1.age))) || (!x7)) then some false else(bif(p3==x1.age) then some (p2==x1.machine) else(ZQ p0.Za.qQ p2).bind fun x8=>(ZQ x8 p1).bind fun x13=>some (decide (x13.age > p3))))
end Go.Proofs.YtbmbbcaaimehkaaGreat
end
section
set_option maxRecDepth 20000
noncomputable section
namespace Go.Proofs.YtbmbbcaaimehkaaGreat
open Go.YJ Go.Lf
theorem ZGV {F wm:Nat} {h:H} {p0:ZV} {p1 p2:Int} {Zi:Option Addr} {Zh:Nat} {Zq:Option Addr} {Zo:Nat} {Zk:Option Addr} {Zj:Nat} {Zp:Option Addr} {Zn:Nat} {Zm:Option Addr} {Zl:Nat} {Z4:Option Addr} {Z0 YW WS:Nat} {r:Bool} (ZX:wm <=h.size) (XT:At h YW WS [.slice Zi p0.Za.Zv.length Zh,.slice Zq p0.Za.qK.length Zo,.slice Zk p0.Za.qQ.length Zj,.slice Zp p0.Za.qJ.length Zn,.slice Zm p0.Za.qG.length Zl,.int .i64 p0.Za.said,.slice Z4 p0.Y0.length Z0]) (XR:Stb wm h YW) (ZA:Sl (Zu .i64) wm h Zi Zh p0.Za.Zv) (ZN:Sl (Zz (Zu .i64)) wm h Zq Zo p0.Za.qK) (ZL:Sl (Zz Zc) wm h Zk Zj p0.Za.qQ) (ZO:Sl (Zz Zg) wm h Zp Zn p0.Za.qJ) (ZK:Sl Zd wm h Zm Zl p0.Za.qG) (Xn:Sl XB wm h Z4 Z0 p0.Y0) (hL:Zra F p0 p1 p2=some r):
 WR XX 92 #[.pointer (some ⟨YW,WS,none⟩),.int .i64 p1,.int .i64 p2] wm h (CP (fun(v:Value) (Gb:List (Ast wm))=>v= .bool r∧Gb= []) [] h):=by
 refine bg Tryz.ntmps92 ZX Yd.nil ?_;intro T hT hS;unfold Zra at hL;refine r3 ?_;rintro _ h2 ⟨b1,eb1,rfl,hS⟩;refine r1 ?_;rintro _ h4 ⟨b3,eb3,rfl,hS⟩;refine r8 ?_;refine r1 ?_;refine WO.w gN rfl (ZW ZzP (Yo fh rfl) (At.fz hS.fz XR XT) (j:=4) rfl (v:= .slice Zm p0.Za.qG.length Zl) rfl) ?_;refine WO.w gN rfl (Zba (Zf lk (Zf lk Zx))) ?_;refine WO.inl gN rfl (Xi.fn ZFE (Zf lk (Zf lk Zx))) (WF.begin (args:= [_,_]) (fn:=Tryz.f105) Kq0 (by exact rfl) Tryz.ntmps105 (by simp) ?_);simp only [Z7,Z9,Nat.reduceAdd];refine r8 ?_;refine r1 ?_;refine WO.Zt4 (r:=r) (fun(v7:Int) (v:Value) (h5:H)=>v= .int .i64 v7∧Sp wm T h [bx wm b1 [.int .i64 p1],bx wm b3 [.int .i64 p2]] h5) (Ziy) gN rfl (Xi.fn ZFB (Zf lk (Zf lk Zx))) ?_ (WF.begin (args:= [_,_]) (fn:=Tryz.f109) Kq0 (by exact rfl) Tryz.ntmps109 (by simp) ?_)
 ·clear hL hS;rintro v7 v h5 hL ⟨rfl,hS⟩;dsimp only [Ziy] at hL;refine r4 ?_;refine r1 ?_;refine Yl.Qd rfl (ZU lk ZB) ?_;refine r4 ?_;exact rt hL hT hS
 ·skip;simp only [Z7,Z9,Nat.reduceAdd];refine XC ?_;refine r2 ?_;refine WC.loop (WL.lift hL (fun(v13:Int) (s:Fs)=>∃ (fr9:Fr) (h8:H),s= ⟨fr9,[],h8,none⟩∧Sp wm T h [bx wm b1 [.int .i64 p1],bx wm b3 [.int .i64 p2]] h8∧fr9.at 0= .slice Zm p0.Za.qG.length Zl∧fr9.at 1= .func (.func 106) #[] [.pointer (some ⟨b1,0,none⟩),.pointer (some ⟨b3,0,none⟩)].toArray∧fr9.at 7= .int .i64 (p0.Za.qG.length:Int)∧fr9.at 8= .int .i64 v13) ⟨_,_,rfl,hS.only (.c k1 (.c k0 .n)),YD⟩ ?_);clear hL hS;rintro ZhS v13 s ZlU hL ⟨fr9,h8,rfl,hS,e10,e11,e12,e14⟩;dsimp only [Ziz] at hL;refine r6 ?_;refine cn hL ?_ ?_
  ·intro hc hL;refine XC ?_;refine r3 ?_;obtain⟨x16,hx16,hL⟩:=bind_some hL;obtain⟨b17,o18,⟨⟨a19,c20⟩,⟨a21,c22⟩⟩,ZxU,Zyq,Zx7,ZsP⟩:=Sl.at_ ZK hx16;refine WO.w gN rfl (ZE JK Y4 lk lk rfl ZxU hx16) ?_;have ZsA:Sl (Zu .i64) wm h a19 c20 x16.qV:=ZsP.1;have ZSf:Sl (Zu .i64) wm h a21 c22 x16.Yh:=ZsP.2;refine WO.w gN rfl (Xh ZaE Y4 (Yo fh rfl) (At.fz hS.fz Zx7 Zyq) (j:=0) rfl rfl (ws:= (cL x16 a19 c20 a21 c22)) rfl) ?_;refine WO.inl gN rfl (Xi.clo (first:= []) (cap:= [.pointer (some ⟨b1,0,none⟩),.pointer (some ⟨b3,0,none⟩)]) lk ZFD lks rfl) (WF.begin (args:= [_,_,_]) (fn:=Tryz.f106) Kq0 (by exact rfl) Tryz.ntmps106 (by simp) ?_);simp only [Z7,Z9,Nat.reduceAdd];refine r3 ?_;rintro _ h24 ⟨b23,ZWH,rfl,hS⟩;refine XC ?_;obtain⟨x25,hx25,hL⟩:=Yt hL;refine WO.gcp (Zt.yes rfl rfl rfl (YA rfl (Zy rfl fh))) rfl (fun hg=>(Xi.fn ZxD (Zf (YX (Zy rfl fh) rfl hg) (Zf (YX fh rfl hg) Zx)))) (fun hg=>Zrc (hS.YZ ZsA) (hx25 hg)) ?_;refine r4 ?_;refine r1 ?_;obtain⟨Ki,ZjR,hL⟩:=Yt hL;refine WO.gcp (Zt.yes rfl rfl rfl (YA rfl (Zy rfl fh))) rfl (fun hg=>(Xi.fn ZxD (Zf (YX (Zy rfl fh) rfl hg) (Zf (YX fh rfl hg) Zx)))) (fun hg=>Zrc (hS.YZ ZsA) (ZjR hg)) ?_;refine r4 ?_;refine r1 ?_;refine Yl.Qd rfl (ZU lk ZB) ?_;refine r2 ?_;refine cn hL ?_ ?_
   ·intro hc hL;refine XC ?_;exact Yl.Qd rfl (ZU lk ZB) ⟨_,hL,⟨rfl,hS.only (.c k1 (.c k1 .n))⟩⟩
   ·intro hc hL;refine r6 ?_;refine r1 ?_;exact Ye.Y2 (ZlU _ _ hL ⟨_,_,rfl,hS.only (.c k1 (.c k1 .n)),YD⟩)
  ·intro hc hL;refine r8 ?_;refine r3 ?_;exact Yl.Qd rfl (ZU lk ZB) ⟨_,hL,⟨rfl,hS.only (.c k0 (.c k0 .n))⟩⟩
theorem ZGW {F:Nat} {h:H} {p0:ZV} {p1 p2:Int} {Zi:Option Addr} {Zh:Nat} {Zq:Option Addr} {Zo:Nat} {Zk:Option Addr} {Zj:Nat} {Zp:Option Addr} {Zn:Nat} {Zm:Option Addr} {Zl:Nat} {Z4:Option Addr} {Z0 YW WS:Nat} {r:Bool} (XT:At h YW WS [.slice Zi p0.Za.Zv.length Zh,.slice Zq p0.Za.qK.length Zo,.slice Zk p0.Za.qQ.length Zj,.slice Zp p0.Za.qJ.length Zn,.slice Zm p0.Za.qG.length Zl,.int .i64 p0.Za.said,.slice Z4 p0.Y0.length Z0]) (XR:Stb h.size h YW) (ZA:Sl (Zu .i64) h.size h Zi Zh p0.Za.Zv) (ZN:Sl (Zz (Zu .i64)) h.size h Zq Zo p0.Za.qK) (ZL:Sl (Zz Zc) h.size h Zk Zj p0.Za.qQ) (ZO:Sl (Zz Zg) h.size h Zp Zn p0.Za.qJ) (ZK:Sl Zd h.size h Zm Zl p0.Za.qG) (Xn:Sl XB h.size h Z4 Z0 p0.Y0) (hL:Zra F p0 p1 p2=some r):Pure XX 92 #[.pointer (some ⟨YW,WS,none⟩),.int .i64 p1,.int .i64 p2] h (.bool r):=
 WR.XO rfl (ZGV (Nat.le_refl _) XT XR ZA ZN ZL ZO ZK Xn hL)
theorem ZGU {wm:Nat} {h:H} {p0:ZV} {p1 p2 p3:Int} {Zi:Option Addr} {Zh:Nat} {Zq:Option Addr} {Zo:Nat} {Zk:Option Addr} {Zj:Nat} {Zp:Option Addr} {Zn:Nat} {Zm:Option Addr} {Zl:Nat} {Z4:Option Addr} {Z0 YW WS:Nat} {r:Bool} (ZX:wm <=h.size) (XT:At h YW WS [.slice Zi p0.Za.Zv.length Zh,.slice Zq p0.Za.qK.length Zo,.slice Zk p0.Za.qQ.length Zj,.slice Zp p0.Za.qJ.length Zn,.slice Zm p0.Za.qG.length Zl,.int .i64 p0.Za.said,.slice Z4 p0.Y0.length Z0]) (XR:Stb wm h YW) (ZA:Sl (Zu .i64) wm h Zi Zh p0.Za.Zv) (ZN:Sl (Zz (Zu .i64)) wm h Zq Zo p0.Za.qK) (ZL:Sl (Zz Zc) wm h Zk Zj p0.Za.qQ) (ZO:Sl (Zz Zg) wm h Zp Zn p0.Za.qJ) (ZK:Sl Zd wm h Zm Zl p0.Za.qG) (Xn:Sl XB wm h Z4 Z0 p0.Y0) (hL:Zmb p0 p1 p2 p3=some r):
 WR XX 93 #[.pointer (some ⟨YW,WS,none⟩),.int .i64 p1,.int .i64 p2,.int .i64 p3] wm h (CP (fun(v:Value) (Gb:List (Ast wm))=>v= .bool r∧Gb= []) [] h):=by
 refine bg Tryz.ntmps93 ZX Yd.nil ?_;intro T hT hS;unfold Zmb at hL;refine r8 ?_;refine r2 ?_;refine WO.w gN rfl (ZW ZzR (Yo fh rfl) (At.fz hS.fz XR XT) (j:=6) rfl (v:= .slice Z4 p0.Y0.length Z0) rfl) ?_;refine r1 ?_;obtain⟨x1,hx1,hL⟩:=bind_some hL;obtain⟨b2,o3,_,ZFP,ZGu,ZQu,ZF4⟩:=Sl.at_ Xn hx1;refine WO.w gN rfl (ZE Zht Wl lk lk rfl ZFP hx1) ?_;refine WO.w gN rfl (Xh Zm1 Wl (Yo fh rfl) (At.fz hS.fz ZQu ZGu) (j:=0) rfl rfl (ws:= [.int .i64 x1.machine,.bool x1.here,.int .i64 x1.age]) rfl) ?_;refine r1 ?_;rintro _ h5 ⟨b4,eb4,rfl,hS⟩;refine r1 ?_;rintro h6 hS;refine r16 ?_;obtain⟨x7,hx7,hL⟩:=Yt hL;refine WO.gcp (Zt.no rfl rfl rfl (YA rfl fh)) rfl (fun hg=>(Xi.fn ZxB (Zf (YX (Zy rfl fh) rfl hg) (Zf (YX fh rfl hg) Zx)))) (fun hg=>Zq7 (At.fz hS.fz XR XT) (Stb.up hS.hw (Stb.fz hS.fz XT XR)) (hS.YZ ZA) (hS.YZ ZN) (hS.YZ ZL) (hS.YZ ZO) (hS.YZ ZK) (hS.YZ Xn) (hx7 hg)) ?_;refine r4 ?_;refine cn hL ?_ ?_
 ·intro hc hL;refine r6 ?_;refine r1 ?_;exact rt hL hT hS
 ·intro hc hL;refine r8 ?_;refine r3 ?_;refine cn hL ?_ ?_
  ·intro hc hL;refine r8 ?_;refine r3 ?_;exact rt hL hT hS
  ·intro hc hL;refine r8 ?_;refine WO.w gN rfl (ZW Ztf (Yo fh rfl) (At.fz hS.fz XR XT) (j:=2) rfl (v:= .slice Zk p0.Za.qQ.length Zj) rfl) ?_;refine r1 ?_;obtain⟨x8,hx8,hL⟩:=bind_some hL;obtain⟨b9,o10,⟨a11,c12⟩,ZP5,ZQy,ZQs,ZP8⟩:=Sl.at_ ZL hx8;refine WO.w gN rfl (ZE UR QZ lk lk rfl ZP5 hx8) ?_;have ZJ9:Sl Zc wm h a11 c12 x8:=ZP8;refine WO.w gN rfl (ZW WG (Yo fh rfl) (At.fz hS.fz ZQs ZQy) (j:=0) rfl (v:= .slice a11 x8.length c12) rfl) ?_;refine r1 ?_;obtain⟨x13,Zw9,hL⟩:=bind_some hL;obtain⟨b14,o15,_,ZxV,Zyr,Zx8,ZLz⟩:=Sl.at_ ZJ9 Zw9;refine WO.w gN rfl (ZE UQ XA lk lk rfl ZxV Zw9) ?_;refine r1 ?_;refine WO.w gN rfl (ZW Xv (Yo fh rfl) (At.fz hS.fz Zx8 Zyr) (j:=2) rfl (v:= .int .i64 x13.age) rfl) ?_;refine r6 ?_;exact rt hL hT hS
theorem Zq9 {h:H} {p0:ZV} {p1 p2 p3:Int} {Zi:Option Addr} {Zh:Nat} {Zq:Option Addr} {Zo:Nat} {Zk:Option Addr} {Zj:Nat} {Zp:Option Addr} {Zn:Nat} {Zm:Option Addr} {Zl:Nat} {Z4:Option Addr} {Z0 YW WS:Nat} {r:Bool} (XT:At h YW WS [.slice Zi p0.Za.Zv.length Zh,.slice Zq p0.Za.qK.length Zo,.slice Zk p0.Za.qQ.length Zj,.slice Zp p0.Za.qJ.length Zn,.slice Zm p0.Za.qG.length Zl,.int .i64 p0.Za.said,.slice Z4 p0.Y0.length Z0]) (XR:Stb h.size h YW) (ZA:Sl (Zu .i64) h.size h Zi Zh p0.Za.Zv) (ZN:Sl (Zz (Zu .i64)) h.size h Zq Zo p0.Za.qK) (ZL:Sl (Zz Zc) h.size h Zk Zj p0.Za.qQ) (ZO:Sl (Zz Zg) h.size h Zp Zn p0.Za.qJ) (ZK:Sl Zd h.size h Zm Zl p0.Za.qG) (Xn:Sl XB h.size h Z4 Z0 p0.Y0) (hL:Zmb p0 p1 p2 p3=some r):Pure XX 93 #[.pointer (some ⟨YW,WS,none⟩),.int .i64 p1,.int .i64 p2,.int .i64 p3] h (.bool r):=
 WR.XO rfl (ZGU (Nat.le_refl _) XT XR ZA ZN ZL ZO ZK Xn hL)
end Go.Proofs.YtbmbbcaaimehkaaGreat
end
end
section
namespace Go.Proofs.YtbmbbcaaimehkaaGreat
open Go.Lf
def Zmw (p0:Zb) (v15:(List XG)) (v64:Int) (Zly:(Int ->Option Bool)) (x67:(List Zw)):Int ->(Int ->Option Bool) ->Option Bool:=fun v81 Zwv=>
 (bif decide (v81 < (x67.length:Int)) then(ZQ x67 v81).bind fun x84=>(gd (!x84.here) (ZQ v15 v81) default).bind fun x90=>(gd (!x84.here) (Zmn p0 v81 x90 x84.Z8 x84.age) default).bind fun x93=>(bif((!x84.here) && (!x93)) then some false else Zwv (Xa (v81 + 1))) else Zly (Xa (v64 + 1)))
def Zi2 (p0:Zb) (JH:Int) (UB:((List XG)×Int ->Option Bool)) (x107:(List Zr)):(List XG)×Int ->((List XG)×Int ->Option Bool) ->Option Bool:=fun(Znp,Zts) Zsm=>
 (bif decide (Zts < (x107.length:Int)) then(ZQ x107 Zts).bind fun ZEE=>(Zo5 p0 Znp ZEE JH true).bind fun ZIx=>(bif(!ZIx) then some false else Zsm (Znp,Xa (Zts + 1))) else UB (Znp,Xa (JH + 1)))
def ZdE (p0:Zb) (x160:(List Int)):Int×(List Bool) ->(Int×(List Bool) ->Option Bool) ->Option Bool:=fun(ZdZ,Ztq) Zsj=>
 (bif decide (ZdZ < (x160.length:Int)) then(ZQ x160 ZdZ).bind fun Zk4=>(gd (!((decide (Zk4 < 0)) || (decide (Zk4 >=p0.said)))) (ZQ Ztq Zk4) default).bind fun ZpV=>(bif(((decide (Zk4 < 0)) || (decide (Zk4 >=p0.said))) || ZpV) then some false else(ZQ Ztq Zk4).bind fun ZOA=>Zsj (Xa (ZdZ + 1),Yr Ztq Zk4 true)) else some ((x160.length:Int)==p0.said))
def ZfK (F:Nat) (p0:Zb) (v97:(List XG)):Int ->(Int ->Option Bool) ->Option Bool:=fun Ztr Zsl=>
 (bif decide (Ztr < (p0.qG.length:Int)) then(ZQ p0.qG Ztr).bind fun Zbv=>(gd (Zbv.kind==1) (Zo5 p0 v97 Zbv.Yi Zbv.Z8 false) default).bind fun Zng=>(gd ((!((Zbv.kind==1) && (!Zng))) && (Zbv.kind==3)) (ZQ v97 Zbv.place) default).bind fun Znf=>(gd ((!((Zbv.kind==1) && (!Zng))) && (Zbv.kind==3)) (Zmn p0 Zbv.place Znf Zbv.at_ Zbv.age) default).bind fun x159=>(bif(((Zbv.kind==1) && (!Zng)) || ((Zbv.kind==3) && (!x159))) then some false else Zsl (Xa (Ztr + 1))) else(Zy4 F p0).bind fun x160=>(mkL false 1 p0.said p0.said).bind fun ZAu=>loop F (ZdE p0 x160) (0,ZAu))
def ZfL (F:Nat) (p0:Zb):(List XG)×Int ->((List XG)×Int ->Option Bool) ->Option Bool:=fun(v97,JH) UB=>
 (bif decide (JH < (p0.qJ.length:Int)) then(ZQ p0.qJ JH).bind fun x107=>loop F (Zi2 p0 JH UB x107) (v97,0) else loop F (ZfK F p0 v97) 0)
def ZfM (F:Nat) (p0:Zb) (v15:(List XG)):Int ->(Int ->Option Bool) ->Option Bool:=fun v64 Zly=>
 (bif decide (v64 < (p0.qQ.length:Int)) then(ZQ p0.qQ v64).bind fun x67=>loop F (Zmw p0 v15 v64 Zly x67) 0 else loop F (ZfL F p0) (v15,0))
def ZfN (F:Nat) (p0:Zb) (v15:(List XG)):Int ->(Int ->Option Bool) ->Option Bool:=fun v34 ZhR=>
 (bif decide (v34 < (p0.Zv.length:Int)) then(ZQ p0.Zv v34).bind fun x37=>(gd (decide (x37 >=0)) (ZQ v15 v34) default).bind fun x40=>(gd (decide (x37 >=0)) (ZQ v15 x37) default).bind fun x43=>(gd ((decide (x37 >=0)) && (!(x40.is !=x43.is))) (ZQ v15 v34) default).bind fun x46=>(gd ((decide (x37 >=0)) && (!(x40.is !=x43.is))) (ZQ v15 x37) default).bind fun x49=>(gd ((decide (x37 >=0)) && (!((x40.is !=x43.is) || (x46.at_ !=x49.at_)))) (ZQ v15 v34) default).bind fun x52=>(gd ((decide (x37 >=0)) && (!((x40.is !=x43.is) || (x46.at_ !=x49.at_)))) (ZQ v15 x37) default).bind fun x55=>(bif((decide (x37 >=0)) && (((x40.is !=x43.is) || (x46.at_ !=x49.at_)) || (x52.letter !=x55.letter))) then some false else ZhR (Xa (v34 + 1))) else loop F (ZfM F p0 v15) 0)
def Zi3 (F:Nat) (p0:Zb):Int×(List XG) ->(Int×(List XG) ->Option Bool) ->Option Bool:=fun(v13,v15) ZwG=>
 (bif decide (v13 < (p0.Zv.length:Int)) then(Zre F p0 v13).bind fun UO=>(bif(!UO.2) then some false else(ZQ v15 v13).bind fun x23=>ZwG (Xa (v13 + 1),Yr v15 v13 UO.1)) else loop F (ZfN F p0 v15) 0)
def Zo7 (F:Nat) (p0:Zb):Option Bool:=
 (Zy7 F p0).bind fun x3=>(bif(!x3) then some false else(mkL (XG.mk 0 0 0 false) 32 (p0.Zv.length:Int) (p0.Zv.length:Int)).bind fun z4=>loop F (Zi3 F p0) (0,z4))
def Zzb (F:Nat) (p0:Zb):Option Bool:=
 (Zze F p0).bind fun x3=>(gd x3 (Zo7 F p0) default).bind fun x4=>some (x3 && x4)
end Go.Proofs.YtbmbbcaaimehkaaGreat
end
section
set_option maxRecDepth 20000
set_option maxHeartbeats 4000000
noncomputable section
namespace Go.Proofs.YtbmbbcaaimehkaaGreat
open Go.YJ Go.Lf
theorem ZHv {F wm:Nat} {h:H} {p0:Zb} {Zi:Option Addr} {Zh:Nat} {Zq:Option Addr} {Zo:Nat} {Zk:Option Addr} {Zj:Nat} {Zp:Option Addr} {Zn:Nat} {Zm:Option Addr} {Zl:Nat} {r:Bool} (ZX:wm <=h.size) (ZA:Sl (Zu .i64) wm h Zi Zh p0.Zv) (ZN:Sl (Zz (Zu .i64)) wm h Zq Zo p0.qK) (ZL:Sl (Zz Zc) wm h Zk Zj p0.qQ) (ZO:Sl (Zz Zg) wm h Zp Zn p0.qJ) (ZK:Sl Zd wm h Zm Zl p0.qG) (hL:Zo7 F p0=some r):
 WR XX 21 #[.agg [.slice Zi p0.Zv.length Zh,.slice Zq p0.qK.length Zo,.slice Zk p0.qQ.length Zj,.slice Zp p0.qJ.length Zn,.slice Zm p0.qG.length Zl,.int .i64 p0.said].toArray] wm h (CP (fun(v:Value) (Gb:List (Ast wm))=>v= .bool r∧Gb= []) [] h):=by
 refine bg Tryz.ntmps21 ZX Yd.nil ?_;intro T hT hS;unfold Zo7 at hL;refine r3 ?_;rintro _ h2 ⟨b1,eb1,rfl,hS⟩;refine r6 ?_;refine r1 ?_;obtain⟨x3,hx3,hL⟩:=bind_some hL;refine WO.cp gN rfl (Xi.fn ZKJ (Zf lk Zx)) (WR.XO rfl (ZHi (Nat.le_refl _) (hS.YZ ZA) (hS.YZ ZN) (hS.YZ ZL) (hS.YZ ZO) (hS.YZ ZK) hx3)) ?_;refine r3 ?_;refine cn hL ?_ ?_
 ·intro hc hL;refine r6 ?_;refine r1 ?_;exact rt hL hT hS
 ·intro hc hL;refine r6 ?_;refine r1 ?_;obtain⟨z4,hz4,hL⟩:=bind_some hL;refine WO.hn gN rfl (ZvU (e:=ZbJ) (x0:= (XG.mk 0 0 0 false)) () hS WJ X6 (ZCI) Zk3 rfl rfl (Yo fh rfl) (Yo fh rfl) rfl trivial hz4) ?_;rintro _ h6 ⟨b5,c7,eb5,rfl,hS⟩;refine XC ?_;refine r1 ?_;refine WC.loop (WL.lift hL (fun(p:Int×(List XG)) (s:Fs)=>match p with | (v13,v15)=>∃ (fr9:Fr) (h8:H),s= ⟨fr9,[],h8,none⟩∧Sp wm T h [bx wm b1 (cW p0 Zi Zh Zq Zo Zk Zj Zp Zn Zm Zl),ow wm ZbJ (some ⟨b5,0,none⟩) z4.length c7 v15] h8∧fr9.at 1= .pointer (some ⟨b1,0,none⟩)∧fr9.at 3= .slice (some ⟨b5,0,none⟩) z4.length c7∧fr9.at 32= .int .i64 (p0.Zv.length:Int)∧fr9.at 33= .int .i64 v13) ⟨_,_,rfl,hS.only (.c k1 (.c k0 .n)),YD⟩ ?_);clear hL hS;rintro ZwG ⟨v13,v15⟩ s ZBK hL ⟨fr9,h8,rfl,hS,e10,e11,e12,e14⟩;dsimp only [Zi3] at hL;refine r6 ?_;refine cn hL ?_ ?_
  ·intro hc hL;refine XC ?_;refine r2 ?_;obtain⟨UO,Zoy,hL⟩:=bind_some hL;refine WO.cl gN rfl (Xi.fn ZDW (Zf lk (Zf lk Zx))) hS .n (fun g' hz hf hO=>Zy6 (by rw [hz];exact hS.hw) ((hS.sl ZA).mono hf) ((hS.sl ZN).mono hf) ((hS.sl ZL).mono hf) ((hS.sl ZO).mono hf) ((hS.sl ZK).mono hf) Zoy) ?_;rintro _ h18 _ ⟨rfl,rfl⟩ hS;refine r4 ?_;rintro _ h21 ⟨b20,ZWI,rfl,hS⟩;refine r1 ?_;rintro h22 hS;refine r8 ?_;refine r2 ?_;refine cn hL ?_ ?_
   ·intro hc hL;refine XC ?_;exact rt hL hT hS
   ·intro hc hL;refine r6 ?_;obtain⟨x23,Zox,hL⟩:=bind_some hL;obtain⟨b24,o25,_,ZsM,Zyp,ZLy⟩:=Src.at_ (hS.QH k2) Zox;refine WO.w gN rfl (ZE WJ X6 lk lk (hS.on k2) ZsM Zox) ?_;refine WO.hu gN (Zd7 (e:=ZbJ) UO.1 () hS k2 X6 (Yo fh rfl) (Yo (Zy rfl fh) rfl) ZsM Zox Zyp (j:=0) rfl (vs:= [.int .i64 UO.1.at_,.int .i64 UO.1.age,.int .i64 UO.1.letter,.bool UO.1.is]) rfl rfl rfl rfl rfl (cs':= [.int .i64 UO.1.at_,.int .i64 UO.1.age,.int .i64 UO.1.letter,.bool UO.1.is]) rfl rfl trivial) ?_;rintro h26 ⟨hS,ZVe⟩;refine r6 ?_;refine r1 ?_;exact Ye.Y2 (ZBK _ _ hL ⟨_,_,rfl,hS.only (.c k2 (.c k0 .n)),YD⟩)
  ·intro hc hL;refine XC ?_;refine r3 ?_;refine WC.loop (WL.lift hL (fun(v34:Int) (s:Fs)=>∃ (Zbp:Fr) (h28:H),s= ⟨Zbp,[],h28,none⟩∧Sp wm T h [bx wm b1 (cW p0 Zi Zh Zq Zo Zk Zj Zp Zn Zm Zl),ow wm ZbJ (some ⟨b5,0,none⟩) z4.length c7 v15] h28∧Zbp.at 1= .pointer (some ⟨b1,0,none⟩)∧Zbp.at 3= .slice (some ⟨b5,0,none⟩) z4.length c7∧Zbp.at 50= .slice Zi p0.Zv.length Zh∧Zbp.at 51= .int .i64 (p0.Zv.length:Int)∧Zbp.at 52= .int .i64 v34) ⟨_,_,rfl,hS.only (.c k0 (.c k0 .n)),YD⟩ ?_);clear hL hS;rintro ZhR v34 s ZlR hL ⟨Zbp,h28,rfl,hS,e30,e31,e32,e33,e35⟩;dsimp only [ZfN] at hL;refine r6 ?_;refine cn hL ?_ ?_
   ·intro hc hL;refine r6 ?_;refine r1 ?_;obtain⟨x37,Zfq,hL⟩:=bind_some hL;obtain⟨b38,o39,_,Zig,Zim,Zik,ZkM⟩:=Sl.at_ ZA Zfq;refine WO.w gN rfl (ZE YE YF lk lk rfl Zig Zfq) ?_;refine WO.w gN rfl (ZW Xv (Yo fh rfl) (At.fz hS.fz Zik Zim) (j:=0) rfl (v:= .int .i64 x37) rfl) ?_;refine r4 ?_;refine r1 ?_;refine WC.Xx mixed Kq0 ?_;refine r4 ?_;refine r1 ?_;obtain⟨x40,ZJB,hL⟩:=Yt hL;obtain⟨b41,o42,_,hQ⟩:=Src.atG (fun hg=>(hS.QH k1)) ZJB;have ZLb:=fun hg=>(hQ hg).1
    have ZMg:=fun hg=>(hQ hg).2.1
    have ZSD:=fun hg=>(hQ hg).2.2
    refine WX.gv (Zt.yes rfl rfl rfl (YA rfl fh)) rfl (fun hg=>(ZE WJ X6 (YX (Zy rfl fh) rfl hg) (YX fh rfl hg) (hS.on k1) (ZLb hg) (ZJB hg))) ?_ rfl;refine r1 ?_;refine WX.gv (Zt.yes rfl rfl rfl (Y3 rfl fh)) rfl (fun hg=>(ZW ZuW (YX fh rfl hg) (ZMg hg) (j:=3) rfl (v:= .bool x40.is) rfl)) ?_ rfl;refine r2 ?_;obtain⟨x43,Zw3,hL⟩:=Yt hL;obtain⟨b44,o45,_,hQ⟩:=Src.atG (fun hg=>(hS.QH k1)) Zw3;have ZxO:=fun hg=>(hQ hg).1
    have Zyl:=fun hg=>(hQ hg).2.1
    have ZxZ:=fun hg=>(hQ hg).2.2
    refine WX.gv (Zt.yes rfl rfl rfl (Y3 rfl (YA rfl (Zy rfl fh)))) rfl (fun hg=>(ZE WJ X6 (YX (Zy rfl fh) rfl hg) (YX fh rfl hg) (hS.on k1) (ZxO hg) (Zw3 hg))) ?_ rfl;refine r1 ?_;refine WX.gv (Zt.yes rfl rfl rfl (Y8 rfl (Zy rfl fh))) rfl (fun hg=>(ZW ZuW (YX fh rfl hg) (Zyl hg) (j:=3) rfl (v:= .bool x43.is) rfl)) ?_ rfl;refine WX.gv (Zt.yes rfl rfl rfl (Y8 rfl (YA rfl fh))) rfl (fun hg=>(JE (YX (Y3 rfl (Zy rfl fh)) rfl hg) (YX fh rfl hg) (Wh Zp2))) ?_ rfl;refine r3 ?_;obtain⟨x46,Zt9,hL⟩:=Yt hL;obtain⟨b47,o48,_,hQ⟩:=Src.atG (fun hg=>(hS.QH k1)) Zt9;have ZsL:=fun hg=>(hQ hg).1
    have Zyk:=fun hg=>(hQ hg).2.1
    have ZLt:=fun hg=>(hQ hg).2.2
    refine WX.gv (Zt.no2 rfl rfl rfl (YA rfl fh)) rfl (fun hg=>(ZE WJ X6 (YX (Zy rfl fh) rfl hg) (YX fh rfl hg) (hS.on k1) (ZsL hg) (Zt9 hg))) ?_ rfl;refine r1 ?_;refine WX.gv (Zt.no2 rfl rfl rfl (Y3 rfl fh)) rfl (fun hg=>(ZW Xv (YX fh rfl hg) (Zyk hg) (j:=0) rfl (v:= .int .i64 x46.at_) rfl)) ?_ rfl;refine r2 ?_;obtain⟨x49,Zou,hL⟩:=Yt hL;obtain⟨b50,o51,_,hQ⟩:=Src.atG (fun hg=>(hS.QH k1)) Zou;have ZoO:=fun hg=>(hQ hg).1
    have ZoU:=fun hg=>(hQ hg).2.1
    have ZsO:=fun hg=>(hQ hg).2.2
    refine WX.gv (Zt.no2 rfl rfl rfl (Y3 rfl (YA rfl (Zy rfl fh)))) rfl (fun hg=>(ZE WJ X6 (YX (Zy rfl fh) rfl hg) (YX fh rfl hg) (hS.on k1) (ZoO hg) (Zou hg))) ?_ rfl;refine r1 ?_;refine WX.gv (Zt.no2 rfl rfl rfl (Y8 rfl (Zy rfl fh))) rfl (fun hg=>(ZW Xv (YX fh rfl hg) (ZoU hg) (j:=0) rfl (v:= .int .i64 x49.at_) rfl)) ?_ rfl;refine r1 ?_;refine WX.gv (Zt.yes rfl rfl rfl (Y8 rfl (Y8 rfl (Y3 rfl (YA rfl (Zy rfl fh)))))) rfl (fun hg=>(Zpv (YX (Y8 rfl (YA rfl (Zy rfl fh))) rfl hg) lk (ZgC fh hg))) ?_ rfl;refine r3 ?_;obtain⟨x52,Zw2,hL⟩:=Yt hL;obtain⟨b53,o54,_,hQ⟩:=Src.atG (fun hg=>(hS.QH k1)) Zw2;have ZxN:=fun hg=>(hQ hg).1
    have Zyi:=fun hg=>(hQ hg).2.1
    have ZLr:=fun hg=>(hQ hg).2.2
    refine WX.gv (Zt.no2 rfl rfl rfl (YA rfl fh)) rfl (fun hg=>(ZE WJ X6 (YX (Zy rfl fh) rfl hg) (YX fh rfl hg) (hS.on k1) (ZxN hg) (Zw2 hg))) ?_ rfl;refine r1 ?_;refine WX.gv (Zt.no2 rfl rfl rfl (Y3 rfl fh)) rfl (fun hg=>(ZW Xv (YX fh rfl hg) (Zyi hg) (j:=2) rfl (v:= .int .i64 x52.letter) rfl)) ?_ rfl;refine r2 ?_;obtain⟨x55,ZlN,hL⟩:=Yt hL;obtain⟨b56,o57,_,hQ⟩:=Src.atG (fun hg=>(hS.QH k1)) ZlN;have ZxM:=fun hg=>(hQ hg).1
    have Zyg:=fun hg=>(hQ hg).2.1
    have ZLp:=fun hg=>(hQ hg).2.2
    refine WX.gv (Zt.no2 rfl rfl rfl (Y3 rfl (YA rfl (Zy rfl fh)))) rfl (fun hg=>(ZE WJ X6 (YX (Zy rfl fh) rfl hg) (YX fh rfl hg) (hS.on k1) (ZxM hg) (ZlN hg))) ?_ rfl;refine r1 ?_;refine WX.gv (Zt.no2 rfl rfl rfl (Y8 rfl (Zy rfl fh))) rfl (fun hg=>(ZW Xv (YX fh rfl hg) (Zyg hg) (j:=2) rfl (v:= .int .i64 x55.letter) rfl)) ?_ rfl;refine r1 ?_;refine WX.gv (Zt.yes rfl rfl rfl (Y8 rfl (Y8 rfl (Y8 rfl (Y8 rfl (Y3 rfl fh)))))) rfl (fun hg=>(Zpv (YX (Y8 rfl (YA rfl (Zy rfl fh))) rfl hg) lk (ZgC fh hg))) ?_ rfl;refine r3 ?_;refine cn hL ?_ ?_
    ·intro hc hL;refine r8 ?_;refine r3 ?_;exact rt hL hT hS
    ·intro hc hL;refine r6 ?_;refine r1 ?_;exact Ye.Y2 (ZlR _ _ hL ⟨_,_,rfl,hS.only (.c k0 (.c k0 .n)),YD⟩)
   ·intro hc hL;refine XC ?_;refine r3 ?_;refine WC.loop (WL.lift hL (fun(v64:Int) (s:Fs)=>∃ (ZqY:Fr) (h58:H),s= ⟨ZqY,[],h58,none⟩∧Sp wm T h [bx wm b1 (cW p0 Zi Zh Zq Zo Zk Zj Zp Zn Zm Zl),ow wm ZbJ (some ⟨b5,0,none⟩) z4.length c7 v15] h58∧ZqY.at 1= .pointer (some ⟨b1,0,none⟩)∧ZqY.at 3= .slice (some ⟨b5,0,none⟩) z4.length c7∧ZqY.at 100= .slice Zk p0.qQ.length Zj∧ZqY.at 101= .int .i64 (p0.qQ.length:Int)∧ZqY.at 102= .int .i64 v64) ⟨_,_,rfl,hS.only (.c k0 (.c k0 .n)),YD⟩ ?_);clear hL hS;rintro Zly v64 s ZBv hL ⟨ZqY,h58,rfl,hS,e60,e61,e62,e63,e65⟩;dsimp only [ZfM] at hL;refine r6 ?_;refine cn hL ?_ ?_
    ·intro hc hL;refine r6 ?_;obtain⟨x67,Zt6,hL⟩:=bind_some hL;obtain⟨b68,o69,⟨a70,c71⟩,ZsJ,ZsR,ZLG,ZD2⟩:=Sl.at_ ZL Zt6;refine WO.w gN rfl (ZE UR QZ lk lk rfl ZsJ Zt6) ?_;have ZJ1:Sl Zc wm h a70 c71 x67:=ZD2;refine WO.w gN rfl (ZW WG (Yo fh rfl) (At.fz hS.fz ZLG ZsR) (j:=0) rfl (v:= .slice a70 x67.length c71) rfl) ?_;refine r8 ?_;refine r3 ?_;refine WC.loop (WL.lift hL (fun(v81:Int) (s:Fs)=>∃ (ZjW:Fr) (h72:H),s= ⟨ZjW,[],h72,none⟩∧Sp wm T h [bx wm b1 (cW p0 Zi Zh Zq Zo Zk Zj Zp Zn Zm Zl),ow wm ZbJ (some ⟨b5,0,none⟩) z4.length c7 v15] h72∧ZjW.at 1= .pointer (some ⟨b1,0,none⟩)∧ZjW.at 3= .slice (some ⟨b5,0,none⟩) z4.length c7∧ZjW.at 100= .slice Zk p0.qQ.length Zj∧ZjW.at 101= .int .i64 (p0.qQ.length:Int)∧ZjW.at 102= .int .i64 v64∧ZjW.at 106= .slice a70 x67.length c71∧ZjW.at 107= .int .i64 (x67.length:Int)∧ZjW.at 108= .int .i64 v81) ⟨_,_,rfl,hS.only (.c k0 (.c k0 .n)),YD⟩ ?_);clear hL hS;rintro Zwv v81 s ZBp hL ⟨ZjW,h72,rfl,hS,e74,e75,e76,e77,e78,e79,e80,e82⟩;dsimp only [Zmw] at hL;refine r6 ?_;refine cn hL ?_ ?_
     ·intro hc hL;refine r6 ?_;refine r1 ?_;obtain⟨x84,ZBc,hL⟩:=bind_some hL;obtain⟨b85,o86,_,ZK0,ZL5,ZLC,ZSu⟩:=Sl.at_ ZJ1 ZBc;refine WO.w gN rfl (ZE UQ XA lk lk rfl ZK0 ZBc) ?_;refine WO.w gN rfl (Xh Zk0 XA (Yo fh rfl) (At.fz hS.fz ZLC ZL5) (j:=0) rfl rfl (ws:= (cE x84)) rfl) ?_;refine r1 ?_;rintro _ h88 ⟨b87,ZWi,rfl,hS⟩;refine r2 ?_;rintro h89 hS;refine r3 ?_;refine WC.Xx mixed Kq0 ?_;refine r8 ?_;obtain⟨x90,hx90,hL⟩:=Yt hL;obtain⟨b91,o92,_,hQ⟩:=Src.atG (fun hg=>(hS.QH k2)) hx90;have ZKX:=fun hg=>(hQ hg).1
      have ZL2:=fun hg=>(hQ hg).2.1
      have ZSs:=fun hg=>(hQ hg).2.2
      refine WX.gv (Zt.yes rfl rfl rfl (Y3 rfl fh)) rfl (fun hg=>(ZE WJ X6 (YX (Zy rfl fh) rfl hg) (YX fh rfl hg) (hS.on k2) (ZKX hg) (hx90 hg))) ?_ rfl;refine WX.gv (Zt.yes rfl rfl rfl (Y3 rfl (Zy rfl fh))) rfl (fun hg=>(Xh Zjq X6 (YX fh rfl hg) (ZL2 hg) (j:=0) rfl rfl (ws:= [.int .i64 x90.at_,.int .i64 x90.age,.int .i64 x90.letter,.bool x90.is]) rfl)) ?_ rfl;refine r4 ?_;obtain⟨x93,hx93,hL⟩:=Yt hL;refine WX.gcp (Zt.yes rfl rfl rfl (Y8 rfl (YA rfl fh))) rfl (fun hg=>(Xi.fn ZxF (Zf (YX (Y8 rfl (Zy rfl fh)) rfl hg) (Zf (YX (Y8 rfl fh) rfl hg) (Zf (YX (Y3 rfl fh) rfl hg) (Zf (YX (YA rfl fh) rfl hg) (Zf (YX fh rfl hg) Zx))))))) (fun hg=>Zrd (hS.YZ ZA) (hS.YZ ZN) (hS.YZ ZL) (hS.YZ ZO) (hS.YZ ZK) (hx93 hg)) ?_ rfl rfl;refine r4 ?_;refine cn hL ?_ ?_
      ·intro hc hL;refine XC ?_;refine r3 ?_;exact rt hL hT hS
      ·intro hc hL;refine r6 ?_;refine r1 ?_;exact Ye.Y2 (ZBp _ _ hL ⟨_,_,rfl,hS.only (.c k1 (.c k1 .n)),YD⟩)
     ·intro hc hL;refine r8 ?_;refine r2 ?_;exact Ye.Y2 (ZBv _ _ hL ⟨_,_,rfl,hS.only (.c k0 (.c k0 .n)),YD⟩)
    ·intro hc hL;refine XC ?_;refine r3 ?_;refine WC.loop (WL.lift hL (fun(p:(List XG)×Int) (s:Fs)=>match p with | (v97,JH)=>∃ (Za2:Fr) (h94:H) (a98:Option Addr) (c99:Nat) (n100:Nat),s= ⟨Za2,[],h94,none⟩∧Sp wm T h [ow wm ZbJ a98 n100 c99 v97,bx wm b1 (cW p0 Zi Zh Zq Zo Zk Zj Zp Zn Zm Zl)] h94∧Za2.at 1= .pointer (some ⟨b1,0,none⟩)∧Za2.at 3= .slice a98 n100 c99∧Za2.at 133= .slice Zp p0.qJ.length Zn∧Za2.at 134= .int .i64 (p0.qJ.length:Int)∧Za2.at 135= .int .i64 JH) ⟨_,_,(some ⟨b5,0,none⟩),c7,z4.length,rfl,hS.only (.c k1 (.c k0 .n)),YD⟩ ?_);clear hL hS;rintro UB ⟨v97,JH⟩ s Zia hL ⟨Za2,h94,a98,c99,n100,rfl,hS,e96,ZHE,ZMV,ZHD,ZHC⟩;obtain rfl:=hS.on k0;dsimp only [ZfL] at hL;refine r6 ?_;refine cn hL ?_ ?_
     ·intro hc hL;refine r6 ?_;refine r1 ?_;obtain⟨x107,Zsy,hL⟩:=bind_some hL;obtain⟨ZYq,ZUA,⟨ZH2,ZHQ⟩,ZF3,ZGJ,ZGj,ZF8⟩:=Sl.at_ ZO Zsy;refine WO.w gN rfl (ZE KZ Jf lk lk rfl ZF3 Zsy) ?_;have ZFk:Sl Zg wm h ZH2 ZHQ x107:=ZF8;refine WO.w gN rfl (ZW Zdf (Yo fh rfl) (At.fz hS.fz ZGj ZGJ) (j:=0) rfl (v:= .slice ZH2 x107.length ZHQ) rfl) ?_;refine XC ?_;refine WC.loop (WL.lift hL (fun(p:(List XG)×Int) (s:Fs)=>match p with | (Znp,Zts)=>∃ (UD:Fr) (h112:H) (a116:Option Addr) (c117:Nat) (n118:Nat),s= ⟨UD,[],h112,none⟩∧Sp wm T h [ow wm ZbJ a116 n118 c117 Znp,bx wm b1 (cW p0 Zi Zh Zq Zo Zk Zj Zp Zn Zm Zl)] h112∧UD.at 1= .pointer (some ⟨b1,0,none⟩)∧UD.at 3= .slice a116 n118 c117∧UD.at 13= .int .i64 JH∧UD.at 133= .slice Zp p0.qJ.length Zn∧UD.at 134= .int .i64 (p0.qJ.length:Int)∧UD.at 135= .int .i64 JH∧UD.at 140= .slice ZH2 x107.length ZHQ∧UD.at 141= .int .i64 (x107.length:Int)∧UD.at 142= .int .i64 Zts) ⟨_,_,a98,c99,v97.length,rfl,hS.only (.c k0 (.c k0 .n)),YD⟩ ?_);clear hL hS;rintro Zsm ⟨Znp,Zts⟩ s Zxp hL ⟨UD,h112,a116,c117,n118,rfl,hS,ZCu,e119,e120,ZXs,ZXr,ZXq,ZXp,e125,e127⟩;obtain rfl:=hS.on k0;dsimp only [Zi2] at hL;refine r6 ?_;refine cn hL ?_ ?_
      ·intro hc hL;refine r6 ?_;obtain⟨ZEE,ZDF,hL⟩:=bind_some hL;obtain⟨ZYk,ZUu,_,ZFX,ZGD,ZGc,ZQl⟩:=Sl.at_ ZFk ZDF;refine WO.w gN rfl (ZE Zbf Uq lk lk rfl ZFX ZDF) ?_;refine WO.w gN rfl (Xh ZkZ Uq (Yo fh rfl) (At.fz hS.fz ZGc ZGD) (j:=0) rfl rfl (ws:= (cM ZEE)) rfl) ?_;refine r1 ?_;rintro _ ZV3 ⟨ZYj,ZTc,rfl,hS⟩;refine r1 ?_;rintro ZV2 hS;refine r8 ?_;obtain⟨ZIx,ZJR,hL⟩:=bind_some hL;refine WO.cp gN rfl (Xi.fn ZDV (Zf lk (Zf lk (Zf lk (Zf lk (Zf lk Zx)))))) (Zy5 (hS.YZ ZA) (hS.YZ ZN) (hS.YZ ZL) (hS.YZ ZO) (hS.YZ ZK) (hS.ord k1) ZJR) ?_;refine r3 ?_;refine cn hL ?_ ?_
       ·intro hc hL;refine XC ?_;refine r3 ?_;exact rt hL hT hS
       ·intro hc hL;refine r6 ?_;refine r1 ?_;exact Ye.Y2 (Zxp _ _ hL ⟨_,_,a116,c117,Znp.length,rfl,hS.only (.c k1 (.c k1 .n)),YD⟩)
      ·intro hc hL;refine r8 ?_;refine r2 ?_;exact Ye.Y2 (Zia _ _ hL ⟨_,_,a116,c117,Znp.length,rfl,hS.only (.c k0 (.c k0 .n)),YD⟩)
     ·intro hc hL;refine XC ?_;refine r3 ?_;refine WC.loop (WL.lift hL (fun(Ztr:Int) (s:Fs)=>∃ (Zit:Fr) (ZBS:H),s= ⟨Zit,[],ZBS,none⟩∧Sp wm T h [bx wm b1 (cW p0 Zi Zh Zq Zo Zk Zj Zp Zn Zm Zl),ow wm ZbJ a98 v97.length c99 v97] ZBS∧Zit.at 1= .pointer (some ⟨b1,0,none⟩)∧Zit.at 3= .slice a98 v97.length c99∧Zit.at 155= .slice Zm p0.qG.length Zl∧Zit.at 156= .int .i64 (p0.qG.length:Int)∧Zit.at 157= .int .i64 Ztr) ⟨_,_,rfl,hS.only (.c k1 (.c k0 .n)),YD⟩ ?_);clear hL hS;rintro Zsl Ztr s Zxn hL ⟨Zit,ZBS,rfl,hS,e138,ZXk,ZXj,ZQ8,e143⟩;dsimp only [ZfK] at hL;refine r6 ?_;refine cn hL ?_ ?_
      ·intro hc hL;refine r6 ?_;obtain⟨Zbv,ZDD,hL⟩:=bind_some hL;obtain⟨ZYg,ZUq,⟨⟨a148,ZNh⟩,⟨ZNC,ZNf⟩⟩,ZFV,ZGB,ZGb,Zx0⟩:=Sl.at_ ZK ZDD;refine WO.w gN rfl (ZE JK Y4 lk lk rfl ZFV ZDD) ?_;have ZPJ:Sl (Zu .i64) wm h a148 ZNh Zbv.qV:=Zx0.1;have ZPI:Sl (Zu .i64) wm h ZNC ZNf Zbv.Yh:=Zx0.2;refine WO.w gN rfl (Xh ZaE Y4 (Yo fh rfl) (At.fz hS.fz ZGb ZGB) (j:=0) rfl rfl (ws:= (cL Zbv a148 ZNh ZNC ZNf)) rfl) ?_;refine r1 ?_;rintro _ ZQJ ⟨ZmR,ZMQ,rfl,hS⟩;refine r1 ?_;rintro ZMA hS;refine r3 ?_;refine WC.Xx mixed Kq0 ?_;refine r8 ?_;refine r2 ?_;obtain⟨Zng,Zw8,hL⟩:=Yt hL;refine WX.gcp (Zt.yes rfl rfl rfl (Y3 rfl (YA rfl fh))) rfl (fun hg=>(Xi.fn ZDV (Zf (YX (Y3 rfl (Zy rfl fh)) rfl hg) (Zf (YX (Y3 rfl fh) rfl hg) (Zf (YX (YA rfl fh) rfl hg) (Zf (YX fh rfl hg) (Zf lk Zx))))))) (fun hg=>Zy5 (hS.YZ ZA) (hS.YZ ZN) (hS.YZ ZL) (hS.YZ ZO) (hS.YZ ZK) (hS.ord k2) (Zw8 hg)) ?_ rfl rfl;refine XC ?_;refine r1 ?_;obtain⟨Znf,ZDC,hL⟩:=Yt hL;obtain⟨ZYe,ZUn,_,hQ⟩:=Src.atG (fun hg=>(hS.QH k2)) ZDC;have ZFT:=fun hg=>(hQ hg).1
       have ZGz:=fun hg=>(hQ hg).2.1
       have ZQi:=fun hg=>(hQ hg).2.2
       refine WX.gv (Zt.ZjD rfl rfl rfl (Y3 rfl (YA rfl fh))) rfl (fun hg=>(ZE WJ X6 (YX (YA rfl fh) rfl hg) (YX fh rfl hg) rfl (ZFT hg) (ZDC hg))) ?_ rfl;refine WX.gv (Zt.ZjD rfl rfl rfl (Y3 rfl (YA rfl (Zy rfl fh)))) rfl (fun hg=>(Xh Zjq X6 (YX fh rfl hg) (ZGz hg) (j:=0) rfl rfl (ws:= [.int .i64 Znf.at_,.int .i64 Znf.age,.int .i64 Znf.letter,.bool Znf.is]) rfl)) ?_ rfl;refine r4 ?_;obtain⟨x159,hx159,hL⟩:=Yt hL;refine WX.gcp (Zt.ZjD rfl rfl rfl (Y8 rfl (Y3 rfl fh))) rfl (fun hg=>(Xi.fn ZxF (Zf (YX (Y8 rfl (YA rfl (Zy rfl fh))) rfl hg) (Zf (YX (Y8 rfl (Zy rfl fh)) rfl hg) (Zf (YX (Y3 rfl fh) rfl hg) (Zf (YX (YA rfl fh) rfl hg) (Zf (YX fh rfl hg) Zx))))))) (fun hg=>Zrd (hS.YZ ZA) (hS.YZ ZN) (hS.YZ ZL) (hS.YZ ZO) (hS.YZ ZK) (hx159 hg)) ?_ rfl rfl;refine r1 ?_;refine WX.gv (Zt.no rfl rfl rfl (Y8 rfl (Y8 rfl (YA rfl fh)))) rfl (fun hg=>(Zjl (YX (Y8 rfl (Y3 rfl (YA rfl fh))) rfl hg) (ZgC fh hg) lk)) ?_ rfl;refine r3 ?_;refine cn hL ?_ ?_
       ·intro hc hL;refine r8 ?_;refine r3 ?_;exact rt hL hT hS
       ·intro hc hL;refine r6 ?_;refine r1 ?_;exact Ye.Y2 (Zxn _ _ hL ⟨_,_,rfl,hS.only (.c k1 (.c k1 .n)),YD⟩)
      ·intro hc hL;refine r8 ?_;obtain⟨x160,hx160,hL⟩:=bind_some hL;refine WO.cl gN rfl (Xi.fn ZKI (Zf lk Zx)) hS .n (fun g' hz hf hO=>ZHf (by rw [hz];exact hS.hw) ((hS.sl ZA).mono hf) ((hS.sl ZN).mono hf) ((hS.sl ZL).mono hf) ((hS.sl ZO).mono hf) ((hS.sl ZK).mono hf) hx160) ?_;rintro _ ZBR _ ⟨ZH0,n162,Zpr,rfl,rfl⟩ hS;obtain rfl:=hS.on k0;refine r6 ?_;refine r1 ?_;obtain⟨ZAu,ZJo,hL⟩:=bind_some hL;refine WO.hn gN rfl (ZvU (e:=Zn2) (x0:=false) () hS Zle ZnC (ZNj) ZC7 rfl rfl (Yo fh rfl) (Yo fh rfl) rfl trivial ZJo) ?_;rintro _ ZQH ⟨Zbq,ZNe,ZMP,rfl,hS⟩;refine XC ?_;refine WC.loop (WL.lift hL (fun(p:Int×(List Bool)) (s:Fs)=>match p with | (ZdZ,Ztq)=>∃ (Zgx:Fr) (ZBQ:H),s= ⟨Zgx,[],ZBQ,none⟩∧Sp wm T h [bx wm b1 (cW p0 Zi Zh Zq Zo Zk Zj Zp Zn Zm Zl),ow wm (Zu .i64) ZH0 x160.length Zpr x160,ow wm Zn2 (some ⟨Zbq,0,none⟩) ZAu.length ZNe Ztq] ZBQ∧Zgx.at 1= .pointer (some ⟨b1,0,none⟩)∧Zgx.at 19= .slice ZH0 x160.length Zpr∧Zgx.at 20= .slice (some ⟨Zbq,0,none⟩) ZAu.length ZNe∧Zgx.at 201= .slice ZH0 x160.length Zpr∧Zgx.at 202= .int .i64 (x160.length:Int)∧Zgx.at 203= .int .i64 ZdZ) ⟨_,_,rfl,hS.only (.c k2 (.c k1 (.c k0 .n))),YD⟩ ?_);clear hL hS;rintro Zsj ⟨ZdZ,Ztq⟩ s Zxk hL ⟨Zgx,ZBQ,rfl,hS,ZQ1,ZXe,ZQ0,ZXd,ZXc,ZXb⟩;dsimp only [ZdE] at hL;refine r6 ?_;refine cn hL ?_ ?_
       ·intro hc hL;refine r6 ?_;obtain⟨Zk4,ZDA,hL⟩:=bind_some hL;obtain⟨ZYc,ZUk,_,ZFR,ZGx,ZQg⟩:=Src.at_ (hS.QH k1) ZDA;refine WO.w gN rfl (ZE YE YF lk lk rfl ZFR ZDA) ?_;refine WO.w gN rfl (ZW Xv (Yo fh rfl) ZGx (j:=0) rfl (v:= .int .i64 Zk4) rfl) ?_;refine r16 ?_;refine r1 ?_;obtain⟨ZpV,Zsx,hL⟩:=Yt hL;obtain⟨ZYb,ZUj,_,hQ⟩:=Src.atG (fun hg=>(hS.QH k2)) Zsx;have ZFQ:=fun hg=>(hQ hg).1
        have ZGw:=fun hg=>(hQ hg).2.1
        have ZQf:=fun hg=>(hQ hg).2.2
        refine WO.gv (Zt.no rfl rfl rfl (YA rfl fh)) rfl (fun hg=>(ZE Zle ZnC (YX (Zy rfl fh) rfl hg) (YX fh rfl hg) (hS.on k2) (ZFQ hg) (Zsx hg))) ?_;refine WO.gv (Zt.no rfl rfl rfl (YA rfl (Zy rfl fh))) rfl (fun hg=>(ZW ZuW (YX fh rfl hg) (ZGw hg) (j:=0) rfl (v:= .bool ZpV) rfl)) ?_;refine r3 ?_;refine cn hL ?_ ?_
        ·intro hc hL;refine XC ?_;exact rt hL hT hS
        ·intro hc hL;refine r4 ?_;refine r1 ?_;obtain⟨ZOA,Zw7,hL⟩:=bind_some hL;obtain⟨ZYa,ZUi,_,ZxT,ZGv,ZQe⟩:=Src.at_ (hS.QH k2) Zw7;refine WO.w gN rfl (ZE Zle ZnC lk lk (hS.on k2) ZxT Zw7) ?_;refine WO.hu gN (Zd7 (e:=Zn2) true () hS k2 ZnC (Yo fh rfl) (evC rfl) ZxT Zw7 ZGv (j:=0) rfl (vs:= [.bool true]) rfl rfl rfl rfl rfl (cs':= [.bool true]) rfl rfl trivial) ?_;rintro ZQG ⟨hS,ZSM⟩;refine r6 ?_;refine r1 ?_;exact Ye.Y2 (Zxk _ _ hL ⟨_,_,rfl,hS.only (.c k1 (.c k1 (.c k0 .n))),YD⟩)
       ·intro hc hL;refine r16 ?_;exact rt hL hT hS
theorem Zzd {F:Nat} {h:H} {p0:Zb} {Zi:Option Addr} {Zh:Nat} {Zq:Option Addr} {Zo:Nat} {Zk:Option Addr} {Zj:Nat} {Zp:Option Addr} {Zn:Nat} {Zm:Option Addr} {Zl:Nat} {r:Bool} (ZA:Sl (Zu .i64) h.size h Zi Zh p0.Zv) (ZN:Sl (Zz (Zu .i64)) h.size h Zq Zo p0.qK) (ZL:Sl (Zz Zc) h.size h Zk Zj p0.qQ) (ZO:Sl (Zz Zg) h.size h Zp Zn p0.qJ) (ZK:Sl Zd h.size h Zm Zl p0.qG) (hL:Zo7 F p0=some r):Pure XX 21 #[.agg [.slice Zi p0.Zv.length Zh,.slice Zq p0.qK.length Zo,.slice Zk p0.qQ.length Zj,.slice Zp p0.qJ.length Zn,.slice Zm p0.qG.length Zl,.int .i64 p0.said].toArray] h (.bool r):=
 WR.XO rfl (ZHv (Nat.le_refl _) ZA ZN ZL ZO ZK hL)
theorem ZHr {F wm:Nat} {h:H} {p0:Zb} {Zi:Option Addr} {Zh:Nat} {Zq:Option Addr} {Zo:Nat} {Zk:Option Addr} {Zj:Nat} {Zp:Option Addr} {Zn:Nat} {Zm:Option Addr} {Zl:Nat} {r:Bool} (ZX:wm <=h.size) (ZA:Sl (Zu .i64) wm h Zi Zh p0.Zv) (ZN:Sl (Zz (Zu .i64)) wm h Zq Zo p0.qK) (ZL:Sl (Zz Zc) wm h Zk Zj p0.qQ) (ZO:Sl (Zz Zg) wm h Zp Zn p0.qJ) (ZK:Sl Zd wm h Zm Zl p0.qG) (hL:Zzb F p0=some r):
 WR XX 35 #[.agg [.slice Zi p0.Zv.length Zh,.slice Zq p0.qK.length Zo,.slice Zk p0.qQ.length Zj,.slice Zp p0.qJ.length Zn,.slice Zm p0.qG.length Zl,.int .i64 p0.said].toArray] wm h (CP (fun(v:Value) (Gb:List (Ast wm))=>v= .bool r∧Gb= []) [] h):=by
 refine bg Tryz.ntmps35 ZX Yd.nil ?_;intro T hT hS;unfold Zzb at hL;refine r3 ?_;rintro _ h2 ⟨b1,eb1,rfl,hS⟩;refine r6 ?_;obtain⟨x3,hx3,hL⟩:=bind_some hL;refine WO.cp gN rfl (Xi.fn ZKU (Zf lk Zx)) (WR.XO rfl (ZHx (Nat.le_refl _) (hS.YZ ZA) (hS.YZ ZN) (hS.YZ ZL) (hS.YZ ZO) (hS.YZ ZK) hx3)) ?_;refine r2 ?_;obtain⟨x4,hx4,hL⟩:=Yt hL;refine WO.gcp (Zt.yes rfl rfl rfl (Zy rfl fh)) rfl (fun hg=>(Xi.fn ZDX (Zf (YX fh rfl hg) Zx))) (fun hg=>Zzd (hS.YZ ZA) (hS.YZ ZN) (hS.YZ ZL) (hS.YZ ZO) (hS.YZ ZK) (hx4 hg)) ?_;refine r4 ?_;refine r1 ?_;exact rt hL hT hS
end Go.Proofs.YtbmbbcaaimehkaaGreat
end
end
section
namespace Go.Proofs.YtbmbbcaaimehkaaGreat
open Go.Lf
def Zmu (F:Nat) (p0:Zb) (p1:ZH):Int×Bool ->Option Int:=fun(v20,ZvG)=>
 (bif ZvG then some v20 else(ZdB F p0 p1.a).bind fun Ki=>(bif((!Ki.1.here) || (Ki.1.machine==p1.b)) then some 7 else some 0))
def Zza (p0:Zb) (v43:Int) (Zdv:(Int×Int×Bool ->Option (Bool×Int×Bool))):Int×Int×Bool ->(Int×Int×Bool ->Option (Bool×Int×Bool)) ->Option (Bool×Int×Bool):=fun(v69,v71,ZtB) Zql=>
 (bif decide (v69 < (p0.Zv.length:Int)) then(ZQ p0.Zv v69).bind fun x74=>(bif(x74==v43) then(Zdv (v69,v71,ZtB)).bind fun(v80,v81,ZEN)=>(bif(!v80) then some (false,v81,ZEN) else Zql (Xa (v69 + 1),v81,ZEN)) else Zql (Xa (v69 + 1),v71,ZtB)) else some (true,v71,ZtB))
def ZdD (p0:Zb) (v43:Int) (Zdv:(Int×Int×Bool ->Option (Bool×Int×Bool))):Int×Int×Bool ->(Int×Int×Bool ->Option (Bool×Int×Bool)) ->Option (Bool×Int×Bool):=fun(v92,v94,ZtA) Zqk=>
 (bif decide (v92 < (p0.Zv.length:Int)) then(ZQ p0.Zv v92).bind fun x97=>(bif(x97==v43) then(Zdv (v92,v94,ZtA)).bind fun(Znq,JH,ZvH)=>(bif(!Znq) then some (false,JH,ZvH) else Zqk (Xa (v92 + 1),JH,ZvH)) else Zqk (Xa (v92 + 1),v94,ZtA)) else some (true,v94,ZtA))
def Zca (F:Nat) (p0:Zb):Int×Int×Bool ->(Int×Int×Bool ->Option (Bool×Int×Bool)) ->Option (Bool×Int×Bool):=fun(v43,v44,Zp4) Zdv=>
 (bif Zp4 then none else(ZdB F p0 v43).bind fun x55=>(bif decide (x55.1.age >=30) then(bif(!false) then some (false,3,true) else loop F (Zza p0 v43 Zdv) (0,3,true)) else(bif(!true) then some (false,v44,false) else loop F (ZdD p0 v43 Zdv) (0,v44,false))))
def Zms:Option Unit:=
 some ()
def Zmt:(List Int) ->Option (List Int):=fun Zvy=>
 some Zvy
def Zrf (p0:Zb) (ZjH:Int) (ZgY:(Int×(List Int) ->Option (Bool×(List Int)))):Int×(List Int) ->(Int×(List Int) ->Option (Bool×(List Int))) ->Option (Bool×(List Int)):=fun(v203,Zk9) ZlE=>
 (bif decide (v203 < (p0.Zv.length:Int)) then(ZQ p0.Zv v203).bind fun ZEA=>(bif(ZEA==ZjH) then(ZgY (v203,Zk9)).bind fun(ZIC,ZjG)=>(bif(!ZIC) then some (false,ZjG) else ZlE (Xa (v203 + 1),ZjG)) else ZlE (Xa (v203 + 1),Zk9)) else some (true,Zk9))
def ZiX (F:Nat) (p0:Zb):Int×(List Int) ->(Int×(List Int) ->Option (Bool×(List Int))) ->Option (Bool×(List Int)):=fun(ZjH,v175) ZgY=>
 (app 8 v175 [ZjH]).bind fun Zvk=>(bif(!true) then some (false,Zvk) else loop F (Zrf p0 ZjH ZgY) (0,Zvk))
def Zmr (F:Nat) (p0:Zb) (p1:ZH):Option (List Int):=
 (loop F (ZiX F p0) (p1.a,[])).bind fun(ZOD,v226)=>(Zmt) v226
def Zut (F:Nat) (p0:Zb) (p1:ZH):Option Int:=
 (bif(p1.act==1) then(bif decide (p0.said >=40) then some 3 else some 0) else(bif(p1.act==2) then(loop F (Zca F p0) (p1.a,0,false)).bind fun(ZOF,Zd0,ZDg)=>(Zmu F p0 p1) (Zd0,ZDg) else(bif(p1.act==3) then(ZdB F p0 p1.a).bind fun x115=>(ZdB F p0 p1.b).bind fun ZaL=>(ZQ p0.Zv p1.a).bind fun Zvo=>(bif(!((((Zvo != (-1)) || (!x115.1.here)) || (!ZaL.1.here)) || (x115.1.machine !=ZaL.1.machine))) then((Zms)).bind fun _=>((Zmr F p0 p1)).bind fun v234=>(Zo4 F v234 p1.b).bind fun ZIu=>(bif ZIu then some 7 else some 0) else some 7) else(bif(p1.act==4) then(ZdB F p0 p1.a).bind fun ZEz=>(gd (!(!ZEz.1.here)) (ZQ p0.Zv p1.a) default).bind fun ZEy=>(bif((!ZEz.1.here) || (ZEy== (-1))) then some 7 else some 0) else some 0))))
def Zmq (p0:Zb) (x5:(List Int)) (XY:(List (List Int))) (UO:(List (List Zw))) (x23:(List (List Zr))):Int×(List Ze) ->(Int×(List Ze) ->Option Zb) ->Option Zb:=fun(v38,v40) ZwC=>
 (bif decide (v38 < (p0.qG.length:Int)) then(ZQ p0.qG v38).bind fun U0=>(Zmh U0.qV).bind fun x55=>(Zmh U0.Yh).bind fun x61=>(app 128 v40 [(Ze.mk U0.kind U0.Z8 U0.Yi x55 x61 U0.place U0.at_ U0.age)]).bind fun z75=>ZwC (Xa (v38 + 1),z75) else some (Zb.mk x5 XY UO x23 v40 p0.said))
def Zy9 (F:Nat) (p0:Zb):Option Zb:=
 (Zmh p0.Zv).bind fun x5=>(ZyY F p0.qK).bind fun XY=>(ZyX F p0.qQ).bind fun UO=>(ZyW F p0.qJ).bind fun x23=>loop F (Zmq p0 x5 XY UO x23) (0,[])
def ZiM (v152:Int) (Zcz:(Int×(List Int)×(List (List Int))×(List (List Zw))×(List (List Zr))×(List Ze)×Int×(List ZG) ->Option Z6)):(List Int)×(List (List Int))×(List (List Zw))×(List (List Zr))×(List Ze)×Int×(List ZG) ->Option Z6:=fun(v194,v198,v203,v208,Zvx,ZjG,v218)=>
 Zcz (Xa (v152 + 1),v194,v198,v203,v208,Zvx,ZjG,v218)
def ZiN (x1:Ze) (v86:Int) (ZgZ:(Int×(List Int)×(List (List Int))×(List (List Zw))×(List (List Zr))×(List Ze)×Int×(List ZG) ->Option Z6)) (Zhp:Int) (Zk6:(List Zr)):Int×(List Int)×(List (List Int))×(List (List Zw))×(List (List Zr))×(List Ze)×Int×(List ZG) ->(Int×(List Int)×(List (List Int))×(List (List Zw))×(List (List Zr))×(List Ze)×Int×(List ZG) ->Option Z6) ->Option Z6:=fun(v152,v154,Zhs,Zlb,v168,v173,ZdZ,Zla) Zcz=>
 (bif decide (v152 < (Zk6.length:Int)) then(ZQ Zk6 v152).bind fun ZpU=>(bif(ZpU.place !=Zhp) then(ZQ v168 x1.Z8).bind fun ZIv=>(app 40 ZIv [ZpU]).bind fun ZAt=>(ZQ v168 x1.Z8).bind fun ZOz=>(ZiM v152 Zcz) (v154,Zhs,Zlb,Yr v168 x1.Z8 ZAt,v173,ZdZ,Zla) else(ZgA (Z6.mk (Zb.mk v154 Zhs Zlb v168 v173 ZdZ) Zla) x1.Z8 ZpU).bind fun ZdU=>(ZiM v152 Zcz) (ZdU.Za.Zv,ZdU.Za.qK,ZdU.Za.qQ,ZdU.Za.qJ,ZdU.Za.qG,ZdU.Za.said,ZdU.qX)) else ZgZ (Xa (v86 + 1),v154,Zhs,Zlb,v168,v173,ZdZ,Zla))
def ZfD (F:Nat) (x1:Ze):Int×(List Int)×(List (List Int))×(List (List Zw))×(List (List Zr))×(List Ze)×Int×(List ZG) ->(Int×(List Int)×(List (List Int))×(List (List Zw))×(List (List Zr))×(List Ze)×Int×(List ZG) ->Option Z6) ->Option Z6:=fun(v86,v88,v92,v97,ZcU,v107,Zd0,Ztu) ZgZ=>
 (bif decide (v86 < (x1.qV.length:Int)) then(ZQ x1.qV v86).bind fun Zhp=>(app 40 Ztu [(ZG.mk 3 Zhp x1.Z8 0 0)]).bind fun Zvl=>(ZQ ZcU x1.Z8).bind fun Zvo=>(ZQ ZcU x1.Z8).bind fun Zk6=>loop F (ZiN x1 v86 ZgZ Zhp Zk6) (0,v88,v92,v97,Yr ZcU x1.Z8 ([]:(List Zr)),v107,Zd0,Zvl) else some (Z6.mk (Zb.mk v88 v92 v97 ZcU v107 Zd0) Ztu))
def ZiO (F:Nat) (p0:Z6) (x1:Ze) (XY:(List Ze)):Int×(List (List Zw)) ->(Int×(List (List Zw)) ->Option Z6) ->Option Z6:=fun(v56,v58) Zwy=>
 (bif decide (v56 < (x1.qV.length:Int)) then(ZQ x1.qV v56).bind fun x61=>(ZQ v58 x1.Z8).bind fun x64=>(ZQ x1.Yh v56).bind fun x70=>(ZQ x64 x61).bind fun x73=>Zwy (Xa (v56 + 1),Yr v58 x1.Z8 (Yr x64 x61 (Zw.mk true x1.Z8 x70))) else loop F (ZfD F x1) (0,p0.Za.Zv,p0.Za.qK,v58,p0.Za.qJ,XY,p0.Za.said,p0.qX))
def ZiL (p0:Z6) (XY:(List Ze)):(List (List Zw)) ->Option Z6:=fun ZAC=>
 some (Z6.mk (Zb.mk p0.Za.Zv p0.Za.qK ZAC p0.Za.qJ XY p0.Za.said) p0.qX)
def Zy3 (F:Nat) (p0:Z6) (p1:Int):Option Z6:=
 (ZQ p0.Za.qG p1).bind fun x1=>(ZyT p0.Za.qG p1 (Xa (p1 + 1))).bind fun XY=>(bif x1.kind==1 then(Zo3 (Z6.mk (Zb.mk p0.Za.Zv p0.Za.qK p0.Za.qQ p0.Za.qJ XY p0.Za.said) p0.qX) x1.Z8 x1.Yi false).bind fun Ki=>some Ki else(bif x1.kind==2 then loop F (ZiO F p0 x1 XY) (0,p0.Za.qQ) else(bif x1.kind==3 then(ZQ p0.Za.qQ x1.Z8).bind fun ZIt=>(ZQ ZIt x1.place).bind fun Ztl=>(bif((!Ztl.here) && (decide (Ztl.age < x1.age))) then(ZQ p0.Za.qQ x1.Z8).bind fun ZEx=>(ZQ ZEx x1.place).bind fun ZOy=>(ZiL p0 XY) (Yr p0.Za.qQ x1.Z8 (Yr ZEx x1.place (Zw.mk false x1.at_ x1.age))) else(ZiL p0 XY) p0.Za.qQ) else none)))
def Zb8 (v6:Int) (ZaX:(Int×(List Ym) ->Option (ZV×Bool))):(List Ym) ->Option (ZV×Bool):=fun v19=>
 ZaX (Xa (v6 + 1),v19)
def Zfz (F:Nat) (p0:ZV):Int×(List Ym) ->(Int×(List Ym) ->Option (ZV×Bool)) ->Option (ZV×Bool):=fun(v6,v8) ZaX=>
 (bif decide (v6 < (p0.Za.Zv.length:Int)) then(ZQ p0.Za.Zv v6).bind fun x23=>(ZdB F p0.Za v6).bind fun Ki=>(bif(Ki.2 !=1) then some ((ZV.mk p0.Za v8),false) else(ZQ v8 v6).bind fun x32=>(bif decide (x23 < 0) then(Zb8 v6 ZaX) (Yr v8 v6 Ki.1) else(ZdB F p0.Za x23).bind fun x37=>(gd ((!((x37.1.machine !=Ki.1.machine) || (x37.1.here !=Ki.1.here))) && (!Ki.1.here)) (Zra F (ZV.mk p0.Za (Yr v8 v6 Ki.1)) v6 x23) default).bind fun x44=>(bif(((x37.1.machine !=Ki.1.machine) || (x37.1.here !=Ki.1.here)) || ((!Ki.1.here) && (!x44))) then some ((ZV.mk p0.Za (Yr v8 v6 Ki.1)),false) else(Zb8 v6 ZaX) (Yr v8 v6 Ki.1)))) else some ((ZV.mk p0.Za v8),true))
def Zy1 (F:Nat) (p0:ZV):Option (ZV×Bool):=
 loop F (Zfz F p0) (0,p0.Y0)
def Zfx (v23:Int) (KD:(Int ->Option Bool)):Unit ->Option Bool:=fun _=>
 KD (Xa (v23 + 1))
def Zfy (p0:ZV) (v6:Int) (Zc6:(Int ->Option Bool)) (x9:(List Zw)):Int ->(Int ->Option Bool) ->Option Bool:=fun v23 KD=>
 (bif decide (v23 < (x9.length:Int)) then(ZQ x9 v23).bind fun x36=>(bif UF x36 (Zw.mk true v6 x36.age) then(bif((decide (x36.age < 0)) || (decide (x36.age > 30))) then some false else(Zfx v23 KD) ()) else(gd (!(x36.here || (x36.Z8==v6))) (Zmb p0 v23 x36.Z8 x36.age) default).bind fun x42=>(bif((x36.here || (x36.Z8==v6)) || (!x42)) then some false else(Zfx v23 KD) ())) else Zc6 (Xa (v6 + 1)))
def ZiG (F:Nat) (p0:ZV):Int ->(Int ->Option Bool) ->Option Bool:=fun v6 Zc6=>
 (bif decide (v6 < (p0.Za.qQ.length:Int)) then(ZQ p0.Za.qQ v6).bind fun x9=>loop F (Zfy p0 v6 Zc6 x9) 0 else some true)
def Zur (F:Nat) (p0:ZV):Option Bool:=
 loop F (ZiG F p0) 0
end Go.Proofs.YtbmbbcaaimehkaaGreat
end
