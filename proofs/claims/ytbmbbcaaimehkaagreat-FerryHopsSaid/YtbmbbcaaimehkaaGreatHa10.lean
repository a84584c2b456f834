/- Hops Part 10 of the proof. -/
import Derived.Shelf.Sort.Plain
import Derived.Test.YtbmbbcaaimehkaaGreatHa9
set_option linter.all false
set_option maxHeartbeats 2000000
section
noncomputable section
namespace Go.YG
open Go.Lf
def ZAN (P:Program) (f:FuncId):Prop:=∀ (blk off cap:Nat) (zs:List Int) (w:World),Go.Sort.Holds (Value.int .i64) w blk off zs.toArray ->blk < w.heap.size ->zs.length < 4611686018427387904 ->
 Calls P f #[.slice (some ⟨blk,off,none⟩) zs.length cap] w fun e w'=>e= .returned (.tuple #[])∧∃ n os,w'=Go.Sort.grow (Go.Sort.putRow (Value.int .i64) (Go.Sort.ahead w n) blk off (zs.mergeSort fun x y=>decide (x <=y)).toArray) os
def Zak (cs:List Value) (o:Nat) (ys:List Int):List Value:=cs.mapIdx fun k x=>if o <=k∧k < o + ys.length then .int .i64 (ys.getD (k - o) 0) else x
theorem ZdF (cs:List Value) (o:Nat) (ys:List Int):(Zak cs o ys).length=cs.length:=by simp [Zak]
theorem Zh3 (cs:List Value) (o:Nat) (ys:List Int) (k:Nat):(Zak cs o ys)[k]? =cs[k]?.map fun x=>if o <=k∧k < o + ys.length then .int .i64 (ys.getD (k - o) 0) else x:=by simp [Zak]
variable {X:Ctx} {f:FuncId} {wm wm0:Nat} {h:H} {i o c:Nat} {cs:List Value} {xs:List Int}
theorem ZwF (he:QS (Zu .i64) wm0 h cs o xs) {j:Nat} (hj:j < xs.length):cs[o + j]? =some (.int .i64 xs[j]):=by
 obtain⟨q,h1,_⟩:=he.get j xs[j] (List.getElem?_eq_getElem hj);have h1:(cs.drop (o + j * 1)).take 1= [.int .i64 xs[j]]:=h1;rw [Nat.mul_one] at h1;have:=congrArg (fun l=>l[0]?) h1
 simpa [List.getElem?_take,List.getElem?_drop] using this
theorem Zwk (SC:ZAN X.P f) (hat:h.at i= .row cs true 1) (hw:wm <=i) (he:QS (Zu .i64) wm0 h cs o xs) (hne:0 < xs.length) (hlen:xs.length < 4611686018427387904):
 YK X (.call f #[.slice (some ⟨i,o,none⟩) xs.length c] wm h) (.fin (.ret (.tuple #[])) (h.put i (.row (Zak cs o (xs.mergeSort fun x y=>decide (x <=y))) true 1))):=by
 intro ρ args' w ZX rel hv;obtain⟨hsz,hvv⟩:=hv;have hsz:args'.size=1:=hsz.symm
 obtain⟨v',rfl⟩:∃ v',args'=#[v']:= ⟨args'[0],by
  apply Array.ext
  ·simpa using hsz
  ·intro k h1 h2;have:k=0:=by omega
   subst this;rfl⟩
 have hvr:=hvv 0 _ _ rfl rfl;generalize hn:xs.length=n at hvr;cases hvr with
 | XG=>omega
 | @slice _ b d _ _ _ c' hρ hc=>
   subst hn;have hb:= (rel.dom i b d hρ).2;have hil:= (rel.dom i b d hρ).1;have hob:=rel.obj i b d hρ;rw [hat] at hob;obtain⟨cc,el,fz,hcc,hfz,hdl,hcv⟩:=hob;obtain⟨ZQZ,ZQY⟩:=hfz rfl;subst ZQZ;have ZTB:o + xs.length * 1 <=cs.length:=he.len
   have hcell:∀ j (hj:j < xs.length),cc[d + (o + j)]? =some (.int .i64 xs[j]):=fun j hj=>by
    have hk:d + (o + j) < cc.size:=by omega
    have:=hcv (o + j) _ cc[d + (o + j)] (ZwF he hj) (Array.getElem?_eq_getElem hk);rw [Array.getElem?_eq_getElem hk];cases hx:cc[d + (o + j)] <;> rw [hx] at this <;> cases this
    rfl
   have hH:Go.Sort.Holds (Value.int .i64) w b (d + o) xs.toArray:=by
    intro j hj;have hj':j < xs.length:=by simpa using hj
    refine⟨?_,by simp [World.frozen?,hcc]⟩;have h1:=hcell j hj';simp only [World.cell?,hcc];simp only [Option.isSome_none,Bool.false_eq_true,if_false];rw [show d + o + j=d + (o + j) by omega,h1];simp [hj']
   refine callsIn_wide.2 ((SC b (d + o) c' xs w hH hb hlen).mono ?_);rintro e w' ⟨rfl,n,os,rfl⟩;generalize hys:(xs.mergeSort fun x y=>decide (x <=y))=ys;have hyl:ys.length=xs.length:=by rw [← hys,List.length_mergeSort]
   have hheap:∀ b',b' < w.heap.size ->(Go.Sort.grow (Go.Sort.putRow (Value.int .i64) (Go.Sort.ahead w n) b (d + o) ys.toArray) os).heap[b']? =if b=b' then(w.heap[b']?).map (Go.Sort.onCells (Go.Sort.putCells (Value.int .i64) (d + o) ys.toArray)) else w.heap[b']?:=fun b' hb'=>by
    have hs:b' < (w.heap.modify b (Go.Sort.onCells (Go.Sort.putCells (Value.int .i64) (d + o) ys.toArray))).size:=by simpa using hb'
    simp only [Go.Sort.grow,Go.Sort.putRow,Go.Sort.mapBlock,Go.Sort.ahead];rw [Array.getElem?_append_left hs,Array.getElem?_modify]
   have hsame:∀ b',b' < w.heap.size ->b' ≠ b ->(Go.Sort.grow (Go.Sort.putRow (Value.int .i64) (Go.Sort.ahead w n) b (d + o) ys.toArray) os).heap[b']? =w.heap[b']?:=fun b' hb' hne'=>by rw [hheap b' hb',if_neg (fun q=>hne' q.symm)]
   have hsize:w.heap.size <= (Go.Sort.grow (Go.Sort.putRow (Value.int .i64) (Go.Sort.ahead w n) b (d + o) ys.toArray) os).heap.size:=by simp [Go.Sort.grow,Go.Sort.putRow,Go.Sort.mapBlock,Go.Sort.ahead]
   have hat':∀ j,(h.put i (.row (Zak cs o ys) true 1)).at j=if j=i then .row (Zak cs o ys) true 1 else h.at j:=fun j=>by
    rw [H.XJ];by_cases e:j=i
    ·subst e;rw [if_pos ⟨rfl,hil⟩,if_pos rfl]
    ·rw [if_neg (fun q=>e q.1),if_neg e]
   have ZLc:∀ j d',ρ j=some (b,d') ->j ≠ i ->(h.at j).live=false:=fun j d' hj hji=>by
    cases hl:(h.at j).live with
    | false=>rfl
    | true=>exact absurd (rel.inj i j b d d' hρ hj (by rw [hat];rfl) hl).symm hji
   refine⟨ρ,.ret (.tuple _ _ rfl fun k v v' e=>by simp at e),⟨fun j b' d' hj=>⟨(rel.dom j b' d' hj).1,Nat.lt_of_lt_of_le (rel.dom j b' d' hj).2 hsize⟩,fun j b' d' hj=>?_,fun j k b' d1 d2 h1 h2 h3 h4=>?_⟩,?_⟩
   ·rw [hat'];by_cases e:j=i
    ·subst e;rw [hρ] at hj;cases hj;rw [if_pos rfl];refine⟨Go.Sort.putCells (Value.int .i64) (d + o) ys.toArray cc,el,(0,0),?_,fun _=>⟨rfl,fun hz=>?_⟩,?_,fun k v v' e1 e2=>?_⟩
     ·rw [hheap b hb,if_pos rfl,hcc];rfl
     ·rw [ZQY hz];simp [Go.Sort.putCells]
     ·rw [ZdF];simpa [Go.Sort.putCells] using hdl
     ·rw [Zh3] at e1;obtain⟨v0,e0,rfl⟩:=Option.map_eq_some_iff.1 e1;have hkl:k < cs.length:= (Li0 e0).1;have hkc:d + k < cc.size:=by omega
      have e3:(Go.Sort.putCells (Value.int .i64) (d + o) ys.toArray cc)[d + k]? =some (if d + o <=d + k∧d + k < d + o + ys.length then .int .i64 ys.toArray[d + k - (d + o)]! else cc[d + k]):=by
       simp [Go.Sort.putCells,Array.getElem?_eq_getElem hkc]
      rw [e3] at e2;cases e2;by_cases hin:o <=k∧k < o + ys.length
      ·rw [if_pos hin,if_pos (by omega)]
       have:ys.toArray[d + k - (d + o)]! =ys.getD (k - o) 0:=by
        rw [show d + k - (d + o)=k - o by omega];have hlt:k - o < ys.length:=by omega
        simp [hlt]
       rw [this];exact .int _ _
      ·rw [if_neg hin,if_neg (by omega)];exact hcv k v0 _ e0 (Array.getElem?_eq_getElem hkc)
    ·rw [if_neg e];by_cases eb:b'=b
     ·subst eb;have:=ZLc j d' hj e;cases hh:h.at j with
      | dead=>trivial
      | row _ _ _=>rw [hh] at this;cases this
      | map _ _=>rw [hh] at this;cases this
      | loop _ _ _ _ _ _ _ _=>rw [hh] at this;cases this
      | deferred=>rw [hh] at this;cases this
      | ZcL _ _=>rw [hh] at this;cases this
      | iter _ _ _ _=>rw [hh] at this;cases this
      | ZeM=>rw [hh] at this;cases this
     ·exact(rel.obj j b' d' hj).world (hsame b' (rel.dom j b' d' hj).2 eb)
   ·rw [hat'] at h3 h4;refine rel.inj j k b' d1 d2 h1 h2 ?_ ?_
    ·by_cases e:j=i
     ·subst e;rw [hat];rfl
     ·rwa [if_neg e] at h3
    ·by_cases e:k=i
     ·subst e;rw [hat];rfl
     ·rwa [if_neg e] at h4
   ·refine⟨Ren.le_refl ρ,Nat.le_refl _,fun j hj=>?_,fun j hj hx=>?_,fun j hj hx=>?_,rfl,rfl,rfl,hsize,fun b' hb' hno=>?_,fun j b' d' e e'=>by rw [e] at e';cases e'⟩
    ·rw [hat',if_neg (by omega)]
    ·rw [hat'] at hx;by_cases e:j=i
     ·subst e;rw [hat];rfl
     ·rwa [if_neg e] at hx
    ·rw [hat'] at hx;by_cases e:j=i
     ·subst e;rw [hat];rfl
     ·rwa [if_neg e] at hx
    ·exact hsame b' hb' fun q=>hno i d hw (by rw [q];exact hρ) (by rw [hat];rfl)
theorem ZBw (SC:ZAN X.P f) (H0:∀ (wm:Nat) (h:H) (a:Option Addr) (c:Nat),YK X (.call f #[.slice a 0 c] wm h) (.fin (.ret (.tuple #[])) h)) {a:Option Addr} {n:Nat} (hlen:xs.length < 4611686018427387904)
 (ZX:wm <=h.size) (hO:Yd (wm:=wm) [ow wm (Zu .i64) a n c xs] h):
 WR X f #[.slice a n c] wm h (CP (fun(v:Value) (Gb:List (Ast wm))=>v= .tuple [].toArray∧Gb= [ow wm (Zu .i64) a n c (xs.mergeSort fun x y=>decide (x <=y))]) [ow wm (Zu .i64) a n c xs] h):=by
 have hP:(ow wm (Zu .i64) a n c xs).P h:=hO.all _ (by simp);obtain⟨hn,so⟩:=hP;have s0:Sp wm (Qa [ow wm (Zu .i64) a n c xs]) h [ow wm (Zu .i64) a n c xs] h:=Sp.start ZX hO
 have empty:xs= [] ->WR X f #[.slice a n c] wm h (CP (fun(v:Value) (Gb:List (Ast wm))=>v= .tuple [].toArray∧Gb= [ow wm (Zu .i64) a n c (xs.mergeSort fun x y=>decide (x <=y))]) [ow wm (Zu .i64) a n c xs] h):=fun e=>by
  subst e;have hn:n=0:=hn;subst hn;exact⟨_,h,⟨_,rfl,_,⟨rfl,rfl⟩,by simpa using s0⟩,H0 wm h a c⟩
 rcases so.mem with⟨_,_,h3⟩ | ⟨i,o,cs,rfl,h2,h3,h4,h5,h6⟩
 ·exact empty h3
 ·rcases Nat.eq_zero_or_pos xs.length with z | z
  ·exact empty (List.length_eq_zero_iff.1 z)
  ·subst hn;have h3:h.at i= .row cs true 1:=h3;have hj:=Zwk (c:=c) SC h3 h2 h6 z hlen;refine⟨_,_,⟨_,rfl,_,⟨rfl,rfl⟩,?_⟩,hj⟩;have hil:i < h.size:=Xy h3 rfl
   have hu:Up wm (Xq (some ⟨i,o,none⟩)) h (h.put i (.row (Zak cs o (xs.mergeSort fun x y=>decide (x <=y))) true 1)):=
    let u:=Up.put (lo:=wm) (A:= .row (Zak cs o (xs.mergeSort fun x y=>decide (x <=y))) true 1) h2 (show(h.at i).own=true by rw [h3];rfl)
    ⟨u.size,fun j hj hn=>u.keep j hj fun e=>hn ⟨o,by rw [e]⟩,fun j ⟨o',e⟩=>by cases e;exact⟨h2,by rw [h3];rfl⟩⟩
   refine s0.one .z hu (fun j q=>q) ⟨?_,?_,.inr ⟨i,o,_,rfl,h2,Yn hil _,?_,?_,?_⟩⟩ fun j q=>.inl q
   ·rw [List.length_mergeSort]
   ·rw [List.length_mergeSort];exact so.max
   ·rw [List.length_mergeSort];exact h4
   ·rw [ZdF];exact h5
   ·refine⟨?_,fun k x hk=>⟨(),?_,trivial⟩⟩
    ·rw [ZdF,List.length_mergeSort];exact h6.len
    ·have hkl:k < (xs.mergeSort fun x y=>decide (x <=y)).length:= (Li0 hk).1;have hl:o + xs.length * 1 <=cs.length:=h6.len;have ZWm:k < xs.length:=by rwa [List.length_mergeSort] at hkl
     show((Zak cs o _).drop (o + k * 1)).take 1= [.int .i64 x];rw [Nat.mul_one];apply List.ext_getElem?;intro j;cases j with
     | zero=>
       rw [List.getElem?_take_of_lt (by omega),List.getElem?_drop,Nat.add_zero,Zh3,List.getElem?_eq_getElem (show o + k < cs.length by omega)];simp only [Option.map_some,List.getElem?_cons_zero];rw [if_pos (by omega),show o + k - o=k by omega,List.getD_eq_getElem?_getD,hk];rfl
     | succ j=>rw [List.getElem?_take_eq_none (by omega)];simp
end Go.YG
end
end
section
set_option maxRecDepth 100000
noncomputable section
namespace Go.Proofs.YtbmbbcaaimehkaaGreat
open Go.YG Go.Lf
def ZFS:Go.Shelf.Ren:= ⟨fun | 189=>94 | 125=>108 | 257=>107 | 128=>119 | 129=>120 | 294=>110 | 295=>111 | 296=>112 | 297=>113 | 298=>114 | 299=>115 | 216=>116 | 300=>117 | 301=>118 | 328=>121 | 329=>122 | 330=>123 | 331=>124 | 332=>125 | 215=>126 | 343=>127 | n=>n,fun | 28=>22 | 3=>3 | 46=>155 | 0=>0 | 51=>165 | 53=>167 | 4=>4 | 183=>159 | 182=>158 | 131=>69 | 5=>5 | 9=>9 | 218=>168 | 222=>172 | 228=>174 | 229=>175 | n=>n,fun n=>n⟩
theorem ZKa:Lays.n189 Tryz.prog ZFS:= {
 mixed:=by kernel_rfl,
 f125:=Tryz.func108.trans (congrArg some Kq0),
 f128:=Tryz.func119.trans (congrArg some Kq0),
 f129:=Tryz.func120.trans (congrArg some Kq0),
 f189:=Tryz.func94.trans (congrArg some Kq0),
 f215:=Tryz.func126.trans (congrArg some Kq0),
 f216:=Tryz.func116.trans (congrArg some Kq0),
 f257:=Tryz.func107.trans (congrArg some Kq0),
 f294:=Tryz.func110.trans (congrArg some Kq0),
 f295:=Tryz.func111.trans (congrArg some Kq0),
 f296:=Tryz.func112.trans (congrArg some Kq0),
 f297:=Tryz.func113.trans (congrArg some Kq0),
 f298:=Tryz.func114.trans (congrArg some Kq0),
 f299:=Tryz.func115.trans (congrArg some Kq0),
 f300:=Tryz.func117.trans (congrArg some Kq0),
 f301:=Tryz.func118.trans (congrArg some Kq0),
 f328:=Tryz.func121.trans (congrArg some Kq0),
 f329:=Tryz.func122.trans (congrArg some Kq0),
 f330:=Tryz.func123.trans (congrArg some Kq0),
 f331:=Tryz.func124.trans (congrArg some Kq0),
 f332:=Tryz.func125.trans (congrArg some Kq0),
 f343:=Tryz.func127.trans (congrArg some Kq0),
 t0:=Tryz.underlying0,
 a0:=Tryz.isAgg0,
 z0:=Tryz.sizeOf0,
 v0:=Tryz.zeroValue0,
 t3:=Tryz.underlying3,
 a3:=Tryz.isAgg3,
 z3:=Tryz.sizeOf3,
 v3:=Tryz.zeroValue3,
 t4:=Tryz.underlying4,
 a4:=Tryz.isAgg4,
 z4:=Tryz.sizeOf4,
 v4:=Tryz.zeroValue4,
 t5:=Tryz.underlying5,
 a5:=Tryz.isAgg5,
 z5:=Tryz.sizeOf5,
 v5:=Tryz.zeroValue5,
 t9:=Tryz.underlying9,
 a9:=Tryz.isAgg9,
 z9:=Tryz.sizeOf9,
 v9:=Tryz.zeroValue9,
 t28:=Tryz.underlying22,
 a28:=Tryz.isAgg22,
 z28:=Tryz.sizeOf22,
 v28:=Tryz.zeroValue22,
 t46:=Tryz.underlying155,
 a46:=Tryz.isAgg155,
 z46:=Tryz.sizeOf155,
 v46:=Tryz.zeroValue155,
 t51:=Tryz.underlying165,
 a51:=Tryz.isAgg165,
 z51:=Tryz.sizeOf165,
 v51:=Tryz.zeroValue165,
 t53:=Tryz.underlying167,
 a53:=Tryz.isAgg167,
 z53:=Tryz.sizeOf167,
 v53:=Tryz.zeroValue167,
 t131:=Tryz.underlying69,
 a131:=Tryz.isAgg69,
 z131:=Tryz.sizeOf69,
 v131:=Tryz.zeroValue69,
 t182:=Tryz.underlying158,
 a182:=Tryz.isAgg158,
 z182:=Tryz.sizeOf158,
 v182:=Tryz.zeroValue158,
 t183:=Tryz.underlying159,
 a183:=Tryz.isAgg159,
 z183:=Tryz.sizeOf159,
 v183:=Tryz.zeroValue159,
 t218:=Tryz.underlying168,
 a218:=Tryz.isAgg168,
 z218:=Tryz.sizeOf168,
 v218:=Tryz.zeroValue168,
 t222:=Tryz.underlying172,
 a222:=Tryz.isAgg172,
 z222:=Tryz.sizeOf172,
 v222:=Tryz.zeroValue172,
 t228:=Tryz.underlying174,
 a228:=Tryz.isAgg174,
 z228:=Tryz.sizeOf174,
 v228:=Tryz.zeroValue174,
 t229:=Tryz.underlying175,
 a229:=Tryz.isAgg175,
 z229:=Tryz.sizeOf175,
 v229:=Tryz.zeroValue175}
theorem ZJE:ZAN XX.P 94:=fun blk off cap zs w h1 h2 h3=>Any.slices_Sort_int ZKa blk off cap zs w h1 h2 h3
theorem Zwj (wm:Nat) (h:H) (a:Option Addr) (c:Nat):YK XX (.call 94 #[.slice a 0 c] wm h) (.fin (.ret (.tuple #[])) h):=by
 have e:ev (cfg XX fun _=>false) 100 (.call 94 #[.slice a 0 c] wm h)=some (.fin (.ret (.tuple #[])) h):=Kq0
 exact ZfA (X:=XX) mixed 100 _ _ e
theorem Zzu {wm:Nat} {h:H} {p0:List Int} {Zi:Option Addr} {Zh XM:Nat} {r:List Int} (ZX:wm <=h.size) (hO:Yd (wm:=wm) [ow wm (Zu .i64) Zi XM Zh p0] h) (hL:Zrz p0=some r):
 WR XX 94 #[.slice Zi XM Zh] wm h (CP (fun(v:Value) (Gb:List (Ast wm))=>v= .tuple [].toArray∧Gb= [ow wm (Zu .i64) Zi XM Zh r]) [ow wm (Zu .i64) Zi XM Zh p0] h):=by
 unfold Zrz at hL;cases hb:Nat.ble p0.length 1000000 with
 | false=>rw [hb] at hL;cases hL
 | true=>
   rw [hb] at hL;cases hL;have:=Nl0 hb;exact ZBw ZJE Zwj (by omega) ZX hO
end Go.Proofs.YtbmbbcaaimehkaaGreat
end
end
section
namespace Go.Proofs.YtbmbbcaaimehkaaGreat
open Go.Lf
def Zjd (v17:Int) (Wi:(Int×Int×Int×Bool×Int ->Option (Yr×Int))):Int×Int×Bool×Int ->Option (Yr×Int):=fun(v29,v34,v35,v36)=>
 Wi (v29,Xa (v17 + 1),v34,v35,v36)
def Zf2 (v58:Int) (Zb5:(Int×Int×Int×Bool×Int ->Option (Yr×Int))):Int×Int×Bool×Int ->Option (Yr×Int):=fun(v69,v74,v75,v76)=>
 Zb5 (v69,Xa (v58 + 1),v74,v75,v76)
def Zjc (Zg9:Int) (ZcR:(Int×Int×Int×Bool×Int ->Option (Yr×Int))):Int×Int×Bool×Int ->Option (Yr×Int):=fun(Zel,ZBl,Zek,Zej)=>
 ZcR (Zel,Xa (Zg9 + 1),ZBl,Zek,Zej)
def ZmQ (p1:Int) (v58:Int) (Zb5:(Int×Int×Int×Bool×Int ->Option (Yr×Int))) (x77:Ze):Int×Int×Int×Bool×Int ->(Int×Int×Int×Bool×Int ->Option (Yr×Int)) ->Option (Yr×Int):=fun(v92,Zg9,Zda,ZnU,Zai) ZcR=>
 (bif decide (Zg9 < (x77.qV.length:Int)) then(ZQ x77.qV Zg9).bind fun Zj8=>(bif(Zj8==p1) then(ZQ x77.Yk Zg9).bind fun ZtU=>(Zjc Zg9 ZcR) (Xa (v92 + 1),x77.Z9,false,ZtU) else(Zjc Zg9 ZcR) (v92,Zda,ZnU,Zai)) else(Zf2 v58 Zb5) (v92,Zda,ZnU,Zai))
def Zje (F:Nat) (p0:Zb) (p1:Int):Int×Int×Int×Bool×Int ->(Int×Int×Int×Bool×Int ->Option (Yr×Int)) ->Option (Yr×Int):=fun(v54,v58,v60,v61,v62) Zb5=>
 (bif decide (v58 < (p0.qG.length:Int)) then(ZQ p0.qG v58).bind fun x77=>(bif(x77.kind !=2) then(Zf2 v58 Zb5) (v54,v60,v61,v62) else loop F (ZmQ p1 v58 Zb5 x77) (v54,0,v60,v61,v62)) else some ((Yr.mk v60 v61 v62),v54))
def ZmR (F:Nat) (p0:Zb) (p1:Int):Int×Int×Int×Bool×Int ->(Int×Int×Int×Bool×Int ->Option (Yr×Int)) ->Option (Yr×Int):=fun(v13,v17,v19,v20,v21) Wi=>
 (bif decide (v17 < (p0.qQ.length:Int)) then(ZQ p0.qQ v17).bind fun x37=>(ZQ x37 p1).bind fun x42=>(bif x42.here then(ZQ x37 p1).bind fun U6=>(Zjd v17 Wi) (Xa (v13 + 1),v17,true,U6.age) else(Zjd v17 Wi) (v13,v19,v20,v21)) else loop F (Zje F p0 p1) (v13,0,v19,v20,v21))
def ZdR (F:Nat) (p0:Zb) (p1:Int):Option (Yr×Int):=
 loop F (ZmR F p0 p1) (0,0,0,false,0)
def Zf0 (p0:Zb) (v23:Int) (KN:(Int ->Option Bool)):Int×Int ->(Int×Int ->Option Bool) ->Option Bool:=fun(v33,v35) Zij=>
 (bif decide (v35 >=0) then(bif decide ((Xa (v33 + 1)) > (p0.Zv.length:Int)) then some false else(ZQ p0.Zv v35).bind fun x41=>(gd (!(decide (x41 < (-1)))) (ZQ p0.Zv v35) default).bind fun x44=>(bif((decide (x41 < (-1))) || (decide (x44 >= (p0.Zv.length:Int)))) then some false else(ZQ p0.Zv v35).bind fun x47=>Zij (Xa (v33 + 1),x47))) else KN (Xa (v23 + 1)))
def Zf1 (F:Nat) (p0:Zb):Int ->(Int ->Option Bool) ->Option Bool:=fun v23 KN=>
 (bif decide (v23 < (p0.Zv.length:Int)) then(ZQ p0.Zv v23).bind fun Kn=>(bif((decide (Kn < (-1))) || (decide (Kn >= (p0.Zv.length:Int)))) then some false else loop F (Zf0 p0 v23 KN) (0,v23)) else some true)
def Zjb (F:Nat) (p0:Zb):Int ->(Int ->Option Bool) ->Option Bool:=fun v9 Zim=>
 (bif decide (v9 < (p0.qQ.length:Int)) then(ZQ p0.qQ v9).bind fun x12=>(bif((x12.length:Int) != (p0.Zv.length:Int)) then some false else Zim (Xa (v9 + 1))) else loop F (Zf1 F p0) 0)
def ZzE (F:Nat) (p0:Zb):Option Bool:=
 (bif((((((decide ((p0.qQ.length:Int) < 1)) || (decide ((p0.qQ.length:Int) > 5))) || (decide ((p0.Zv.length:Int) < 1))) || (decide ((p0.Zv.length:Int) > 8))) || ((p0.qK.length:Int) != (p0.Zv.length:Int))) || ((p0.qJ.length:Int) != (p0.qQ.length:Int))) then some false else loop F (Zjb F p0) 0)
def Zbh (v8:Int) (Ua:(Int ->Option Bool)):Unit ->Option Bool:=fun _=>
 Ua (Xa (v8 + 1))
def ZdQ (p0:Zb) (v8:Int) (Ua:(Int ->Option Bool)) (U1:Ze):Int ->(Int ->Option Bool) ->Option Bool:=fun v46 Zii=>
 (bif decide (v46 < (U1.qV.length:Int)) then(ZQ U1.qV v46).bind fun x49=>(gd ((!((decide (x49 < 0)) || (decide (x49 >= (p0.Zv.length:Int))))) && (decide (v46 > 0))) (ZQ U1.qV (Xa (v46 - 1))) default).bind fun x52=>(gd (!(((decide (x49 < 0)) || (decide (x49 >= (p0.Zv.length:Int)))) || ((decide (v46 > 0)) && (decide (x49 <=x52))))) (ZQ U1.Yk v46) default).bind fun x55=>(gd (!((((decide (x49 < 0)) || (decide (x49 >= (p0.Zv.length:Int)))) || ((decide (v46 > 0)) && (decide (x49 <=x52)))) || (decide (x55 < 1)))) (ZQ U1.Yk v46) default).bind fun x58=>(bif(((((decide (x49 < 0)) || (decide (x49 >= (p0.Zv.length:Int)))) || ((decide (v46 > 0)) && (decide (x49 <=x52)))) || (decide (x55 < 1))) || (decide (x58 > 30))) then some false else Zii (Xa (v46 + 1))) else(Zbh v8 Ua) ())
def ZdP (F:Nat) (p0:Zb) (v8:Int) (Ua:(Int ->Option Bool)) (U1:Ze):Bool ->Option Bool:=fun v35=>
 (bif v35 then(Zbh v8 Ua) () else(bif(U1.kind==2) then(bif((decide ((U1.qV.length:Int) < 1)) || ((U1.Yk.length:Int) != (U1.qV.length:Int))) then some false else loop F (ZdQ p0 v8 Ua U1) 0) else some false))
def Zao (F:Nat) (p0:Zb):Int ->(Int ->Option Bool) ->Option Bool:=fun v8 Ua=>
 (bif decide (v8 < (p0.qG.length:Int)) then(ZQ p0.qG v8).bind fun U1=>(bif(U1.kind==1) then(ZdP F p0 v8 Ua U1) (U1.kind==1) else(ZdP F p0 v8 Ua U1) (U1.kind==3)) else some true)
def Zu1 (F:Nat) (p0:Zb):Option Bool:=
 loop F (Zao F p0) 0
def ZmP (v33:Int) (Qy:((List Int)×Int ->Option Bool)) (x36:(List Zr)):(List Int)×Int ->((List Int)×Int ->Option Bool) ->Option Bool:=fun(v44,v54) Zxc=>
 (bif decide (v54 < (x36.length:Int)) then(ZQ x36 v54).bind fun x57=>(app 8 v44 [x57.msg]).bind fun z65=>Zxc (z65,Xa (v54 + 1)) else Qy (v44,Xa (v33 + 1)))
def Zi6 (v79:Int) (ZfI:((List Int)×Int ->Option Bool)):(List Int) ->Option Bool:=fun v85=>
 ZfI (v85,Xa (v79 + 1))
def Zbg (p0:ZV) (ZnK:(List Int)):Int ->(Int ->Option Bool) ->Option Bool:=fun Zg8 ZsT=>
 (bif decide (Zg8 < (ZnK.length:Int)) then(ZQ ZnK Zg8).bind fun Zdz=>(bif(Zdz !=Zg8) then some false else ZsT (Xa (Zg8 + 1))) else some ((ZnK.length:Int)==p0.Za.said))
def Zi7 (F:Nat) (p0:ZV):(List Int)×Int ->((List Int)×Int ->Option Bool) ->Option Bool:=fun(v72,v79) ZfI=>
 (bif decide (v79 < (p0.Za.qG.length:Int)) then(ZQ p0.Za.qG v79).bind fun x93=>(bif(x93.kind==1) then(app 8 v72 [x93.Yb.msg]).bind fun z105=>(Zi6 v79 ZfI) z105 else(Zi6 v79 ZfI) v72) else(Zrz v72).bind fun ZnK=>loop F (Zbg p0 ZnK) 0)
def Zi8 (F:Nat) (p0:ZV):(List Int)×Int ->((List Int)×Int ->Option Bool) ->Option Bool:=fun(v26,v33) Qy=>
 (bif decide (v33 < (p0.Za.qJ.length:Int)) then(ZQ p0.Za.qJ v33).bind fun x36=>loop F (ZmP v33 Qy x36) (v26,0) else loop F (Zi7 F p0) (v26,0))
def Zi9 (F:Nat) (p0:ZV):(List Int)×Int ->((List Int)×Int ->Option Bool) ->Option Bool:=fun(v4,v11) KO=>
 (bif decide (v11 < (p0.Za.qK.length:Int)) then(ZQ p0.Za.qK v11).bind fun x14=>(app 8 v4 x14).bind fun z19=>KO (z19,Xa (v11 + 1)) else loop F (Zi8 F p0) (v4,0))
def ZuZ (F:Nat) (p0:ZV):Option Bool:=
 (bif((decide (p0.Za.said < 0)) || (decide (p0.Za.said > 40))) then some false else loop F (Zi9 F p0) ([],0))
end Go.Proofs.YtbmbbcaaimehkaaGreat
end
section
set_option maxRecDepth 20000
noncomputable section
namespace Go.Proofs.YtbmbbcaaimehkaaGreat
open Go.YG Go.Lf
theorem Zco {F wm:Nat} {h:H} {p0:Zb} {p1:Int} {Zi:Option Addr} {Zh:Nat} {Zq:Option Addr} {Zo:Nat} {Zk:Option Addr} {Zj:Nat} {Zp:Option Addr} {Zn:Nat} {Zm:Option Addr} {Zl:Nat} {r:(Yr×Int)} (ZX:wm <=h.size) (ZA:Sl (Zu .i64) wm h Zi Zh p0.Zv) (ZM:Sl (ZE (Zu .i64)) wm h Zq Zo p0.qK) (ZL:Sl (ZE Zc) wm h Zk Zj p0.qQ) (ZN:Sl (ZE Zg) wm h Zp Zn p0.qJ) (ZK:Sl Zd wm h Zm Zl p0.qG) (hL:ZdR F p0 p1=some r):
 WR XX 67 #[.agg [.slice Zi p0.Zv.length Zh,.slice Zq p0.qK.length Zo,.slice Zk p0.qQ.length Zj,.slice Zp p0.qJ.length Zn,.slice Zm p0.qG.length Zl,.int .i64 p0.said].toArray,.int .i64 p1] wm h (CP (fun(v:Value) (Gb:List (Ast wm))=>v= .tuple [.agg [.int .i64 r.1.machine,.bool r.1.here,.int .i64 r.1.age].toArray,.int .i64 r.2].toArray∧Gb= []) [] h):=by
 refine bg Tryz.ntmps67 ZX Yd.nil ?_;intro T hT hS;unfold ZdR at hL;refine r3 ?_;rintro _ h2 ⟨b1,eb1,rfl,hS⟩;refine r1 ?_;rintro _ h4 ⟨b3,eb3,rfl,hS⟩;refine r6 ?_;rintro _ h6 ⟨b5,eb5,rfl,hS⟩;refine r16 ?_;refine r1 ?_;refine WC.loop (WL.lift hL (fun(p:Int×Int×Int×Bool×Int) (s:Fs)=>match p with | (v13,v17,v19,v20,v21)=>∃ (fr8:Fr) (h7:H),s= ⟨fr8,[],h7,none⟩∧Sp wm T h [bx wm b1 (cW p0 Zi Zh Zq Zo Zk Zj Zp Zn Zm Zl),bx wm b3 [.int .i64 0,.bool false,.int .i64 0],bx wm b5 [.int .i64 v19,.bool v20,.int .i64 v21]] h7∧fr8.at 1= .int .i64 p1∧fr8.at 2= .pointer (some ⟨b1,0,none⟩)∧fr8.at 4= .pointer (some ⟨b3,0,none⟩)∧fr8.at 6= .pointer (some ⟨b5,0,none⟩)∧fr8.at 7= .int .i64 v13∧fr8.at 15= .slice Zk p0.qQ.length Zj∧fr8.at 16= .int .i64 (p0.qQ.length:Int)∧fr8.at 17= .int .i64 v17) ⟨_,_,rfl,hS.only (.c k2 (.c k1 (.c k0 .n))),YH⟩ ?_);clear hL hS;rintro Wi ⟨v13,v17,v19,v20,v21⟩ s Zmr hL ⟨fr8,h7,rfl,hS,e9,e10,e11,e12,e14,e15,e16,e18⟩;dsimp only [ZmR] at hL;refine r6 ?_;refine cn hL ?_ ?_
 ·intro hc hL;refine r2 ?_;refine WC.Za2 (r:=r) (fun(p:Int×Int×Bool×Int) (s:Fs)=>match p with | (v29,v34,v35,v36)=>∃ (UY:Fr) (h23:H),s= ⟨UY,[],h23,none⟩∧Sp wm T h [bx wm b1 (cW p0 Zi Zh Zq Zo Zk Zj Zp Zn Zm Zl),bx wm b3 [.int .i64 0,.bool false,.int .i64 0],bx wm b5 [.int .i64 v34,.bool v35,.int .i64 v36]] h23∧UY.at 1= .int .i64 p1∧UY.at 2= .pointer (some ⟨b1,0,none⟩)∧UY.at 4= .pointer (some ⟨b3,0,none⟩)∧UY.at 6= .pointer (some ⟨b5,0,none⟩)∧UY.at 7= .int .i64 v29∧UY.at 15= .slice Zk p0.qQ.length Zj∧UY.at 16= .int .i64 (p0.qQ.length:Int)∧UY.at 17= .int .i64 v17) (Zjd v17 Wi) ?_ ?_
  ·clear hL hS;rintro⟨v29,v34,v35,v36⟩ s hL ⟨UY,h23,rfl,hS,e25,e26,e27,e28,e30,e31,e32,e33⟩;dsimp only [Zjd] at hL;refine r4 ?_;exact Yh.Y7 (Zmr _ _ hL ⟨_,_,rfl,hS.only (.c k0 (.c k0 (.c k0 .n))),YH⟩)
  ·skip;refine r4 ?_;obtain⟨x37,ZfP,hL⟩:=bind_some hL;obtain⟨b38,o39,⟨a40,c41⟩,ZiL,ZiR,ZiP,Zld⟩:=Sl.at_ ZL ZfP;refine WO.w gN rfl (ZH Uj QG lk lk rfl ZiL ZfP) ?_;have Zo1:Sl Zc wm h a40 c41 x37:=Zld;refine WO.w gN rfl (ZW UQ (Yt fh rfl) (At.fz hS.fz ZiP ZiR) (j:=0) rfl (v:= .slice a40 x37.length c41) rfl) ?_;refine r8 ?_;obtain⟨x42,ZqV,hL⟩:=bind_some hL;obtain⟨b43,o44,_,Zys,ZyZ,ZyJ,ZMn⟩:=Sl.at_ Zo1 ZqV;refine WO.w gN rfl (ZH Ui Xt lk lk rfl Zys ZqV) ?_;refine r1 ?_;refine WO.w gN rfl (ZW Zr6 (Yt fh rfl) (At.fz hS.fz ZyJ ZyZ) (j:=0) rfl (v:= .bool x42.here) rfl) ?_;refine r2 ?_;refine cn hL ?_ ?_
   ·intro hc hL;refine r4 ?_;refine r1 ?_;obtain⟨U6,ZoQ,hL⟩:=bind_some hL;obtain⟨b46,o47,_,Zpb,Zph,Zpe,Zpd⟩:=Sl.at_ Zo1 ZoQ;refine WO.w gN rfl (ZH Ui Xt lk lk rfl Zpb ZoQ) ?_;refine r1 ?_;refine WO.w gN rfl (ZW Xr (Yt fh rfl) (At.fz hS.fz Zpe Zph) (j:=2) rfl (v:= .int .i64 U6.age) rfl) ?_;refine WO.w gN rfl (XT ZrV (ZG lk (ZG lk (ZG lk Yf))) rfl (cs':= [.int .i64 v17,.bool true,.int .i64 U6.age]) rfl) ?_;refine r1 ?_;rintro h48 hS;refine r8 ?_;exact YT.Y7 _ hL ⟨_,_,rfl,hS.only (.c k1 (.c k1 (.c k0 .n))),YH⟩
   ·intro hc hL;refine r2 ?_;exact YT.Y7 _ hL ⟨_,_,rfl,hS.only (.c k0 (.c k0 (.c k0 .n))),YH⟩
 ·intro hc hL;refine XY ?_;refine r3 ?_;refine WC.loop (WL.lift hL (fun(p:Int×Int×Int×Bool×Int) (s:Fs)=>match p with | (v54,v58,v60,v61,v62)=>∃ (ZmC:Fr) (h49:H),s= ⟨ZmC,[],h49,none⟩∧Sp wm T h [bx wm b3 [.int .i64 0,.bool false,.int .i64 0],bx wm b5 [.int .i64 v60,.bool v61,.int .i64 v62]] h49∧ZmC.at 1= .int .i64 p1∧ZmC.at 4= .pointer (some ⟨b3,0,none⟩)∧ZmC.at 6= .pointer (some ⟨b5,0,none⟩)∧ZmC.at 7= .int .i64 v54∧ZmC.at 38= .slice Zm p0.qG.length Zl∧ZmC.at 39= .int .i64 (p0.qG.length:Int)∧ZmC.at 40= .int .i64 v58) ⟨_,_,rfl,hS.only (.c k1 (.c k1 .n)),YH⟩ ?_);clear hL hS;rintro Zb5 ⟨v54,v58,v60,v61,v62⟩ s ZB9 hL ⟨ZmC,h49,rfl,hS,e51,e52,e53,e55,e56,e57,e59⟩;dsimp only [Zje] at hL;refine r6 ?_;refine cn hL ?_ ?_
  ·intro hc hL;refine r2 ?_;refine WC.Za2 (r:=r) (fun(p:Int×Int×Bool×Int) (s:Fs)=>match p with | (v69,v74,v75,v76)=>∃ (ZbC:Fr) (h64:H),s= ⟨ZbC,[],h64,none⟩∧Sp wm T h [bx wm b3 [.int .i64 0,.bool false,.int .i64 0],bx wm b5 [.int .i64 v74,.bool v75,.int .i64 v76]] h64∧ZbC.at 1= .int .i64 p1∧ZbC.at 4= .pointer (some ⟨b3,0,none⟩)∧ZbC.at 6= .pointer (some ⟨b5,0,none⟩)∧ZbC.at 7= .int .i64 v69∧ZbC.at 38= .slice Zm p0.qG.length Zl∧ZbC.at 39= .int .i64 (p0.qG.length:Int)∧ZbC.at 40= .int .i64 v58) (Zf2 v58 Zb5) ?_ ?_
   ·clear hL hS;rintro⟨v69,v74,v75,v76⟩ s hL ⟨ZbC,h64,rfl,hS,e66,e67,e68,e70,e71,e72,e73⟩;dsimp only [Zf2] at hL;refine r4 ?_;exact Yh.Y7 (ZB9 _ _ hL ⟨_,_,rfl,hS.only (.c k0 (.c k0 .n)),YH⟩)
   ·skip;refine r3 ?_;obtain⟨x77,ZKq,hL⟩:=bind_some hL;obtain⟨b78,o79,⟨⟨a80,c81⟩,⟨a82,c83⟩⟩,ZLW,ZMZ,ZMx,ZEN⟩:=Sl.at_ ZK ZKq;refine WO.w gN rfl (ZH JR Y6 lk lk rfl ZLW ZKq) ?_;have ZKP:Sl (Zu .i64) wm h a80 c81 x77.qV:=ZEN.1;have ZKO:Sl (Zu .i64) wm h a82 c83 x77.Yk:=ZEN.2;refine WO.w gN rfl (Xj ZaT Y6 (Yt fh rfl) (At.fz hS.fz ZMx ZMZ) (j:=0) rfl rfl (ws:= (cL x77 a80 c81 a82 c83)) rfl) ?_;refine r1 ?_;rintro _ h85 ⟨b84,ZXB,rfl,hS⟩;refine r1 ?_;rintro h86 hS;refine r8 ?_;refine r2 ?_;refine cn hL ?_ ?_
    ·intro hc hL;refine r3 ?_;exact YT.Y7 _ hL ⟨_,_,rfl,hS.only (.c k1 (.c k1 .n)),YH⟩
    ·intro hc hL;refine r8 ?_;refine r3 ?_;refine WC.loop (WL.lift hL (fun(p:Int×Int×Int×Bool×Int) (s:Fs)=>match p with | (v92,Zg9,Zda,ZnU,Zai)=>∃ (ZfU:Fr) (h87:H),s= ⟨ZfU,[],h87,none⟩∧Sp wm T h [bx wm b3 [.int .i64 0,.bool false,.int .i64 0],bx wm b5 [.int .i64 Zda,.bool ZnU,.int .i64 Zai],bx wm b84 (cL x77 a80 c81 a82 c83)] h87∧ZfU.at 1= .int .i64 p1∧ZfU.at 4= .pointer (some ⟨b3,0,none⟩)∧ZfU.at 6= .pointer (some ⟨b5,0,none⟩)∧ZfU.at 7= .int .i64 v92∧ZfU.at 11= .pointer (some ⟨b84,0,none⟩)∧ZfU.at 38= .slice Zm p0.qG.length Zl∧ZfU.at 39= .int .i64 (p0.qG.length:Int)∧ZfU.at 40= .int .i64 v58∧ZfU.at 48= .slice a80 x77.qV.length c81∧ZfU.at 49= .int .i64 (x77.qV.length:Int)∧ZfU.at 50= .int .i64 Zg9) ⟨_,_,rfl,hS.only (.c k1 (.c k1 (.c k0 .n))),YH⟩ ?_);clear hL hS;rintro ZcR ⟨v92,Zg9,Zda,ZnU,Zai⟩ s Zx7 hL ⟨ZfU,h87,rfl,hS,e89,e90,e91,e93,e94,e95,e96,e97,e98,e99,ZNP⟩;dsimp only [ZmQ] at hL;refine r6 ?_;refine cn hL ?_ ?_
     ·intro hc hL;refine r2 ?_;refine WC.Za2 (r:=r) (fun(p:Int×Int×Bool×Int) (s:Fs)=>match p with | (Zel,ZBl,Zek,Zej)=>∃ (ZaO:Fr) (Zy7:H),s= ⟨ZaO,[],Zy7,none⟩∧Sp wm T h [bx wm b3 [.int .i64 0,.bool false,.int .i64 0],bx wm b5 [.int .i64 ZBl,.bool Zek,.int .i64 Zej],bx wm b84 (cL x77 a80 c81 a82 c83)] Zy7∧ZaO.at 1= .int .i64 p1∧ZaO.at 4= .pointer (some ⟨b3,0,none⟩)∧ZaO.at 6= .pointer (some ⟨b5,0,none⟩)∧ZaO.at 7= .int .i64 Zel∧ZaO.at 11= .pointer (some ⟨b84,0,none⟩)∧ZaO.at 38= .slice Zm p0.qG.length Zl∧ZaO.at 39= .int .i64 (p0.qG.length:Int)∧ZaO.at 40= .int .i64 v58∧ZaO.at 48= .slice a80 x77.qV.length c81∧ZaO.at 49= .int .i64 (x77.qV.length:Int)∧ZaO.at 50= .int .i64 Zg9) (Zjc Zg9 ZcR) ?_ ?_
      ·clear hL hS;rintro⟨Zel,ZBl,Zek,Zej⟩ s hL ⟨ZaO,Zy7,rfl,hS,e108,e109,ZNM,ZSm,ZSl,ZC5,e115,e116,e117,e118,e119⟩;dsimp only [Zjc] at hL;refine r4 ?_;exact Yh.Y7 (Zx7 _ _ hL ⟨_,_,rfl,hS.only (.c k0 (.c k0 (.c k0 .n))),YH⟩)
      ·skip;refine r4 ?_;obtain⟨Zj8,ZoY,hL⟩:=bind_some hL;obtain⟨ZOo,ZP7,_,Zq9,Zre,Zrb,ZGQ⟩:=Sl.at_ ZKP ZoY;refine WO.w gN rfl (ZH YI YJ lk lk rfl Zq9 ZoY) ?_;refine WO.w gN rfl (ZW Xr (Yt fh rfl) (At.fz hS.fz Zrb Zre) (j:=0) rfl (v:= .int .i64 Zj8) rfl) ?_;refine r8 ?_;refine r3 ?_;refine cn hL ?_ ?_
       ·intro hc hL;refine r1 ?_;refine WC.Xw mixed Kq0 ?_;refine r4 ?_;refine r1 ?_;obtain⟨ZtU,ZEq,hL⟩:=bind_some hL;obtain⟨ZZG,ZVR,_,ZGF,ZHs,ZGZ,ZRq⟩:=Sl.at_ ZKO ZEq;refine WX.w gN rfl (ZH YI YJ lk lk rfl ZGF ZEq) ?_ rfl;refine WX.w gN rfl (ZW Xr (Yt fh rfl) (At.fz hS.fz ZGZ ZHs) (j:=0) rfl (v:= .int .i64 ZtU) rfl) ?_ rfl;refine WX.w gN rfl (XT ZrV (ZG lk (ZG lk (ZG lk Yf))) rfl (cs':= [.int .i64 x77.Z9,.bool false,.int .i64 ZtU]) rfl) ?_ rfl;refine WX.hu gN (Za3 hS k1 Wp lk lk (vs:= [.int .i64 x77.Z9,.bool false,.int .i64 ZtU]) rfl rfl rfl rfl (cs':= [.int .i64 x77.Z9,.bool false,.int .i64 ZtU]) rfl) ?_ rfl rfl [] Kq0 YO.e;rintro ZRR hS;refine r8 ?_;exact YT.Y7 _ hL ⟨_,_,rfl,hS.only (.c k1 (.c k0 (.c k0 .n))),YH⟩
       ·intro hc hL;refine r2 ?_;exact YT.Y7 _ hL ⟨_,_,rfl,hS.only (.c k0 (.c k0 (.c k0 .n))),YH⟩
     ·intro hc hL;refine r4 ?_;refine r1 ?_;exact YT.Y7 _ hL ⟨_,_,rfl,hS.only (.c k0 (.c k0 .n)),YH⟩
  ·intro hc hL;refine r8 ?_;refine r2 ?_;rintro ZCs hS;refine r4 ?_;have hr:=Oi0 hL;subst hr;exact Yo.gen (vs:= [.agg [.int .i64 v60,.bool v61,.int .i64 v62].toArray,.int .i64 v54]) rfl (Xf (Y1 rfl e52) (Kv Znw Wp (hS.atB k0) (j:=0) rfl rfl (ws:= [.int .i64 v60,.bool v61,.int .i64 v62]) rfl) (ZU lk ZC)) rfl ⟨_,⟨rfl,rfl⟩,hT ▸ hS.only .n⟩
theorem ZH3 {F wm:Nat} {h:H} {p0:Zb} {Zi:Option Addr} {Zh:Nat} {Zq:Option Addr} {Zo:Nat} {Zk:Option Addr} {Zj:Nat} {Zp:Option Addr} {Zn:Nat} {Zm:Option Addr} {Zl:Nat} {r:Bool} (ZX:wm <=h.size) (ZA:Sl (Zu .i64) wm h Zi Zh p0.Zv) (ZM:Sl (ZE (Zu .i64)) wm h Zq Zo p0.qK) (ZL:Sl (ZE Zc) wm h Zk Zj p0.qQ) (ZN:Sl (ZE Zg) wm h Zp Zn p0.qJ) (ZK:Sl Zd wm h Zm Zl p0.qG) (hL:ZzE F p0=some r):
 WR XX 68 #[.agg [.slice Zi p0.Zv.length Zh,.slice Zq p0.qK.length Zo,.slice Zk p0.qQ.length Zj,.slice Zp p0.qJ.length Zn,.slice Zm p0.qG.length Zl,.int .i64 p0.said].toArray] wm h (CP (fun(v:Value) (Gb:List (Ast wm))=>v= .bool r∧Gb= []) [] h):=by
 refine bg Tryz.ntmps68 ZX Yd.nil ?_;intro T hT hS;unfold ZzE at hL;refine r3 ?_;rintro _ h2 ⟨b1,eb1,rfl,hS⟩;refine r4 ?_;refine WC.Xw mixed Kq0 ?_;refine r16 ?_;refine r16 ?_;refine r8 ?_;refine r3 ?_;refine cn hL ?_ ?_
 ·intro hc hL;refine r6 ?_;refine r1 ?_;exact rt hL hT hS
 ·intro hc hL;refine XY ?_;refine WC.loop (WL.lift hL (fun(v9:Int) (s:Fs)=>∃ (K4:Fr) (h3:H),s= ⟨K4,[],h3,none⟩∧Sp wm T h [bx wm b1 (cW p0 Zi Zh Zq Zo Zk Zj Zp Zn Zm Zl)] h3∧K4.at 1= .pointer (some ⟨b1,0,none⟩)∧K4.at 4= .int .i64 (p0.Zv.length:Int)∧K4.at 46= .slice Zk p0.qQ.length Zj∧K4.at 47= .int .i64 (p0.qQ.length:Int)∧K4.at 48= .int .i64 v9) ⟨_,_,rfl,hS.only (.c k0 .n),YH⟩ ?_);clear hL hS;rintro Zim v9 s Zmu hL ⟨K4,h3,rfl,hS,e5,e6,e7,e8,e10⟩;dsimp only [Zjb] at hL;refine r6 ?_;refine cn hL ?_ ?_
  ·intro hc hL;refine r6 ?_;obtain⟨x12,ZqX,hL⟩:=bind_some hL;obtain⟨b13,o14,⟨a15,c16⟩,ZyC,Zy5,ZyO,ZyG⟩:=Sl.at_ ZL ZqX;refine WO.w gN rfl (ZH Uj QG lk lk rfl ZyC ZqX) ?_;have ZEw:Sl Zc wm h a15 c16 x12:=ZyG;refine WO.w gN rfl (ZW UQ (Yt fh rfl) (At.fz hS.fz ZyO Zy5) (j:=0) rfl (v:= .slice a15 x12.length c16) rfl) ?_;refine r8 ?_;refine r3 ?_;refine cn hL ?_ ?_
   ·intro hc hL;refine r8 ?_;refine r3 ?_;exact rt hL hT hS
   ·intro hc hL;refine r6 ?_;refine r1 ?_;exact Yh.Y7 (Zmu _ _ hL ⟨_,_,rfl,hS.only (.c k0 .n),YH⟩)
  ·intro hc hL;refine XY ?_;refine r3 ?_;refine WC.loop (WL.lift hL (fun(v23:Int) (s:Fs)=>∃ (Zrt:Fr) (h17:H),s= ⟨Zrt,[],h17,none⟩∧Sp wm T h [bx wm b1 (cW p0 Zi Zh Zq Zo Zk Zj Zp Zn Zm Zl)] h17∧Zrt.at 1= .pointer (some ⟨b1,0,none⟩)∧Zrt.at 4= .int .i64 (p0.Zv.length:Int)∧Zrt.at 58= .slice Zi p0.Zv.length Zh∧Zrt.at 59= .int .i64 (p0.Zv.length:Int)∧Zrt.at 60= .int .i64 v23) ⟨_,_,rfl,hS.only (.c k0 .n),YH⟩ ?_);clear hL hS;rintro KN v23 s Zmq hL ⟨Zrt,h17,rfl,hS,e19,e20,e21,e22,e24⟩;dsimp only [Zf1] at hL;refine r6 ?_;refine cn hL ?_ ?_
   ·intro hc hL;refine r6 ?_;refine r1 ?_;obtain⟨Kn,Zkk,hL⟩:=bind_some hL;obtain⟨b27,o28,_,ZL7,ZNc,ZMM,ZTT⟩:=Sl.at_ ZA Zkk;refine WO.w gN rfl (ZH YI YJ lk lk rfl ZL7 Zkk) ?_;refine WO.w gN rfl (ZW Xr (Yt fh rfl) (At.fz hS.fz ZMM ZNc) (j:=0) rfl (v:= .int .i64 Kn) rfl) ?_;refine r16 ?_;refine cn hL ?_ ?_
    ·intro hc hL;refine XY ?_;exact rt hL hT hS
    ·intro hc hL;refine XY ?_;refine r2 ?_;refine WC.loop (WL.lift hL (fun(p:Int×Int) (s:Fs)=>match p with | (v33,v35)=>∃ (Zdc:Fr) (h29:H),s= ⟨Zdc,[],h29,none⟩∧Sp wm T h [bx wm b1 (cW p0 Zi Zh Zq Zo Zk Zj Zp Zn Zm Zl)] h29∧Zdc.at 1= .pointer (some ⟨b1,0,none⟩)∧Zdc.at 4= .int .i64 (p0.Zv.length:Int)∧Zdc.at 9= .int .i64 v33∧Zdc.at 10= .int .i64 v35∧Zdc.at 58= .slice Zi p0.Zv.length Zh∧Zdc.at 59= .int .i64 (p0.Zv.length:Int)∧Zdc.at 60= .int .i64 v23) ⟨_,_,rfl,hS.only (.c k0 .n),YH⟩ ?_);clear hL hS;rintro Zij ⟨v33,v35⟩ s Zmn hL ⟨Zdc,h29,rfl,hS,e31,e32,e34,e36,e37,e38,e39⟩;dsimp only [Zf0] at hL;refine r6 ?_;refine r1 ?_;refine cn hL ?_ ?_
     ·intro hc hL;refine r16 ?_;refine r3 ?_;refine cn hL ?_ ?_
      ·intro hc hL;refine r16 ?_;exact rt hL hT hS
      ·intro hc hL;refine r6 ?_;refine r1 ?_;obtain⟨x41,ZxF,hL⟩:=bind_some hL;obtain⟨b42,o43,_,Zyt,Zy0,ZyK,ZMo⟩:=Sl.at_ ZA ZxF;refine WO.w gN rfl (ZH YI YJ lk lk rfl Zyt ZxF) ?_;refine WO.w gN rfl (ZW Xr (Yt fh rfl) (At.fz hS.fz ZyK Zy0) (j:=0) rfl (v:= .int .i64 x41) rfl) ?_;refine r4 ?_;refine r1 ?_;obtain⟨x44,ZBS,hL⟩:=Yq hL;obtain⟨b45,o46,_,hQ⟩:=Sl.atG (fun hg=>ZA) ZBS;have ZL4:=fun hg=>(hQ hg).1
       have ZM8:=fun hg=>(hQ hg).2.1
       have ZMJ:=fun hg=>(hQ hg).2.2.1
       have ZTQ:=fun hg=>(hQ hg).2.2.2
       refine WO.gv (Zt.no rfl rfl rfl (YB rfl (Zz rfl fh))) rfl (fun hg=>(ZH YI YJ (YW (Zz rfl fh) rfl hg) (YW fh rfl hg) rfl (ZL4 hg) (ZBS hg))) ?_;refine WO.gv (Zt.no rfl rfl rfl (Y1 rfl fh)) rfl (fun hg=>(ZW Xr (YW fh rfl hg) (At.fz hS.fz (ZMJ hg) (ZM8 hg)) (j:=0) rfl (v:= .int .i64 x44) rfl)) ?_;refine r4 ?_;refine r1 ?_;refine cn hL ?_ ?_
       ·intro hc hL;refine XY ?_;refine r3 ?_;exact rt hL hT hS
       ·intro hc hL;refine r6 ?_;refine r1 ?_;obtain⟨x47,ZKw,hL⟩:=bind_some hL;obtain⟨b48,o49,_,ZL3,ZM7,ZMI,ZTP⟩:=Sl.at_ ZA ZKw;refine WO.w gN rfl (ZH YI YJ lk lk rfl ZL3 ZKw) ?_;refine WO.w gN rfl (ZW Xr (Yt fh rfl) (At.fz hS.fz ZMI ZM7) (j:=0) rfl (v:= .int .i64 x47) rfl) ?_;refine r2 ?_;exact Yh.Y7 (Zmn _ _ hL ⟨_,_,rfl,hS.only (.c k0 .n),YH⟩)
     ·intro hc hL;refine r8 ?_;refine r2 ?_;exact Yh.Y7 (Zmq _ _ hL ⟨_,_,rfl,hS.only (.c k0 .n),YH⟩)
   ·intro hc hL;refine r8 ?_;refine r3 ?_;exact rt hL hT hS
theorem ZH1 {F wm:Nat} {h:H} {p0:Zb} {Zi:Option Addr} {Zh:Nat} {Zq:Option Addr} {Zo:Nat} {Zk:Option Addr} {Zj:Nat} {Zp:Option Addr} {Zn:Nat} {Zm:Option Addr} {Zl:Nat} {r:Bool} (ZX:wm <=h.size) (ZA:Sl (Zu .i64) wm h Zi Zh p0.Zv) (ZM:Sl (ZE (Zu .i64)) wm h Zq Zo p0.qK) (ZL:Sl (ZE Zc) wm h Zk Zj p0.qQ) (ZN:Sl (ZE Zg) wm h Zp Zn p0.qJ) (ZK:Sl Zd wm h Zm Zl p0.qG) (hL:Zu1 F p0=some r):
 WR XX 69 #[.agg [.slice Zi p0.Zv.length Zh,.slice Zq p0.qK.length Zo,.slice Zk p0.qQ.length Zj,.slice Zp p0.qJ.length Zn,.slice Zm p0.qG.length Zl,.int .i64 p0.said].toArray] wm h (CP (fun(v:Value) (Gb:List (Ast wm))=>v= .bool r∧Gb= []) [] h):=by
 refine bg Tryz.ntmps69 ZX Yd.nil ?_;intro T hT hS;unfold Zu1 at hL;refine r3 ?_;rintro _ h2 ⟨b1,eb1,rfl,hS⟩;refine XY ?_;refine r1 ?_;refine WC.loop (WL.lift hL (fun(v8:Int) (s:Fs)=>∃ (K4:Fr) (h3:H),s= ⟨K4,[],h3,none⟩∧Sp wm T h [bx wm b1 (cW p0 Zi Zh Zq Zo Zk Zj Zp Zn Zm Zl)] h3∧K4.at 1= .pointer (some ⟨b1,0,none⟩)∧K4.at 8= .slice Zm p0.qG.length Zl∧K4.at 9= .int .i64 (p0.qG.length:Int)∧K4.at 10= .int .i64 v8) ⟨_,_,rfl,hS.only (.c k0 .n),YH⟩ ?_);clear hL hS;rintro Ua v8 s Zmv hL ⟨K4,h3,rfl,hS,e5,e6,e7,e9⟩;dsimp only [Zao] at hL;refine r6 ?_;refine cn hL ?_ ?_
 ·intro hc hL;refine r2 ?_;refine WC.Za2 (r:=r) (fun(_:Unit) (s:Fs)=>∃ (ZuV:Fr) (h11:H),s= ⟨ZuV,[],h11,none⟩∧Sp wm T h [bx wm b1 (cW p0 Zi Zh Zq Zo Zk Zj Zp Zn Zm Zl)] h11∧ZuV.at 1= .pointer (some ⟨b1,0,none⟩)∧ZuV.at 8= .slice Zm p0.qG.length Zl∧ZuV.at 9= .int .i64 (p0.qG.length:Int)∧ZuV.at 10= .int .i64 v8) (Zbh v8 Ua) ?_ ?_
  ·clear hL hS;rintro _ s hL ⟨ZuV,h11,rfl,hS,e13,e14,e15,e16⟩;dsimp only [Zbh] at hL;refine r4 ?_;exact Yh.Y7 (Zmv _ _ hL ⟨_,_,rfl,hS.only (.c k0 .n),YH⟩)
  ·skip;refine r3 ?_;obtain⟨U1,ZoU,hL⟩:=bind_some hL;obtain⟨b18,o19,⟨⟨a20,c21⟩,⟨a22,c23⟩⟩,ZMa,ZNf,ZMQ,ZEQ⟩:=Sl.at_ ZK ZoU;refine WO.w gN rfl (ZH JR Y6 lk lk rfl ZMa ZoU) ?_;have ZEv:Sl (Zu .i64) wm h a20 c21 U1.qV:=ZEQ.1;have ZEu:Sl (Zu .i64) wm h a22 c23 U1.Yk:=ZEQ.2;refine WO.w gN rfl (Xj ZaT Y6 (Yt fh rfl) (At.fz hS.fz ZMQ ZNf) (j:=0) rfl rfl (ws:= (cL U1 a20 c21 a22 c23)) rfl) ?_;refine r1 ?_;rintro _ h25 ⟨b24,ZNI,rfl,hS⟩;refine r1 ?_;rintro h26 hS;refine r8 ?_;refine r2 ?_;refine WC.Za2 (r:=r) (fun(v35:Bool) (s:Fs)=>∃ (ZmD:Fr) (h27:H),s= ⟨ZmD,[],h27,none⟩∧Sp wm T h [bx wm b1 (cW p0 Zi Zh Zq Zo Zk Zj Zp Zn Zm Zl),bx wm b24 (cL U1 a20 c21 a22 c23)] h27∧ZmD.at 1= .pointer (some ⟨b1,0,none⟩)∧ZmD.at 4= .pointer (some ⟨b24,0,none⟩)∧ZmD.at 8= .slice Zm p0.qG.length Zl∧ZmD.at 9= .int .i64 (p0.qG.length:Int)∧ZmD.at 10= .int .i64 v8∧ZmD.at 15= .int .i64 U1.kind∧ZmD.at 16= .bool v35) (ZdP F p0 v8 Ua U1) ?_ ?_
   ·clear hL hS;rintro v35 s hL ⟨ZmD,h27,rfl,hS,e29,e30,e31,e32,e33,e34,e36⟩;dsimp only [ZdP] at hL;refine cn hL ?_ ?_
    ·intro hc hL;refine r1 ?_;refine U0.other rfl ?_;refine r2 ?_;exact YT.Y7 _ hL ⟨_,_,rfl,hS.only (.c k0 .n),YH⟩
    ·intro hc hL;refine r6 ?_;refine cn hL ?_ ?_
     ·intro hc hL;refine r16 ?_;refine r1 ?_;refine cn hL ?_ ?_
      ·intro hc hL;refine r8 ?_;refine r1 ?_;refine YT.ret ?_;refine r3 ?_;exact rt hL hT hS
      ·intro hc hL;refine XY ?_;refine WC.loop (WL.lift hL (fun(v46:Int) (s:Fs)=>∃ (ZaN:Fr) (h37:H),s= ⟨ZaN,[],h37,none⟩∧Sp wm T h [bx wm b1 (cW p0 Zi Zh Zq Zo Zk Zj Zp Zn Zm Zl),bx wm b24 (cL U1 a20 c21 a22 c23)] h37∧ZaN.at 1= .pointer (some ⟨b1,0,none⟩)∧ZaN.at 4= .pointer (some ⟨b24,0,none⟩)∧ZaN.at 8= .slice Zm p0.qG.length Zl∧ZaN.at 9= .int .i64 (p0.qG.length:Int)∧ZaN.at 10= .int .i64 v8∧ZaN.at 35= .slice a20 U1.qV.length c21∧ZaN.at 36= .int .i64 (U1.qV.length:Int)∧ZaN.at 37= .int .i64 v46) ⟨_,_,rfl,hS.only (.c k0 (.c k0 .n)),YH⟩ ?_);clear hL hS;rintro Zii v46 s Zmm hL ⟨ZaN,h37,rfl,hS,e39,e40,e41,e42,e43,e44,e45,e47⟩;dsimp only [ZdQ] at hL;refine r6 ?_;refine cn hL ?_ ?_
       ·intro hc hL;refine r6 ?_;refine r1 ?_;obtain⟨x49,ZoP,hL⟩:=bind_some hL;obtain⟨b50,o51,_,Zpa,Zpg,ZyI,Ztk⟩:=Sl.at_ ZEv ZoP;refine WO.w gN rfl (ZH YI YJ lk lk rfl Zpa ZoP) ?_;refine WO.w gN rfl (ZW Xr (Yt fh rfl) (At.fz hS.fz ZyI Zpg) (j:=0) rfl (v:= .int .i64 x49) rfl) ?_;refine r16 ?_;refine r8 ?_;obtain⟨x52,ZxD,hL⟩:=Yq hL;obtain⟨b53,o54,_,hQ⟩:=Sl.atG (fun hg=>ZEv) ZxD;have Zyq:=fun hg=>(hQ hg).1
        have ZyW:=fun hg=>(hQ hg).2.1
        have ZMG:=fun hg=>(hQ hg).2.2.1
        have ZMl:=fun hg=>(hQ hg).2.2.2
        refine WO.gv (Zt.Zj6 rfl rfl rfl (Y1 rfl (Zz rfl fh))) rfl (fun hg=>(ZH YI YJ (YW (YB rfl fh) rfl hg) (YW fh rfl hg) rfl (Zyq hg) (ZxD hg))) ?_;refine WO.gv (Zt.Zj6 rfl rfl rfl (Y1 rfl (YB rfl fh))) rfl (fun hg=>(ZW Xr (YW fh rfl hg) (At.fz hS.fz (ZMG hg) (ZyW hg)) (j:=0) rfl (v:= .int .i64 x52) rfl)) ?_;refine r1 ?_;refine WO.gv (Zt.no rfl rfl rfl (YZ rfl (YB rfl (Zz rfl fh)))) rfl (fun hg=>(Zgv (YW (YZ rfl fh) rfl hg) (Zds fh hg) lk)) ?_;refine r4 ?_;refine r1 ?_;obtain⟨x55,Zmk,hL⟩:=Yq hL;obtain⟨b56,o57,_,hQ⟩:=Sl.atG (fun hg=>ZEu) Zmk;have Zyp:=fun hg=>(hQ hg).1
        have ZyU:=fun hg=>(hQ hg).2.1
        have ZME:=fun hg=>(hQ hg).2.2.1
        have ZMj:=fun hg=>(hQ hg).2.2.2
        refine WO.gv (Zt.no rfl rfl rfl (YB rfl (Zz rfl fh))) rfl (fun hg=>(ZH YI YJ (YW (Zz rfl fh) rfl hg) (YW fh rfl hg) rfl (Zyp hg) (Zmk hg))) ?_;refine WO.gv (Zt.no rfl rfl rfl (Y1 rfl fh)) rfl (fun hg=>(ZW Xr (YW fh rfl hg) (At.fz hS.fz (ZME hg) (ZyU hg)) (j:=0) rfl (v:= .int .i64 x55) rfl)) ?_;refine r6 ?_;obtain⟨x58,ZxC,hL⟩:=Yq hL;obtain⟨b59,o60,_,hQ⟩:=Sl.atG (fun hg=>ZEu) ZxC;have Zyo:=fun hg=>(hQ hg).1
        have ZyT:=fun hg=>(hQ hg).2.1
        have ZMC:=fun hg=>(hQ hg).2.2.1
        have ZMi:=fun hg=>(hQ hg).2.2.2
        refine WO.gv (Zt.no rfl rfl rfl (YB rfl (Zz rfl fh))) rfl (fun hg=>(ZH YI YJ (YW (Zz rfl fh) rfl hg) (YW fh rfl hg) rfl (Zyo hg) (ZxC hg))) ?_;refine WO.gv (Zt.no rfl rfl rfl (Y1 rfl fh)) rfl (fun hg=>(ZW Xr (YW fh rfl hg) (At.fz hS.fz (ZMC hg) (ZyT hg)) (j:=0) rfl (v:= .int .i64 x58) rfl)) ?_;refine r4 ?_;refine cn hL ?_ ?_
        ·intro hc hL;refine r8 ?_;refine r3 ?_;refine YT.ret ?_;refine r3 ?_;exact rt hL hT hS
        ·intro hc hL;refine r6 ?_;refine r1 ?_;exact Yh.Y7 (Zmm _ _ hL ⟨_,_,rfl,hS.only (.c k0 (.c k0 .n)),YH⟩)
       ·intro hc hL;refine r4 ?_;refine r1 ?_;exact YT.Y7 _ hL ⟨_,_,rfl,hS.only (.c k0 .n),YH⟩
     ·intro hc hL;refine r8 ?_;refine r1 ?_;refine YT.ret ?_;refine r3 ?_;exact rt hL hT hS
   ·skip;refine r6 ?_;refine cn hL ?_ ?_
    ·intro hc hL;refine r1 ?_;exact YT.Y7 _ hL ⟨_,_,rfl,hS.only (.c k1 (.c k0 .n)),YH⟩
    ·intro hc hL;refine r4 ?_;exact YT.Y7 _ hL ⟨_,_,rfl,hS.only (.c k1 (.c k0 .n)),YH⟩
 ·intro hc hL;refine r8 ?_;refine r3 ?_;exact rt hL hT hS
theorem ZH2 {F:Nat} {h:H} {p0:Zb} {Zi:Option Addr} {Zh:Nat} {Zq:Option Addr} {Zo:Nat} {Zk:Option Addr} {Zj:Nat} {Zp:Option Addr} {Zn:Nat} {Zm:Option Addr} {Zl:Nat} {r:Bool} (ZA:Sl (Zu .i64) h.size h Zi Zh p0.Zv) (ZM:Sl (ZE (Zu .i64)) h.size h Zq Zo p0.qK) (ZL:Sl (ZE Zc) h.size h Zk Zj p0.qQ) (ZN:Sl (ZE Zg) h.size h Zp Zn p0.qJ) (ZK:Sl Zd h.size h Zm Zl p0.qG) (hL:Zu1 F p0=some r):Pure XX 69 #[.agg [.slice Zi p0.Zv.length Zh,.slice Zq p0.qK.length Zo,.slice Zk p0.qQ.length Zj,.slice Zp p0.qJ.length Zn,.slice Zm p0.qG.length Zl,.int .i64 p0.said].toArray] h (.bool r):=
 WR.Qb rfl (ZH1 (Nat.le_refl _) ZA ZM ZL ZN ZK hL)
theorem ZHW {F wm:Nat} {h:H} {p0:ZV} {Zi:Option Addr} {Zh:Nat} {Zq:Option Addr} {Zo:Nat} {Zk:Option Addr} {Zj:Nat} {Zp:Option Addr} {Zn:Nat} {Zm:Option Addr} {Zl:Nat} {Z4:Option Addr} {Z0 YX WW:Nat} {r:Bool} (ZX:wm <=h.size) (XR:At h YX WW [.slice Zi p0.Za.Zv.length Zh,.slice Zq p0.Za.qK.length Zo,.slice Zk p0.Za.qQ.length Zj,.slice Zp p0.Za.qJ.length Zn,.slice Zm p0.Za.qG.length Zl,.int .i64 p0.Za.said,.slice Z4 p0.Y2.length Z0]) (XQ:Stb wm h YX) (ZA:Sl (Zu .i64) wm h Zi Zh p0.Za.Zv) (ZM:Sl (ZE (Zu .i64)) wm h Zq Zo p0.Za.qK) (ZL:Sl (ZE Zc) wm h Zk Zj p0.Za.qQ) (ZN:Sl (ZE Zg) wm h Zp Zn p0.Za.qJ) (ZK:Sl Zd wm h Zm Zl p0.Za.qG) (Xo:Sl XA wm h Z4 Z0 p0.Y2) (hL:ZuZ F p0=some r):
 WR XX 72 #[.pointer (some ⟨YX,WW,none⟩)] wm h (CP (fun(v:Value) (Gb:List (Ast wm))=>v= .bool r∧Gb= []) [] h):=by
 refine bg Tryz.ntmps72 ZX Yd.nil ?_;intro T hT hS;unfold ZuZ at hL;refine XY ?_;refine WO.w gN rfl (ZW Xr (Yt fh rfl) (At.fz hS.fz XQ XR) (j:=5) rfl (v:= .int .i64 p0.Za.said) rfl) ?_;refine r6 ?_;refine WO.gv (Zt.no rfl rfl rfl (Y1 rfl fh)) rfl (fun hg=>(ZW Xr (YW fh rfl hg) (At.fz hS.fz XQ XR) (j:=5) rfl (v:= .int .i64 p0.Za.said) rfl)) ?_;refine r4 ?_;refine cn hL ?_ ?_
 ·intro hc hL;refine r6 ?_;refine r1 ?_;exact rt hL hT hS
 ·intro hc hL;refine XY ?_;refine r2 ?_;refine WO.w gN rfl (ZW ZAx (Yt fh rfl) (At.fz hS.fz XQ XR) (j:=1) rfl (v:= .slice Zq p0.Za.qK.length Zo) rfl) ?_;refine r4 ?_;refine r1 ?_;have hS:=hS.nil (e:= (Zu .i64));refine WC.loop (WL.lift hL (fun(p:(List Int)×Int) (s:Fs)=>match p with | (v4,v11)=>∃ (Qp:Fr) (h1:H) (a5:Option Addr) (c6:Nat) (n7:Nat),s= ⟨Qp,[],h1,none⟩∧Sp wm T h [ow wm (Zu .i64) a5 n7 c6 v4] h1∧Qp.at 0= .pointer (some ⟨YX,WW,none⟩)∧Qp.at 3= .slice a5 n7 c6∧Qp.at 32= .slice Zq p0.Za.qK.length Zo∧Qp.at 33= .int .i64 (p0.Za.qK.length:Int)∧Qp.at 34= .int .i64 v11) ⟨_,_,none,0,0,rfl,hS.only (.c k0 .n),YH⟩ ?_);clear hL hS;rintro KO ⟨v4,v11⟩ s Zbe hL ⟨Qp,h1,a5,c6,n7,rfl,hS,e3,e8,e9,e10,e12⟩;obtain rfl:=hS.on k0;dsimp only [Zi9] at hL;refine r6 ?_;refine cn hL ?_ ?_
  ·intro hc hL;refine r6 ?_;obtain⟨x14,ZiA,hL⟩:=bind_some hL;obtain⟨b15,o16,⟨a17,c18⟩,ZiM,ZiS,ZiQ,ZiO⟩:=Sl.at_ ZM ZiA;refine WO.w gN rfl (ZH Zen U7 lk lk rfl ZiM ZiA) ?_;have ZiC:Sl (Zu .i64) wm h a17 c18 x14:=ZiO;refine WO.w gN rfl (ZW Zg6 (Yt fh rfl) (At.fz hS.fz ZiQ ZiS) (j:=0) rfl (v:= .slice a17 x14.length c18) rfl) ?_;refine r6 ?_;obtain⟨z19,ZQo,hL⟩:=bind_some hL;refine WO.hv gN rfl (KG (e:= (Zu .i64)) hS k0 JL lk lk (Sl.src (hS.sl ZiC)) rfl ZQo) ?_;rintro _ h22 ⟨a20,c21,rfl,hS⟩;refine r8 ?_;exact Yh.Y7 (Zbe _ _ hL ⟨_,_,a20,c21,z19.length,rfl,hS.only (.c k0 .n),YH⟩)
  ·intro hc hL;refine XY ?_;refine WO.w gN rfl (ZW ZtN (Yt fh rfl) (At.fz hS.fz XQ XR) (j:=3) rfl (v:= .slice Zp p0.Za.qJ.length Zn) rfl) ?_;refine r4 ?_;refine r1 ?_;refine WC.loop (WL.lift hL (fun(p:(List Int)×Int) (s:Fs)=>match p with | (v26,v33)=>∃ (UY:Fr) (h23:H) (a27:Option Addr) (c28:Nat) (n29:Nat),s= ⟨UY,[],h23,none⟩∧Sp wm T h [ow wm (Zu .i64) a27 n29 c28 v26] h23∧UY.at 0= .pointer (some ⟨YX,WW,none⟩)∧UY.at 3= .slice a27 n29 c28∧UY.at 46= .slice Zp p0.Za.qJ.length Zn∧UY.at 47= .int .i64 (p0.Za.qJ.length:Int)∧UY.at 48= .int .i64 v33) ⟨_,_,a5,c6,v4.length,rfl,hS.only (.c k0 .n),YH⟩ ?_);clear hL hS;rintro Qy ⟨v26,v33⟩ s Zmp hL ⟨UY,h23,a27,c28,n29,rfl,hS,e25,e30,e31,e32,e34⟩;obtain rfl:=hS.on k0;dsimp only [Zi8] at hL;refine r6 ?_;refine cn hL ?_ ?_
   ·intro hc hL;refine r6 ?_;obtain⟨x36,ZxG,hL⟩:=bind_some hL;obtain⟨b37,o38,⟨a39,c40⟩,Zyu,Zy1,ZyL,ZEP⟩:=Sl.at_ ZN ZxG;refine WO.w gN rfl (ZH K9 Jl lk lk rfl Zyu ZxG) ?_;have ZKY:Sl Zg wm h a39 c40 x36:=ZEP;refine WO.w gN rfl (ZW Zdw (Yt fh rfl) (At.fz hS.fz ZyL Zy1) (j:=0) rfl (v:= .slice a39 x36.length c40) rfl) ?_;refine r8 ?_;refine r3 ?_;refine WC.loop (WL.lift hL (fun(p:(List Int)×Int) (s:Fs)=>match p with | (v44,v54)=>∃ (Zkr:Fr) (h41:H) (a45:Option Addr) (c46:Nat) (n47:Nat),s= ⟨Zkr,[],h41,none⟩∧Sp wm T h [ow wm (Zu .i64) a45 n47 c46 v44] h41∧Zkr.at 0= .pointer (some ⟨YX,WW,none⟩)∧Zkr.at 3= .slice a45 n47 c46∧Zkr.at 46= .slice Zp p0.Za.qJ.length Zn∧Zkr.at 47= .int .i64 (p0.Za.qJ.length:Int)∧Zkr.at 48= .int .i64 v33∧Zkr.at 52= .slice a39 x36.length c40∧Zkr.at 53= .int .i64 (x36.length:Int)∧Zkr.at 54= .int .i64 v54) ⟨_,_,a27,c28,v26.length,rfl,hS.only (.c k0 .n),YH⟩ ?_);clear hL hS;rintro Zxc ⟨v44,v54⟩ s ZCe hL ⟨Zkr,h41,a45,c46,n47,rfl,hS,e43,e48,e49,e50,e51,e52,e53,e55⟩;obtain rfl:=hS.on k0;dsimp only [ZmP] at hL;refine r6 ?_;refine cn hL ?_ ?_
    ·intro hc hL;refine r6 ?_;obtain⟨x57,ZKu,hL⟩:=bind_some hL;obtain⟨b58,o59,_,ZL1,ZM4,ZMD,ZTM⟩:=Sl.at_ ZKY ZKu;refine WO.w gN rfl (ZH Zbt Uz lk lk rfl ZL1 ZKu) ?_;refine WO.w gN rfl (Xj Zlu Uz (Yt fh rfl) (At.fz hS.fz ZMD ZM4) (j:=0) rfl rfl (ws:= (cM x57)) rfl) ?_;refine r1 ?_;rintro _ h61 ⟨b60,ZR1,rfl,hS⟩;refine r1 ?_;rintro h62 hS;refine r6 ?_;refine WO.hn gN rfl (ZaD (e:= (Zu .i64)) hS YI YJ Zbs rfl rfl rfl (ZG lk Yf) rfl [((),x57.msg)] rfl (xs:= [x57.msg]) rfl (by intro q hq;simp only [List.mem_cons,List.not_mem_nil,or_false] at hq;subst hq;exact trivial) rfl) ?_;rintro _ h64 ⟨b63,ZXJ,rfl,hS⟩;obtain⟨z65,ZQi,hL⟩:=bind_some hL;refine WO.hv gN rfl (KG (e:= (Zu .i64)) hS k2 JL lk lk (hS.QT k0) (hS.on k0) ZQi) ?_;rintro _ h68 ⟨a66,c67,rfl,hS⟩;refine r8 ?_;exact Yh.Y7 (ZCe _ _ hL ⟨_,_,a66,c67,z65.length,rfl,hS.only (.c k0 .n),YH⟩)
    ·intro hc hL;refine r8 ?_;refine r2 ?_;exact Yh.Y7 (Zmp _ _ hL ⟨_,_,a45,c46,v44.length,rfl,hS.only (.c k0 .n),YH⟩)
   ·intro hc hL;refine XY ?_;refine WO.w gN rfl (ZW ZAw (Yt fh rfl) (At.fz hS.fz XQ XR) (j:=4) rfl (v:= .slice Zm p0.Za.qG.length Zl) rfl) ?_;refine r4 ?_;refine r1 ?_;refine WC.loop (WL.lift hL (fun(p:(List Int)×Int) (s:Fs)=>match p with | (v72,v79)=>∃ (Zrl:Fr) (h69:H) (a73:Option Addr) (c74:Nat) (n75:Nat),s= ⟨Zrl,[],h69,none⟩∧Sp wm T h [ow wm (Zu .i64) a73 n75 c74 v72] h69∧Zrl.at 0= .pointer (some ⟨YX,WW,none⟩)∧Zrl.at 3= .slice a73 n75 c74∧Zrl.at 69= .slice Zm p0.Za.qG.length Zl∧Zrl.at 70= .int .i64 (p0.Za.qG.length:Int)∧Zrl.at 71= .int .i64 v79) ⟨_,_,a27,c28,v26.length,rfl,hS.only (.c k0 .n),YH⟩ ?_);clear hL hS;rintro ZfI ⟨v72,v79⟩ s ZB4 hL ⟨Zrl,h69,a73,c74,n75,rfl,hS,e71,e76,e77,e78,e80⟩;obtain rfl:=hS.on k0;dsimp only [Zi7] at hL;refine r6 ?_;refine cn hL ?_ ?_
    ·intro hc hL;refine r2 ?_;refine WC.Za2 (r:=r) (fun(v85:(List Int)) (s:Fs)=>∃ (Zrj:Fr) (h82:H) (a86:Option Addr) (c87:Nat) (n88:Nat),s= ⟨Zrj,[],h82,none⟩∧Sp wm T h [ow wm (Zu .i64) a86 n88 c87 v85] h82∧Zrj.at 0= .pointer (some ⟨YX,WW,none⟩)∧Zrj.at 3= .slice a86 n88 c87∧Zrj.at 69= .slice Zm p0.Za.qG.length Zl∧Zrj.at 70= .int .i64 (p0.Za.qG.length:Int)∧Zrj.at 71= .int .i64 v79) (Zi6 v79 ZfI) ?_ ?_
     ·clear hL hS;rintro v85 s hL ⟨Zrj,h82,a86,c87,n88,rfl,hS,e84,e89,e90,e91,e92⟩;obtain rfl:=hS.on k0;dsimp only [Zi6] at hL;refine r4 ?_;exact Yh.Y7 (ZB4 _ _ hL ⟨_,_,a86,c87,v85.length,rfl,hS.only (.c k0 .n),YH⟩)
     ·skip;refine r3 ?_;obtain⟨x93,hx93,hL⟩:=bind_some hL;obtain⟨b94,o95,⟨⟨a96,c97⟩,⟨a98,c99⟩⟩,Zyl,ZyP,ZyH,Zpc⟩:=Sl.at_ ZK hx93;refine WO.w gN rfl (ZH JR Y6 lk lk rfl Zyl hx93) ?_;have ZKN:Sl (Zu .i64) wm h a96 c97 x93.qV:=Zpc.1;have ZKM:Sl (Zu .i64) wm h a98 c99 x93.Yk:=Zpc.2;refine WO.w gN rfl (Xj ZaT Y6 (Yt fh rfl) (At.fz hS.fz ZyH ZyP) (j:=0) rfl rfl (ws:= (cL x93 a96 c97 a98 c99)) rfl) ?_;refine r1 ?_;rintro _ ZuO ⟨Zcv,ZEY,rfl,hS⟩;refine r1 ?_;rintro ZNy hS;refine r8 ?_;refine r1 ?_;refine cn hL ?_ ?_
      ·intro hc hL;refine r4 ?_;refine r1 ?_;refine WO.hn gN rfl (ZaD (e:= (Zu .i64)) hS YI YJ Zbs rfl rfl rfl (ZG lk Yf) rfl [((),x93.Yb.msg)] rfl (xs:= [x93.Yb.msg]) rfl (by intro q hq;simp only [List.mem_cons,List.not_mem_nil,or_false] at hq;subst hq;exact trivial) rfl) ?_;rintro _ ZHD ⟨ZSK,ZNL,rfl,hS⟩;obtain⟨z105,ZxA,hL⟩:=bind_some hL;refine WO.hv gN rfl (KG (e:= (Zu .i64)) hS k2 JL lk lk (hS.QT k0) (hS.on k0) ZxA) ?_;rintro _ ZRV ⟨ZIY,c107,rfl,hS⟩;refine r3 ?_;exact YT.Y7 _ hL ⟨_,_,ZIY,c107,z105.length,rfl,hS.only (.c k0 .n),YH⟩
      ·intro hc hL;refine r2 ?_;exact YT.Y7 _ hL ⟨_,_,a73,c74,v72.length,rfl,hS.only (.c k1 .n),YH⟩
    ·intro hc hL;refine r8 ?_;obtain⟨ZnK,ZKK,hL⟩:=bind_some hL;refine WO.cl gN rfl (Xg.fn ZEB (Zf lk Zy)) hS (.c k0 .n) (fun g' hz hf hO=>Zzu (by rw [hz];exact hS.hw) hO ZKK) ?_;rintro _ ZRU _ ⟨rfl,rfl⟩ hS;refine r6 ?_;refine WO.w gN rfl (Zc6 YI lk (congrArg Nat.cast (hS.on k0))) ?_;refine r4 ?_;refine WC.loop (WL.lift hL (fun(Zg8:Int) (s:Fs)=>∃ (Qq:Fr) (h112:H),s= ⟨Qq,[],h112,none⟩∧Sp wm T h [ow wm (Zu .i64) a73 v72.length c74 ZnK] h112∧Qq.at 0= .pointer (some ⟨YX,WW,none⟩)∧Qq.at 3= .slice a73 v72.length c74∧Qq.at 87= .slice a73 v72.length c74∧Qq.at 88= .int .i64 (ZnK.length:Int)∧Qq.at 89= .int .i64 Zg8) ⟨_,_,rfl,hS.only (.c k0 .n),YH⟩ ?_);clear hL hS;rintro ZsT Zg8 s Zx2 hL ⟨Qq,h112,rfl,hS,ZC5,e115,e116,e117,e119⟩;dsimp only [Zbg] at hL;refine r6 ?_;refine cn hL ?_ ?_
     ·intro hc hL;refine r6 ?_;refine r1 ?_;obtain⟨Zdz,ZiB,hL⟩:=bind_some hL;obtain⟨ZOp,ZP8,_,Zra,Zrf,ZGR⟩:=Src.at_ (hS.QT k0) ZiB;refine WO.w gN rfl (ZH YI YJ lk lk (hS.on k0) Zra ZiB) ?_;refine WO.w gN rfl (ZW Xr (Yt fh rfl) Zrf (j:=0) rfl (v:= .int .i64 Zdz) rfl) ?_;refine r8 ?_;refine r3 ?_;refine cn hL ?_ ?_
      ·intro hc hL;refine r8 ?_;refine r3 ?_;exact rt hL hT hS
      ·intro hc hL;refine r6 ?_;refine r1 ?_;exact Yh.Y7 (Zx2 _ _ hL ⟨_,_,rfl,hS.only (.c k0 .n),YH⟩)
     ·intro hc hL;refine r8 ?_;refine WO.w gN rfl (Zc6 YI lk (congrArg Nat.cast (hS.on k0))) ?_;refine r4 ?_;refine WO.w gN rfl (ZW Xr (Yt fh rfl) (At.fz hS.fz XQ XR) (j:=5) rfl (v:= .int .i64 p0.Za.said) rfl) ?_;refine r4 ?_;refine r1 ?_;exact rt hL hT hS
theorem ZHX {F:Nat} {h:H} {p0:ZV} {Zi:Option Addr} {Zh:Nat} {Zq:Option Addr} {Zo:Nat} {Zk:Option Addr} {Zj:Nat} {Zp:Option Addr} {Zn:Nat} {Zm:Option Addr} {Zl:Nat} {Z4:Option Addr} {Z0 YX WW:Nat} {r:Bool} (XR:At h YX WW [.slice Zi p0.Za.Zv.length Zh,.slice Zq p0.Za.qK.length Zo,.slice Zk p0.Za.qQ.length Zj,.slice Zp p0.Za.qJ.length Zn,.slice Zm p0.Za.qG.length Zl,.int .i64 p0.Za.said,.slice Z4 p0.Y2.length Z0]) (XQ:Stb h.size h YX) (ZA:Sl (Zu .i64) h.size h Zi Zh p0.Za.Zv) (ZM:Sl (ZE (Zu .i64)) h.size h Zq Zo p0.Za.qK) (ZL:Sl (ZE Zc) h.size h Zk Zj p0.Za.qQ) (ZN:Sl (ZE Zg) h.size h Zp Zn p0.Za.qJ) (ZK:Sl Zd h.size h Zm Zl p0.Za.qG) (Xo:Sl XA h.size h Z4 Z0 p0.Y2) (hL:ZuZ F p0=some r):Pure XX 72 #[.pointer (some ⟨YX,WW,none⟩)] h (.bool r):=
 WR.Qb rfl (ZHW (Nat.le_refl _) XR XQ ZA ZM ZL ZN ZK Xo hL)
end Go.Proofs.YtbmbbcaaimehkaaGreat
end
end
section
namespace Go.Proofs.YtbmbbcaaimehkaaGreat
open Go.Lf
def ZmO (p0:(List Int)):Option (List Int):=
 (app 8 ([]:List Int) p0).bind fun z3=>some z3
def ZmM (p0:(List (List Int))):(List (List Int))×Int ->((List (List Int))×Int ->Option (List (List Int))) ->Option (List (List Int)):=fun(v3,v11) KO=>
 (bif decide (v11 < (p0.length:Int)) then(ZQ p0 v11).bind fun x14=>(ZmO x14).bind fun x19=>(app 24 v3 [x19]).bind fun z27=>KO (z27,Xa (v11 + 1)) else some v3)
def ZzA (F:Nat) (p0:(List (List Int))):Option (List (List Int)):=
 loop F (ZmM p0) ([],0)
def Zi5 (p0:Z6) (p1:Int) (p2:Int) (x1:(Yr×Int)) (x31:(List Int)):Int×(List ZI)×(List Int)×(List (List Zw)) ->(Int×(List ZI)×(List Int)×(List (List Zw)) ->Option Z6) ->Option Z6:=fun(v45,v47,v51,v55) Zxb=>
 (bif decide (v45 < (x31.length:Int)) then(ZQ x31 v45).bind fun x58=>(ZQ v55 x1.1.machine).bind fun x61=>(ZQ x61 x58).bind fun x67=>(app 8 v51 [Xa (x67.age + 1)]).bind fun z76=>(app 40 v47 [(ZI.mk 2 x58 x1.1.machine p2 0)]).bind fun z83=>Zxb (Xa (v45 + 1),z83,z76,Yv v55 x1.1.machine (Yv x61 x58 (Zw.mk false p2 (Xa (x67.age + 1))))) else(app 128 p0.Za.qG [(Ze.mk 2 p2 (Zr.mk 0 0 0 0 0) x31 v51 0 0 0)]).bind fun z95=>some (Z6.mk (Zb.mk (Yv p0.Za.Zv p1 (-1)) p0.Za.qK v55 p0.Za.qJ z95 p0.Za.said) v47))
def ZmJ (F:Nat) (p0:Z6) (p1:Int) (p2:Int) (x1:(Yr×Int)):(List Int) ->Option Z6:=fun v25=>
 (Zrz v25).bind fun x31=>loop F (Zi5 p0 p1 p2 x1 x31) (0,p0.qX,[],p0.Za.qQ)
def ZrC (p0:Z6) (p1:Int) (v107:Int) (Zhs:(Int×(List Int) ->Option (Bool×(List Int)))):Int×(List Int) ->(Int×(List Int) ->Option (Bool×(List Int))) ->Option (Bool×(List Int)):=fun(ZnS,v138) Zl9=>
 (bif decide (ZnS < ((Yv p0.Za.Zv p1 (-1)).length:Int)) then(ZQ (Yv p0.Za.Zv p1 (-1)) ZnS).bind fun ZFj=>(bif(ZFj==v107) then(Zhs (ZnS,v138)).bind fun(ZJy,Zv9)=>(bif(!ZJy) then some (false,Zv9) else Zl9 (Xa (ZnS + 1),Zv9)) else Zl9 (Xa (ZnS + 1),v138)) else some (true,v138))
def Zi4 (F:Nat) (p0:Z6) (p1:Int):Int×(List Int) ->(Int×(List Int) ->Option (Bool×(List Int))) ->Option (Bool×(List Int)):=fun(v107,Zqp) Zhs=>
 (app 8 Zqp [v107]).bind fun z124=>(bif(!true) then some (false,z124) else loop F (ZrC p0 p1 v107 Zhs) (0,z124))
def Zzw (F:Nat) (p0:Z6) (p1:Int) (p2:Int):Option Z6:=
 (ZdR F p0.Za p1).bind fun x1=>(ZQ p0.Za.Zv p1).bind fun x7=>(loop F (Zi4 F p0 p1) (p1,[])).bind fun(ZhT,v159)=>(ZmJ F p0 p1 p2 x1) v159
def ZuX (p0:Ze):Option Bool:=
 (bif(p0.kind==1) then some ((!(((p0.place !=0) || (p0.at_ !=0)) || (p0.age !=0))) && (!((decide ((p0.qV.length:Int) > 0)) || (decide ((p0.Yk.length:Int) > 0))))) else(bif(p0.kind==2) then some ((((!(((p0.place !=0) || (p0.at_ !=0)) || (p0.age !=0))) && (!(!(JI p0.Yb (Zr.mk 0 0 0 0 0))))) && (decide ((p0.qV.length:Int) > 0))) && ((p0.qV.length:Int)== (p0.Yk.length:Int))) else(bif(p0.kind==3) then some ((!(!(JI p0.Yb (Zr.mk 0 0 0 0 0)))) && (!((decide ((p0.qV.length:Int) > 0)) || (decide ((p0.Yk.length:Int) > 0))))) else some false)))
def Zzv (p0:(List Ze)) (p1:Int) (p2:Int):Option (List Ze):=
 (slL p0 p1 p2).bind fun z1=>(bif(p1==p2) then some p0 else(slL p0 0 p1).bind fun z4=>(slL p0 p2 (p0.length:Int)).bind fun z13=>(app 128 z4 z13).bind fun z17=>some z17)
end Go.Proofs.YtbmbbcaaimehkaaGreat
end
section
set_option maxRecDepth 20000
noncomputable section
namespace Go.Proofs.YtbmbbcaaimehkaaGreat
open Go.YG Go.Lf
theorem ZmN {wm:Nat} {h:H} {p0:(List Int)} {Zi:Option Addr} {Zh:Nat} {r:(List Int)} (ZX:wm <=h.size) (ZA:Sl (Zu .i64) wm h Zi Zh p0) (hL:ZmO p0=some r):
 WR XX 80 #[.slice Zi p0.length Zh] wm h (CP (fun(v:Value) (Gb:List (Ast wm))=>∃ (Ql:Option Addr) (Qj:Nat) (Qk:Nat),v= .slice Ql Qj Qk∧Gb= [ow wm (Zu .i64) Ql Qj Qk r]) [] h):=by
 refine bg Tryz.ntmps80 ZX Yd.nil ?_;intro T hT hS;unfold ZmO at hL;refine r8 ?_;rcases Sl.cases ZA with⟨rfl,rfl,rfl⟩ | ⟨qa,rfl⟩
 ·
  refine r1 ?_;refine WO.w gN rfl (Uf (Yt fh rfl) (evC rfl) (ZgB YI)) ?_;refine r2 ?_;refine WC.Znh lk rfl ?_;rw [Zr1 _ (by decide)] at hL;replace hL:some []=some r:=hL;refine r6 ?_;refine r1 ?_;have hS:=hS.nil (e:= (Zu .i64));have hr:=Oi0 hL;subst hr;exact Yo.Qg rfl (ZU lk ZC) ⟨_,⟨none,0,0,rfl,rfl⟩,hT ▸ hS.only (.c k0 .n)⟩
 ·
  refine r1 ?_;refine WO.w gN rfl (Uf (Yt fh rfl) (evC rfl) (ZgC YI)) ?_;refine r2 ?_;refine WC.ZdW lk rfl ?_;refine r4 ?_;refine WO.hn gN rfl (ZaD (e:= (Zu .i64)) hS YI YJ Zbs rfl rfl rfl Yf rfl [] rfl (xs:= ([]:List Int)) rfl (by intro q hq;cases hq) rfl) ?_;rintro _ h2 ⟨b1,eb1,rfl,hS⟩;refine r1 ?_;obtain⟨z3,hz3,hL⟩:=bind_some hL;refine WO.hv gN rfl (KG (e:= (Zu .i64)) hS k0 JL lk lk (Sl.src (hS.sl ZA)) rfl hz3) ?_;rintro _ h6 ⟨a4,c5,rfl,hS⟩;refine r4 ?_;have hr:=Oi0 hL;subst hr;exact Yo.Qg rfl (ZU lk ZC) ⟨_,⟨a4,z3.length,c5,rfl,rfl⟩,hT ▸ hS.only (.c k0 .n)⟩
theorem ZHT {F wm:Nat} {h:H} {p0:(List (List Int))} {Zi:Option Addr} {Zh:Nat} {r:(List (List Int))} (ZX:wm <=h.size) (ZA:Sl (ZE (Zu .i64)) wm h Zi Zh p0) (hL:ZzA F p0=some r):
 WR XX 81 #[.slice Zi p0.length Zh] wm h (CP (fun(v:Value) (Gb:List (Ast wm))=>∃ (Ql:Option Addr) (Qj:Nat) (Qk:Nat) (Zex:Nat ->Option Addr×Nat×Nat),v= .slice Ql Qj Qk∧Gb= [Xb wm (Z5 (Zu .i64)) Ql Qj Qk Zex r]) [] h):=by
 refine bg Tryz.ntmps81 ZX Yd.nil ?_;intro T hT hS;unfold ZzA at hL;refine r16 ?_;refine r3 ?_;have hS:=hS.Zl0 (e:= (Z5 (Zu .i64))) (ps:=fun _=>(Z5 (Zu .i64)).dflt);refine WC.loop (WL.lift hL (fun(p:(List (List Int))×Int) (s:Fs)=>match p with | (v3,v11)=>∃ (Qp:Fr) (h1:H) (a4:Option Addr) (c5:Nat) (n6:Nat) (ps7:Nat ->Option Addr×Nat×Nat),s= ⟨Qp,[],h1,none⟩∧Sp wm T h [Xb wm (Z5 (Zu .i64)) a4 n6 c5 ps7 v3] h1∧Qp.at 3= .slice a4 n6 c5∧Qp.at 6= .slice Zi p0.length Zh∧Qp.at 7= .int .i64 (p0.length:Int)∧Qp.at 8= .int .i64 v11) ⟨_,_,none,0,0,(fun _=>(Z5 (Zu .i64)).dflt),rfl,hS.only (.c k0 .n),YH⟩ ?_);clear hL hS;rintro KO ⟨v3,v11⟩ s Zbe hL ⟨Qp,h1,a4,c5,n6,ps7,rfl,hS,e8,e9,e10,e12⟩;obtain rfl:=hS.Xm k0;dsimp only [ZmM] at hL;refine r6 ?_;refine cn hL ?_ ?_
 ·intro hc hL;refine r6 ?_;obtain⟨x14,ZiA,hL⟩:=bind_some hL;obtain⟨b15,o16,⟨a17,c18⟩,ZiM,ZiS,ZiQ,ZiO⟩:=Sl.at_ ZA ZiA;refine WO.w gN rfl (ZH Zen U7 lk lk rfl ZiM ZiA) ?_;have ZiC:Sl (Zu .i64) wm h a17 c18 x14:=ZiO;refine WO.w gN rfl (ZW Zg6 (Yt fh rfl) (At.fz hS.fz ZiQ ZiS) (j:=0) rfl (v:= .slice a17 x14.length c18) rfl) ?_;refine r6 ?_;obtain⟨x19,ZqW,hL⟩:=bind_some hL;refine WO.cl gN rfl (Xg.fn Ztd (Zf lk Zy)) hS .n (fun g' hz hf hO=>ZmN (by rw [hz];exact hS.hw) ((hS.sl ZiC).mono hf) ZqW) ?_;rintro _ h23 _ ⟨a20,n21,c22,rfl,rfl⟩ hS;obtain rfl:=hS.on k0;refine WO.hn gN rfl (Zwx (e:= (Zu .i64)) (x:=x19) hS k0 Zen U7 ZvU rfl rfl (ZG lk Yf) rfl rfl) ?_;rintro _ h26 ⟨b25,ZNH,rfl,hS⟩;obtain⟨z27,Zxz,hL⟩:=bind_some hL;refine WO.hv gN rfl (Zwy (e:= (Z5 (Zu .i64))) hS (.c k1 (.c k0 .n)) ZAn lk lk Zxz) ?_;rintro _ h31 ⟨a28,c29,ZwL,rfl,hS⟩;refine r8 ?_;exact Yh.Y7 (Zbe _ _ hL ⟨_,_,a28,c29,z27.length,ZwL,rfl,hS.only (.c k0 .n),YH⟩)
 ·intro hc hL;refine XY ?_;have hr:=Oi0 hL;subst hr;exact Yo.Qg rfl (ZU lk ZC) ⟨_,⟨a4,v3.length,c5,ps7,rfl,rfl⟩,hT ▸ hS.only (.c k0 .n)⟩
theorem ZHQ {F wm:Nat} {h:H} {p0:Z6} {p1 p2:Int} {Zi:Option Addr} {Zh XM:Nat} {Zq:Option Addr} {Zo Je:Nat} {YF:Nat ->Option Addr×Nat×Nat} {Zk:Option Addr} {Zj Jd:Nat} {YQ:Nat ->Option Addr×Nat×Nat} {Zp:Option Addr} {Zn Jc:Nat} {YE:Nat ->Option Addr×Nat×Nat} {Zm:Option Addr} {Zl Jb:Nat} {Z4:Option Addr} {Z0 Qm YX:Nat} {r:Z6} (ZX:wm <=h.size) (hO:Yd (wm:=wm) [bx wm YX (cG Zi XM Zh Zq Je Zo Zk Jd Zj Zp Jc Zn Zm Jb Zl p0.Za.said Z4 Qm Z0),ow wm (Zu .i64) Zi XM Zh p0.Za.Zv,Xb wm (Z5 (Zu .i64)) Zq Je Zo YF p0.Za.qK,Xb wm (Z5 Zc) Zk Jd Zj YQ p0.Za.qQ,Xb wm (Z5 Zg) Zp Jc Zn YE p0.Za.qJ,ow wm Zd Zm Jb Zl p0.Za.qG,ow wm ZP Z4 Qm Z0 p0.qX] h) (hL:Zzw F p0 p1 p2=some r):
 WR XX 85 #[.pointer (some ⟨YX,0,none⟩),.int .i64 p1,.int .i64 p2] wm h (CP (fun(v:Value) (Gb:List (Ast wm))=>∃ (JA:Option Addr) (UF:Nat) (Jt:Nat) (Jz:Option Addr) (UE:Nat) (Js:Nat) (UI:Nat ->Option Addr×Nat×Nat) (Jy:Option Addr) (UD:Nat) (Jr:Nat) (UH:Nat ->Option Addr×Nat×Nat) (Jw:Option Addr) (UC:Nat) (Jq:Nat) (UG:Nat ->Option Addr×Nat×Nat) (Jv:Option Addr) (UB:Nat) (Jp:Nat) (Ju:Option Addr) (Jm:Nat) (Jo:Nat),v= .tuple [].toArray∧Gb= [bx wm YX (cG JA UF Jt Jz UE Js Jy UD Jr Jw UC Jq Jv UB Jp r.Za.said Ju Jm Jo),ow wm (Zu .i64) JA UF Jt r.Za.Zv,Xb wm (Z5 (Zu .i64)) Jz UE Js UI r.Za.qK,Xb wm (Z5 Zc) Jy UD Jr UH r.Za.qQ,Xb wm (Z5 Zg) Jw UC Jq UG r.Za.qJ,ow wm Zd Jv UB Jp r.Za.qG,ow wm ZP Ju Jm Jo r.qX]) [bx wm YX (cG Zi XM Zh Zq Je Zo Zk Jd Zj Zp Jc Zn Zm Jb Zl p0.Za.said Z4 Qm Z0),ow wm (Zu .i64) Zi XM Zh p0.Za.Zv,Xb wm (Z5 (Zu .i64)) Zq Je Zo YF p0.Za.qK,Xb wm (Z5 Zc) Zk Jd Zj YQ p0.Za.qQ,Xb wm (Z5 Zg) Zp Jc Zn YE p0.Za.qJ,ow wm Zd Zm Jb Zl p0.Za.qG,ow wm ZP Z4 Qm Z0 p0.qX] h):=by
 refine bg Tryz.ntmps85 ZX hO ?_;intro T hT hS;unfold Zzw at hL;obtain rfl:=hS.on k1;obtain rfl:=hS.Xm k2;obtain rfl:=hS.Xm k3;obtain rfl:=hS.Xm k4;obtain rfl:=hS.on k5;obtain rfl:=hS.on k6;refine r6 ?_;refine r1 ?_;obtain⟨x1,hx1,hL⟩:=bind_some hL;refine WO.clR gN rfl (Xg.fn ZgX (Zf lk (Zf lk Zy))) hS.hw (Zco (Nat.le_refl _) (hS.ord k1) (hS.nrd k2 ZqL) (hS.nrd k3 ZqL) (hS.nrd k4 ZqL) (hS.ord k5) hx1) ?_;rintro _ h2 _ ⟨rfl,rfl⟩ hR3;have hS:=hS.clR hR3 .n;refine r4 ?_;rintro _ h5 ⟨b4,eb4,rfl,hS⟩;refine r1 ?_;rintro h6 hS;refine r8 ?_;refine r3 ?_;obtain⟨x7,hx7,hL⟩:=bind_some hL;obtain⟨b8,o9,_,ZuN,ZG6,ZWr⟩:=Src.at_ (hS.QT k2) hx7;refine WO.w gN rfl (ZH YI YJ lk lk rfl ZuN hx7) ?_;refine WO.hu gN (Zet (e:= (Zu .i64)) (-1) () hS k2 YJ (Yt fh rfl) (evC rfl) ZuN hx7 ZG6 (j:=0) rfl (vs:= [.int .i64 (-1)]) rfl rfl rfl rfl rfl (cs':= [.int .i64 (-1)]) rfl rfl trivial) ?_;rintro h10 ⟨hS,ZWy⟩;refine r8 ?_;refine r2 ?_;refine WO.inl gN rfl (Xg.fn Zyh (Zf lk (Zf lk Zy))) (WF.begin (args:= [_,_]) (fn:=Tryz.f77) Kq0 (by exact rfl) Tryz.ntmps77 (by simp) ?_);simp only [Z8,Ya,Nat.reduceAdd];refine r3 ?_;rintro _ h13 ⟨b12,ZR3,rfl,hS⟩;refine r1 ?_;rintro _ h15 ⟨b14,ZX1,rfl,hS⟩;refine r4 ?_;refine r1 ?_;refine WO.w gN rfl (Zbn (Zf lk (Zf lk Zy))) ?_;refine r4 ?_;refine Yo.Qg rfl (ZU lk ZC) ?_;refine WO.inl gN rfl (Xg.fn ZGm (Zf lk Zy)) (WF.begin (args:= [_]) (fn:=Tryz.f104) Kq0 (by exact rfl) Tryz.ntmps104 (by simp) ?_);simp only [Z8,Ya,Nat.reduceAdd];refine r8 ?_;refine WO.inl gN rfl (Xg.fn ZED (Zf lk Zy)) (WF.begin (args:= [_]) (fn:=Tryz.f79) Kq0 (by exact rfl) Tryz.ntmps79 (by simp) ?_);simp only [Z8,Ya,Nat.reduceAdd];refine r8 ?_;refine WO.inl gN rfl (Xg.fn Zyk (Zf lk (Zf lk Zy))) (WF.ZrW (args:= [_,_]) (fn:=Tryz.f100) Kq0 (by exact rfl) Tryz.ntmps100 (by simp) ?_);simp only [Z8,Ya,Nat.reduceAdd];refine r3 ?_;rintro _ h17 ⟨b16,ZX0,rfl,hS⟩;refine r8 ?_;refine r2 ?_;refine WC.ZwE (first:= []) (cap:= [.pointer (some ⟨b12,0,none⟩),.pointer (some ⟨b14,0,none⟩)]) hS lk Zyd ?_;intro h18 l19 ZrL Zsi Ztj hS;refine WR.ZuD (r:=r) (fun(v25:(List Int)) (v:Value) (h23:H)=>∃ (a26:Option Addr) (c27:Nat) (n28:Nat),v= .tuple [].toArray∧Sp wm T h [bx wm b12 (cW p0.Za Zi Zh Zq Zo Zk Zj Zp Zn Zm Zl),bx wm b14 [.int .i64 p1],ow wm (Zu .i64) a26 n28 c27 v25,bx wm b16 [.slice a26 n28 c27],bx wm YX (cH p0 Zi Zh Zq Zo Zk Zj Zp Zn Zm Zl Z4 Z0),bx wm b4 [.int .i64 x1.1.machine,.bool x1.1.here,.int .i64 x1.1.age],ow wm (Zu .i64) Zi p0.Za.Zv.length Zh (Yv p0.Za.Zv p1 (-1)),Xb wm (Z5 (Zu .i64)) Zq p0.Za.qK.length Zo YF p0.Za.qK,Xb wm (Z5 Zc) Zk p0.Za.qQ.length Zj YQ p0.Za.qQ,Xb wm (Z5 Zg) Zp p0.Za.qJ.length Zn YE p0.Za.qJ,ow wm Zd Zm p0.Za.qG.length Zl p0.Za.qG,ow wm ZP Z4 p0.qX.length Z0 p0.qX,ob wm l19 Zsi,ob wm ZrL .deferred] h23) (ZmJ F p0 p1 p2 x1) ?_ (WF.begin (args:= [_,_,_]) (fn:=Tryz.f97) Kq0 (by exact rfl) Tryz.ntmps97 (by simp) ?_)
 ·clear hL hS;rintro v25 v h23 hL ⟨a26,c27,n28,rfl,hS⟩;obtain rfl:=hS.on k2;dsimp only [ZmJ] at hL;refine RgE.sp Ztj hS k12 ?_;rintro h29 hS;refine r8 ?_;refine r1 ?_;refine UR.Zz3 hS k12 ?_;rintro h30 hS;refine UR.gen rfl (ZU lk ZC) rfl ?_;refine r4 ?_;refine Yo.Qg rfl (ZU lk ZC) ?_;refine r6 ?_;obtain⟨x31,hx31,hL⟩:=bind_some hL;refine WO.cl gN rfl (Xg.fn ZEB (Zf lk Zy)) hS (.c k2 .n) (fun g' hz hf hO=>Zzu (by rw [hz];exact hS.hw) hO hx31) ?_;rintro _ h32 _ ⟨rfl,rfl⟩ hS;refine r8 ?_;refine r1 ?_;refine Yo.Qg rfl (ZU lk ZC) ?_;refine WO.w gN rfl (XT ZtJ (ZG lk (ZG lk (ZG lk Yf))) rfl (cs':= [.int .i64 2,.int .i64 p2,.int .i64 0,.int .i64 0,.int .i64 0,.int .i64 0,.int .i64 0,.slice a26 v25.length c27,.slice none 0 0,.int .i64 0,.int .i64 0,.int .i64 0]) rfl) ?_;refine r1 ?_;rintro _ h35 ⟨b34,ZXV,rfl,hS⟩;refine r1 ?_;rintro h36 hS;refine r6 ?_;refine r1 ?_;refine WO.w gN rfl (Zc6 YI lk (congrArg Nat.cast (hS.on k1))) ?_;refine r4 ?_;have hS:=hS.nil (e:= (Zu .i64));refine WC.loop (WL.lift hL (fun(p:Int×(List ZI)×(List Int)×(List (List Zw))) (s:Fs)=>match p with | (v45,v47,v51,v55)=>∃ (ZaN:Fr) (h37:H) (a48:Option Addr) (c49:Nat) (n50:Nat) (a52:Option Addr) (c53:Nat) (n54:Nat) (ZFH:Nat ->Option Addr×Nat×Nat),s= ⟨ZaN,[],h37,none⟩∧Sp wm T h [ow wm ZP a48 n50 c49 v47,bx wm YX (cG Zi p0.Za.Zv.length Zh Zq p0.Za.qK.length Zo Zk p0.Za.qQ.length Zj Zp p0.Za.qJ.length Zn Zm p0.Za.qG.length Zl p0.Za.said a48 n50 c49),bx wm b4 [.int .i64 x1.1.machine,.bool x1.1.here,.int .i64 x1.1.age],ow wm (Zu .i64) a52 n54 c53 v51,bx wm b34 [.int .i64 2,.int .i64 p2,.int .i64 0,.int .i64 0,.int .i64 0,.int .i64 0,.int .i64 0,.slice a26 v25.length c27,.slice a52 n54 c53,.int .i64 0,.int .i64 0,.int .i64 0],ow wm (Zu .i64) a26 v25.length c27 x31,ow wm (Zu .i64) Zi p0.Za.Zv.length Zh (Yv p0.Za.Zv p1 (-1)),Xb wm (Z5 (Zu .i64)) Zq p0.Za.qK.length Zo YF p0.Za.qK,Xb wm (Z5 Zc) Zk p0.Za.qQ.length Zj ZFH v55,Xb wm (Z5 Zg) Zp p0.Za.qJ.length Zn YE p0.Za.qJ,ow wm Zd Zm p0.Za.qG.length Zl p0.Za.qG] h37∧ZaN.at 0= .pointer (some ⟨YX,0,none⟩)∧ZaN.at 2= .int .i64 p2∧ZaN.at 6= .pointer (some ⟨b4,0,none⟩)∧ZaN.at 8= .pointer (some ⟨b34,0,none⟩)∧ZaN.at 38= .slice a26 v25.length c27∧ZaN.at 39= .int .i64 (x31.length:Int)∧ZaN.at 40= .int .i64 v45) ⟨_,_,Z4,Z0,p0.qX.length,none,0,0,YQ,rfl,hS.only (.c k13 (.c k6 (.c k6 (.c k0 (.c k0 (.c k0 (.c k3 (.c k3 (.c k3 (.c k3 (.c k3 .n))))))))))),YH⟩ ?_);clear hL hS;rintro Zxb ⟨v45,v47,v51,v55⟩ s ZCd hL ⟨ZaN,h37,a48,c49,n50,a52,c53,n54,ZFH,rfl,hS,e39,e40,e41,e42,e43,e44,e46⟩;obtain rfl:=hS.on k0;obtain rfl:=hS.on k3;dsimp only [Zi5] at hL;refine r6 ?_;refine cn hL ?_ ?_
  ·intro hc hL;refine r6 ?_;obtain⟨x58,ZxC,hL⟩:=bind_some hL;obtain⟨b59,o60,_,Zyo,ZyT,ZMi⟩:=Src.at_ (hS.QT k5) ZxC;refine WO.w gN rfl (ZH YI YJ lk lk (hS.on k5) Zyo ZxC) ?_;refine WO.w gN rfl (ZW Xr (Yt fh rfl) ZyT (j:=0) rfl (v:= .int .i64 x58) rfl) ?_;refine r4 ?_;refine WC.Xw mixed Kq0 ?_;refine r6 ?_;refine r1 ?_;obtain⟨x61,Ziz,hL⟩:=bind_some hL;obtain⟨b62,o63,a64,n65,c66,ZxS,Zyn,ZyS⟩:=hS.atS k8 Ziz;refine WX.w gN rfl (ZH Uj QG lk lk (hS.Xm k8) Zyn Ziz) ?_ rfl;refine WX.w gN rfl (ZW UQ (Yt fh rfl) ZyS (j:=0) rfl (v:= .slice a64 n65 c66) rfl) ?_ rfl;refine r1 ?_;obtain⟨x67,ZuG,hL⟩:=bind_some hL;obtain⟨b68,o69,_,Ztg,Ztn,ZEO⟩:=Src.at_ (hS.inS k8 Ziz ZxS).2.1 ZuG;refine WX.w gN rfl (ZH Ui Xt lk lk (hS.inS k8 Ziz ZxS).1 Ztg ZuG) ?_ rfl;refine r8 ?_;refine r2 ?_;refine WO.w gN rfl (ZW Xr (Yt fh rfl) Ztn (j:=2) rfl (v:= .int .i64 x67.age) rfl) ?_;refine r1 ?_;refine WO.w gN rfl (XT ZtK (ZG lk (ZG lk Yf)) rfl (cs':= [.bool false,.int .i64 p2,.int .i64 (Xa (x67.age + 1))]) rfl) ?_;refine r1 ?_;have hS:=hS.ZhY k8 Ziz ZxS;refine WO.hu gN (Zet (e:=Zc) (Zw.mk false p2 (Xa (x67.age + 1))) () hS k1 Xt (Yt fh rfl) (Yt (Zz rfl fh) rfl) Ztg ZuG Ztn (j:=0) rfl (vs:= [.bool false,.int .i64 p2,.int .i64 (Xa (x67.age + 1))]) rfl rfl rfl rfl rfl (cs':= [.bool false,.int .i64 p2,.int .i64 (Xa (x67.age + 1))]) rfl rfl trivial) ?_;rintro h70 ⟨hS,ZRI⟩;obtain⟨ZP0,ZWb,hS⟩:=hS.ZiZ (.c k1 (.c k0 .n)) Ziz;refine r3 ?_;refine WC.Xw mixed Kq0 ?_;refine r4 ?_;refine r1 ?_;refine WX.w gN rfl (ZW Xr (Yt fh rfl) ZRI (j:=2) rfl (v:= .int .i64 (Xa (x67.age + 1))) rfl) ?_ rfl;refine WX.hn gN rfl (ZaD (e:= (Zu .i64)) hS YI YJ Zbs rfl rfl rfl (ZG lk Yf) rfl [((),Xa (x67.age + 1))] rfl (xs:= [Xa (x67.age + 1)]) rfl (by intro q hq;simp only [List.mem_cons,List.not_mem_nil,or_false] at hq;subst hq;exact trivial) rfl) ?_ rfl;rintro _ h75 ⟨b74,ZXG,rfl,hS⟩;obtain⟨z76,ZQf,hL⟩:=bind_some hL;refine WX.hv gN rfl (KG (e:= (Zu .i64)) hS k5 JL lk lk (hS.QT k0) (hS.on k0) ZQf) ?_ rfl rfl [] Kq0 YO.e;rintro _ h79 ⟨a77,c78,rfl,hS⟩;refine WX.w gN rfl (Ue ZmE lk) ?_ Kq0;refine WX.hu gN (Za3 hS k6 U7 lk lk (vs:= [.slice a77 z76.length c78]) rfl rfl rfl rfl (cs':= [.int .i64 2,.int .i64 p2,.int .i64 0,.int .i64 0,.int .i64 0,.int .i64 0,.int .i64 0,.slice a26 v25.length c27,.slice a77 z76.length c78,.int .i64 0,.int .i64 0,.int .i64 0]) rfl) ?_ rfl Kq0 [] Kq0 YO.e;rintro h80 hS;refine r2 ?_;refine WC.Xw mixed Kq0 ?_;refine r8 ?_;refine r1 ?_;refine WX.w gN rfl (XT ZAc (ZG lk (ZG lk (ZG lk (ZG lk Yf)))) rfl (cs':= [.int .i64 2,.int .i64 x58,.int .i64 x1.1.machine,.int .i64 p2,.int .i64 0]) rfl) ?_ rfl;refine WX.hn gN rfl (ZaD (e:=ZP) hS ZnW Zfy ZhO rfl rfl rfl (ZG lk Yf) rfl [((),(ZI.mk 2 x58 x1.1.machine p2 0))] rfl (xs:= [(ZI.mk 2 x58 x1.1.machine p2 0)]) rfl (by intro q hq;simp only [List.mem_cons,List.not_mem_nil,or_false] at hq;subst hq;exact trivial) rfl) ?_ rfl;rintro _ h82 ⟨b81,ZXD,rfl,hS⟩;obtain⟨z83,ZQe,hL⟩:=bind_some hL;refine WX.hv gN rfl (KG (e:=ZP) hS k5 ZjT lk lk (hS.QT k0) (hS.on k0) ZQe) ?_ rfl rfl [] Kq0 YO.e;rintro _ h86 ⟨a84,c85,rfl,hS⟩;refine WX.w gN rfl (Zd0 lk) ?_ Kq0;refine WX.w gN rfl (Ue ZeS lk) ?_ Kq0;refine WX.hu gN (Za3 hS k6 ZlO lk lk (vs:= [.slice a84 z83.length c85]) rfl rfl rfl rfl (cs':= (cG Zi p0.Za.Zv.length Zh Zq p0.Za.qK.length Zo Zk p0.Za.qQ.length Zj Zp p0.Za.qJ.length Zn Zm p0.Za.qG.length Zl p0.Za.said a84 z83.length c85)) rfl) ?_ rfl Kq0 [] Kq0 YO.e;rintro h87 hS;refine r6 ?_;refine r1 ?_;exact Yh.Y7 (ZCd _ _ hL ⟨_,_,a84,c85,z83.length,a77,c78,z76.length,ZP0,rfl,hS.only (.c k1 (.c k0 (.c k5 (.c k2 (.c k1 (.c k3 (.c k3 (.c k3 (.c k2 (.c k2 (.c k2 .n))))))))))),YH⟩)
  ·intro hc hL;refine r4 ?_;refine r1 ?_;have ZF4:=hS.on k5;rw [ZF4] at hS;rw [ZF4] at e43
   try rw [ZF4]
   refine WC.fzn hS k5 ?_;rintro h89 ⟨ZWh,hS⟩;refine WC.fzn hS k4 ?_;rintro h91 ⟨ZWg,hS⟩;refine WC.Xw mixed Kq0 ?_;refine r6 ?_;refine r1 ?_;refine WX.hn gN rfl (ZaD (e:=Zd) hS JR Y6 Zdy rfl rfl rfl (ZG lk Yf) rfl [(((a26,c27),(a52,c53)),(Ze.mk 2 p2 (Zr.mk 0 0 0 0 0) x31 v51 0 0 0))] rfl (xs:= [(Ze.mk 2 p2 (Zr.mk 0 0 0 0 0) x31 v51 0 0 0)]) rfl (by intro q hq;simp only [List.mem_cons,List.not_mem_nil,or_false] at hq;subst hq;exact⟨(hS.fsl k1),(hS.fsl k0)⟩) rfl) ?_ rfl;rintro _ h94 ⟨b93,ZXy,rfl,hS⟩;obtain⟨z95,ZQd,hL⟩:=bind_some hL;refine WX.hv gN rfl (KG (e:=Zd) hS k11 ZcA lk lk (hS.QT k0) (hS.on k0) ZQd) ?_ rfl rfl [] Kq0 YO.e;rintro _ h98 ⟨a96,c97,rfl,hS⟩;refine WX.w gN rfl (Zd0 lk) ?_ Kq0;refine WX.w gN rfl (Ue ZeT lk) ?_ Kq0;refine WX.w gN rfl (Ue ZhA lk) ?_ Kq0;refine WX.hu gN (Za3 hS k5 ZlP lk lk (vs:= [.slice a96 z95.length c97]) rfl rfl rfl rfl (cs':= (cG Zi p0.Za.Zv.length Zh Zq p0.Za.qK.length Zo Zk p0.Za.qQ.length Zj Zp p0.Za.qJ.length Zn a96 z95.length c97 p0.Za.said a48 v47.length c49)) rfl) ?_ rfl Kq0 [] Kq0 YO.e;rintro h99 hS;refine r1 ?_;refine Yo.Y7 ?_;have hr:=Oi0 hL;subst hr;exact Yo.gen (vs:= []) rfl ZC rfl ⟨_,⟨Zi,p0.Za.Zv.length,Zh,Zq,p0.Za.qK.length,Zo,YF,Zk,p0.Za.qQ.length,Zj,ZFH,Zp,p0.Za.qJ.length,Zn,YE,a96,z95.length,c97,a48,v47.length,c49,rfl,rfl⟩,hT ▸ hS.only (.c k0 (.c k7 (.c k7 (.c k7 (.c k7 (.c k0 (.c k3 .n)))))))⟩
 ·skip;simp only [Z8,Ya,Nat.reduceAdd];refine r3 ?_;rintro _ ZuO ⟨Zcv,ZEY,rfl,hS⟩;refine r4 ?_;refine r1 ?_;rintro _ ZXq ⟨Zde,ZUC,rfl,hS⟩;refine r4 ?_;refine WO.w gN rfl (Zbn (Zf lk (Zf lk (Zf lk Zy)))) ?_;refine r1 ?_;rintro ZHD hS;refine r4 ?_;refine r1 ?_
  have ZB0:∀ (Fr:Nat) (x:Int×(List Int)) (r:Bool×(List Int)),loop Fr (Zi4 F p0 p1) x=some r ->match x with | (v107,Zqp)=>∀ {h:H} (a109:Option Addr) (Znl:Nat) (n111:Nat),wm <=h.size ->Yd (wm:=wm) [bx wm YX (cH p0 Zi Zh Zq Zo Zk Zj Zp Zn Zm Zl Z4 Z0),bx wm b4 [.int .i64 x1.1.machine,.bool x1.1.here,.int .i64 x1.1.age],bx wm b12 (cW p0.Za Zi Zh Zq Zo Zk Zj Zp Zn Zm Zl),bx wm b14 [.int .i64 p1],ow wm (Zu .i64) a109 n111 Znl Zqp,bx wm b16 [.slice a109 n111 Znl],bx wm Zcv [.func (.yield l19) #[] #[]],bx wm Zde [.func (.func 98) #[] [.pointer (some ⟨Zcv,0,none⟩),.pointer (some ⟨b12,0,none⟩),.pointer (some ⟨Zde,0,none⟩)].toArray],ow wm (Zu .i64) Zi p0.Za.Zv.length Zh (Yv p0.Za.Zv p1 (-1)),Xb wm (Z5 (Zu .i64)) Zq p0.Za.qK.length Zo YF p0.Za.qK,Xb wm (Z5 Zc) Zk p0.Za.qQ.length Zj YQ p0.Za.qQ,Xb wm (Z5 Zg) Zp p0.Za.qJ.length Zn YE p0.Za.qJ,ow wm Zd Zm p0.Za.qG.length Zl p0.Za.qG,ow wm ZP Z4 p0.qX.length Z0 p0.qX,ob wm l19 Zsi,ob wm ZrL .deferred] h ->WR XX 98 #[.int .i64 v107,.pointer (some ⟨Zcv,0,none⟩),.pointer (some ⟨b12,0,none⟩),.pointer (some ⟨Zde,0,none⟩)] wm h (CP (fun(v:Value) (Gb:List (Ast wm))=>match r with | (Zt2,v117)=>∃ (ZOE:Option Addr) (c119:Nat) (n120:Nat),v= .bool Zt2∧Gb= [bx wm YX (cH p0 Zi Zh Zq Zo Zk Zj Zp Zn Zm Zl Z4 Z0),bx wm b4 [.int .i64 x1.1.machine,.bool x1.1.here,.int .i64 x1.1.age],bx wm b12 (cW p0.Za Zi Zh Zq Zo Zk Zj Zp Zn Zm Zl),bx wm b14 [.int .i64 p1],ow wm (Zu .i64) ZOE n120 c119 v117,bx wm b16 [.slice ZOE n120 c119],bx wm Zcv [.func (.yield l19) #[] #[]],bx wm Zde [.func (.func 98) #[] [.pointer (some ⟨Zcv,0,none⟩),.pointer (some ⟨b12,0,none⟩),.pointer (some ⟨Zde,0,none⟩)].toArray],ow wm (Zu .i64) Zi p0.Za.Zv.length Zh (Yv p0.Za.Zv p1 (-1)),Xb wm (Z5 (Zu .i64)) Zq p0.Za.qK.length Zo YF p0.Za.qK,Xb wm (Z5 Zc) Zk p0.Za.qQ.length Zj YQ p0.Za.qQ,Xb wm (Z5 Zg) Zp p0.Za.qJ.length Zn YE p0.Za.qJ,ow wm Zd Zm p0.Za.qG.length Zl p0.Za.qG,ow wm ZP Z4 p0.qX.length Z0 p0.qX,ob wm l19 Zsi,ob wm ZrL .deferred]) [bx wm YX (cH p0 Zi Zh Zq Zo Zk Zj Zp Zn Zm Zl Z4 Z0),bx wm b4 [.int .i64 x1.1.machine,.bool x1.1.here,.int .i64 x1.1.age],bx wm b12 (cW p0.Za Zi Zh Zq Zo Zk Zj Zp Zn Zm Zl),bx wm b14 [.int .i64 p1],ow wm (Zu .i64) a109 n111 Znl Zqp,bx wm b16 [.slice a109 n111 Znl],bx wm Zcv [.func (.yield l19) #[] #[]],bx wm Zde [.func (.func 98) #[] [.pointer (some ⟨Zcv,0,none⟩),.pointer (some ⟨b12,0,none⟩),.pointer (some ⟨Zde,0,none⟩)].toArray],ow wm (Zu .i64) Zi p0.Za.Zv.length Zh (Yv p0.Za.Zv p1 (-1)),Xb wm (Z5 (Zu .i64)) Zq p0.Za.qK.length Zo YF p0.Za.qK,Xb wm (Z5 Zc) Zk p0.Za.qQ.length Zj YQ p0.Za.qQ,Xb wm (Z5 Zg) Zp p0.Za.qJ.length Zn YE p0.Za.qJ,ow wm Zd Zm p0.Za.qG.length Zl p0.Za.qG,ow wm ZP Z4 p0.qX.length Z0 p0.qX,ob wm l19 Zsi,ob wm ZrL .deferred] h):=by
   clear hL hS;refine Zh7 _ ?_;rintro Zhs Zx4 ⟨v107,Zqp⟩ r hL h a109 Znl n111 ZX hO;dsimp only [Zi4] at hL;obtain⟨T,hT,hS⟩:∃ T,T=Qa (wm:=wm) [bx wm YX (cH p0 Zi Zh Zq Zo Zk Zj Zp Zn Zm Zl Z4 Z0),bx wm b4 [.int .i64 x1.1.machine,.bool x1.1.here,.int .i64 x1.1.age],bx wm b12 (cW p0.Za Zi Zh Zq Zo Zk Zj Zp Zn Zm Zl),bx wm b14 [.int .i64 p1],ow wm (Zu .i64) a109 n111 Znl Zqp,bx wm b16 [.slice a109 n111 Znl],bx wm Zcv [.func (.yield l19) #[] #[]],bx wm Zde [.func (.func 98) #[] [.pointer (some ⟨Zcv,0,none⟩),.pointer (some ⟨b12,0,none⟩),.pointer (some ⟨Zde,0,none⟩)].toArray],ow wm (Zu .i64) Zi p0.Za.Zv.length Zh (Yv p0.Za.Zv p1 (-1)),Xb wm (Z5 (Zu .i64)) Zq p0.Za.qK.length Zo YF p0.Za.qK,Xb wm (Z5 Zc) Zk p0.Za.qQ.length Zj YQ p0.Za.qQ,Xb wm (Z5 Zg) Zp p0.Za.qJ.length Zn YE p0.Za.qJ,ow wm Zd Zm p0.Za.qG.length Zl p0.Za.qG,ow wm ZP Z4 p0.qX.length Z0 p0.qX,ob wm l19 Zsi,ob wm ZrL .deferred]∧Sp wm T h [bx wm YX (cH p0 Zi Zh Zq Zo Zk Zj Zp Zn Zm Zl Z4 Z0),bx wm b4 [.int .i64 x1.1.machine,.bool x1.1.here,.int .i64 x1.1.age],bx wm b12 (cW p0.Za Zi Zh Zq Zo Zk Zj Zp Zn Zm Zl),bx wm b14 [.int .i64 p1],ow wm (Zu .i64) a109 n111 Znl Zqp,bx wm b16 [.slice a109 n111 Znl],bx wm Zcv [.func (.yield l19) #[] #[]],bx wm Zde [.func (.func 98) #[] [.pointer (some ⟨Zcv,0,none⟩),.pointer (some ⟨b12,0,none⟩),.pointer (some ⟨Zde,0,none⟩)].toArray],ow wm (Zu .i64) Zi p0.Za.Zv.length Zh (Yv p0.Za.Zv p1 (-1)),Xb wm (Z5 (Zu .i64)) Zq p0.Za.qK.length Zo YF p0.Za.qK,Xb wm (Z5 Zc) Zk p0.Za.qQ.length Zj YQ p0.Za.qQ,Xb wm (Z5 Zg) Zp p0.Za.qJ.length Zn YE p0.Za.qJ,ow wm Zd Zm p0.Za.qG.length Zl p0.Za.qG,ow wm ZP Z4 p0.qX.length Z0 p0.qX,ob wm l19 Zsi,ob wm ZrL .deferred] h:= ⟨_,rfl,Sp.start ZX hO⟩
   obtain rfl:=hS.on k4;refine WF.begin (args:= [_,_,_,_]) (fn:=Tryz.f98) Kq0 (by exact rfl) Tryz.ntmps98 (by simp) ?_;simp only [Z8,Ya,Nat.reduceAdd];refine r8 ?_;refine r2 ?_;refine WO.ZJj gN rfl lk lks hS k14 Ztj rfl rfl ?_;refine r3 ?_;refine AsK.sp Ztj hS k14 ?_;rintro ZRT hS;refine r4 ?_;refine WO.hn gN rfl (ZaD (e:= (Zu .i64)) hS YI YJ Zbs rfl rfl rfl (ZG lk Yf) rfl [((),v107)] rfl (xs:= [v107]) rfl (by intro q hq;simp only [List.mem_cons,List.not_mem_nil,or_false] at hq;subst hq;exact trivial) rfl) ?_;rintro _ ZCt ⟨ZOp,ZUy,rfl,hS⟩;obtain⟨z124,ZKk,hL⟩:=bind_some hL;refine WO.hv gN rfl (KG (e:= (Zu .i64)) hS k6 JL lk lk (hS.QT k0) (hS.on k0) ZKk) ?_;rintro _ h127 ⟨ZOD,ZOb,rfl,hS⟩;refine r1 ?_;rintro h128 hS;refine r2 ?_;refine BdK.sp Ztj hS k3 ?_;rintro ZRR hS;refine r3 ?_;refine cn hL ?_ ?_
   ·intro hc hL;refine r6 ?_;refine r1 ?_;have hr:=Oi0 hL;subst hr;exact Yo.Qg rfl (ZU lk ZC) ⟨_,⟨ZOD,ZOb,z124.length,rfl,rfl⟩,hT ▸ hS.only (.c k4 (.c k4 (.c k4 (.c k4 (.c k2 (.c k1 (.c k2 (.c k2 (.c k2 (.c k2 (.c k2 (.c k2 (.c k2 (.c k2 (.c k0 (.c k1 .n))))))))))))))))⟩
   ·intro hc hL;refine r6 ?_;refine r1 ?_;refine WO.w gN rfl (Zc6 YI lk (congrArg Nat.cast (hS.on k10))) ?_;refine r4 ?_;refine WC.loop (WL.lift hL (fun(p:Int×(List Int)) (s:Fs)=>match p with | (ZnS,v138)=>∃ (ZiY:Fr) (ZCs:H) (a139:Option Addr) (Zvm:Nat) (n141:Nat),s= ⟨ZiY,[],ZCs,none⟩∧Sp wm T h [bx wm Zde [.func (.func 98) #[] [.pointer (some ⟨Zcv,0,none⟩),.pointer (some ⟨b12,0,none⟩),.pointer (some ⟨Zde,0,none⟩)].toArray],bx wm Zcv [.func (.yield l19) #[] #[]],bx wm b12 (cW p0.Za Zi Zh Zq Zo Zk Zj Zp Zn Zm Zl),bx wm YX (cH p0 Zi Zh Zq Zo Zk Zj Zp Zn Zm Zl Z4 Z0),bx wm b4 [.int .i64 x1.1.machine,.bool x1.1.here,.int .i64 x1.1.age],bx wm b14 [.int .i64 p1],ow wm (Zu .i64) a139 n141 Zvm v138,bx wm b16 [.slice a139 n141 Zvm],ow wm (Zu .i64) Zi p0.Za.Zv.length Zh (Yv p0.Za.Zv p1 (-1)),Xb wm (Z5 (Zu .i64)) Zq p0.Za.qK.length Zo YF p0.Za.qK,Xb wm (Z5 Zc) Zk p0.Za.qQ.length Zj YQ p0.Za.qQ,Xb wm (Z5 Zg) Zp p0.Za.qJ.length Zn YE p0.Za.qJ,ow wm Zd Zm p0.Za.qG.length Zl p0.Za.qG,ow wm ZP Z4 p0.qX.length Z0 p0.qX,ob wm l19 Zsi,ob wm ZrL .deferred] ZCs∧ZiY.at 0= .int .i64 v107∧ZiY.at 3= .pointer (some ⟨Zde,0,none⟩)∧ZiY.at 13= .slice Zi p0.Za.Zv.length Zh∧ZiY.at 14= .int .i64 ((Yv p0.Za.Zv p1 (-1)).length:Int)∧ZiY.at 15= .int .i64 ZnS) ⟨_,_,ZOD,ZOb,z124.length,rfl,hS.only (.c k9 (.c k8 (.c k6 (.c k4 (.c k4 (.c k4 (.c k2 (.c k1 (.c k2 (.c k2 (.c k2 (.c k2 (.c k2 (.c k2 (.c k0 (.c k1 .n)))))))))))))))),YH⟩ ?_);clear hL hS;rintro Zl9 ⟨ZnS,v138⟩ s Zo4 hL ⟨ZiY,ZCs,a139,Zvm,n141,rfl,hS,ZSk,ZYE,ZSj,ZYD,e137⟩;obtain rfl:=hS.on k6;dsimp only [ZrC] at hL;refine r6 ?_;refine cn hL ?_ ?_
    ·intro hc hL;refine r6 ?_;refine r1 ?_;obtain⟨ZFj,ZEo,hL⟩:=bind_some hL;obtain⟨ZZC,ZVN,_,ZGD,ZHq,ZRn⟩:=Src.at_ (hS.QT k8) ZEo;refine WO.w gN rfl (ZH YI YJ lk lk (hS.on k8) ZGD ZEo) ?_;refine WO.w gN rfl (ZW Xr (Yt fh rfl) ZHq (j:=0) rfl (v:= .int .i64 ZFj) rfl) ?_;refine XY ?_;refine WO.Zch (Zt.yes rfl rfl rfl (YB rfl fh)) (fun Zce=>?_) (fun Zce=>?_)
     ·replace hL:=J4 Zce hL;obtain⟨⟨ZJy,Zv9⟩,ZoV,hL⟩:=bind_some hL;dsimp only at hL;refine WO.cl (Zt.on (Zt.yes rfl rfl rfl (YB rfl fh)) Zce) rfl (Xg.clo (first:= []) (cap:= [.pointer (some ⟨Zcv,0,none⟩),.pointer (some ⟨b12,0,none⟩),.pointer (some ⟨Zde,0,none⟩)]) (YW (Zz rfl fh) rfl Zce) ZiJ (Zf (YW fh rfl Zce) Zy) rfl) hS (.c k3 (.c k3 (.c k2 (.c k2 (.c k2 (.c k2 (.c k1 (.c k0 (.c k0 (.c k0 (.c k0 (.c k0 (.c k0 (.c k0 (.c k0 (.c k0 .n)))))))))))))))) (fun g' hz hf hO=>Zx4 _ _ ZoV a139 Zvm v138.length (by rw [hz];exact hS.hw) hO) ?_;rintro _ ZNv _ ⟨ZOz,c152,n153,rfl,rfl⟩ hS;simp only [List.cons_append,List.nil_append] at hS;obtain rfl:=hS.on k4;refine WO.w (Zt.on (Zt.yes rfl rfl rfl (YB rfl (Zz rfl fh))) Zce) rfl (ZjP lk) ?_;refine WO.w gN rfl (ZdY lk Zce lk) ?_;refine r2 ?_;refine cn hL ?_ ?_
      ·intro hc hL;refine r8 ?_;refine r3 ?_;have hr:=Oi0 hL;subst hr;exact Yo.Qg rfl (ZU lk ZC) ⟨_,⟨ZOz,c152,Zv9.length,rfl,rfl⟩,hT ▸ hS.only (.c k0 (.c k0 (.c k0 (.c k0 (.c k0 (.c k0 (.c k0 (.c k0 (.c k0 (.c k0 (.c k0 (.c k0 (.c k0 (.c k0 (.c k0 (.c k0 .n))))))))))))))))⟩
      ·intro hc hL;refine r6 ?_;refine r1 ?_;exact Yh.Y7 (Zo4 _ _ hL ⟨_,_,ZOz,c152,Zv9.length,rfl,hS.only (.c k7 (.c k6 (.c k2 (.c k0 (.c k0 (.c k0 (.c k0 (.c k0 (.c k0 (.c k0 (.c k0 (.c k0 (.c k0 (.c k0 (.c k0 (.c k0 .n)))))))))))))))),YH⟩)
     ·replace hL:=J5 Zce hL;refine WO.Zb4 (Zt.yes rfl rfl rfl (YB rfl fh)) Zce rfl ?_;refine WO.Zb4 (Zt.yes rfl rfl rfl (YB rfl (Zz rfl fh))) Zce rfl ?_;refine WO.w gN rfl (ZdZ lk Zce lk) ?_;refine r2 ?_;refine WC.ZdW lk rfl ?_;refine r6 ?_;refine r1 ?_;exact Yh.Y7 (Zo4 _ _ hL ⟨_,_,a139,Zvm,v138.length,rfl,hS.only (.c k0 (.c k0 (.c k0 (.c k0 (.c k0 (.c k0 (.c k0 (.c k0 (.c k0 (.c k0 (.c k0 (.c k0 (.c k0 (.c k0 (.c k0 (.c k0 .n)))))))))))))))),YH⟩)
    ·intro hc hL;refine r8 ?_;refine r3 ?_;have hr:=Oi0 hL;subst hr;exact Yo.Qg rfl (ZU lk ZC) ⟨_,⟨a139,Zvm,v138.length,rfl,rfl⟩,hT ▸ hS.only (.c k3 (.c k3 (.c k2 (.c k2 (.c k2 (.c k2 (.c k1 (.c k0 (.c k0 (.c k0 (.c k0 (.c k0 (.c k0 (.c k0 (.c k0 (.c k0 .n))))))))))))))))⟩
  have hS:=hS.nil (e:= (Zu .i64));obtain⟨⟨ZhT,v159⟩,ZKF,hL⟩:=bind_some hL;dsimp only at hL;refine WO.cl gN rfl (Xg.clo (first:= []) (cap:= [.pointer (some ⟨Zcv,0,none⟩),.pointer (some ⟨b12,0,none⟩),.pointer (some ⟨Zde,0,none⟩)]) lk ZiJ lks rfl) hS (.c k10 (.c k9 (.c k7 (.c k6 (.c k0 (.c k4 (.c k1 (.c k0 (.c k2 (.c k2 (.c k2 (.c k2 (.c k2 (.c k2 (.c k0 (.c k0 .n)))))))))))))))) (fun g' hz hf hO=>ZB0 _ _ _ ZKF none 0 0 (by rw [hz];exact hS.hw) hO) ?_;rintro _ ZRO _ ⟨a160,ZSB,n162,rfl,rfl⟩ hS;simp only [List.cons_append,List.nil_append] at hS;obtain rfl:=hS.on k4;refine r1 ?_;refine Yo.Y7 ?_;exact Yo.gen (vs:= []) rfl ZC rfl ⟨_,hL,⟨a160,ZSB,v159.length,rfl,hS.only (.c k2 (.c k2 (.c k2 (.c k2 (.c k0 (.c k0 (.c k2 (.c k2 (.c k2 (.c k2 (.c k2 (.c k2 (.c k2 (.c k2 .n))))))))))))))⟩⟩
theorem ZHO {wm:Nat} {h:H} {p0:Ze} {Zi:Option Addr} {Zh:Nat} {Zq:Option Addr} {Zo:Nat} {r:Bool} (ZX:wm <=h.size) (ZA:Sl (Zu .i64) wm h Zi Zh p0.qV) (ZM:Sl (Zu .i64) wm h Zq Zo p0.Yk) (hL:ZuX p0=some r):
 WR XX 86 #[.agg [.int .i64 p0.kind,.int .i64 p0.Z9,.int .i64 p0.Yb.msg,.int .i64 p0.Yb.place,.int .i64 p0.Yb.from_,.int .i64 p0.Yb.age,.int .i64 p0.Yb.hops,.slice Zi p0.qV.length Zh,.slice Zq p0.Yk.length Zo,.int .i64 p0.place,.int .i64 p0.at_,.int .i64 p0.age].toArray] wm h (CP (fun(v:Value) (Gb:List (Ast wm))=>v= .bool r∧Gb= []) [] h):=by
 refine bg Tryz.ntmps86 ZX Yd.nil ?_;intro T hT hS;unfold ZuX at hL;refine r3 ?_;rintro _ h2 ⟨b1,eb1,rfl,hS⟩;refine r16 ?_;refine r16 ?_;refine r8 ?_;refine WO.w gN rfl (XT ZE1 Yf rfl (cs':= [.int .i64 0,.int .i64 0,.int .i64 0,.int .i64 0,.int .i64 0]) rfl) ?_;refine WO.w gN rfl (Uf (Yt (Zz rfl fh) rfl) (Yt fh rfl) (Zp2 (xs:= [.int .i64 p0.Yb.msg,.int .i64 p0.Yb.place,.int .i64 p0.Yb.from_,.int .i64 p0.Yb.age,.int .i64 p0.Yb.hops]) (ys:= [.int .i64 0,.int .i64 0,.int .i64 0,.int .i64 0,.int .i64 0]) (ZEX p0.Yb (Zr.mk 0 0 0 0 0)) rfl rfl)) ?_;refine r16 ?_;refine r1 ?_;refine cn hL ?_ ?_
 ·intro hc hL;refine XY ?_;refine r2 ?_;exact rt hL hT hS
 ·intro hc hL;refine r6 ?_;refine cn hL ?_ ?_
  ·intro hc hL;refine r16 ?_;refine XY ?_;refine r1 ?_;exact rt hL hT hS
  ·intro hc hL;refine r6 ?_;refine cn hL ?_ ?_
   ·intro hc hL;refine XY ?_;refine r2 ?_;exact rt hL hT hS
   ·intro hc hL;refine r8 ?_;refine r1 ?_;exact rt hL hT hS
theorem ZHP {h:H} {p0:Ze} {Zi:Option Addr} {Zh:Nat} {Zq:Option Addr} {Zo:Nat} {r:Bool} (ZA:Sl (Zu .i64) h.size h Zi Zh p0.qV) (ZM:Sl (Zu .i64) h.size h Zq Zo p0.Yk) (hL:ZuX p0=some r):Pure XX 86 #[.agg [.int .i64 p0.kind,.int .i64 p0.Z9,.int .i64 p0.Yb.msg,.int .i64 p0.Yb.place,.int .i64 p0.Yb.from_,.int .i64 p0.Yb.age,.int .i64 p0.Yb.hops,.slice Zi p0.qV.length Zh,.slice Zq p0.Yk.length Zo,.int .i64 p0.place,.int .i64 p0.at_,.int .i64 p0.age].toArray] h (.bool r):=
 WR.Qb rfl (ZHO (Nat.le_refl _) ZA ZM hL)
theorem ZHN {wm:Nat} {h:H} {p0:(List Ze)} {p1 p2:Int} {Zi:Option Addr} {Zh XM:Nat} {r:(List Ze)} (ZX:wm <=h.size) (hO:Yd (wm:=wm) [ow wm Zd Zi XM Zh p0] h) (hL:Zzv p0 p1 p2=some r):
 WR XX 88 #[.slice Zi XM Zh,.int .i64 p1,.int .i64 p2] wm h (CP (fun(v:Value) (Gb:List (Ast wm))=>∃ (Ql:Option Addr) (Qj:Nat) (Qk:Nat),v= .slice Ql Qj Qk∧Gb= [ow wm Zd Ql Qj Qk r]) [ow wm Zd Zi XM Zh p0] h):=by
 refine bg Tryz.ntmps88 ZX hO ?_;intro T hT hS;unfold Zzv at hL;obtain rfl:=hS.on k0;refine XY ?_;obtain⟨z1,hz1,hL⟩:=bind_some hL;refine WO.he gN rfl (ZFA (hS.get k0).2 rfl JR Y6 (Yt (Y1 rfl fh) rfl) (Yt (YB rfl (Zz rfl fh)) rfl) (Yt (YB rfl fh) rfl) (Yt fh rfl) hz1) ?_;rintro v2 hv3;refine r8 ?_;refine r2 ?_;refine cn hL ?_ ?_
 ·intro hc hL;refine r8 ?_;have hr:=Oi0 hL;subst hr;exact Yo.Qg rfl (ZU lk ZC) ⟨_,⟨Zi,p0.length,Zh,rfl,rfl⟩,hT ▸ hS.only (.c k0 .n)⟩
 ·intro hc hL;refine r8 ?_;refine r2 ?_;refine WC.Xw mixed Kq0 ?_;refine r2 ?_;obtain⟨z4,hz4,hL⟩:=bind_some hL;have Zyc:= (hS.get k0).2.cap;refine WX.he gN rfl (ZFz (hS.get k0).2 rfl JR Y6 (Yt (Zz rfl fh) rfl) (Yt fh rfl) hz4) ?_ rfl;rintro _ ⟨a5,c6,ea7,ec8,rfl,ZQE⟩;have ZNF:=ec8.symm;refine r2 ?_;obtain⟨z13,ZFW,hL⟩:=bind_some hL;refine WX.he gN rfl (ZJH (hS.get k0).2 rfl JR Y6 (Yt (Zz rfl fh) rfl) (.inr ⟨_,XB (Yt fh rfl)⟩) (.inl ⟨rfl,rfl⟩) ZFW) ?_ rfl;rintro _ ⟨a14,c15,rfl,ZQD⟩;obtain⟨z17,ZFV,hL⟩:=bind_some hL;have ZQq:= (ZQD.own (hS.get k0).2).src;have hS:=hS.sub k0 ZQE;refine WX.hv gN rfl (ZJK (e:=Zd) hS k0 ZcA lk lk ZQq rfl ZFV (ZNF ▸ Nat.le_trans (ZtC hz1 hz4 ZFW ZFV) Zyc)) ?_ rfl rfl [] Kq0 YO.e;rintro _ h19 ⟨rfl,hS⟩;refine WX.w gN rfl (Zc7 lk) ?_ Kq0;refine r8 ?_;refine WO.he gN rfl (ZFy (hS.get k0).2 JR Y6 (Yt (YB rfl (Zz rfl fh)) rfl) (Yt (Zz rfl fh) rfl) (Yt fh rfl) (ZtC hz1 hz4 ZFW ZFV) (ZNF ▸ Zyc)) ?_;rintro _ ⟨a20,c21,rfl,ZQG⟩;refine WO.hw gN (ZJI hS k0 ZQG rfl JR Zdy rfl (Yt fh rfl)) ?_;rintro h24 hS;refine r8 ?_;refine r1 ?_;have hr:=Oi0 hL;subst hr;exact Yo.Qg rfl (ZU lk ZC) ⟨_,⟨a5,z17.length,c6,rfl,rfl⟩,hT ▸ hS.only (.c k0 .n)⟩
end Go.Proofs.YtbmbbcaaimehkaaGreat
end
end
section
namespace Go.Proofs.YtbmbbcaaimehkaaGreat
open Go.Lf
def ZmH (p0:ZV) (p1:Int):Option Bool:=
 some ((decide (p1 >=0)) && (decide (p1 < (p0.Za.qQ.length:Int))))
def Zrx (p0:ZV) (p1:Int):Option Bool:=
 some ((decide (p1 >=0)) && (decide (p1 < (p0.Za.Zv.length:Int))))
def Zi1 (p0:(List Int)) (p1:Int):Int ->(Int ->Option Int) ->Option Int:=fun v6 Zdn=>
 (bif decide (v6 < (p0.length:Int)) then(ZQ p0 v6).bind fun x9=>(bif(p1==x9) then some v6 else Zdn (Xa (v6 + 1))) else some (-1))
def Zzs (F:Nat) (p0:(List Int)) (p1:Int):Option Int:=
 loop F (Zi1 p0 p1) 0
def Ztv (p0:(List Zw)):Option (List Zw):=
 (app 24 ([]:List Zw) p0).bind fun z3=>some z3
end Go.Proofs.YtbmbbcaaimehkaaGreat
end
section
set_option maxRecDepth 20000
noncomputable section
namespace Go.Proofs.YtbmbbcaaimehkaaGreat
open Go.YG Go.Lf
theorem ZHJ {wm:Nat} {h:H} {p0:ZV} {p1:Int} {Zi:Option Addr} {Zh:Nat} {Zq:Option Addr} {Zo:Nat} {Zk:Option Addr} {Zj:Nat} {Zp:Option Addr} {Zn:Nat} {Zm:Option Addr} {Zl:Nat} {Z4:Option Addr} {Z0 YX WW:Nat} {r:Bool} (ZX:wm <=h.size) (XR:At h YX WW [.slice Zi p0.Za.Zv.length Zh,.slice Zq p0.Za.qK.length Zo,.slice Zk p0.Za.qQ.length Zj,.slice Zp p0.Za.qJ.length Zn,.slice Zm p0.Za.qG.length Zl,.int .i64 p0.Za.said,.slice Z4 p0.Y2.length Z0]) (XQ:Stb wm h YX) (ZA:Sl (Zu .i64) wm h Zi Zh p0.Za.Zv) (ZM:Sl (ZE (Zu .i64)) wm h Zq Zo p0.Za.qK) (ZL:Sl (ZE Zc) wm h Zk Zj p0.Za.qQ) (ZN:Sl (ZE Zg) wm h Zp Zn p0.Za.qJ) (ZK:Sl Zd wm h Zm Zl p0.Za.qG) (Xo:Sl XA wm h Z4 Z0 p0.Y2) (hL:ZmH p0 p1=some r):
 WR XX 95 #[.pointer (some ⟨YX,WW,none⟩),.int .i64 p1] wm h (CP (fun(v:Value) (Gb:List (Ast wm))=>v= .bool r∧Gb= []) [] h):=by
 refine bg Tryz.ntmps95 ZX Yd.nil ?_;intro T hT hS;unfold ZmH at hL;refine XY ?_;refine r3 ?_;refine WO.gv (Zt.yes rfl rfl rfl (Y1 rfl (Zz rfl fh))) rfl (fun hg=>(ZW Zp0 (YW fh rfl hg) (At.fz hS.fz XQ XR) (j:=2) rfl (v:= .slice Zk p0.Za.qQ.length Zj) rfl)) ?_;refine r6 ?_;refine r1 ?_;exact rt hL hT hS
theorem Zry {h:H} {p0:ZV} {p1:Int} {Zi:Option Addr} {Zh:Nat} {Zq:Option Addr} {Zo:Nat} {Zk:Option Addr} {Zj:Nat} {Zp:Option Addr} {Zn:Nat} {Zm:Option Addr} {Zl:Nat} {Z4:Option Addr} {Z0 YX WW:Nat} {r:Bool} (XR:At h YX WW [.slice Zi p0.Za.Zv.length Zh,.slice Zq p0.Za.qK.length Zo,.slice Zk p0.Za.qQ.length Zj,.slice Zp p0.Za.qJ.length Zn,.slice Zm p0.Za.qG.length Zl,.int .i64 p0.Za.said,.slice Z4 p0.Y2.length Z0]) (XQ:Stb h.size h YX) (ZA:Sl (Zu .i64) h.size h Zi Zh p0.Za.Zv) (ZM:Sl (ZE (Zu .i64)) h.size h Zq Zo p0.Za.qK) (ZL:Sl (ZE Zc) h.size h Zk Zj p0.Za.qQ) (ZN:Sl (ZE Zg) h.size h Zp Zn p0.Za.qJ) (ZK:Sl Zd h.size h Zm Zl p0.Za.qG) (Xo:Sl XA h.size h Z4 Z0 p0.Y2) (hL:ZmH p0 p1=some r):Pure XX 95 #[.pointer (some ⟨YX,WW,none⟩),.int .i64 p1] h (.bool r):=
 WR.Qb rfl (ZHJ (Nat.le_refl _) XR XQ ZA ZM ZL ZN ZK Xo hL)
theorem ZHI {wm:Nat} {h:H} {p0:ZV} {p1:Int} {Zi:Option Addr} {Zh:Nat} {Zq:Option Addr} {Zo:Nat} {Zk:Option Addr} {Zj:Nat} {Zp:Option Addr} {Zn:Nat} {Zm:Option Addr} {Zl:Nat} {Z4:Option Addr} {Z0 YX WW:Nat} {r:Bool} (ZX:wm <=h.size) (XR:At h YX WW [.slice Zi p0.Za.Zv.length Zh,.slice Zq p0.Za.qK.length Zo,.slice Zk p0.Za.qQ.length Zj,.slice Zp p0.Za.qJ.length Zn,.slice Zm p0.Za.qG.length Zl,.int .i64 p0.Za.said,.slice Z4 p0.Y2.length Z0]) (XQ:Stb wm h YX) (ZA:Sl (Zu .i64) wm h Zi Zh p0.Za.Zv) (ZM:Sl (ZE (Zu .i64)) wm h Zq Zo p0.Za.qK) (ZL:Sl (ZE Zc) wm h Zk Zj p0.Za.qQ) (ZN:Sl (ZE Zg) wm h Zp Zn p0.Za.qJ) (ZK:Sl Zd wm h Zm Zl p0.Za.qG) (Xo:Sl XA wm h Z4 Z0 p0.Y2) (hL:Zrx p0 p1=some r):
 WR XX 96 #[.pointer (some ⟨YX,WW,none⟩),.int .i64 p1] wm h (CP (fun(v:Value) (Gb:List (Ast wm))=>v= .bool r∧Gb= []) [] h):=by
 refine bg Tryz.ntmps96 ZX Yd.nil ?_;intro T hT hS;unfold Zrx at hL;refine XY ?_;refine r3 ?_;refine WO.gv (Zt.yes rfl rfl rfl (Y1 rfl (Zz rfl fh))) rfl (fun hg=>(ZW Zg6 (YW fh rfl hg) (At.fz hS.fz XQ XR) (j:=0) rfl (v:= .slice Zi p0.Za.Zv.length Zh) rfl)) ?_;refine r6 ?_;refine r1 ?_;exact rt hL hT hS
theorem Zzt {h:H} {p0:ZV} {p1:Int} {Zi:Option Addr} {Zh:Nat} {Zq:Option Addr} {Zo:Nat} {Zk:Option Addr} {Zj:Nat} {Zp:Option Addr} {Zn:Nat} {Zm:Option Addr} {Zl:Nat} {Z4:Option Addr} {Z0 YX WW:Nat} {r:Bool} (XR:At h YX WW [.slice Zi p0.Za.Zv.length Zh,.slice Zq p0.Za.qK.length Zo,.slice Zk p0.Za.qQ.length Zj,.slice Zp p0.Za.qJ.length Zn,.slice Zm p0.Za.qG.length Zl,.int .i64 p0.Za.said,.slice Z4 p0.Y2.length Z0]) (XQ:Stb h.size h YX) (ZA:Sl (Zu .i64) h.size h Zi Zh p0.Za.Zv) (ZM:Sl (ZE (Zu .i64)) h.size h Zq Zo p0.Za.qK) (ZL:Sl (ZE Zc) h.size h Zk Zj p0.Za.qQ) (ZN:Sl (ZE Zg) h.size h Zp Zn p0.Za.qJ) (ZK:Sl Zd h.size h Zm Zl p0.Za.qG) (Xo:Sl XA h.size h Z4 Z0 p0.Y2) (hL:Zrx p0 p1=some r):Pure XX 96 #[.pointer (some ⟨YX,WW,none⟩),.int .i64 p1] h (.bool r):=
 WR.Qb rfl (ZHI (Nat.le_refl _) XR XQ ZA ZM ZL ZN ZK Xo hL)
theorem ZHH {F wm:Nat} {h:H} {p0:(List Int)} {p1:Int} {Zi:Option Addr} {Zh:Nat} {r:Int} (ZX:wm <=h.size) (ZA:Sl (Zu .i64) wm h Zi Zh p0) (hL:Zzs F p0 p1=some r):
 WR XX 99 #[.slice Zi p0.length Zh,.int .i64 p1] wm h (CP (fun(v:Value) (Gb:List (Ast wm))=>v= .int .i64 r∧Gb= []) [] h):=by
 refine bg Tryz.ntmps99 ZX Yd.nil ?_;intro T hT hS;unfold Zzs at hL;refine XY ?_;refine r2 ?_;refine WC.loop (WL.lift hL (fun(v6:Int) (s:Fs)=>∃ (Qp:Fr) (h1:H),s= ⟨Qp,[],h1,none⟩∧Sp wm T h [] h1∧Qp.at 0= .slice Zi p0.length Zh∧Qp.at 1= .int .i64 p1∧Qp.at 7= .int .i64 (p0.length:Int)∧Qp.at 8= .int .i64 v6) ⟨_,_,rfl,hS.only .n,YH⟩ ?_);clear hL hS;rintro Zdn v6 s ZiD hL ⟨Qp,h1,rfl,hS,e3,e4,e5,e7⟩;dsimp only [Zi1] at hL;refine r6 ?_;refine cn hL ?_ ?_
 ·intro hc hL;refine XY ?_;refine r3 ?_;obtain⟨x9,hx9,hL⟩:=bind_some hL;obtain⟨b10,o11,_,ZiN,ZiT,Zpf,Ztm⟩:=Sl.at_ ZA hx9;refine WO.w gN rfl (ZH YI YJ lk lk rfl ZiN hx9) ?_;refine WO.w gN rfl (ZW Xr (Yt fh rfl) (At.fz hS.fz Zpf ZiT) (j:=0) rfl (v:= .int .i64 x9) rfl) ?_;refine r3 ?_;refine cn hL ?_ ?_
  ·intro hc hL;refine XY ?_;exact rt hL hT hS
  ·intro hc hL;refine r6 ?_;refine r1 ?_;exact Yh.Y7 (ZiD _ _ hL ⟨_,_,rfl,hS.only .n,YH⟩)
 ·intro hc hL;refine r8 ?_;refine r3 ?_;exact rt hL hT hS
theorem ZCZ {wm:Nat} {h:H} {p0:(List Zw)} {Zi:Option Addr} {Zh:Nat} {r:(List Zw)} (ZX:wm <=h.size) (ZA:Sl Zc wm h Zi Zh p0) (hL:Ztv p0=some r):
 WR XX 101 #[.slice Zi p0.length Zh] wm h (CP (fun(v:Value) (Gb:List (Ast wm))=>∃ (Ql:Option Addr) (Qj:Nat) (Qk:Nat),v= .slice Ql Qj Qk∧Gb= [ow wm Zc Ql Qj Qk r]) [] h):=by
 refine bg Tryz.ntmps101 ZX Yd.nil ?_;intro T hT hS;unfold Ztv at hL;refine r8 ?_;rcases Sl.cases ZA with⟨rfl,rfl,rfl⟩ | ⟨qa,rfl⟩
 ·
  refine r1 ?_;refine WO.w gN rfl (Uf (Yt fh rfl) (evC rfl) (ZgB Ui)) ?_;refine r2 ?_;refine WC.Znh lk rfl ?_;rw [Zr1 _ (by decide)] at hL;replace hL:some []=some r:=hL;refine r6 ?_;refine r1 ?_;have hS:=hS.nil (e:=Zc);have hr:=Oi0 hL;subst hr;exact Yo.Qg rfl (ZU lk ZC) ⟨_,⟨none,0,0,rfl,rfl⟩,hT ▸ hS.only (.c k0 .n)⟩
 ·
  refine r1 ?_;refine WO.w gN rfl (Uf (Yt fh rfl) (evC rfl) (ZgC Ui)) ?_;refine r2 ?_;refine WC.ZdW lk rfl ?_;refine r4 ?_;refine WO.hn gN rfl (ZaD (e:=Zc) hS Ui Xt ZhP rfl rfl rfl Yf rfl [] rfl (xs:= ([]:List Zw)) rfl (by intro q hq;cases hq) rfl) ?_;rintro _ h2 ⟨b1,eb1,rfl,hS⟩;refine r1 ?_;obtain⟨z3,hz3,hL⟩:=bind_some hL;refine WO.hv gN rfl (KG (e:=Zc) hS k0 ZAk lk lk (Sl.src (hS.sl ZA)) rfl hz3) ?_;rintro _ h6 ⟨a4,c5,rfl,hS⟩;refine r4 ?_;have hr:=Oi0 hL;subst hr;exact Yo.Qg rfl (ZU lk ZC) ⟨_,⟨a4,z3.length,c5,rfl,rfl⟩,hT ▸ hS.only (.c k0 .n)⟩
end Go.Proofs.YtbmbbcaaimehkaaGreat
end
end
section
namespace Go.Proofs.YtbmbbcaaimehkaaGreat
open Go.Lf
def Ztu (p0:(List Zr)):Option (List Zr):=
 (app 40 ([]:List Zr) p0).bind fun z3=>some z3
def Zg1 (p0:Z6) (p1:Int) (p2:Zr):Option Z6:=
 (ZQ p0.Za.qK p2.place).bind fun x7=>(app 8 x7 [p2.msg]).bind fun z15=>(ZQ p0.Za.qK p2.place).bind fun x19=>(app 40 p0.qX [(ZI.mk 1 p2.place p1 p2.msg p2.hops)]).bind fun z26=>some (Z6.mk (Zb.mk p0.Za.Zv (Yv p0.Za.qK p2.place z15) p0.Za.qQ p0.Za.qJ p0.Za.qG p0.Za.said) z26)
end Go.Proofs.YtbmbbcaaimehkaaGreat
end
section
set_option maxRecDepth 20000
noncomputable section
namespace Go.Proofs.YtbmbbcaaimehkaaGreat
open Go.YG Go.Lf
theorem ZCY {wm:Nat} {h:H} {p0:(List Zr)} {Zi:Option Addr} {Zh:Nat} {r:(List Zr)} (ZX:wm <=h.size) (ZA:Sl Zg wm h Zi Zh p0) (hL:Ztu p0=some r):
 WR XX 102 #[.slice Zi p0.length Zh] wm h (CP (fun(v:Value) (Gb:List (Ast wm))=>∃ (Ql:Option Addr) (Qj:Nat) (Qk:Nat),v= .slice Ql Qj Qk∧Gb= [ow wm Zg Ql Qj Qk r]) [] h):=by
 refine bg Tryz.ntmps102 ZX Yd.nil ?_;intro T hT hS;unfold Ztu at hL;refine r8 ?_;rcases Sl.cases ZA with⟨rfl,rfl,rfl⟩ | ⟨qa,rfl⟩
 ·
  refine r1 ?_;refine WO.w gN rfl (Uf (Yt fh rfl) (evC rfl) (ZgB Zbt)) ?_;refine r2 ?_;refine WC.Znh lk rfl ?_;rw [Zr1 _ (by decide)] at hL;replace hL:some []=some r:=hL;refine r6 ?_;refine r1 ?_;have hS:=hS.nil (e:=Zg);have hr:=Oi0 hL;subst hr;exact Yo.Qg rfl (ZU lk ZC) ⟨_,⟨none,0,0,rfl,rfl⟩,hT ▸ hS.only (.c k0 .n)⟩
 ·
  refine r1 ?_;refine WO.w gN rfl (Uf (Yt fh rfl) (evC rfl) (ZgC Zbt)) ?_;refine r2 ?_;refine WC.ZdW lk rfl ?_;refine r4 ?_;refine WO.hn gN rfl (ZaD (e:=Zg) hS Zbt Uz ZhN rfl rfl rfl Yf rfl [] rfl (xs:= ([]:List Zr)) rfl (by intro q hq;cases hq) rfl) ?_;rintro _ h2 ⟨b1,eb1,rfl,hS⟩;refine r1 ?_;obtain⟨z3,hz3,hL⟩:=bind_some hL;refine WO.hv gN rfl (KG (e:=Zg) hS k0 ZjS lk lk (Sl.src (hS.sl ZA)) rfl hz3) ?_;rintro _ h6 ⟨a4,c5,rfl,hS⟩;refine r4 ?_;have hr:=Oi0 hL;subst hr;exact Yo.Qg rfl (ZU lk ZC) ⟨_,⟨a4,z3.length,c5,rfl,rfl⟩,hT ▸ hS.only (.c k0 .n)⟩
theorem Ztt {wm:Nat} {h:H} {p0:Z6} {p1:Int} {p2:Zr} {Zi:Option Addr} {Zh XM:Nat} {Zq:Option Addr} {Zo Je:Nat} {YF:Nat ->Option Addr×Nat×Nat} {Zk:Option Addr} {Zj Jd:Nat} {YQ:Nat ->Option Addr×Nat×Nat} {Zp:Option Addr} {Zn Jc:Nat} {YE:Nat ->Option Addr×Nat×Nat} {Zm:Option Addr} {Zl Jb:Nat} {Z4:Option Addr} {Z0 Qm YX:Nat} {r:Z6} (ZX:wm <=h.size) (hO:Yd (wm:=wm) [bx wm YX (cG Zi XM Zh Zq Je Zo Zk Jd Zj Zp Jc Zn Zm Jb Zl p0.Za.said Z4 Qm Z0),ow wm (Zu .i64) Zi XM Zh p0.Za.Zv,Xb wm (Z5 (Zu .i64)) Zq Je Zo YF p0.Za.qK,Xb wm (Z5 Zc) Zk Jd Zj YQ p0.Za.qQ,Xb wm (Z5 Zg) Zp Jc Zn YE p0.Za.qJ,ow wm Zd Zm Jb Zl p0.Za.qG,ow wm ZP Z4 Qm Z0 p0.qX] h) (hL:Zg1 p0 p1 p2=some r):
 WR XX 103 #[.pointer (some ⟨YX,0,none⟩),.int .i64 p1,.agg [.int .i64 p2.msg,.int .i64 p2.place,.int .i64 p2.from_,.int .i64 p2.age,.int .i64 p2.hops].toArray] wm h (CP (fun(v:Value) (Gb:List (Ast wm))=>∃ (JA:Option Addr) (UF:Nat) (Jt:Nat) (Jz:Option Addr) (UE:Nat) (Js:Nat) (UI:Nat ->Option Addr×Nat×Nat) (Jy:Option Addr) (UD:Nat) (Jr:Nat) (UH:Nat ->Option Addr×Nat×Nat) (Jw:Option Addr) (UC:Nat) (Jq:Nat) (UG:Nat ->Option Addr×Nat×Nat) (Jv:Option Addr) (UB:Nat) (Jp:Nat) (Ju:Option Addr) (Jm:Nat) (Jo:Nat),v= .tuple [].toArray∧Gb= [bx wm YX (cG JA UF Jt Jz UE Js Jy UD Jr Jw UC Jq Jv UB Jp r.Za.said Ju Jm Jo),ow wm (Zu .i64) JA UF Jt r.Za.Zv,Xb wm (Z5 (Zu .i64)) Jz UE Js UI r.Za.qK,Xb wm (Z5 Zc) Jy UD Jr UH r.Za.qQ,Xb wm (Z5 Zg) Jw UC Jq UG r.Za.qJ,ow wm Zd Jv UB Jp r.Za.qG,ow wm ZP Ju Jm Jo r.qX]) [bx wm YX (cG Zi XM Zh Zq Je Zo Zk Jd Zj Zp Jc Zn Zm Jb Zl p0.Za.said Z4 Qm Z0),ow wm (Zu .i64) Zi XM Zh p0.Za.Zv,Xb wm (Z5 (Zu .i64)) Zq Je Zo YF p0.Za.qK,Xb wm (Z5 Zc) Zk Jd Zj YQ p0.Za.qQ,Xb wm (Z5 Zg) Zp Jc Zn YE p0.Za.qJ,ow wm Zd Zm Jb Zl p0.Za.qG,ow wm ZP Z4 Qm Z0 p0.qX] h):=by
 refine bg Tryz.ntmps103 ZX hO ?_;intro T hT hS;unfold Zg1 at hL;obtain rfl:=hS.on k1;obtain rfl:=hS.Xm k2;obtain rfl:=hS.Xm k3;obtain rfl:=hS.Xm k4;obtain rfl:=hS.on k5;obtain rfl:=hS.on k6;refine r3 ?_;rintro _ h2 ⟨b1,eb1,rfl,hS⟩;refine r3 ?_;refine WC.Xw mixed Kq0 ?_;refine r4 ?_;refine WX.wr (fun x=>x=YX) hS gN rfl (fun _ _ hR=>ZW ZAx (Yt fh rfl) (At.eqv (hR YX rfl) (hS.atB k1)) (j:=1) rfl (v:= .slice Zq p0.Za.qK.length Zo) rfl) ?_ rfl rfl;rintro h3 e4 hS;refine r1 ?_;refine WX.wr (fun x=>x=b1) hS gN rfl (fun _ _ hR=>ZW Xr (Yt fh rfl) (At.eqv (hR b1 rfl) (hS.atB k0)) (j:=1) rfl (v:= .int .i64 p2.place) rfl) ?_ rfl rfl;rintro h5 e6 hS;refine r6 ?_;refine r1 ?_;obtain⟨x7,hx7,hL⟩:=bind_some hL;obtain⟨b8,o9,a10,n11,c12,ZQN,ZuN,ZG6⟩:=hS.atS k3 hx7;refine WX.w gN rfl (ZH Zen U7 lk lk rfl ZuN hx7) ?_ rfl;refine WX.w gN rfl (ZW Zg6 (Yt fh rfl) ZG6 (j:=0) rfl (v:= .slice a10 n11 c12) rfl) ?_ rfl;refine r2 ?_;refine WX.hn gN rfl (ZaD (e:= (Zu .i64)) hS YI YJ Zbs rfl rfl rfl (ZG lk Yf) rfl [((),p2.msg)] rfl (xs:= [p2.msg]) rfl (by intro q hq;simp only [List.mem_cons,List.not_mem_nil,or_false] at hq;subst hq;exact trivial) rfl) ?_ rfl;rintro _ h14 ⟨b13,ZX2,rfl,hS⟩;obtain⟨z15,ZQp,hL⟩:=bind_some hL;have hS:=hS.ZhY k4 hx7 ZQN;refine WX.hv gN rfl (KG (e:= (Zu .i64)) hS k1 JL lk lk (hS.QT k2) (hS.on k2) ZQp) ?_ rfl rfl [4,6] Kq0 (.c (.s (.s .z)) (hS.dj (.c k1 (.c k3 .n))) (.c (.s .z) (hS.dj (.c k1 (.c k2 .n))) YO.e));rintro _ h18 ⟨a16,c17,rfl,hS⟩;obtain⟨x19,ZqW,hL⟩:=bind_some hL;refine WX.w gN rfl (ZH Zen U7 lk lk rfl ZuN ZqW) ?_ Kq0;refine WX.hu gN (ZsD hS k1 U7 (Yt fh rfl) (Yt (Zz rfl fh) rfl) ZuN hx7 (j:=0) rfl (vs:= [.slice a16 z15.length c17]) rfl rfl rfl rfl rfl (cs':= [.slice a16 z15.length c17]) rfl rfl rfl) ?_ rfl Kq0 [] Kq0 YO.e;rintro h21 hS;obtain⟨ZP2,ZWd,hS⟩:=hS.ZiZ (.c k0 (.c k0 .n)) hx7;refine r2 ?_;refine WC.Xw mixed Kq0 ?_;refine XY ?_;refine WX.w gN rfl (XT ZAc (ZG lk (ZG lk (ZG lk (ZG lk (ZG lk Yf))))) rfl (cs':= [.int .i64 1,.int .i64 p2.place,.int .i64 p1,.int .i64 p2.msg,.int .i64 p2.hops]) rfl) ?_ rfl;refine WX.hn gN rfl (ZaD (e:=ZP) hS ZnW Zfy ZhO rfl rfl rfl (ZG lk Yf) rfl [((),(ZI.mk 1 p2.place p1 p2.msg p2.hops))] rfl (xs:= [(ZI.mk 1 p2.place p1 p2.msg p2.hops)]) rfl (by intro q hq;simp only [List.mem_cons,List.not_mem_nil,or_false] at hq;subst hq;exact trivial) rfl) ?_ rfl;rintro _ h25 ⟨b24,ZNI,rfl,hS⟩;obtain⟨z26,ZQm,hL⟩:=bind_some hL;refine WX.hv gN rfl (KG (e:=ZP) hS k9 ZjT lk lk (hS.QT k0) (hS.on k0) ZQm) ?_ rfl rfl [] Kq0 YO.e;rintro _ h29 ⟨a27,c28,rfl,hS⟩;refine WX.w gN rfl (Zd0 lk) ?_ Kq0;refine WX.w gN rfl (Ue ZeS lk) ?_ Kq0;refine WX.hu gN (Za3 hS k5 ZlO lk lk (vs:= [.slice a27 z26.length c28]) rfl rfl rfl rfl (cs':= (cG Zi p0.Za.Zv.length Zh Zq p0.Za.qK.length Zo Zk p0.Za.qQ.length Zj Zp p0.Za.qJ.length Zn Zm p0.Za.qG.length Zl p0.Za.said a27 z26.length c28)) rfl) ?_ rfl Kq0 [] Kq0 YO.e;rintro h30 hS;refine r1 ?_;refine Yo.Y7 ?_;have hr:=Oi0 hL;subst hr;exact Yo.gen (vs:= []) rfl ZC rfl ⟨_,⟨Zi,p0.Za.Zv.length,Zh,Zq,p0.Za.qK.length,Zo,ZP2,Zk,p0.Za.qQ.length,Zj,YQ,Zp,p0.Za.qJ.length,Zn,YE,Zm,p0.Za.qG.length,Zl,a27,z26.length,c28,rfl,rfl⟩,hT ▸ hS.only (.c k0 (.c k5 (.c k2 (.c k4 (.c k4 (.c k4 (.c k0 .n)))))))⟩
end Go.Proofs.YtbmbbcaaimehkaaGreat
end
end
section
namespace Go.Proofs.YtbmbbcaaimehkaaGreat
open Go.Lf
def Zu6 (p0:Zb) (p1:Zx):Option Bool:=
 (bif(p1.act==1) then(Zhg p1.a (p0.qQ.length:Int)).bind fun x5=>(gd x5 (Zhg p1.b (p0.Zv.length:Int)) default).bind fun x6=>some (x5 && x6) else(bif(p1.act==2) then(Zhg p1.a (p0.Zv.length:Int)).bind fun x7=>(gd x7 (Zhg p1.b (p0.qQ.length:Int)) default).bind fun x8=>some (x7 && x8) else(bif(p1.act==3) then(Zhg p1.a (p0.Zv.length:Int)).bind fun x9=>(gd x9 (Zhg p1.b (p0.Zv.length:Int)) default).bind fun x10=>some (x9 && x10) else(bif(p1.act==4) then(Zhg p1.a (p0.Zv.length:Int)).bind fun XL=>some XL else(bif(p1.act==5) then some ((decide (p1.a >=0)) && (decide (p1.a < (p0.qG.length:Int)))) else some false)))))
def ZzO (F:Nat) (p0:Zb) (p1:Int):Option (Int×Bool×Int):=
 (ZrF F p0 p1).bind fun x3=>some (x3.1.at_,x3.1.is,x3.1.age)
end Go.Proofs.YtbmbbcaaimehkaaGreat
end
section
set_option maxRecDepth 20000
noncomputable section
namespace Go.Proofs.YtbmbbcaaimehkaaGreat
open Go.YG Go.Lf
theorem ZIn {wm:Nat} {h:H} {p0:Zb} {p1:Zx} {Zi:Option Addr} {Zh:Nat} {Zq:Option Addr} {Zo:Nat} {Zk:Option Addr} {Zj:Nat} {Zp:Option Addr} {Zn:Nat} {Zm:Option Addr} {Zl:Nat} {r:Bool} (ZX:wm <=h.size) (ZA:Sl (Zu .i64) wm h Zi Zh p0.Zv) (ZM:Sl (ZE (Zu .i64)) wm h Zq Zo p0.qK) (ZL:Sl (ZE Zc) wm h Zk Zj p0.qQ) (ZN:Sl (ZE Zg) wm h Zp Zn p0.qJ) (ZK:Sl Zd wm h Zm Zl p0.qG) (hL:Zu6 p0 p1=some r):
 WR XX 22 #[.agg [.slice Zi p0.Zv.length Zh,.slice Zq p0.qK.length Zo,.slice Zk p0.qQ.length Zj,.slice Zp p0.qJ.length Zn,.slice Zm p0.qG.length Zl,.int .i64 p0.said].toArray,.agg [.int .i64 p1.act,.int .i64 p1.a,.int .i64 p1.b].toArray] wm h (CP (fun(v:Value) (Gb:List (Ast wm))=>v= .bool r∧Gb= []) [] h):=by
 refine bg Tryz.ntmps22 ZX Yd.nil ?_;intro T hT hS;unfold Zu6 at hL;refine r3 ?_;rintro _ h2 ⟨b1,eb1,rfl,hS⟩;refine r1 ?_;rintro _ h4 ⟨b3,eb3,rfl,hS⟩;refine r16 ?_;refine r1 ?_;refine cn hL ?_ ?_
 ·intro hc hL;refine r6 ?_;refine r1 ?_;obtain⟨x5,hx5,hL⟩:=bind_some hL;refine WO.cp gN rfl (Xg.fn ZiK (Zf lk (Zf lk Zy))) (ZdS hx5) ?_;refine r6 ?_;obtain⟨x6,hx6,hL⟩:=Yq hL;refine WO.gcp (Zt.yes rfl rfl rfl (Y1 rfl (Zz rfl fh))) rfl (fun hg=>(Xg.fn ZiK (Zf (YW (YB rfl (Zz rfl fh)) rfl hg) (Zf (YW fh rfl hg) Zy)))) (fun hg=>ZdS (hx6 hg)) ?_;refine r6 ?_;refine r1 ?_;exact rt hL hT hS
 ·intro hc hL;refine r6 ?_;refine cn hL ?_ ?_
  ·intro hc hL;refine r6 ?_;refine r1 ?_;obtain⟨x7,hx7,hL⟩:=bind_some hL;refine WO.cp gN rfl (Xg.fn ZiK (Zf lk (Zf lk Zy))) (ZdS hx7) ?_;refine r6 ?_;obtain⟨x8,hx8,hL⟩:=Yq hL;refine WO.gcp (Zt.yes rfl rfl rfl (Y1 rfl (Zz rfl fh))) rfl (fun hg=>(Xg.fn ZiK (Zf (YW (YB rfl (Zz rfl fh)) rfl hg) (Zf (YW fh rfl hg) Zy)))) (fun hg=>ZdS (hx8 hg)) ?_;refine r6 ?_;refine r1 ?_;exact rt hL hT hS
  ·intro hc hL;refine r6 ?_;refine cn hL ?_ ?_
   ·intro hc hL;refine r6 ?_;refine r1 ?_;obtain⟨x9,hx9,hL⟩:=bind_some hL;refine WO.cp gN rfl (Xg.fn ZiK (Zf lk (Zf lk Zy))) (ZdS hx9) ?_;refine r6 ?_;obtain⟨x10,ZuJ,hL⟩:=Yq hL;refine WO.gcp (Zt.yes rfl rfl rfl (Y1 rfl (Zz rfl fh))) rfl (fun hg=>(Xg.fn ZiK (Zf (YW (YB rfl (Zz rfl fh)) rfl hg) (Zf (YW fh rfl hg) Zy)))) (fun hg=>ZdS (ZuJ hg)) ?_;refine r6 ?_;refine r1 ?_;exact rt hL hT hS
   ·intro hc hL;refine r6 ?_;refine cn hL ?_ ?_
    ·intro hc hL;refine r6 ?_;refine r1 ?_;obtain⟨XL,Zhe,hL⟩:=bind_some hL;refine WO.cp gN rfl (Xg.fn ZiK (Zf lk (Zf lk Zy))) (ZdS Zhe) ?_;refine r6 ?_;exact rt hL hT hS
    ·intro hc hL;refine r6 ?_;refine cn hL ?_ ?_
     ·intro hc hL;refine r16 ?_;refine r3 ?_;exact rt hL hT hS
     ·intro hc hL;refine r8 ?_;refine r1 ?_;exact rt hL hT hS
theorem ZIo {h:H} {p0:Zb} {p1:Zx} {Zi:Option Addr} {Zh:Nat} {Zq:Option Addr} {Zo:Nat} {Zk:Option Addr} {Zj:Nat} {Zp:Option Addr} {Zn:Nat} {Zm:Option Addr} {Zl:Nat} {r:Bool} (ZA:Sl (Zu .i64) h.size h Zi Zh p0.Zv) (ZM:Sl (ZE (Zu .i64)) h.size h Zq Zo p0.qK) (ZL:Sl (ZE Zc) h.size h Zk Zj p0.qQ) (ZN:Sl (ZE Zg) h.size h Zp Zn p0.qJ) (ZK:Sl Zd h.size h Zm Zl p0.qG) (hL:Zu6 p0 p1=some r):Pure XX 22 #[.agg [.slice Zi p0.Zv.length Zh,.slice Zq p0.qK.length Zo,.slice Zk p0.qQ.length Zj,.slice Zp p0.qJ.length Zn,.slice Zm p0.qG.length Zl,.int .i64 p0.said].toArray,.agg [.int .i64 p1.act,.int .i64 p1.a,.int .i64 p1.b].toArray] h (.bool r):=
 WR.Qb rfl (ZIn (Nat.le_refl _) ZA ZM ZL ZN ZK hL)
theorem ZIj {F wm:Nat} {h:H} {p0:Zb} {p1:Int} {Zi:Option Addr} {Zh:Nat} {Zq:Option Addr} {Zo:Nat} {Zk:Option Addr} {Zj:Nat} {Zp:Option Addr} {Zn:Nat} {Zm:Option Addr} {Zl:Nat} {r:(Int×Bool×Int)} (ZX:wm <=h.size) (ZA:Sl (Zu .i64) wm h Zi Zh p0.Zv) (ZM:Sl (ZE (Zu .i64)) wm h Zq Zo p0.qK) (ZL:Sl (ZE Zc) wm h Zk Zj p0.qQ) (ZN:Sl (ZE Zg) wm h Zp Zn p0.qJ) (ZK:Sl Zd wm h Zm Zl p0.qG) (hL:ZzO F p0 p1=some r):
 WR XX 33 #[.agg [.slice Zi p0.Zv.length Zh,.slice Zq p0.qK.length Zo,.slice Zk p0.qQ.length Zj,.slice Zp p0.qJ.length Zn,.slice Zm p0.qG.length Zl,.int .i64 p0.said].toArray,.int .i64 p1] wm h (CP (fun(v:Value) (Gb:List (Ast wm))=>v= .tuple [.int .i64 r.1,.bool r.2.1,.int .i64 r.2.2].toArray∧Gb= []) [] h):=by
 refine bg Tryz.ntmps33 ZX Yd.nil ?_;intro T hT hS;unfold ZzO at hL;refine r3 ?_;rintro _ h2 ⟨b1,eb1,rfl,hS⟩;refine r8 ?_;refine r1 ?_;obtain⟨x3,hx3,hL⟩:=bind_some hL;refine WO.cl gN rfl (Xg.fn ZEH (Zf lk (Zf lk Zy))) hS .n (fun g' hz hf hO=>ZzI (by rw [hz];exact hS.hw) ((hS.sl ZA).mono hf) ((hS.sl ZM).mono hf) ((hS.sl ZL).mono hf) ((hS.sl ZN).mono hf) ((hS.sl ZK).mono hf) hx3) ?_;rintro _ h4 _ ⟨rfl,rfl⟩ hS;refine r4 ?_;rintro _ h7 ⟨b6,eb6,rfl,hS⟩;refine r1 ?_;rintro h8 hS;refine r4 ?_;refine WC.Xw mixed Kq0 ?_;refine XY ?_;have hr:=Oi0 hL;subst hr;exact Yo.gen (vs:= [.int .i64 x3.1.at_,.bool x3.1.is,.int .i64 x3.1.age]) rfl (ZU lk (ZU lk (ZU lk ZC))) rfl ⟨_,⟨rfl,rfl⟩,hT ▸ hS.only .n⟩
end Go.Proofs.YtbmbbcaaimehkaaGreat
end
end
section
namespace Go.Proofs.YtbmbbcaaimehkaaGreat
open Go.Lf
def Zjp (p0:Zb) (v22:Int) (Zl7:(Int ->Option Bool)):Int×Int ->(Int×Int ->Option Bool) ->Option Bool:=fun(v34,v36) Zij=>
 (bif((decide (v36 <= (p0.Zv.length:Int))) && (decide (v34 >=0))) then(bif(v34==v22) then some false else(ZQ p0.Zv v34).bind fun x41=>Zij (x41,Xa (v36 + 1))) else Zl7 (Xa (v22 + 1)))
def Zf5 (p0:Zb) (v51:Int) (Zl5:(Int ->Option Bool)) (x54:(List Zw)):Int ->(Int ->Option Bool) ->Option Bool:=fun v70 Zw8=>
 (bif decide (v70 < (x54.length:Int)) then(ZQ x54 v70).bind fun x73=>(bif(((((decide (x73.age < 0)) || (decide (x73.age > 30))) || (decide (x73.Z9 < 0))) || (decide (x73.Z9 >= (p0.qQ.length:Int)))) || (x73.here != (x73.Z9==v51))) then some false else Zw8 (Xa (v70 + 1))) else Zl5 (Xa (v51 + 1)))
def Zf4 (p0:Zb) (v85:Int) (Zl1:(Int ->Option Bool)) (x88:Ze):Int ->(Int ->Option Bool) ->Option Bool:=fun v109 ZsU=>
 (bif decide (v109 < (x88.qV.length:Int)) then(ZQ x88.qV v109).bind fun x112=>(gd ((!((decide (x112 < 0)) || (decide (x112 >= (p0.Zv.length:Int))))) && (decide (v109 > 0))) (ZQ x88.qV (Xa (v109 - 1))) default).bind fun x115=>(gd (!(((decide (x112 < 0)) || (decide (x112 >= (p0.Zv.length:Int)))) || ((decide (v109 > 0)) && (decide (x112 <=x115))))) (ZQ x88.Yk v109) default).bind fun Zj9=>(gd (!((((decide (x112 < 0)) || (decide (x112 >= (p0.Zv.length:Int)))) || ((decide (v109 > 0)) && (decide (x112 <=x115)))) || (decide (Zj9 < 1)))) (ZQ x88.Yk v109) default).bind fun Zdz=>(bif(((((decide (x112 < 0)) || (decide (x112 >= (p0.Zv.length:Int)))) || ((decide (v109 > 0)) && (decide (x112 <=x115)))) || (decide (Zj9 < 1))) || (decide (Zdz > 30))) then some false else ZsU (Xa (v109 + 1))) else(bif((x88.kind==3) && (((decide (x88.place < 0)) || (decide (x88.place >= (p0.Zv.length:Int)))) || (x88.at_==x88.Z9))) then some false else Zl1 (Xa (v85 + 1))))
def KS (F:Nat) (p0:Zb):Int ->(Int ->Option Bool) ->Option Bool:=fun v85 Zl1=>
 (bif decide (v85 < (p0.qG.length:Int)) then(ZQ p0.qG v85).bind fun x88=>(gd (!((decide (x88.Z9 < 0)) || (decide (x88.Z9 >= (p0.qQ.length:Int))))) (ZuX x88) default).bind fun x98=>(bif(((decide (x88.Z9 < 0)) || (decide (x88.Z9 >= (p0.qQ.length:Int)))) || (!x98)) then some false else loop F (Zf4 p0 v85 Zl1 x88) 0) else some true)
def ZdT (F:Nat) (p0:Zb):Int ->(Int ->Option Bool) ->Option Bool:=fun v51 Zl5=>
 (bif decide (v51 < (p0.qQ.length:Int)) then(ZQ p0.qQ v51).bind fun x54=>(bif((x54.length:Int) != (p0.Zv.length:Int)) then some false else loop F (Zf5 p0 v51 Zl5 x54) 0) else loop F (KS F p0) 0)
def Zf6 (F:Nat) (p0:Zb):Int ->(Int ->Option Bool) ->Option Bool:=fun v22 Zl7=>
 (bif decide (v22 < (p0.Zv.length:Int)) then(ZQ p0.Zv v22).bind fun x25=>loop F (Zjp p0 v22 Zl7) (x25,0) else loop F (ZdT F p0) 0)
def Zjq (F:Nat) (p0:Zb):Int ->(Int ->Option Bool) ->Option Bool:=fun v10 Za9=>
 (bif decide (v10 < (p0.Zv.length:Int)) then(ZQ p0.Zv v10).bind fun x13=>(bif((decide (x13 < (-1))) || (decide (x13 >= (p0.Zv.length:Int)))) then some false else Za9 (Xa (v10 + 1))) else loop F (Zf6 F p0) 0)
def ZzJ (F:Nat) (p0:Zb):Option Bool:=
 (bif((((((((decide ((p0.Zv.length:Int) < 1)) || (decide ((p0.Zv.length:Int) > 8))) || (decide ((p0.qQ.length:Int) < 1))) || (decide ((p0.qQ.length:Int) > 5))) || ((p0.qK.length:Int) != (p0.Zv.length:Int))) || ((p0.qJ.length:Int) != (p0.qQ.length:Int))) || (decide (p0.said < 0))) || (decide (p0.said > 40))) then some false else loop F (Zjq F p0) 0)
def Zpq (F:Nat) (p0:(List Int)) (p1:Int):Option Bool:=
 (Zzs F p0 p1).bind fun x1=>some (decide (x1 >=0))
end Go.Proofs.YtbmbbcaaimehkaaGreat
end
section
set_option maxRecDepth 20000
noncomputable section
namespace Go.Proofs.YtbmbbcaaimehkaaGreat
open Go.YG Go.Lf
theorem ZH9 {F wm:Nat} {h:H} {p0:Zb} {Zi:Option Addr} {Zh:Nat} {Zq:Option Addr} {Zo:Nat} {Zk:Option Addr} {Zj:Nat} {Zp:Option Addr} {Zn:Nat} {Zm:Option Addr} {Zl:Nat} {r:Bool} (ZX:wm <=h.size) (ZA:Sl (Zu .i64) wm h Zi Zh p0.Zv) (ZM:Sl (ZE (Zu .i64)) wm h Zq Zo p0.qK) (ZL:Sl (ZE Zc) wm h Zk Zj p0.qQ) (ZN:Sl (ZE Zg) wm h Zp Zn p0.qJ) (ZK:Sl Zd wm h Zm Zl p0.qG) (hL:ZzJ F p0=some r):
 WR XX 51 #[.agg [.slice Zi p0.Zv.length Zh,.slice Zq p0.qK.length Zo,.slice Zk p0.qQ.length Zj,.slice Zp p0.qJ.length Zn,.slice Zm p0.qG.length Zl,.int .i64 p0.said].toArray] wm h (CP (fun(v:Value) (Gb:List (Ast wm))=>v= .bool r∧Gb= []) [] h):=by
 refine bg Tryz.ntmps51 ZX Yd.nil ?_;intro T hT hS;unfold ZzJ at hL;refine r3 ?_;rintro _ h2 ⟨b1,eb1,rfl,hS⟩;refine r4 ?_;refine WC.Xw mixed Kq0 ?_;refine r16 ?_;refine r16 ?_;refine r16 ?_;refine r4 ?_;refine r1 ?_;refine cn hL ?_ ?_
 ·intro hc hL;refine r6 ?_;refine r1 ?_;exact rt hL hT hS
 ·intro hc hL;refine XY ?_;refine WC.loop (WL.lift hL (fun(v10:Int) (s:Fs)=>∃ (K4:Fr) (h3:H),s= ⟨K4,[],h3,none⟩∧Sp wm T h [bx wm b1 (cW p0 Zi Zh Zq Zo Zk Zj Zp Zn Zm Zl)] h3∧K4.at 1= .pointer (some ⟨b1,0,none⟩)∧K4.at 3= .int .i64 (p0.Zv.length:Int)∧K4.at 4= .int .i64 (p0.qQ.length:Int)∧K4.at 63= .slice Zi p0.Zv.length Zh∧K4.at 64= .int .i64 (p0.Zv.length:Int)∧K4.at 65= .int .i64 v10) ⟨_,_,rfl,hS.only (.c k0 .n),YH⟩ ?_);clear hL hS;rintro Za9 v10 s Zmt hL ⟨K4,h3,rfl,hS,e5,e6,e7,e8,e9,e11⟩;dsimp only [Zjq] at hL;refine r6 ?_;refine cn hL ?_ ?_
  ·intro hc hL;refine r6 ?_;obtain⟨x13,ZxL,hL⟩:=bind_some hL;obtain⟨b14,o15,_,ZyA,Zy4,ZyN,ZMs⟩:=Sl.at_ ZA ZxL;refine WO.w gN rfl (ZH YI YJ lk lk rfl ZyA ZxL) ?_;refine WO.w gN rfl (ZW Xr (Yt fh rfl) (At.fz hS.fz ZyN Zy4) (j:=0) rfl (v:= .int .i64 x13) rfl) ?_;refine XY ?_;refine r2 ?_;refine cn hL ?_ ?_
   ·intro hc hL;refine r8 ?_;refine r3 ?_;exact rt hL hT hS
   ·intro hc hL;refine r6 ?_;refine r1 ?_;exact Yh.Y7 (Zmt _ _ hL ⟨_,_,rfl,hS.only (.c k0 .n),YH⟩)
  ·intro hc hL;refine XY ?_;refine r3 ?_;refine WC.loop (WL.lift hL (fun(v22:Int) (s:Fs)=>∃ (ZeR:Fr) (h16:H),s= ⟨ZeR,[],h16,none⟩∧Sp wm T h [bx wm b1 (cW p0 Zi Zh Zq Zo Zk Zj Zp Zn Zm Zl)] h16∧ZeR.at 1= .pointer (some ⟨b1,0,none⟩)∧ZeR.at 3= .int .i64 (p0.Zv.length:Int)∧ZeR.at 4= .int .i64 (p0.qQ.length:Int)∧ZeR.at 79= .int .i64 (p0.Zv.length:Int)∧ZeR.at 80= .int .i64 v22) ⟨_,_,rfl,hS.only (.c k0 .n),YH⟩ ?_);clear hL hS;rintro Zl7 v22 s ZCj hL ⟨ZeR,h16,rfl,hS,e18,e19,e20,e21,e23⟩;dsimp only [Zf6] at hL;refine r6 ?_;refine cn hL ?_ ?_
   ·intro hc hL;refine XY ?_;refine r3 ?_;obtain⟨x25,hx25,hL⟩:=bind_some hL;obtain⟨b26,o27,_,ZL8,ZNd,ZMN,ZTU⟩:=Sl.at_ ZA hx25;refine WO.w gN rfl (ZH YI YJ lk lk rfl ZL8 hx25) ?_;refine WO.w gN rfl (ZW Xr (Yt fh rfl) (At.fz hS.fz ZMN ZNd) (j:=0) rfl (v:= .int .i64 x25) rfl) ?_;refine r8 ?_;refine r1 ?_;refine WC.loop (WL.lift hL (fun(p:Int×Int) (s:Fs)=>match p with | (v34,v36)=>∃ (ZbD:Fr) (h28:H),s= ⟨ZbD,[],h28,none⟩∧Sp wm T h [bx wm b1 (cW p0 Zi Zh Zq Zo Zk Zj Zp Zn Zm Zl)] h28∧ZbD.at 1= .pointer (some ⟨b1,0,none⟩)∧ZbD.at 3= .int .i64 (p0.Zv.length:Int)∧ZbD.at 4= .int .i64 (p0.qQ.length:Int)∧ZbD.at 7= .int .i64 v22∧ZbD.at 8= .int .i64 v34∧ZbD.at 9= .int .i64 v36∧ZbD.at 79= .int .i64 (p0.Zv.length:Int)∧ZbD.at 80= .int .i64 v22) ⟨_,_,rfl,hS.only (.c k0 .n),YH⟩ ?_);clear hL hS;rintro Zij ⟨v34,v36⟩ s Zmn hL ⟨ZbD,h28,rfl,hS,e30,e31,e32,e33,e35,e37,e38,e39⟩;dsimp only [Zjp] at hL;refine XY ?_;refine cn hL ?_ ?_
    ·intro hc hL;refine XY ?_;refine cn hL ?_ ?_
     ·intro hc hL;refine r16 ?_;exact rt hL hT hS
     ·intro hc hL;refine r6 ?_;obtain⟨x41,ZxF,hL⟩:=bind_some hL;obtain⟨b42,o43,_,Zyt,Zy0,ZyK,ZMo⟩:=Sl.at_ ZA ZxF;refine WO.w gN rfl (ZH YI YJ lk lk rfl Zyt ZxF) ?_;refine WO.w gN rfl (ZW Xr (Yt fh rfl) (At.fz hS.fz ZyK Zy0) (j:=0) rfl (v:= .int .i64 x41) rfl) ?_;refine r8 ?_;refine r1 ?_;exact Yh.Y7 (Zmn _ _ hL ⟨_,_,rfl,hS.only (.c k0 .n),YH⟩)
    ·intro hc hL;refine r8 ?_;refine r2 ?_;exact Yh.Y7 (ZCj _ _ hL ⟨_,_,rfl,hS.only (.c k0 .n),YH⟩)
   ·intro hc hL;refine XY ?_;refine r3 ?_;refine WC.loop (WL.lift hL (fun(v51:Int) (s:Fs)=>∃ (Zpk:Fr) (h44:H),s= ⟨Zpk,[],h44,none⟩∧Sp wm T h [bx wm b1 (cW p0 Zi Zh Zq Zo Zk Zj Zp Zn Zm Zl)] h44∧Zpk.at 1= .pointer (some ⟨b1,0,none⟩)∧Zpk.at 3= .int .i64 (p0.Zv.length:Int)∧Zpk.at 4= .int .i64 (p0.qQ.length:Int)∧Zpk.at 107= .slice Zk p0.qQ.length Zj∧Zpk.at 108= .int .i64 (p0.qQ.length:Int)∧Zpk.at 109= .int .i64 v51) ⟨_,_,rfl,hS.only (.c k0 .n),YH⟩ ?_);clear hL hS;rintro Zl5 v51 s ZCf hL ⟨Zpk,h44,rfl,hS,e46,e47,e48,e49,e50,e52⟩;dsimp only [ZdT] at hL;refine r6 ?_;refine cn hL ?_ ?_
    ·intro hc hL;refine r6 ?_;refine r1 ?_;obtain⟨x54,ZoO,hL⟩:=bind_some hL;obtain⟨b55,o56,⟨a57,c58⟩,Zo9,ZyV,ZMF,ZMk⟩:=Sl.at_ ZL ZoO;refine WO.w gN rfl (ZH Uj QG lk lk rfl Zo9 ZoO) ?_;have ZKU:Sl Zc wm h a57 c58 x54:=ZMk;refine WO.w gN rfl (ZW UQ (Yt fh rfl) (At.fz hS.fz ZMF ZyV) (j:=0) rfl (v:= .slice a57 x54.length c58) rfl) ?_;refine XY ?_;refine r1 ?_;refine cn hL ?_ ?_
     ·intro hc hL;refine XY ?_;exact rt hL hT hS
     ·intro hc hL;refine r8 ?_;refine r2 ?_;refine WC.loop (WL.lift hL (fun(v70:Int) (s:Fs)=>∃ (Zhf:Fr) (h59:H),s= ⟨Zhf,[],h59,none⟩∧Sp wm T h [bx wm b1 (cW p0 Zi Zh Zq Zo Zk Zj Zp Zn Zm Zl)] h59∧Zhf.at 1= .pointer (some ⟨b1,0,none⟩)∧Zhf.at 3= .int .i64 (p0.Zv.length:Int)∧Zhf.at 4= .int .i64 (p0.qQ.length:Int)∧Zhf.at 10= .int .i64 v51∧Zhf.at 107= .slice Zk p0.qQ.length Zj∧Zhf.at 108= .int .i64 (p0.qQ.length:Int)∧Zhf.at 109= .int .i64 v51∧Zhf.at 118= .slice a57 x54.length c58∧Zhf.at 119= .int .i64 (x54.length:Int)∧Zhf.at 120= .int .i64 v70) ⟨_,_,rfl,hS.only (.c k0 .n),YH⟩ ?_);clear hL hS;rintro Zw8 v70 s ZB6 hL ⟨Zhf,h59,rfl,hS,e61,e62,e63,e64,e65,e66,e67,e68,e69,e71⟩;dsimp only [Zf5] at hL;refine r6 ?_;refine cn hL ?_ ?_
      ·intro hc hL;refine r6 ?_;obtain⟨x73,ZuF,hL⟩:=bind_some hL;obtain⟨b74,o75,_,Ztf,ZyQ,ZMy,ZMf⟩:=Sl.at_ ZKU ZuF;refine WO.w gN rfl (ZH Ui Xt lk lk rfl Ztf ZuF) ?_;refine WO.w gN rfl (Xj Zlv Xt (Yt fh rfl) (At.fz hS.fz ZMy ZyQ) (j:=0) rfl rfl (ws:= (cE x73)) rfl) ?_;refine r1 ?_;rintro _ h77 ⟨b76,ZXF,rfl,hS⟩;refine r1 ?_;rintro h78 hS;refine r16 ?_;refine XY ?_;refine r2 ?_;refine WO.gv (Zt.no rfl rfl rfl (Y1 rfl (YB rfl fh))) rfl (fun hg=>(Uf (YW (Y1 rfl fh) rfl hg) (YW fh rfl hg) (ZaV Zwa))) ?_;refine r3 ?_;refine cn hL ?_ ?_
       ·intro hc hL;refine XY ?_;refine r3 ?_;exact rt hL hT hS
       ·intro hc hL;refine r6 ?_;refine r1 ?_;exact Yh.Y7 (ZB6 _ _ hL ⟨_,_,rfl,hS.only (.c k1 .n),YH⟩)
      ·intro hc hL;refine r8 ?_;refine r2 ?_;exact Yh.Y7 (ZCf _ _ hL ⟨_,_,rfl,hS.only (.c k0 .n),YH⟩)
    ·intro hc hL;refine XY ?_;refine r3 ?_;refine WC.loop (WL.lift hL (fun(v85:Int) (s:Fs)=>∃ (Zrk:Fr) (h79:H),s= ⟨Zrk,[],h79,none⟩∧Sp wm T h [] h79∧Zrk.at 3= .int .i64 (p0.Zv.length:Int)∧Zrk.at 4= .int .i64 (p0.qQ.length:Int)∧Zrk.at 155= .slice Zm p0.qG.length Zl∧Zrk.at 156= .int .i64 (p0.qG.length:Int)∧Zrk.at 157= .int .i64 v85) ⟨_,_,rfl,hS.only .n,YH⟩ ?_);clear hL hS;rintro Zl1 v85 s ZB1 hL ⟨Zrk,h79,rfl,hS,e81,e82,e83,e84,e86⟩;dsimp only [KS] at hL;refine r6 ?_;refine cn hL ?_ ?_
     ·intro hc hL;refine r6 ?_;obtain⟨x88,ZKn,hL⟩:=bind_some hL;obtain⟨b89,o90,⟨⟨a91,c92⟩,⟨a93,c94⟩⟩,ZLS,ZMV,ZMu,ZEM⟩:=Sl.at_ ZK ZKn;refine WO.w gN rfl (ZH JR Y6 lk lk rfl ZLS ZKn) ?_;have ZxP:Sl (Zu .i64) wm h a91 c92 x88.qV:=ZEM.1;have ZxO:Sl (Zu .i64) wm h a93 c94 x88.Yk:=ZEM.2;refine WO.w gN rfl (Xj ZaT Y6 (Yt fh rfl) (At.fz hS.fz ZMu ZMV) (j:=0) rfl rfl (ws:= (cL x88 a91 c92 a93 c94)) rfl) ?_;refine r1 ?_;rintro _ h96 ⟨b95,ZXx,rfl,hS⟩;refine r1 ?_;rintro h97 hS;refine r16 ?_;obtain⟨x98,hx98,hL⟩:=Yq hL;refine WO.gcp (Zt.no rfl rfl rfl (Zz rfl fh)) rfl (fun hg=>(Xg.fn ZLn (Zf (YW fh rfl hg) Zy))) (fun hg=>ZHP (hS.Y0 ZxP) (hS.Y0 ZxO) (hx98 hg)) ?_;refine r4 ?_;refine cn hL ?_ ?_
      ·intro hc hL;refine XY ?_;exact rt hL hT hS
      ·intro hc hL;refine XY ?_;refine WC.loop (WL.lift hL (fun(v109:Int) (s:Fs)=>∃ (Zcl:Fr) (h99:H),s= ⟨Zcl,[],h99,none⟩∧Sp wm T h [bx wm b95 (cL x88 a91 c92 a93 c94)] h99∧Zcl.at 3= .int .i64 (p0.Zv.length:Int)∧Zcl.at 4= .int .i64 (p0.qQ.length:Int)∧Zcl.at 15= .pointer (some ⟨b95,0,none⟩)∧Zcl.at 155= .slice Zm p0.qG.length Zl∧Zcl.at 156= .int .i64 (p0.qG.length:Int)∧Zcl.at 157= .int .i64 v85∧Zcl.at 176= .slice a91 x88.qV.length c92∧Zcl.at 177= .int .i64 (x88.qV.length:Int)∧Zcl.at 178= .int .i64 v109) ⟨_,_,rfl,hS.only (.c k0 .n),YH⟩ ?_);clear hL hS;rintro ZsU v109 s Zx5 hL ⟨Zcl,h99,rfl,hS,ZNP,ZSp,ZNO,ZSo,ZNN,ZYM,ZSn,e108,ZNM⟩;dsimp only [Zf4] at hL;refine r6 ?_;refine cn hL ?_ ?_
       ·intro hc hL;refine r6 ?_;refine r1 ?_;obtain⟨x112,hx112,hL⟩:=bind_some hL;obtain⟨ZZL,ZVW,_,ZGK,ZHx,ZG4,ZRv⟩:=Sl.at_ ZxP hx112;refine WO.w gN rfl (ZH YI YJ lk lk rfl ZGK hx112) ?_;refine WO.w gN rfl (ZW Xr (Yt fh rfl) (At.fz hS.fz ZG4 ZHx) (j:=0) rfl (v:= .int .i64 x112) rfl) ?_;refine r16 ?_;refine r6 ?_;obtain⟨x115,hx115,hL⟩:=Yq hL;obtain⟨ZZK,ZVV,_,hQ⟩:=Sl.atG (fun hg=>ZxP) hx115;have ZGJ:=fun hg=>(hQ hg).1
        have ZHw:=fun hg=>(hQ hg).2.1
        have ZG3:=fun hg=>(hQ hg).2.2.1
        have ZRu:=fun hg=>(hQ hg).2.2.2
        refine WO.gv (Zt.Zj6 rfl rfl rfl (Y1 rfl (Zz rfl fh))) rfl (fun hg=>(ZH YI YJ (YW (YB rfl fh) rfl hg) (YW fh rfl hg) rfl (ZGJ hg) (hx115 hg))) ?_;refine WO.gv (Zt.Zj6 rfl rfl rfl (Y1 rfl (YB rfl fh))) rfl (fun hg=>(ZW Xr (YW fh rfl hg) (At.fz hS.fz (ZG3 hg) (ZHw hg)) (j:=0) rfl (v:= .int .i64 x115) rfl)) ?_;refine r1 ?_;refine WO.gv (Zt.no rfl rfl rfl (YZ rfl (YB rfl (Zz rfl fh)))) rfl (fun hg=>(Zgv (YW (YZ rfl fh) rfl hg) (Zds fh hg) lk)) ?_;refine r4 ?_;refine r1 ?_;obtain⟨Zj9,ZEs,hL⟩:=Yq hL;obtain⟨ZZJ,ZVT,_,hQ⟩:=Sl.atG (fun hg=>ZxO) ZEs;have ZGH:=fun hg=>(hQ hg).1
        have ZHu:=fun hg=>(hQ hg).2.1
        have ZG2:=fun hg=>(hQ hg).2.2.1
        have ZRs:=fun hg=>(hQ hg).2.2.2
        refine WO.gv (Zt.no rfl rfl rfl (YB rfl (Zz rfl fh))) rfl (fun hg=>(ZH YI YJ (YW (Zz rfl fh) rfl hg) (YW fh rfl hg) rfl (ZGH hg) (ZEs hg))) ?_;refine WO.gv (Zt.no rfl rfl rfl (Y1 rfl fh)) rfl (fun hg=>(ZW Xr (YW fh rfl hg) (At.fz hS.fz (ZG2 hg) (ZHu hg)) (j:=0) rfl (v:= .int .i64 Zj9) rfl)) ?_;refine r6 ?_;obtain⟨Zdz,ZiB,hL⟩:=Yq hL;obtain⟨ZOp,ZP8,_,hQ⟩:=Sl.atG (fun hg=>ZxO) ZiB;have Zra:=fun hg=>(hQ hg).1
        have Zrf:=fun hg=>(hQ hg).2.1
        have ZG0:=fun hg=>(hQ hg).2.2.1
        have ZGR:=fun hg=>(hQ hg).2.2.2
        refine WO.gv (Zt.no rfl rfl rfl (YB rfl (Zz rfl fh))) rfl (fun hg=>(ZH YI YJ (YW (Zz rfl fh) rfl hg) (YW fh rfl hg) rfl (Zra hg) (ZiB hg))) ?_;refine WO.gv (Zt.no rfl rfl rfl (Y1 rfl fh)) rfl (fun hg=>(ZW Xr (YW fh rfl hg) (At.fz hS.fz (ZG0 hg) (Zrf hg)) (j:=0) rfl (v:= .int .i64 Zdz) rfl)) ?_;refine r4 ?_;refine cn hL ?_ ?_
        ·intro hc hL;refine r16 ?_;exact rt hL hT hS
        ·intro hc hL;refine r6 ?_;refine r1 ?_;exact Yh.Y7 (Zx5 _ _ hL ⟨_,_,rfl,hS.only (.c k0 .n),YH⟩)
       ·intro hc hL;refine r16 ?_;refine r3 ?_;refine WO.gv (Zt.yes rfl rfl rfl (YZ rfl fh)) rfl (fun hg=>(Zlr (YW (Y1 rfl fh) rfl hg) lk (Zds fh hg))) ?_;refine r6 ?_;refine WO.gv (Zt.yes rfl rfl rfl (YZ rfl (Y1 rfl (YB rfl (Zz rfl fh))))) rfl (fun hg=>(Zlr (YW (Y1 rfl (Zz rfl fh)) rfl hg) lk (Zds fh hg))) ?_;refine r3 ?_;refine cn hL ?_ ?_
        ·intro hc hL;refine r8 ?_;refine r3 ?_;exact rt hL hT hS
        ·intro hc hL;refine r6 ?_;refine r1 ?_;exact Yh.Y7 (ZB1 _ _ hL ⟨_,_,rfl,hS.only .n,YH⟩)
     ·intro hc hL;refine r8 ?_;refine r3 ?_;exact rt hL hT hS
theorem ZHU {F wm:Nat} {h:H} {p0:(List Int)} {p1:Int} {Zi:Option Addr} {Zh:Nat} {r:Bool} (ZX:wm <=h.size) (ZA:Sl (Zu .i64) wm h Zi Zh p0) (hL:Zpq F p0 p1=some r):
 WR XX 78 #[.slice Zi p0.length Zh,.int .i64 p1] wm h (CP (fun(v:Value) (Gb:List (Ast wm))=>v= .bool r∧Gb= []) [] h):=by
 refine bg Tryz.ntmps78 ZX Yd.nil ?_;intro T hT hS;unfold Zpq at hL;refine r8 ?_;refine r1 ?_;obtain⟨x1,hx1,hL⟩:=bind_some hL;refine WO.cp gN rfl (Xg.fn ZLh (Zf lk (Zf lk Zy))) (WR.Qb rfl (ZHH (Nat.le_refl _) (hS.Y0 ZA) hx1)) ?_;refine r4 ?_;refine r1 ?_;exact rt hL hT hS
theorem ZrD {F:Nat} {h:H} {p0:(List Int)} {p1:Int} {Zi:Option Addr} {Zh:Nat} {r:Bool} (ZA:Sl (Zu .i64) h.size h Zi Zh p0) (hL:Zpq F p0 p1=some r):Pure XX 78 #[.slice Zi p0.length Zh,.int .i64 p1] h (.bool r):=
 WR.Qb rfl (ZHU (Nat.le_refl _) ZA hL)
end Go.Proofs.YtbmbbcaaimehkaaGreat
end
end
section
namespace Go.Proofs.YtbmbbcaaimehkaaGreat
open Go.Lf
def ZmL (p0:(List (List Zw))):(List (List Zw))×Int ->((List (List Zw))×Int ->Option (List (List Zw))) ->Option (List (List Zw)):=fun(v3,v11) KO=>
 (bif decide (v11 < (p0.length:Int)) then(ZQ p0 v11).bind fun x14=>(Ztv x14).bind fun x19=>(app 24 v3 [x19]).bind fun z27=>KO (z27,Xa (v11 + 1)) else some v3)
def Zzz (F:Nat) (p0:(List (List Zw))):Option (List (List Zw)):=
 loop F (ZmL p0) ([],0)
def ZmK (p0:(List (List Zr))):(List (List Zr))×Int ->((List (List Zr))×Int ->Option (List (List Zr))) ->Option (List (List Zr)):=fun(v3,v11) KO=>
 (bif decide (v11 < (p0.length:Int)) then(ZQ p0 v11).bind fun x14=>(Ztu x14).bind fun x19=>(app 24 v3 [x19]).bind fun z27=>KO (z27,Xa (v11 + 1)) else some v3)
def Zzy (F:Nat) (p0:(List (List Zr))):Option (List (List Zr)):=
 loop F (ZmK p0) ([],0)
def Zpp (p0:Z6) (p1:Int) (p2:Zr) (p3:Bool):Option Z6:=
 (ZQ p0.Za.qQ p1).bind fun x3=>(ZQ x3 p2.place).bind fun x9=>(bif x9.here then(Zg1 p0 p1 p2).bind fun x15=>some x15 else(bif((decide (x9.age > p2.age)) || p3) then(app 128 p0.Za.qG ([(Ze.mk 1 x9.Z9 (Zr.mk p2.msg p2.place p2.from_ x9.age (Xa (p2.hops + 1))) [] [] 0 0 0)])).bind fun z40=>(bif(((!p3) && (p2.from_ !=p1)) && (p2.from_ !=x9.Z9)) then(app 128 z40 ([(Ze.mk 3 p2.from_ (Zr.mk 0 0 0 0 0) [] [] p2.place x9.Z9 x9.age)])).bind fun z47=>some (Z6.mk (Zb.mk p0.Za.Zv p0.Za.qK p0.Za.qQ p0.Za.qJ z47 p0.Za.said) p0.qX) else some (Z6.mk (Zb.mk p0.Za.Zv p0.Za.qK p0.Za.qQ p0.Za.qJ z40 p0.Za.said) p0.qX)) else(ZQ p0.Za.qJ p1).bind fun x54=>(app 40 x54 [p2]).bind fun z62=>(ZQ p0.Za.qJ p1).bind fun x66=>some (Z6.mk (Zb.mk p0.Za.Zv p0.Za.qK p0.Za.qQ (Yv p0.Za.qJ p1 z62) p0.Za.qG p0.Za.said) p0.qX)))
end Go.Proofs.YtbmbbcaaimehkaaGreat
end
section
set_option maxRecDepth 20000
noncomputable section
namespace Go.Proofs.YtbmbbcaaimehkaaGreat
open Go.YG Go.Lf
theorem ZHS {F wm:Nat} {h:H} {p0:(List (List Zw))} {Zi:Option Addr} {Zh:Nat} {r:(List (List Zw))} (ZX:wm <=h.size) (ZA:Sl (ZE Zc) wm h Zi Zh p0) (hL:Zzz F p0=some r):
 WR XX 82 #[.slice Zi p0.length Zh] wm h (CP (fun(v:Value) (Gb:List (Ast wm))=>∃ (Ql:Option Addr) (Qj:Nat) (Qk:Nat) (Zex:Nat ->Option Addr×Nat×Nat),v= .slice Ql Qj Qk∧Gb= [Xb wm (Z5 Zc) Ql Qj Qk Zex r]) [] h):=by
 refine bg Tryz.ntmps82 ZX Yd.nil ?_;intro T hT hS;unfold Zzz at hL;refine r16 ?_;refine r3 ?_;have hS:=hS.Zl0 (e:= (Z5 Zc)) (ps:=fun _=>(Z5 Zc).dflt);refine WC.loop (WL.lift hL (fun(p:(List (List Zw))×Int) (s:Fs)=>match p with | (v3,v11)=>∃ (Qp:Fr) (h1:H) (a4:Option Addr) (c5:Nat) (n6:Nat) (ps7:Nat ->Option Addr×Nat×Nat),s= ⟨Qp,[],h1,none⟩∧Sp wm T h [Xb wm (Z5 Zc) a4 n6 c5 ps7 v3] h1∧Qp.at 3= .slice a4 n6 c5∧Qp.at 6= .slice Zi p0.length Zh∧Qp.at 7= .int .i64 (p0.length:Int)∧Qp.at 8= .int .i64 v11) ⟨_,_,none,0,0,(fun _=>(Z5 Zc).dflt),rfl,hS.only (.c k0 .n),YH⟩ ?_);clear hL hS;rintro KO ⟨v3,v11⟩ s Zbe hL ⟨Qp,h1,a4,c5,n6,ps7,rfl,hS,e8,e9,e10,e12⟩;obtain rfl:=hS.Xm k0;dsimp only [ZmL] at hL;refine r6 ?_;refine cn hL ?_ ?_
 ·intro hc hL;refine r6 ?_;obtain⟨x14,ZiA,hL⟩:=bind_some hL;obtain⟨b15,o16,⟨a17,c18⟩,ZiM,ZiS,ZiQ,ZiO⟩:=Sl.at_ ZA ZiA;refine WO.w gN rfl (ZH Uj QG lk lk rfl ZiM ZiA) ?_;have ZiC:Sl Zc wm h a17 c18 x14:=ZiO;refine WO.w gN rfl (ZW UQ (Yt fh rfl) (At.fz hS.fz ZiQ ZiS) (j:=0) rfl (v:= .slice a17 x14.length c18) rfl) ?_;refine r6 ?_;obtain⟨x19,ZqW,hL⟩:=bind_some hL;refine WO.cl gN rfl (Xg.fn ZGo (Zf lk Zy)) hS .n (fun g' hz hf hO=>ZCZ (by rw [hz];exact hS.hw) ((hS.sl ZiC).mono hf) ZqW) ?_;rintro _ h23 _ ⟨a20,n21,c22,rfl,rfl⟩ hS;obtain rfl:=hS.on k0;refine WO.hn gN rfl (Zwx (e:=Zc) (x:=x19) hS k0 Uj QG ZvS rfl rfl (ZG lk Yf) rfl rfl) ?_;rintro _ h26 ⟨b25,ZNH,rfl,hS⟩;obtain⟨z27,Zxz,hL⟩:=bind_some hL;refine WO.hv gN rfl (Zwy (e:= (Z5 Zc)) hS (.c k1 (.c k0 .n)) ZAm lk lk Zxz) ?_;rintro _ h31 ⟨a28,c29,ZwL,rfl,hS⟩;refine r8 ?_;exact Yh.Y7 (Zbe _ _ hL ⟨_,_,a28,c29,z27.length,ZwL,rfl,hS.only (.c k0 .n),YH⟩)
 ·intro hc hL;refine XY ?_;have hr:=Oi0 hL;subst hr;exact Yo.Qg rfl (ZU lk ZC) ⟨_,⟨a4,v3.length,c5,ps7,rfl,rfl⟩,hT ▸ hS.only (.c k0 .n)⟩
theorem ZHR {F wm:Nat} {h:H} {p0:(List (List Zr))} {Zi:Option Addr} {Zh:Nat} {r:(List (List Zr))} (ZX:wm <=h.size) (ZA:Sl (ZE Zg) wm h Zi Zh p0) (hL:Zzy F p0=some r):
 WR XX 83 #[.slice Zi p0.length Zh] wm h (CP (fun(v:Value) (Gb:List (Ast wm))=>∃ (Ql:Option Addr) (Qj:Nat) (Qk:Nat) (Zex:Nat ->Option Addr×Nat×Nat),v= .slice Ql Qj Qk∧Gb= [Xb wm (Z5 Zg) Ql Qj Qk Zex r]) [] h):=by
 refine bg Tryz.ntmps83 ZX Yd.nil ?_;intro T hT hS;unfold Zzy at hL;refine r16 ?_;refine r3 ?_;have hS:=hS.Zl0 (e:= (Z5 Zg)) (ps:=fun _=>(Z5 Zg).dflt);refine WC.loop (WL.lift hL (fun(p:(List (List Zr))×Int) (s:Fs)=>match p with | (v3,v11)=>∃ (Qp:Fr) (h1:H) (a4:Option Addr) (c5:Nat) (n6:Nat) (ps7:Nat ->Option Addr×Nat×Nat),s= ⟨Qp,[],h1,none⟩∧Sp wm T h [Xb wm (Z5 Zg) a4 n6 c5 ps7 v3] h1∧Qp.at 3= .slice a4 n6 c5∧Qp.at 6= .slice Zi p0.length Zh∧Qp.at 7= .int .i64 (p0.length:Int)∧Qp.at 8= .int .i64 v11) ⟨_,_,none,0,0,(fun _=>(Z5 Zg).dflt),rfl,hS.only (.c k0 .n),YH⟩ ?_);clear hL hS;rintro KO ⟨v3,v11⟩ s Zbe hL ⟨Qp,h1,a4,c5,n6,ps7,rfl,hS,e8,e9,e10,e12⟩;obtain rfl:=hS.Xm k0;dsimp only [ZmK] at hL;refine r6 ?_;refine cn hL ?_ ?_
 ·intro hc hL;refine r6 ?_;obtain⟨x14,ZiA,hL⟩:=bind_some hL;obtain⟨b15,o16,⟨a17,c18⟩,ZiM,ZiS,ZiQ,ZiO⟩:=Sl.at_ ZA ZiA;refine WO.w gN rfl (ZH K9 Jl lk lk rfl ZiM ZiA) ?_;have ZiC:Sl Zg wm h a17 c18 x14:=ZiO;refine WO.w gN rfl (ZW Zdw (Yt fh rfl) (At.fz hS.fz ZiQ ZiS) (j:=0) rfl (v:= .slice a17 x14.length c18) rfl) ?_;refine r6 ?_;obtain⟨x19,ZqW,hL⟩:=bind_some hL;refine WO.cl gN rfl (Xg.fn ZGn (Zf lk Zy)) hS .n (fun g' hz hf hO=>ZCY (by rw [hz];exact hS.hw) ((hS.sl ZiC).mono hf) ZqW) ?_;rintro _ h23 _ ⟨a20,n21,c22,rfl,rfl⟩ hS;obtain rfl:=hS.on k0;refine WO.hn gN rfl (Zwx (e:=Zg) (x:=x19) hS k0 K9 Jl ZvR rfl rfl (ZG lk Yf) rfl rfl) ?_;rintro _ h26 ⟨b25,ZNH,rfl,hS⟩;obtain⟨z27,Zxz,hL⟩:=bind_some hL;refine WO.hv gN rfl (Zwy (e:= (Z5 Zg)) hS (.c k1 (.c k0 .n)) ZAl lk lk Zxz) ?_;rintro _ h31 ⟨a28,c29,ZwL,rfl,hS⟩;refine r8 ?_;exact Yh.Y7 (Zbe _ _ hL ⟨_,_,a28,c29,z27.length,ZwL,rfl,hS.only (.c k0 .n),YH⟩)
 ·intro hc hL;refine XY ?_;have hr:=Oi0 hL;subst hr;exact Yo.Qg rfl (ZU lk ZC) ⟨_,⟨a4,v3.length,c5,ps7,rfl,rfl⟩,hT ▸ hS.only (.c k0 .n)⟩
theorem Zzx {wm:Nat} {h:H} {p0:Z6} {p1:Int} {p2:Zr} {p3:Bool} {Zi:Option Addr} {Zh XM:Nat} {Zq:Option Addr} {Zo Je:Nat} {YF:Nat ->Option Addr×Nat×Nat} {Zk:Option Addr} {Zj Jd:Nat} {YQ:Nat ->Option Addr×Nat×Nat} {Zp:Option Addr} {Zn Jc:Nat} {YE:Nat ->Option Addr×Nat×Nat} {Zm:Option Addr} {Zl Jb:Nat} {Z4:Option Addr} {Z0 Qm YX:Nat} {r:Z6} (ZX:wm <=h.size) (hO:Yd (wm:=wm) [bx wm YX (cG Zi XM Zh Zq Je Zo Zk Jd Zj Zp Jc Zn Zm Jb Zl p0.Za.said Z4 Qm Z0),ow wm (Zu .i64) Zi XM Zh p0.Za.Zv,Xb wm (Z5 (Zu .i64)) Zq Je Zo YF p0.Za.qK,Xb wm (Z5 Zc) Zk Jd Zj YQ p0.Za.qQ,Xb wm (Z5 Zg) Zp Jc Zn YE p0.Za.qJ,ow wm Zd Zm Jb Zl p0.Za.qG,ow wm ZP Z4 Qm Z0 p0.qX] h) (hL:Zpp p0 p1 p2 p3=some r):
 WR XX 84 #[.pointer (some ⟨YX,0,none⟩),.int .i64 p1,.agg [.int .i64 p2.msg,.int .i64 p2.place,.int .i64 p2.from_,.int .i64 p2.age,.int .i64 p2.hops].toArray,.bool p3] wm h (CP (fun(v:Value) (Gb:List (Ast wm))=>∃ (JA:Option Addr) (UF:Nat) (Jt:Nat) (Jz:Option Addr) (UE:Nat) (Js:Nat) (UI:Nat ->Option Addr×Nat×Nat) (Jy:Option Addr) (UD:Nat) (Jr:Nat) (UH:Nat ->Option Addr×Nat×Nat) (Jw:Option Addr) (UC:Nat) (Jq:Nat) (UG:Nat ->Option Addr×Nat×Nat) (Jv:Option Addr) (UB:Nat) (Jp:Nat) (Ju:Option Addr) (Jm:Nat) (Jo:Nat),v= .tuple [].toArray∧Gb= [bx wm YX (cG JA UF Jt Jz UE Js Jy UD Jr Jw UC Jq Jv UB Jp r.Za.said Ju Jm Jo),ow wm (Zu .i64) JA UF Jt r.Za.Zv,Xb wm (Z5 (Zu .i64)) Jz UE Js UI r.Za.qK,Xb wm (Z5 Zc) Jy UD Jr UH r.Za.qQ,Xb wm (Z5 Zg) Jw UC Jq UG r.Za.qJ,ow wm Zd Jv UB Jp r.Za.qG,ow wm ZP Ju Jm Jo r.qX]) [bx wm YX (cG Zi XM Zh Zq Je Zo Zk Jd Zj Zp Jc Zn Zm Jb Zl p0.Za.said Z4 Qm Z0),ow wm (Zu .i64) Zi XM Zh p0.Za.Zv,Xb wm (Z5 (Zu .i64)) Zq Je Zo YF p0.Za.qK,Xb wm (Z5 Zc) Zk Jd Zj YQ p0.Za.qQ,Xb wm (Z5 Zg) Zp Jc Zn YE p0.Za.qJ,ow wm Zd Zm Jb Zl p0.Za.qG,ow wm ZP Z4 Qm Z0 p0.qX] h):=by
 refine bg Tryz.ntmps84 ZX hO ?_;intro T hT hS;unfold Zpp at hL;obtain rfl:=hS.on k1;obtain rfl:=hS.Xm k2;obtain rfl:=hS.Xm k3;obtain rfl:=hS.Xm k4;obtain rfl:=hS.on k5;obtain rfl:=hS.on k6;refine r3 ?_;rintro _ h2 ⟨b1,eb1,rfl,hS⟩;refine r3 ?_;refine WC.Xw mixed Kq0 ?_;refine r6 ?_;obtain⟨x3,hx3,hL⟩:=bind_some hL;obtain⟨b4,o5,a6,n7,c8,ZK4,ZQ9,ZRG⟩:=hS.atS k4 hx3;refine WX.w gN rfl (ZH Uj QG lk lk rfl ZQ9 hx3) ?_ rfl;refine WX.w gN rfl (ZW UQ (Yt fh rfl) ZRG (j:=0) rfl (v:= .slice a6 n7 c8) rfl) ?_ rfl;refine r2 ?_;obtain⟨x9,hx9,hL⟩:=bind_some hL;obtain⟨b10,o11,_,ZiN,ZiT,Ztm⟩:=Src.at_ (hS.inS k4 hx3 ZK4).2.1 hx9;refine WX.w gN rfl (ZH Ui Xt lk lk (hS.inS k4 hx3 ZK4).1 ZiN hx9) ?_ rfl;refine WX.w gN rfl (Xj Zlv Xt (Yt fh rfl) ZiT (j:=0) rfl rfl (ws:= (cE x9)) rfl) ?_ rfl;refine WX.hn gN rfl (ZsE hS ZhP (vs:= [.bool false,.int .i64 0,.int .i64 0]) rfl) ?_ rfl;rintro _ h13 ⟨b12,ZR3,rfl,hS⟩;refine WX.hu gN (Za3 hS k0 Xt lk lk (vs:= (cE x9)) rfl rfl rfl rfl (cs':= (cE x9)) rfl) ?_ rfl rfl [] Kq0 YO.e;rintro h14 hS;refine r8 ?_;refine r2 ?_;refine cn hL ?_ ?_
 ·intro hc hL;refine r4 ?_;obtain⟨x15,ZQA,hL⟩:=bind_some hL;refine WO.cl gN rfl (Xg.fn Zyj (Zf lk (Zf lk (Zf lk Zy)))) hS (.c k2 (.c k2 (.c k2 (.c k2 (.c k2 (.c k2 (.c k2 .n))))))) (fun g' hz hf hO=>Ztt (by rw [hz];exact hS.hw) hO ZQA) ?_;rintro _ h34 _ ⟨a16,n17,c18,a19,n20,c21,ZD8,a22,n23,c24,ZD7,a25,n26,c27,ZJY,a28,n29,c30,a31,n32,c33,rfl,rfl⟩ hS;obtain rfl:=hS.on k1;obtain rfl:=hS.Xm k2;obtain rfl:=hS.Xm k3;obtain rfl:=hS.Xm k4;obtain rfl:=hS.on k5;obtain rfl:=hS.on k6;refine r2 ?_;refine Yo.Y7 ?_;have hr:=Oi0 hL;subst hr;exact Yo.gen (vs:= []) rfl ZC rfl ⟨_,⟨a16,x15.Za.Zv.length,c18,a19,x15.Za.qK.length,c21,ZD8,a22,x15.Za.qQ.length,c24,ZD7,a25,x15.Za.qJ.length,c27,ZJY,a28,x15.Za.qG.length,c30,a31,x15.qX.length,c33,rfl,rfl⟩,hT ▸ hS.only (.c k0 (.c k0 (.c k0 (.c k0 (.c k0 (.c k0 (.c k0 .n)))))))⟩
 ·intro hc hL;refine XY ?_;refine r1 ?_;refine cn hL ?_ ?_
  ·intro hc hL;refine r6 ?_;rintro h36 hS;refine r8 ?_;refine r1 ?_;rintro h37 hS;refine r3 ?_;refine WC.Xw mixed Kq0 ?_;refine r8 ?_;refine r1 ?_;refine WX.w gN rfl (XT ZtJ (ZG lk (ZG lk (ZG lk Yf))) rfl (cs':= [.int .i64 1,.int .i64 x9.Z9,.int .i64 p2.msg,.int .i64 p2.place,.int .i64 p2.from_,.int .i64 x9.age,.int .i64 (Xa (p2.hops + 1)),.slice none 0 0,.slice none 0 0,.int .i64 0,.int .i64 0,.int .i64 0]) rfl) ?_ rfl;refine WX.hn gN rfl (ZaD (e:=Zd) hS JR Y6 Zdy rfl rfl rfl (ZG lk Yf) rfl [(((none,0),(none,0)),(Ze.mk 1 x9.Z9 (Zr.mk p2.msg p2.place p2.from_ x9.age (Xa (p2.hops + 1))) [] [] 0 0 0))] rfl (xs:= [(Ze.mk 1 x9.Z9 (Zr.mk p2.msg p2.place p2.from_ x9.age (Xa (p2.hops + 1))) [] [] 0 0 0)]) rfl (by intro q hq;simp only [List.mem_cons,List.not_mem_nil,or_false] at hq;subst hq;exact⟨Sl.nil,Sl.nil⟩) rfl) ?_ rfl;rintro _ h39 ⟨b38,ZR2,rfl,hS⟩;obtain⟨z40,ZQl,hL⟩:=bind_some hL;refine WX.hv gN rfl (KG (e:=Zd) hS k8 ZcA lk lk (hS.QT k0) (hS.on k0) ZQl) ?_ rfl rfl [] Kq0 YO.e;rintro _ h43 ⟨a41,c42,rfl,hS⟩;refine WX.w gN rfl (Zd0 lk) ?_ Kq0;refine WX.w gN rfl (Ue ZeT lk) ?_ Kq0;refine WX.w gN rfl (Ue ZhA lk) ?_ Kq0;refine WX.hu gN (Za3 hS k4 ZlP lk lk (vs:= [.slice a41 z40.length c42]) rfl rfl rfl rfl (cs':= (cG Zi p0.Za.Zv.length Zh Zq p0.Za.qK.length Zo Zk p0.Za.qQ.length Zj Zp p0.Za.qJ.length Zn a41 z40.length c42 p0.Za.said Z4 p0.qX.length Z0)) rfl) ?_ rfl Kq0 [] Kq0 YO.e;rintro h44 hS;refine r16 ?_;refine r4 ?_;refine r1 ?_;refine cn hL ?_ ?_
   ·intro hc hL;refine WC.Xw mixed Kq0 ?_;refine XY ?_;refine r2 ?_;refine WX.w gN rfl (XT ZtJ (ZG lk (ZG lk (ZG lk (ZG lk (ZG lk Yf))))) rfl (cs':= [.int .i64 3,.int .i64 p2.from_,.int .i64 0,.int .i64 0,.int .i64 0,.int .i64 0,.int .i64 0,.slice none 0 0,.slice none 0 0,.int .i64 p2.place,.int .i64 x9.Z9,.int .i64 x9.age]) rfl) ?_ rfl;refine WX.hn gN rfl (ZaD (e:=Zd) hS JR Y6 Zdy rfl rfl rfl (ZG lk Yf) rfl [(((none,0),(none,0)),(Ze.mk 3 p2.from_ (Zr.mk 0 0 0 0 0) [] [] p2.place x9.Z9 x9.age))] rfl (xs:= [(Ze.mk 3 p2.from_ (Zr.mk 0 0 0 0 0) [] [] p2.place x9.Z9 x9.age)]) rfl (by intro q hq;simp only [List.mem_cons,List.not_mem_nil,or_false] at hq;subst hq;exact⟨Sl.nil,Sl.nil⟩) rfl) ?_ rfl;rintro _ h46 ⟨b45,ZXR,rfl,hS⟩;obtain⟨z47,ZQk,hL⟩:=bind_some hL;refine WX.hv gN rfl (KG (e:=Zd) hS k2 ZcA lk lk (hS.QT k0) (hS.on k0) ZQk) ?_ rfl rfl [] Kq0 YO.e;rintro _ h50 ⟨a48,c49,rfl,hS⟩;refine WX.w gN rfl (Zd0 lk) ?_ Kq0;refine WX.w gN rfl (Ue ZeT lk) ?_ Kq0;refine WX.w gN rfl (Ue ZhA lk) ?_ Kq0;refine WX.hu gN (Za3 hS k2 ZlP lk lk (vs:= [.slice a48 z47.length c49]) rfl rfl rfl rfl (cs':= (cG Zi p0.Za.Zv.length Zh Zq p0.Za.qK.length Zo Zk p0.Za.qQ.length Zj Zp p0.Za.qJ.length Zn a48 z47.length c49 p0.Za.said Z4 p0.qX.length Z0)) rfl) ?_ rfl Kq0 [] Kq0 YO.e;rintro h51 hS;refine r2 ?_;refine Yo.Y7 ?_;have hr:=Oi0 hL;subst hr;exact Yo.gen (vs:= []) rfl ZC rfl ⟨_,⟨Zi,p0.Za.Zv.length,Zh,Zq,p0.Za.qK.length,Zo,YF,Zk,p0.Za.qQ.length,Zj,YQ,Zp,p0.Za.qJ.length,Zn,YE,a48,z47.length,c49,Z4,p0.qX.length,Z0,rfl,rfl⟩,hT ▸ hS.only (.c k0 (.c k5 (.c k5 (.c k5 (.c k5 (.c k0 (.c k4 .n)))))))⟩
   ·intro hc hL;refine r2 ?_;refine Yo.Y7 ?_;have hr:=Oi0 hL;subst hr;exact Yo.gen (vs:= []) rfl ZC rfl ⟨_,⟨Zi,p0.Za.Zv.length,Zh,Zq,p0.Za.qK.length,Zo,YF,Zk,p0.Za.qQ.length,Zj,YQ,Zp,p0.Za.qJ.length,Zn,YE,a41,z40.length,c42,Z4,p0.qX.length,Z0,rfl,rfl⟩,hT ▸ hS.only (.c k0 (.c k4 (.c k4 (.c k4 (.c k4 (.c k0 (.c k3 .n)))))))⟩
  ·intro hc hL;refine WC.Xw mixed Kq0 ?_;refine r4 ?_;refine WX.wr (fun x=>x=YX) hS gN rfl (fun _ _ hR=>ZW ZtN (Yt fh rfl) (At.eqv (hR YX rfl) (hS.atB k2)) (j:=3) rfl (v:= .slice Zp p0.Za.qJ.length Zn) rfl) ?_ rfl rfl;rintro h52 e53 hS;refine r6 ?_;refine r1 ?_;obtain⟨x54,ZoO,hL⟩:=bind_some hL;obtain⟨b55,o56,a57,n58,c59,ZK3,Zo9,ZyV⟩:=hS.atS k6 ZoO;refine WX.w gN rfl (ZH K9 Jl lk lk rfl Zo9 ZoO) ?_ rfl;refine WX.w gN rfl (ZW Zdw (Yt fh rfl) ZyV (j:=0) rfl (v:= .slice a57 n58 c59) rfl) ?_ rfl;refine r1 ?_;refine WX.hn gN rfl (ZaD (e:=Zg) hS Zbt Uz ZhN rfl rfl rfl (ZG lk Yf) rfl [((),p2)] rfl (xs:= [p2]) rfl (by intro q hq;simp only [List.mem_cons,List.not_mem_nil,or_false] at hq;subst hq;exact trivial) rfl) ?_ rfl;rintro _ h61 ⟨b60,ZR1,rfl,hS⟩;obtain⟨z62,ZQj,hL⟩:=bind_some hL;have hS:=hS.ZhY k7 ZoO ZK3;refine WX.hv gN rfl (KG (e:=Zg) hS k1 ZjS lk lk (hS.QT k2) (hS.on k2) ZQj) ?_ rfl rfl [4] Kq0 (.c (.s .z) (hS.dj (.c k1 (.c k4 .n))) YO.e);rintro _ h65 ⟨a63,c64,rfl,hS⟩;obtain⟨x66,ZQu,hL⟩:=bind_some hL;refine WX.w gN rfl (ZH K9 Jl lk lk rfl Zo9 ZQu) ?_ Kq0;refine WX.hu gN (ZsD hS k1 Jl (Yt fh rfl) (Yt (Zz rfl fh) rfl) Zo9 ZoO (j:=0) rfl (vs:= [.slice a63 z62.length c64]) rfl rfl rfl rfl rfl (cs':= [.slice a63 z62.length c64]) rfl rfl rfl) ?_ rfl Kq0 [] Kq0 YO.e;rintro h68 hS;obtain⟨ZP1,ZWc,hS⟩:=hS.ZiZ (.c k0 (.c k0 .n)) ZoO;refine r2 ?_;refine Yo.Y7 ?_;have hr:=Oi0 hL;subst hr;exact Yo.gen (vs:= []) rfl ZC rfl ⟨_,⟨Zi,p0.Za.Zv.length,Zh,Zq,p0.Za.qK.length,Zo,YF,Zk,p0.Za.qQ.length,Zj,YQ,Zp,p0.Za.qJ.length,Zn,ZP1,Zm,p0.Za.qG.length,Zl,Z4,p0.qX.length,Z0,rfl,rfl⟩,hT ▸ hS.only (.c k4 (.c k4 (.c k4 (.c k4 (.c k0 (.c k3 (.c k3 .n)))))))⟩
end Go.Proofs.YtbmbbcaaimehkaaGreat
end
end
section
namespace Go.Proofs.YtbmbbcaaimehkaaGreat
open Go.Lf
def Zi2:Int ->Option Bool:=fun v7=>
 some (decide (v7 >=0))
def Zi3 (F:Nat) (p0:ZV) (p1:Int) (p2:Int):Int ->(Int ->Option Bool) ->Option Bool:=fun v13 Zil=>
 (bif decide (v13 < (p0.Za.qG.length:Int)) then(ZQ p0.Za.qG v13).bind fun x16=>(gd (x16.kind==2) (Zpq F x16.qV p1) default).bind fun x25=>(gd ((x16.kind==2) && x25) (Zpq F x16.qV p2) default).bind fun Kn=>(bif(((x16.kind==2) && x25) && Kn) then(Zi2) v13 else Zil (Xa (v13 + 1))) else(Zi2) (-1))
def ZrB (F:Nat) (p0:ZV) (p1:Int) (p2:Int):Option Bool:=
 loop F (Zi3 F p0 p1 p2) 0
def ZmI (p0:ZV) (p1:Int) (p2:Int) (p3:Int):Option Bool:=
 (ZQ p0.Y2 p1).bind fun x1=>(gd (!((decide (p3 < 0)) || (decide (p3 > x1.age)))) (ZmH p0 p2) default).bind fun x7=>(bif(((decide (p3 < 0)) || (decide (p3 > x1.age))) || (!x7)) then some false else(bif(p3==x1.age) then some (p2==x1.machine) else(ZQ p0.Za.qQ p2).bind fun x8=>(ZQ x8 p1).bind fun x13=>some (decide (x13.age > p3))))
end Go.Proofs.YtbmbbcaaimehkaaGreat
end
section
set_option maxRecDepth 20000
noncomputable section
namespace Go.Proofs.YtbmbbcaaimehkaaGreat
open Go.YG Go.Lf
theorem ZHL {F wm:Nat} {h:H} {p0:ZV} {p1 p2:Int} {Zi:Option Addr} {Zh:Nat} {Zq:Option Addr} {Zo:Nat} {Zk:Option Addr} {Zj:Nat} {Zp:Option Addr} {Zn:Nat} {Zm:Option Addr} {Zl:Nat} {Z4:Option Addr} {Z0 YX WW:Nat} {r:Bool} (ZX:wm <=h.size) (XR:At h YX WW [.slice Zi p0.Za.Zv.length Zh,.slice Zq p0.Za.qK.length Zo,.slice Zk p0.Za.qQ.length Zj,.slice Zp p0.Za.qJ.length Zn,.slice Zm p0.Za.qG.length Zl,.int .i64 p0.Za.said,.slice Z4 p0.Y2.length Z0]) (XQ:Stb wm h YX) (ZA:Sl (Zu .i64) wm h Zi Zh p0.Za.Zv) (ZM:Sl (ZE (Zu .i64)) wm h Zq Zo p0.Za.qK) (ZL:Sl (ZE Zc) wm h Zk Zj p0.Za.qQ) (ZN:Sl (ZE Zg) wm h Zp Zn p0.Za.qJ) (ZK:Sl Zd wm h Zm Zl p0.Za.qG) (Xo:Sl XA wm h Z4 Z0 p0.Y2) (hL:ZrB F p0 p1 p2=some r):
 WR XX 92 #[.pointer (some ⟨YX,WW,none⟩),.int .i64 p1,.int .i64 p2] wm h (CP (fun(v:Value) (Gb:List (Ast wm))=>v= .bool r∧Gb= []) [] h):=by
 refine bg Tryz.ntmps92 ZX Yd.nil ?_;intro T hT hS;unfold ZrB at hL;refine r3 ?_;rintro _ h2 ⟨b1,eb1,rfl,hS⟩;refine r1 ?_;rintro _ h4 ⟨b3,eb3,rfl,hS⟩;refine r8 ?_;refine r1 ?_;refine WO.w gN rfl (ZW ZAw (Yt fh rfl) (At.fz hS.fz XQ XR) (j:=4) rfl (v:= .slice Zm p0.Za.qG.length Zl) rfl) ?_;refine WO.w gN rfl (Zbn (Zf lk (Zf lk Zy))) ?_;refine WO.inl gN rfl (Xg.fn ZGl (Zf lk (Zf lk Zy))) (WF.begin (args:= [_,_]) (fn:=Tryz.f105) Kq0 (by exact rfl) Tryz.ntmps105 (by simp) ?_);simp only [Z8,Ya,Nat.reduceAdd];refine r8 ?_;refine r1 ?_;refine WO.ZuD (r:=r) (fun(v7:Int) (v:Value) (h5:H)=>v= .int .i64 v7∧Sp wm T h [bx wm b1 [.int .i64 p1],bx wm b3 [.int .i64 p2]] h5) (Zi2) gN rfl (Xg.fn ZGj (Zf lk (Zf lk Zy))) ?_ (WF.begin (args:= [_,_]) (fn:=Tryz.f109) Kq0 (by exact rfl) Tryz.ntmps109 (by simp) ?_)
 ·clear hL hS;rintro v7 v h5 hL ⟨rfl,hS⟩;dsimp only [Zi2] at hL;refine r4 ?_;refine r1 ?_;refine Yo.Qg rfl (ZU lk ZC) ?_;refine r4 ?_;exact rt hL hT hS
 ·skip;simp only [Z8,Ya,Nat.reduceAdd];refine XY ?_;refine r2 ?_;refine WC.loop (WL.lift hL (fun(v13:Int) (s:Fs)=>∃ (fr9:Fr) (h8:H),s= ⟨fr9,[],h8,none⟩∧Sp wm T h [bx wm b1 [.int .i64 p1],bx wm b3 [.int .i64 p2]] h8∧fr9.at 0= .slice Zm p0.Za.qG.length Zl∧fr9.at 1= .func (.func 106) #[] [.pointer (some ⟨b1,0,none⟩),.pointer (some ⟨b3,0,none⟩)].toArray∧fr9.at 7= .int .i64 (p0.Za.qG.length:Int)∧fr9.at 8= .int .i64 v13) ⟨_,_,rfl,hS.only (.c k1 (.c k0 .n)),YH⟩ ?_);clear hL hS;rintro Zil v13 s Zms hL ⟨fr9,h8,rfl,hS,e10,e11,e12,e14⟩;dsimp only [Zi3] at hL;refine r6 ?_;refine cn hL ?_ ?_
  ·intro hc hL;refine XY ?_;refine r3 ?_;obtain⟨x16,hx16,hL⟩:=bind_some hL;obtain⟨b17,o18,⟨⟨a19,c20⟩,⟨a21,c22⟩⟩,Zyy,Zy3,ZyM,Ztl⟩:=Sl.at_ ZK hx16;refine WO.w gN rfl (ZH JR Y6 lk lk rfl Zyy hx16) ?_;have Zs7:Sl (Zu .i64) wm h a19 c20 x16.qV:=Ztl.1;have ZTp:Sl (Zu .i64) wm h a21 c22 x16.Yk:=Ztl.2;refine WO.w gN rfl (Xj ZaT Y6 (Yt fh rfl) (At.fz hS.fz ZyM Zy3) (j:=0) rfl rfl (ws:= (cL x16 a19 c20 a21 c22)) rfl) ?_;refine WO.inl gN rfl (Xg.clo (first:= []) (cap:= [.pointer (some ⟨b1,0,none⟩),.pointer (some ⟨b3,0,none⟩)]) lk ZGk lks rfl) (WF.begin (args:= [_,_,_]) (fn:=Tryz.f106) Kq0 (by exact rfl) Tryz.ntmps106 (by simp) ?_);simp only [Z8,Ya,Nat.reduceAdd];refine r3 ?_;rintro _ h24 ⟨b23,ZXX,rfl,hS⟩;refine XY ?_;obtain⟨x25,hx25,hL⟩:=Yq hL;refine WO.gcp (Zt.yes rfl rfl rfl (YB rfl (Zz rfl fh))) rfl (fun hg=>(Xg.fn Zyg (Zf (YW (Zz rfl fh) rfl hg) (Zf (YW fh rfl hg) Zy)))) (fun hg=>ZrD (hS.Y0 Zs7) (hx25 hg)) ?_;refine r4 ?_;refine r1 ?_;obtain⟨Kn,Zkk,hL⟩:=Yq hL;refine WO.gcp (Zt.yes rfl rfl rfl (YB rfl (Zz rfl fh))) rfl (fun hg=>(Xg.fn Zyg (Zf (YW (Zz rfl fh) rfl hg) (Zf (YW fh rfl hg) Zy)))) (fun hg=>ZrD (hS.Y0 Zs7) (Zkk hg)) ?_;refine r4 ?_;refine r1 ?_;refine Yo.Qg rfl (ZU lk ZC) ?_;refine r2 ?_;refine cn hL ?_ ?_
   ·intro hc hL;refine XY ?_;exact Yo.Qg rfl (ZU lk ZC) ⟨_,hL,⟨rfl,hS.only (.c k1 (.c k1 .n))⟩⟩
   ·intro hc hL;refine r6 ?_;refine r1 ?_;exact Yh.Y7 (Zms _ _ hL ⟨_,_,rfl,hS.only (.c k1 (.c k1 .n)),YH⟩)
  ·intro hc hL;refine r8 ?_;refine r3 ?_;exact Yo.Qg rfl (ZU lk ZC) ⟨_,hL,⟨rfl,hS.only (.c k0 (.c k0 .n))⟩⟩
theorem ZHM {F:Nat} {h:H} {p0:ZV} {p1 p2:Int} {Zi:Option Addr} {Zh:Nat} {Zq:Option Addr} {Zo:Nat} {Zk:Option Addr} {Zj:Nat} {Zp:Option Addr} {Zn:Nat} {Zm:Option Addr} {Zl:Nat} {Z4:Option Addr} {Z0 YX WW:Nat} {r:Bool} (XR:At h YX WW [.slice Zi p0.Za.Zv.length Zh,.slice Zq p0.Za.qK.length Zo,.slice Zk p0.Za.qQ.length Zj,.slice Zp p0.Za.qJ.length Zn,.slice Zm p0.Za.qG.length Zl,.int .i64 p0.Za.said,.slice Z4 p0.Y2.length Z0]) (XQ:Stb h.size h YX) (ZA:Sl (Zu .i64) h.size h Zi Zh p0.Za.Zv) (ZM:Sl (ZE (Zu .i64)) h.size h Zq Zo p0.Za.qK) (ZL:Sl (ZE Zc) h.size h Zk Zj p0.Za.qQ) (ZN:Sl (ZE Zg) h.size h Zp Zn p0.Za.qJ) (ZK:Sl Zd h.size h Zm Zl p0.Za.qG) (Xo:Sl XA h.size h Z4 Z0 p0.Y2) (hL:ZrB F p0 p1 p2=some r):Pure XX 92 #[.pointer (some ⟨YX,WW,none⟩),.int .i64 p1,.int .i64 p2] h (.bool r):=
 WR.Qb rfl (ZHL (Nat.le_refl _) XR XQ ZA ZM ZL ZN ZK Xo hL)
theorem ZHK {wm:Nat} {h:H} {p0:ZV} {p1 p2 p3:Int} {Zi:Option Addr} {Zh:Nat} {Zq:Option Addr} {Zo:Nat} {Zk:Option Addr} {Zj:Nat} {Zp:Option Addr} {Zn:Nat} {Zm:Option Addr} {Zl:Nat} {Z4:Option Addr} {Z0 YX WW:Nat} {r:Bool} (ZX:wm <=h.size) (XR:At h YX WW [.slice Zi p0.Za.Zv.length Zh,.slice Zq p0.Za.qK.length Zo,.slice Zk p0.Za.qQ.length Zj,.slice Zp p0.Za.qJ.length Zn,.slice Zm p0.Za.qG.length Zl,.int .i64 p0.Za.said,.slice Z4 p0.Y2.length Z0]) (XQ:Stb wm h YX) (ZA:Sl (Zu .i64) wm h Zi Zh p0.Za.Zv) (ZM:Sl (ZE (Zu .i64)) wm h Zq Zo p0.Za.qK) (ZL:Sl (ZE Zc) wm h Zk Zj p0.Za.qQ) (ZN:Sl (ZE Zg) wm h Zp Zn p0.Za.qJ) (ZK:Sl Zd wm h Zm Zl p0.Za.qG) (Xo:Sl XA wm h Z4 Z0 p0.Y2) (hL:ZmI p0 p1 p2 p3=some r):
 WR XX 93 #[.pointer (some ⟨YX,WW,none⟩),.int .i64 p1,.int .i64 p2,.int .i64 p3] wm h (CP (fun(v:Value) (Gb:List (Ast wm))=>v= .bool r∧Gb= []) [] h):=by
 refine bg Tryz.ntmps93 ZX Yd.nil ?_;intro T hT hS;unfold ZmI at hL;refine r8 ?_;refine r2 ?_;refine WO.w gN rfl (ZW ZAy (Yt fh rfl) (At.fz hS.fz XQ XR) (j:=6) rfl (v:= .slice Z4 p0.Y2.length Z0) rfl) ?_;refine r1 ?_;obtain⟨x1,hx1,hL⟩:=bind_some hL;obtain⟨b2,o3,_,ZGw,ZHg,ZRy,ZGM⟩:=Sl.at_ Xo hx1;refine WO.w gN rfl (ZH ZhW Wp lk lk rfl ZGw hx1) ?_;refine WO.w gN rfl (Xj Znw Wp (Yt fh rfl) (At.fz hS.fz ZRy ZHg) (j:=0) rfl rfl (ws:= [.int .i64 x1.machine,.bool x1.here,.int .i64 x1.age]) rfl) ?_;refine r1 ?_;rintro _ h5 ⟨b4,eb4,rfl,hS⟩;refine r1 ?_;rintro h6 hS;refine r16 ?_;obtain⟨x7,hx7,hL⟩:=Yq hL;refine WO.gcp (Zt.no rfl rfl rfl (YB rfl fh)) rfl (fun hg=>(Xg.fn Zye (Zf (YW (Zz rfl fh) rfl hg) (Zf (YW fh rfl hg) Zy)))) (fun hg=>Zry (At.fz hS.fz XQ XR) (Stb.up hS.hw (Stb.fz hS.fz XR XQ)) (hS.Y0 ZA) (hS.Y0 ZM) (hS.Y0 ZL) (hS.Y0 ZN) (hS.Y0 ZK) (hS.Y0 Xo) (hx7 hg)) ?_;refine r4 ?_;refine cn hL ?_ ?_
 ·intro hc hL;refine r6 ?_;refine r1 ?_;exact rt hL hT hS
 ·intro hc hL;refine r8 ?_;refine r3 ?_;refine cn hL ?_ ?_
  ·intro hc hL;refine r8 ?_;refine r3 ?_;exact rt hL hT hS
  ·intro hc hL;refine r8 ?_;refine WO.w gN rfl (ZW Zp0 (Yt fh rfl) (At.fz hS.fz XQ XR) (j:=2) rfl (v:= .slice Zk p0.Za.qQ.length Zj) rfl) ?_;refine r1 ?_;obtain⟨x8,hx8,hL⟩:=bind_some hL;obtain⟨b9,o10,⟨a11,c12⟩,ZQ8,ZRF,ZRw,ZRb⟩:=Sl.at_ ZL hx8;refine WO.w gN rfl (ZH Uj QG lk lk rfl ZQ8 hx8) ?_;have ZK0:Sl Zc wm h a11 c12 x8:=ZRb;refine WO.w gN rfl (ZW UQ (Yt fh rfl) (At.fz hS.fz ZRw ZRF) (j:=0) rfl (v:= .slice a11 x8.length c12) rfl) ?_;refine r1 ?_;obtain⟨x13,ZxL,hL⟩:=bind_some hL;obtain⟨b14,o15,_,ZyA,Zy4,ZyN,ZMs⟩:=Sl.at_ ZK0 ZxL;refine WO.w gN rfl (ZH Ui Xt lk lk rfl ZyA ZxL) ?_;refine r1 ?_;refine WO.w gN rfl (ZW Xr (Yt fh rfl) (At.fz hS.fz ZyN Zy4) (j:=2) rfl (v:= .int .i64 x13.age) rfl) ?_;refine r6 ?_;exact rt hL hT hS
theorem ZrA {h:H} {p0:ZV} {p1 p2 p3:Int} {Zi:Option Addr} {Zh:Nat} {Zq:Option Addr} {Zo:Nat} {Zk:Option Addr} {Zj:Nat} {Zp:Option Addr} {Zn:Nat} {Zm:Option Addr} {Zl:Nat} {Z4:Option Addr} {Z0 YX WW:Nat} {r:Bool} (XR:At h YX WW [.slice Zi p0.Za.Zv.length Zh,.slice Zq p0.Za.qK.length Zo,.slice Zk p0.Za.qQ.length Zj,.slice Zp p0.Za.qJ.length Zn,.slice Zm p0.Za.qG.length Zl,.int .i64 p0.Za.said,.slice Z4 p0.Y2.length Z0]) (XQ:Stb h.size h YX) (ZA:Sl (Zu .i64) h.size h Zi Zh p0.Za.Zv) (ZM:Sl (ZE (Zu .i64)) h.size h Zq Zo p0.Za.qK) (ZL:Sl (ZE Zc) h.size h Zk Zj p0.Za.qQ) (ZN:Sl (ZE Zg) h.size h Zp Zn p0.Za.qJ) (ZK:Sl Zd h.size h Zm Zl p0.Za.qG) (Xo:Sl XA h.size h Z4 Z0 p0.Y2) (hL:ZmI p0 p1 p2 p3=some r):Pure XX 93 #[.pointer (some ⟨YX,WW,none⟩),.int .i64 p1,.int .i64 p2,.int .i64 p3] h (.bool r):=
 WR.Qb rfl (ZHK (Nat.le_refl _) XR XQ ZA ZM ZL ZN ZK Xo hL)
end Go.Proofs.YtbmbbcaaimehkaaGreat
end
end
section
namespace Go.Proofs.YtbmbbcaaimehkaaGreat
open Go.Lf
def Zm3 (p0:Zb) (v15:(List XF)) (v64:Int) (Zl3:(Int ->Option Bool)) (x67:(List Zw)):Int ->(Int ->Option Bool) ->Option Bool:=fun v81 Zw6=>
 (bif decide (v81 < (x67.length:Int)) then(ZQ x67 v81).bind fun x84=>(gd (!x84.here) (ZQ v15 v81) default).bind fun x90=>(gd (!x84.here) (ZmU p0 v81 x90 x84.Z9 x84.age) default).bind fun x93=>(bif((!x84.here) && (!x93)) then some false else Zw6 (Xa (v81 + 1))) else Zl3 (Xa (v64 + 1)))
def Zjw (p0:Zb) (Zai:Int) (Zht:((List XF)×Int ->Option Bool)) (x107:(List Zr)):(List XF)×Int ->((List XF)×Int ->Option Bool) ->Option Bool:=fun(ZnT,Zt1) ZsS=>
 (bif decide (Zt1 < (x107.length:Int)) then(ZQ x107 Zt1).bind fun ZFk=>(Zpr p0 ZnT ZFk Zai true).bind fun ZJr=>(bif(!ZJr) then some false else ZsS (ZnT,Xa (Zt1 + 1))) else Zht (ZnT,Xa (Zai + 1)))
def ZdV (p0:Zb) (x160:(List Int)):Int×(List Bool) ->(Int×(List Bool) ->Option Bool) ->Option Bool:=fun(Zei,ZtZ) ZsQ=>
 (bif decide (Zei < (x160.length:Int)) then(ZQ x160 Zei).bind fun Zlz=>(gd (!((decide (Zlz < 0)) || (decide (Zlz >=p0.said)))) (ZQ ZtZ Zlz) default).bind fun ZnJ=>(bif(((decide (Zlz < 0)) || (decide (Zlz >=p0.said))) || ZnJ) then some false else(ZQ ZtZ Zlz).bind fun ZPA=>ZsQ (Xa (Zei + 1),Yv ZtZ Zlz true)) else some ((x160.length:Int)==p0.said))
def Zf9 (F:Nat) (p0:Zb) (v97:(List XF)):Int ->(Int ->Option Bool) ->Option Bool:=fun Zt0 ZsR=>
 (bif decide (Zt0 < (p0.qG.length:Int)) then(ZQ p0.qG Zt0).bind fun ZbL=>(gd (ZbL.kind==1) (Zpr p0 v97 ZbL.Yb ZbL.Z9 false) default).bind fun Zg7=>(gd ((!((ZbL.kind==1) && (!Zg7))) && (ZbL.kind==3)) (ZQ v97 ZbL.place) default).bind fun Zee=>(gd ((!((ZbL.kind==1) && (!Zg7))) && (ZbL.kind==3)) (ZmU p0 ZbL.place Zee ZbL.at_ ZbL.age) default).bind fun x159=>(bif(((ZbL.kind==1) && (!Zg7)) || ((ZbL.kind==3) && (!x159))) then some false else ZsR (Xa (Zt0 + 1))) else(ZzG F p0).bind fun x160=>(mkL false 1 p0.said p0.said).bind fun ZBb=>loop F (ZdV p0 x160) (0,ZBb))
def Zga (F:Nat) (p0:Zb):(List XF)×Int ->((List XF)×Int ->Option Bool) ->Option Bool:=fun(v97,Zai) Zht=>
 (bif decide (Zai < (p0.qJ.length:Int)) then(ZQ p0.qJ Zai).bind fun x107=>loop F (Zjw p0 Zai Zht x107) (v97,0) else loop F (Zf9 F p0 v97) 0)
def Zgb (F:Nat) (p0:Zb) (v15:(List XF)):Int ->(Int ->Option Bool) ->Option Bool:=fun v64 Zl3=>
 (bif decide (v64 < (p0.qQ.length:Int)) then(ZQ p0.qQ v64).bind fun x67=>loop F (Zm3 p0 v15 v64 Zl3 x67) 0 else loop F (Zga F p0) (v15,0))
def Zgc (F:Nat) (p0:Zb) (v15:(List XF)):Int ->(Int ->Option Bool) ->Option Bool:=fun v34 Zik=>
 (bif decide (v34 < (p0.Zv.length:Int)) then(ZQ p0.Zv v34).bind fun x37=>(gd (decide (x37 >=0)) (ZQ v15 v34) default).bind fun x40=>(gd (decide (x37 >=0)) (ZQ v15 x37) default).bind fun x43=>(gd ((decide (x37 >=0)) && (!(x40.is !=x43.is))) (ZQ v15 v34) default).bind fun x46=>(gd ((decide (x37 >=0)) && (!(x40.is !=x43.is))) (ZQ v15 x37) default).bind fun x49=>(gd ((decide (x37 >=0)) && (!((x40.is !=x43.is) || (x46.at_ !=x49.at_)))) (ZQ v15 v34) default).bind fun x52=>(gd ((decide (x37 >=0)) && (!((x40.is !=x43.is) || (x46.at_ !=x49.at_)))) (ZQ v15 x37) default).bind fun x55=>(bif((decide (x37 >=0)) && (((x40.is !=x43.is) || (x46.at_ !=x49.at_)) || (x52.letter !=x55.letter))) then some false else Zik (Xa (v34 + 1))) else loop F (Zgb F p0 v15) 0)
def Zjx (F:Nat) (p0:Zb):Int×(List XF) ->(Int×(List XF) ->Option Bool) ->Option Bool:=fun(v13,v15) Zxh=>
 (bif decide (v13 < (p0.Zv.length:Int)) then(ZrF F p0 v13).bind fun U1=>(bif(!U1.2) then some false else(ZQ v15 v13).bind fun x23=>Zxh (Xa (v13 + 1),Yv v15 v13 U1.1)) else loop F (Zgc F p0 v15) 0)
def Zpt (F:Nat) (p0:Zb):Option Bool:=
 (ZzJ F p0).bind fun x3=>(bif(!x3) then some false else(mkL (XF.mk 0 0 0 false) 32 (p0.Zv.length:Int) (p0.Zv.length:Int)).bind fun z4=>loop F (Zjx F p0) (0,z4))
def ZzN (F:Nat) (p0:Zb):Option Bool:=
 (ZzR F p0).bind fun x3=>(gd x3 (Zpt F p0) default).bind fun x4=>some (x3 && x4)
end Go.Proofs.YtbmbbcaaimehkaaGreat
end
section
set_option maxRecDepth 20000
set_option maxHeartbeats 4000000
noncomputable section
namespace Go.Proofs.YtbmbbcaaimehkaaGreat
open Go.YG Go.Lf
theorem ZIp {F wm:Nat} {h:H} {p0:Zb} {Zi:Option Addr} {Zh:Nat} {Zq:Option Addr} {Zo:Nat} {Zk:Option Addr} {Zj:Nat} {Zp:Option Addr} {Zn:Nat} {Zm:Option Addr} {Zl:Nat} {r:Bool} (ZX:wm <=h.size) (ZA:Sl (Zu .i64) wm h Zi Zh p0.Zv) (ZM:Sl (ZE (Zu .i64)) wm h Zq Zo p0.qK) (ZL:Sl (ZE Zc) wm h Zk Zj p0.qQ) (ZN:Sl (ZE Zg) wm h Zp Zn p0.qJ) (ZK:Sl Zd wm h Zm Zl p0.qG) (hL:Zpt F p0=some r):
 WR XX 21 #[.agg [.slice Zi p0.Zv.length Zh,.slice Zq p0.qK.length Zo,.slice Zk p0.qQ.length Zj,.slice Zp p0.qJ.length Zn,.slice Zm p0.qG.length Zl,.int .i64 p0.said].toArray] wm h (CP (fun(v:Value) (Gb:List (Ast wm))=>v= .bool r∧Gb= []) [] h):=by
 refine bg Tryz.ntmps21 ZX Yd.nil ?_;intro T hT hS;unfold Zpt at hL;refine r3 ?_;rintro _ h2 ⟨b1,eb1,rfl,hS⟩;refine r6 ?_;refine r1 ?_;obtain⟨x3,hx3,hL⟩:=bind_some hL;refine WO.cp gN rfl (Xg.fn ZLA (Zf lk Zy)) (WR.Qb rfl (ZH9 (Nat.le_refl _) (hS.Y0 ZA) (hS.Y0 ZM) (hS.Y0 ZL) (hS.Y0 ZN) (hS.Y0 ZK) hx3)) ?_;refine r3 ?_;refine cn hL ?_ ?_
 ·intro hc hL;refine r6 ?_;refine r1 ?_;exact rt hL hT hS
 ·intro hc hL;refine r6 ?_;refine r1 ?_;obtain⟨z4,hz4,hL⟩:=bind_some hL;refine WO.hn gN rfl (Zwu (e:=ZbY) (x0:= (XF.mk 0 0 0 false)) () hS WS X8 (ZDl) Zly rfl rfl (Yt fh rfl) (Yt fh rfl) rfl trivial hz4) ?_;rintro _ h6 ⟨b5,c7,eb5,rfl,hS⟩;refine XY ?_;refine r1 ?_;refine WC.loop (WL.lift hL (fun(p:Int×(List XF)) (s:Fs)=>match p with | (v13,v15)=>∃ (fr9:Fr) (h8:H),s= ⟨fr9,[],h8,none⟩∧Sp wm T h [bx wm b1 (cW p0 Zi Zh Zq Zo Zk Zj Zp Zn Zm Zl),ow wm ZbY (some ⟨b5,0,none⟩) z4.length c7 v15] h8∧fr9.at 1= .pointer (some ⟨b1,0,none⟩)∧fr9.at 3= .slice (some ⟨b5,0,none⟩) z4.length c7∧fr9.at 32= .int .i64 (p0.Zv.length:Int)∧fr9.at 33= .int .i64 v13) ⟨_,_,rfl,hS.only (.c k1 (.c k0 .n)),YH⟩ ?_);clear hL hS;rintro Zxh ⟨v13,v15⟩ s ZCl hL ⟨fr9,h8,rfl,hS,e10,e11,e12,e14⟩;dsimp only [Zjx] at hL;refine r6 ?_;refine cn hL ?_ ?_
  ·intro hc hL;refine XY ?_;refine r2 ?_;obtain⟨U1,ZoU,hL⟩:=bind_some hL;refine WO.cl gN rfl (Xg.fn ZEH (Zf lk (Zf lk Zy))) hS .n (fun g' hz hf hO=>ZzI (by rw [hz];exact hS.hw) ((hS.sl ZA).mono hf) ((hS.sl ZM).mono hf) ((hS.sl ZL).mono hf) ((hS.sl ZN).mono hf) ((hS.sl ZK).mono hf) ZoU) ?_;rintro _ h18 _ ⟨rfl,rfl⟩ hS;refine r4 ?_;rintro _ h21 ⟨b20,ZXY,rfl,hS⟩;refine r1 ?_;rintro h22 hS;refine r8 ?_;refine r2 ?_;refine cn hL ?_ ?_
   ·intro hc hL;refine XY ?_;exact rt hL hT hS
   ·intro hc hL;refine r6 ?_;obtain⟨x23,ZoS,hL⟩:=bind_some hL;obtain⟨b24,o25,_,Zti,Zy2,ZMr⟩:=Src.at_ (hS.QT k2) ZoS;refine WO.w gN rfl (ZH WS X8 lk lk (hS.on k2) Zti ZoS) ?_;refine WO.hu gN (Zet (e:=ZbY) U1.1 () hS k2 X8 (Yt fh rfl) (Yt (Zz rfl fh) rfl) Zti ZoS Zy2 (j:=0) rfl (vs:= [.int .i64 U1.1.at_,.int .i64 U1.1.age,.int .i64 U1.1.letter,.bool U1.1.is]) rfl rfl rfl rfl rfl (cs':= [.int .i64 U1.1.at_,.int .i64 U1.1.age,.int .i64 U1.1.letter,.bool U1.1.is]) rfl rfl trivial) ?_;rintro h26 ⟨hS,ZWx⟩;refine r6 ?_;refine r1 ?_;exact Yh.Y7 (ZCl _ _ hL ⟨_,_,rfl,hS.only (.c k2 (.c k0 .n)),YH⟩)
  ·intro hc hL;refine XY ?_;refine r3 ?_;refine WC.loop (WL.lift hL (fun(v34:Int) (s:Fs)=>∃ (ZbD:Fr) (h28:H),s= ⟨ZbD,[],h28,none⟩∧Sp wm T h [bx wm b1 (cW p0 Zi Zh Zq Zo Zk Zj Zp Zn Zm Zl),ow wm ZbY (some ⟨b5,0,none⟩) z4.length c7 v15] h28∧ZbD.at 1= .pointer (some ⟨b1,0,none⟩)∧ZbD.at 3= .slice (some ⟨b5,0,none⟩) z4.length c7∧ZbD.at 50= .slice Zi p0.Zv.length Zh∧ZbD.at 51= .int .i64 (p0.Zv.length:Int)∧ZbD.at 52= .int .i64 v34) ⟨_,_,rfl,hS.only (.c k0 (.c k0 .n)),YH⟩ ?_);clear hL hS;rintro Zik v34 s Zmo hL ⟨ZbD,h28,rfl,hS,e30,e31,e32,e33,e35⟩;dsimp only [Zgc] at hL;refine r6 ?_;refine cn hL ?_ ?_
   ·intro hc hL;refine r6 ?_;refine r1 ?_;obtain⟨x37,ZfP,hL⟩:=bind_some hL;obtain⟨b38,o39,_,ZiL,ZiR,ZiP,Zld⟩:=Sl.at_ ZA ZfP;refine WO.w gN rfl (ZH YI YJ lk lk rfl ZiL ZfP) ?_;refine WO.w gN rfl (ZW Xr (Yt fh rfl) (At.fz hS.fz ZiP ZiR) (j:=0) rfl (v:= .int .i64 x37) rfl) ?_;refine r4 ?_;refine r1 ?_;refine WC.Xw mixed Kq0 ?_;refine r4 ?_;refine r1 ?_;obtain⟨x40,ZKx,hL⟩:=Yq hL;obtain⟨b41,o42,_,hQ⟩:=Src.atG (fun hg=>(hS.QT k1)) ZKx;have ZL5:=fun hg=>(hQ hg).1
    have ZM9:=fun hg=>(hQ hg).2.1
    have ZTR:=fun hg=>(hQ hg).2.2
    refine WX.gv (Zt.yes rfl rfl rfl (YB rfl fh)) rfl (fun hg=>(ZH WS X8 (YW (Zz rfl fh) rfl hg) (YW fh rfl hg) (hS.on k1) (ZL5 hg) (ZKx hg))) ?_ rfl;refine r1 ?_;refine WX.gv (Zt.yes rfl rfl rfl (Y1 rfl fh)) rfl (fun hg=>(ZW Zr6 (YW fh rfl hg) (ZM9 hg) (j:=3) rfl (v:= .bool x40.is) rfl)) ?_ rfl;refine r2 ?_;obtain⟨x43,ZxE,hL⟩:=Yq hL;obtain⟨b44,o45,_,hQ⟩:=Src.atG (fun hg=>(hS.QT k1)) ZxE;have Zyr:=fun hg=>(hQ hg).1
    have ZyY:=fun hg=>(hQ hg).2.1
    have ZyE:=fun hg=>(hQ hg).2.2
    refine WX.gv (Zt.yes rfl rfl rfl (Y1 rfl (YB rfl (Zz rfl fh)))) rfl (fun hg=>(ZH WS X8 (YW (Zz rfl fh) rfl hg) (YW fh rfl hg) (hS.on k1) (Zyr hg) (ZxE hg))) ?_ rfl;refine r1 ?_;refine WX.gv (Zt.yes rfl rfl rfl (YZ rfl (Zz rfl fh))) rfl (fun hg=>(ZW Zr6 (YW fh rfl hg) (ZyY hg) (j:=3) rfl (v:= .bool x43.is) rfl)) ?_ rfl;refine WX.gv (Zt.yes rfl rfl rfl (YZ rfl (YB rfl fh))) rfl (fun hg=>(Uf (YW (Y1 rfl (Zz rfl fh)) rfl hg) (YW fh rfl hg) (ZaV Zwa))) ?_ rfl;refine r3 ?_;obtain⟨x46,ZuI,hL⟩:=Yq hL;obtain⟨b47,o48,_,hQ⟩:=Src.atG (fun hg=>(hS.QT k1)) ZuI;have Zth:=fun hg=>(hQ hg).1
    have ZyX:=fun hg=>(hQ hg).2.1
    have ZMm:=fun hg=>(hQ hg).2.2
    refine WX.gv (Zt.no2 rfl rfl rfl (YB rfl fh)) rfl (fun hg=>(ZH WS X8 (YW (Zz rfl fh) rfl hg) (YW fh rfl hg) (hS.on k1) (Zth hg) (ZuI hg))) ?_ rfl;refine r1 ?_;refine WX.gv (Zt.no2 rfl rfl rfl (Y1 rfl fh)) rfl (fun hg=>(ZW Xr (YW fh rfl hg) (ZyX hg) (j:=0) rfl (v:= .int .i64 x46.at_) rfl)) ?_ rfl;refine r2 ?_;obtain⟨x49,ZoP,hL⟩:=Yq hL;obtain⟨b50,o51,_,hQ⟩:=Src.atG (fun hg=>(hS.QT k1)) ZoP;have Zpa:=fun hg=>(hQ hg).1
    have Zpg:=fun hg=>(hQ hg).2.1
    have Ztk:=fun hg=>(hQ hg).2.2
    refine WX.gv (Zt.no2 rfl rfl rfl (Y1 rfl (YB rfl (Zz rfl fh)))) rfl (fun hg=>(ZH WS X8 (YW (Zz rfl fh) rfl hg) (YW fh rfl hg) (hS.on k1) (Zpa hg) (ZoP hg))) ?_ rfl;refine r1 ?_;refine WX.gv (Zt.no2 rfl rfl rfl (YZ rfl (Zz rfl fh))) rfl (fun hg=>(ZW Xr (YW fh rfl hg) (Zpg hg) (j:=0) rfl (v:= .int .i64 x49.at_) rfl)) ?_ rfl;refine r1 ?_;refine WX.gv (Zt.yes rfl rfl rfl (YZ rfl (YZ rfl (Y1 rfl (YB rfl (Zz rfl fh)))))) rfl (fun hg=>(Zlr (YW (YZ rfl (YB rfl (Zz rfl fh))) rfl hg) lk (Zds fh hg))) ?_ rfl;refine r3 ?_;obtain⟨x52,ZxD,hL⟩:=Yq hL;obtain⟨b53,o54,_,hQ⟩:=Src.atG (fun hg=>(hS.QT k1)) ZxD;have Zyq:=fun hg=>(hQ hg).1
    have ZyW:=fun hg=>(hQ hg).2.1
    have ZMl:=fun hg=>(hQ hg).2.2
    refine WX.gv (Zt.no2 rfl rfl rfl (YB rfl fh)) rfl (fun hg=>(ZH WS X8 (YW (Zz rfl fh) rfl hg) (YW fh rfl hg) (hS.on k1) (Zyq hg) (ZxD hg))) ?_ rfl;refine r1 ?_;refine WX.gv (Zt.no2 rfl rfl rfl (Y1 rfl fh)) rfl (fun hg=>(ZW Xr (YW fh rfl hg) (ZyW hg) (j:=2) rfl (v:= .int .i64 x52.letter) rfl)) ?_ rfl;refine r2 ?_;obtain⟨x55,Zmk,hL⟩:=Yq hL;obtain⟨b56,o57,_,hQ⟩:=Src.atG (fun hg=>(hS.QT k1)) Zmk;have Zyp:=fun hg=>(hQ hg).1
    have ZyU:=fun hg=>(hQ hg).2.1
    have ZMj:=fun hg=>(hQ hg).2.2
    refine WX.gv (Zt.no2 rfl rfl rfl (Y1 rfl (YB rfl (Zz rfl fh)))) rfl (fun hg=>(ZH WS X8 (YW (Zz rfl fh) rfl hg) (YW fh rfl hg) (hS.on k1) (Zyp hg) (Zmk hg))) ?_ rfl;refine r1 ?_;refine WX.gv (Zt.no2 rfl rfl rfl (YZ rfl (Zz rfl fh))) rfl (fun hg=>(ZW Xr (YW fh rfl hg) (ZyU hg) (j:=2) rfl (v:= .int .i64 x55.letter) rfl)) ?_ rfl;refine r1 ?_;refine WX.gv (Zt.yes rfl rfl rfl (YZ rfl (YZ rfl (YZ rfl (YZ rfl (Y1 rfl fh)))))) rfl (fun hg=>(Zlr (YW (YZ rfl (YB rfl (Zz rfl fh))) rfl hg) lk (Zds fh hg))) ?_ rfl;refine r3 ?_;refine cn hL ?_ ?_
    ·intro hc hL;refine r8 ?_;refine r3 ?_;exact rt hL hT hS
    ·intro hc hL;refine r6 ?_;refine r1 ?_;exact Yh.Y7 (Zmo _ _ hL ⟨_,_,rfl,hS.only (.c k0 (.c k0 .n)),YH⟩)
   ·intro hc hL;refine XY ?_;refine r3 ?_;refine WC.loop (WL.lift hL (fun(v64:Int) (s:Fs)=>∃ (Zrn:Fr) (h58:H),s= ⟨Zrn,[],h58,none⟩∧Sp wm T h [bx wm b1 (cW p0 Zi Zh Zq Zo Zk Zj Zp Zn Zm Zl),ow wm ZbY (some ⟨b5,0,none⟩) z4.length c7 v15] h58∧Zrn.at 1= .pointer (some ⟨b1,0,none⟩)∧Zrn.at 3= .slice (some ⟨b5,0,none⟩) z4.length c7∧Zrn.at 100= .slice Zk p0.qQ.length Zj∧Zrn.at 101= .int .i64 (p0.qQ.length:Int)∧Zrn.at 102= .int .i64 v64) ⟨_,_,rfl,hS.only (.c k0 (.c k0 .n)),YH⟩ ?_);clear hL hS;rintro Zl3 v64 s ZB8 hL ⟨Zrn,h58,rfl,hS,e60,e61,e62,e63,e65⟩;dsimp only [Zgb] at hL;refine r6 ?_;refine cn hL ?_ ?_
    ·intro hc hL;refine r6 ?_;obtain⟨x67,ZuG,hL⟩:=bind_some hL;obtain⟨b68,o69,⟨a70,c71⟩,Ztg,Ztn,ZMz,ZEO⟩:=Sl.at_ ZL ZuG;refine WO.w gN rfl (ZH Uj QG lk lk rfl Ztg ZuG) ?_;have ZKS:Sl Zc wm h a70 c71 x67:=ZEO;refine WO.w gN rfl (ZW UQ (Yt fh rfl) (At.fz hS.fz ZMz Ztn) (j:=0) rfl (v:= .slice a70 x67.length c71) rfl) ?_;refine r8 ?_;refine r3 ?_;refine WC.loop (WL.lift hL (fun(v81:Int) (s:Fs)=>∃ (Zko:Fr) (h72:H),s= ⟨Zko,[],h72,none⟩∧Sp wm T h [bx wm b1 (cW p0 Zi Zh Zq Zo Zk Zj Zp Zn Zm Zl),ow wm ZbY (some ⟨b5,0,none⟩) z4.length c7 v15] h72∧Zko.at 1= .pointer (some ⟨b1,0,none⟩)∧Zko.at 3= .slice (some ⟨b5,0,none⟩) z4.length c7∧Zko.at 100= .slice Zk p0.qQ.length Zj∧Zko.at 101= .int .i64 (p0.qQ.length:Int)∧Zko.at 102= .int .i64 v64∧Zko.at 106= .slice a70 x67.length c71∧Zko.at 107= .int .i64 (x67.length:Int)∧Zko.at 108= .int .i64 v81) ⟨_,_,rfl,hS.only (.c k0 (.c k0 .n)),YH⟩ ?_);clear hL hS;rintro Zw6 v81 s ZB2 hL ⟨Zko,h72,rfl,hS,e74,e75,e76,e77,e78,e79,e80,e82⟩;dsimp only [Zm3] at hL;refine r6 ?_;refine cn hL ?_ ?_
     ·intro hc hL;refine r6 ?_;refine r1 ?_;obtain⟨x84,ZBR,hL⟩:=bind_some hL;obtain⟨b85,o86,_,ZLU,ZMX,ZMv,ZTH⟩:=Sl.at_ ZKS ZBR;refine WO.w gN rfl (ZH Ui Xt lk lk rfl ZLU ZBR) ?_;refine WO.w gN rfl (Xj Zlv Xt (Yt fh rfl) (At.fz hS.fz ZMv ZMX) (j:=0) rfl rfl (ws:= (cE x84)) rfl) ?_;refine r1 ?_;rintro _ h88 ⟨b87,ZXA,rfl,hS⟩;refine r2 ?_;rintro h89 hS;refine r3 ?_;refine WC.Xw mixed Kq0 ?_;refine r8 ?_;obtain⟨x90,hx90,hL⟩:=Yq hL;obtain⟨b91,o92,_,hQ⟩:=Src.atG (fun hg=>(hS.QT k2)) hx90;have ZLR:=fun hg=>(hQ hg).1
      have ZMU:=fun hg=>(hQ hg).2.1
      have ZTF:=fun hg=>(hQ hg).2.2
      refine WX.gv (Zt.yes rfl rfl rfl (Y1 rfl fh)) rfl (fun hg=>(ZH WS X8 (YW (Zz rfl fh) rfl hg) (YW fh rfl hg) (hS.on k2) (ZLR hg) (hx90 hg))) ?_ rfl;refine WX.gv (Zt.yes rfl rfl rfl (Y1 rfl (Zz rfl fh))) rfl (fun hg=>(Xj ZjU X8 (YW fh rfl hg) (ZMU hg) (j:=0) rfl rfl (ws:= [.int .i64 x90.at_,.int .i64 x90.age,.int .i64 x90.letter,.bool x90.is]) rfl)) ?_ rfl;refine r4 ?_;obtain⟨x93,hx93,hL⟩:=Yq hL;refine WX.gcp (Zt.yes rfl rfl rfl (YZ rfl (YB rfl fh))) rfl (fun hg=>(Xg.fn Zyi (Zf (YW (YZ rfl (Zz rfl fh)) rfl hg) (Zf (YW (YZ rfl fh) rfl hg) (Zf (YW (Y1 rfl fh) rfl hg) (Zf (YW (YB rfl fh) rfl hg) (Zf (YW fh rfl hg) Zy))))))) (fun hg=>ZrE (hS.Y0 ZA) (hS.Y0 ZM) (hS.Y0 ZL) (hS.Y0 ZN) (hS.Y0 ZK) (hx93 hg)) ?_ rfl rfl;refine r4 ?_;refine cn hL ?_ ?_
      ·intro hc hL;refine XY ?_;refine r3 ?_;exact rt hL hT hS
      ·intro hc hL;refine r6 ?_;refine r1 ?_;exact Yh.Y7 (ZB2 _ _ hL ⟨_,_,rfl,hS.only (.c k1 (.c k1 .n)),YH⟩)
     ·intro hc hL;refine r8 ?_;refine r2 ?_;exact Yh.Y7 (ZB8 _ _ hL ⟨_,_,rfl,hS.only (.c k0 (.c k0 .n)),YH⟩)
    ·intro hc hL;refine XY ?_;refine r3 ?_;refine WC.loop (WL.lift hL (fun(p:(List XF)×Int) (s:Fs)=>match p with | (v97,Zai)=>∃ (Zrh:Fr) (h94:H) (a98:Option Addr) (c99:Nat) (n100:Nat),s= ⟨Zrh,[],h94,none⟩∧Sp wm T h [ow wm ZbY a98 n100 c99 v97,bx wm b1 (cW p0 Zi Zh Zq Zo Zk Zj Zp Zn Zm Zl)] h94∧Zrh.at 1= .pointer (some ⟨b1,0,none⟩)∧Zrh.at 3= .slice a98 n100 c99∧Zrh.at 133= .slice Zp p0.qJ.length Zn∧Zrh.at 134= .int .i64 (p0.qJ.length:Int)∧Zrh.at 135= .int .i64 Zai) ⟨_,_,(some ⟨b5,0,none⟩),c7,z4.length,rfl,hS.only (.c k1 (.c k0 .n)),YH⟩ ?_);clear hL hS;rintro Zht ⟨v97,Zai⟩ s Zx6 hL ⟨Zrh,h94,a98,c99,n100,rfl,hS,e96,ZNP,ZSp,ZNO,ZNN⟩;obtain rfl:=hS.on k0;dsimp only [Zga] at hL;refine r6 ?_;refine cn hL ?_ ?_
     ·intro hc hL;refine r6 ?_;refine r1 ?_;obtain⟨x107,Zs5,hL⟩:=bind_some hL;obtain⟨ZrX,ZVX,⟨ZIX,ZIJ⟩,ZGL,ZHy,ZG5,ZGS⟩:=Sl.at_ ZN Zs5;refine WO.w gN rfl (ZH K9 Jl lk lk rfl ZGL Zs5) ?_;have ZF2:Sl Zg wm h ZIX ZIJ x107:=ZGS;refine WO.w gN rfl (ZW Zdw (Yt fh rfl) (At.fz hS.fz ZG5 ZHy) (j:=0) rfl (v:= .slice ZIX x107.length ZIJ) rfl) ?_;refine XY ?_;refine WC.loop (WL.lift hL (fun(p:(List XF)×Int) (s:Fs)=>match p with | (ZnT,Zt1)=>∃ (Qq:Fr) (h112:H) (a116:Option Addr) (c117:Nat) (n118:Nat),s= ⟨Qq,[],h112,none⟩∧Sp wm T h [ow wm ZbY a116 n118 c117 ZnT,bx wm b1 (cW p0 Zi Zh Zq Zo Zk Zj Zp Zn Zm Zl)] h112∧Qq.at 1= .pointer (some ⟨b1,0,none⟩)∧Qq.at 3= .slice a116 n118 c117∧Qq.at 13= .int .i64 Zai∧Qq.at 133= .slice Zp p0.qJ.length Zn∧Qq.at 134= .int .i64 (p0.qJ.length:Int)∧Qq.at 135= .int .i64 Zai∧Qq.at 140= .slice ZIX x107.length ZIJ∧Qq.at 141= .int .i64 (x107.length:Int)∧Qq.at 142= .int .i64 Zt1) ⟨_,_,a98,c99,v97.length,rfl,hS.only (.c k0 (.c k0 .n)),YH⟩ ?_);clear hL hS;rintro ZsS ⟨ZnT,Zt1⟩ s Zx1 hL ⟨Qq,h112,a116,c117,n118,rfl,hS,ZC5,e119,e120,ZYK,ZYJ,ZYI,ZYH,e125,e127⟩;obtain rfl:=hS.on k0;dsimp only [Zjw] at hL;refine r6 ?_;refine cn hL ?_ ?_
      ·intro hc hL;refine r6 ?_;obtain⟨ZFk,ZEp,hL⟩:=bind_some hL;obtain⟨ZZF,ZVQ,_,ZGE,ZHr,ZGX,ZRo⟩:=Sl.at_ ZF2 ZEp;refine WO.w gN rfl (ZH Zbt Uz lk lk rfl ZGE ZEp) ?_;refine WO.w gN rfl (Xj Zlu Uz (Yt fh rfl) (At.fz hS.fz ZGX ZHr) (j:=0) rfl rfl (ws:= (cM ZFk)) rfl) ?_;refine r1 ?_;rintro _ ZXm ⟨ZZE,ZUw,rfl,hS⟩;refine r1 ?_;rintro ZXl hS;refine r8 ?_;obtain⟨ZJr,ZKI,hL⟩:=bind_some hL;refine WO.cp gN rfl (Xg.fn ZEG (Zf lk (Zf lk (Zf lk (Zf lk (Zf lk Zy)))))) (ZzH (hS.Y0 ZA) (hS.Y0 ZM) (hS.Y0 ZL) (hS.Y0 ZN) (hS.Y0 ZK) (hS.ord k1) ZKI) ?_;refine r3 ?_;refine cn hL ?_ ?_
       ·intro hc hL;refine XY ?_;refine r3 ?_;exact rt hL hT hS
       ·intro hc hL;refine r6 ?_;refine r1 ?_;exact Yh.Y7 (Zx1 _ _ hL ⟨_,_,a116,c117,ZnT.length,rfl,hS.only (.c k1 (.c k1 .n)),YH⟩)
      ·intro hc hL;refine r8 ?_;refine r2 ?_;exact Yh.Y7 (Zx6 _ _ hL ⟨_,_,a116,c117,ZnT.length,rfl,hS.only (.c k0 (.c k0 .n)),YH⟩)
     ·intro hc hL;refine XY ?_;refine r3 ?_;refine WC.loop (WL.lift hL (fun(Zt0:Int) (s:Fs)=>∃ (UL:Fr) (Zpi:H),s= ⟨UL,[],Zpi,none⟩∧Sp wm T h [bx wm b1 (cW p0 Zi Zh Zq Zo Zk Zj Zp Zn Zm Zl),ow wm ZbY a98 v97.length c99 v97] Zpi∧UL.at 1= .pointer (some ⟨b1,0,none⟩)∧UL.at 3= .slice a98 v97.length c99∧UL.at 155= .slice Zm p0.qG.length Zl∧UL.at 156= .int .i64 (p0.qG.length:Int)∧UL.at 157= .int .i64 Zt0) ⟨_,_,rfl,hS.only (.c k1 (.c k0 .n)),YH⟩ ?_);clear hL hS;rintro ZsR Zt0 s ZxZ hL ⟨UL,Zpi,rfl,hS,e138,ZSi,ZSh,ZSg,e143⟩;dsimp only [Zf9] at hL;refine r6 ?_;refine cn hL ?_ ?_
      ·intro hc hL;refine r6 ?_;obtain⟨ZbL,ZEn,hL⟩:=bind_some hL;obtain⟨ZZB,ZVM,⟨⟨a148,ZOa⟩,⟨ZOA,ZN8⟩⟩,ZGC,ZHp,ZGW,ZyF⟩:=Sl.at_ ZK ZEn;refine WO.w gN rfl (ZH JR Y6 lk lk rfl ZGC ZEn) ?_;have ZQL:Sl (Zu .i64) wm h a148 ZOa ZbL.qV:=ZyF.1;have ZQK:Sl (Zu .i64) wm h ZOA ZN8 ZbL.Yk:=ZyF.2;refine WO.w gN rfl (Xj ZaT Y6 (Yt fh rfl) (At.fz hS.fz ZGW ZHp) (j:=0) rfl rfl (ws:= (cL ZbL a148 ZOa ZOA ZN8)) rfl) ?_;refine r1 ?_;rintro _ ZRP ⟨ZpR,ZNK,rfl,hS⟩;refine r1 ?_;rintro ZNv hS;refine r3 ?_;refine WC.Xw mixed Kq0 ?_;refine r8 ?_;refine r2 ?_;obtain⟨Zg7,ZoV,hL⟩:=Yq hL;refine WX.gcp (Zt.yes rfl rfl rfl (Y1 rfl (YB rfl fh))) rfl (fun hg=>(Xg.fn ZEG (Zf (YW (Y1 rfl (Zz rfl fh)) rfl hg) (Zf (YW (Y1 rfl fh) rfl hg) (Zf (YW (YB rfl fh) rfl hg) (Zf (YW fh rfl hg) (Zf lk Zy))))))) (fun hg=>ZzH (hS.Y0 ZA) (hS.Y0 ZM) (hS.Y0 ZL) (hS.Y0 ZN) (hS.Y0 ZK) (hS.ord k2) (ZoV hg)) ?_ rfl rfl;refine XY ?_;refine r1 ?_;obtain⟨Zee,Zs4,hL⟩:=Yq hL;obtain⟨ZZy,ZVJ,_,hQ⟩:=Src.atG (fun hg=>(hS.QT k2)) Zs4;have ZGA:=fun hg=>(hQ hg).1
       have ZHn:=fun hg=>(hQ hg).2.1
       have ZRl:=fun hg=>(hQ hg).2.2
       refine WX.gv (Zt.Zj6 rfl rfl rfl (Y1 rfl (YB rfl fh))) rfl (fun hg=>(ZH WS X8 (YW (YB rfl fh) rfl hg) (YW fh rfl hg) rfl (ZGA hg) (Zs4 hg))) ?_ rfl;refine WX.gv (Zt.Zj6 rfl rfl rfl (Y1 rfl (YB rfl (Zz rfl fh)))) rfl (fun hg=>(Xj ZjU X8 (YW fh rfl hg) (ZHn hg) (j:=0) rfl rfl (ws:= [.int .i64 Zee.at_,.int .i64 Zee.age,.int .i64 Zee.letter,.bool Zee.is]) rfl)) ?_ rfl;refine r4 ?_;obtain⟨x159,hx159,hL⟩:=Yq hL;refine WX.gcp (Zt.Zj6 rfl rfl rfl (YZ rfl (Y1 rfl fh))) rfl (fun hg=>(Xg.fn Zyi (Zf (YW (YZ rfl (YB rfl (Zz rfl fh))) rfl hg) (Zf (YW (YZ rfl (Zz rfl fh)) rfl hg) (Zf (YW (Y1 rfl fh) rfl hg) (Zf (YW (YB rfl fh) rfl hg) (Zf (YW fh rfl hg) Zy))))))) (fun hg=>ZrE (hS.Y0 ZA) (hS.Y0 ZM) (hS.Y0 ZL) (hS.Y0 ZN) (hS.Y0 ZK) (hx159 hg)) ?_ rfl rfl;refine r1 ?_;refine WX.gv (Zt.no rfl rfl rfl (YZ rfl (YZ rfl (YB rfl fh)))) rfl (fun hg=>(Zgv (YW (YZ rfl (Y1 rfl (YB rfl fh))) rfl hg) (Zds fh hg) lk)) ?_ rfl;refine r3 ?_;refine cn hL ?_ ?_
       ·intro hc hL;refine r8 ?_;refine r3 ?_;exact rt hL hT hS
       ·intro hc hL;refine r6 ?_;refine r1 ?_;exact Yh.Y7 (ZxZ _ _ hL ⟨_,_,rfl,hS.only (.c k1 (.c k1 .n)),YH⟩)
      ·intro hc hL;refine r8 ?_;obtain⟨x160,hx160,hL⟩:=bind_some hL;refine WO.cl gN rfl (Xg.fn ZLz (Zf lk Zy)) hS .n (fun g' hz hf hO=>ZH6 (by rw [hz];exact hS.hw) ((hS.sl ZA).mono hf) ((hS.sl ZM).mono hf) ((hS.sl ZL).mono hf) ((hS.sl ZN).mono hf) ((hS.sl ZK).mono hf) hx160) ?_;rintro _ ZXf _ ⟨ZIV,n162,ZpN,rfl,rfl⟩ hS;obtain rfl:=hS.on k0;refine r6 ?_;refine r1 ?_;obtain⟨ZBb,ZKj,hL⟩:=bind_some hL;refine WO.hn gN rfl (Zwu (e:=Zou) (x0:=false) () hS ZlJ Zn5 (ZOc) Zsm rfl rfl (Yt fh rfl) (Yt fh rfl) rfl trivial ZKj) ?_;rintro _ ZRN ⟨ZbF,Zz9,ZNJ,rfl,hS⟩;refine XY ?_;refine WC.loop (WL.lift hL (fun(p:Int×(List Bool)) (s:Fs)=>match p with | (Zei,ZtZ)=>∃ (ZgY:Fr) (Zy6:H),s= ⟨ZgY,[],Zy6,none⟩∧Sp wm T h [bx wm b1 (cW p0 Zi Zh Zq Zo Zk Zj Zp Zn Zm Zl),ow wm (Zu .i64) ZIV x160.length ZpN x160,ow wm Zou (some ⟨ZbF,0,none⟩) ZBb.length Zz9 ZtZ] Zy6∧ZgY.at 1= .pointer (some ⟨b1,0,none⟩)∧ZgY.at 19= .slice ZIV x160.length ZpN∧ZgY.at 20= .slice (some ⟨ZbF,0,none⟩) ZBb.length Zz9∧ZgY.at 201= .slice ZIV x160.length ZpN∧ZgY.at 202= .int .i64 (x160.length:Int)∧ZgY.at 203= .int .i64 Zei) ⟨_,_,rfl,hS.only (.c k2 (.c k1 (.c k0 .n))),YH⟩ ?_);clear hL hS;rintro ZsQ ⟨Zei,ZtZ⟩ s ZxX hL ⟨ZgY,Zy6,rfl,hS,ZYs,ZSc,ZYr,ZYq,ZYp,ZSb⟩;dsimp only [ZdV] at hL;refine r6 ?_;refine cn hL ?_ ?_
       ·intro hc hL;refine r6 ?_;obtain⟨Zlz,ZEk,hL⟩:=bind_some hL;obtain⟨ZZw,ZVE,_,ZGy,ZHj,ZRj⟩:=Src.at_ (hS.QT k1) ZEk;refine WO.w gN rfl (ZH YI YJ lk lk rfl ZGy ZEk) ?_;refine WO.w gN rfl (ZW Xr (Yt fh rfl) ZHj (j:=0) rfl (v:= .int .i64 Zlz) rfl) ?_;refine r16 ?_;refine r1 ?_;obtain⟨ZnJ,ZoT,hL⟩:=Yq hL;obtain⟨ZSH,ZP5,_,hQ⟩:=Src.atG (fun hg=>(hS.QT k2)) ZoT;have Zq7:=fun hg=>(hQ hg).1
        have Zrc:=fun hg=>(hQ hg).2.1
        have ZGN:=fun hg=>(hQ hg).2.2
        refine WO.gv (Zt.no rfl rfl rfl (YB rfl fh)) rfl (fun hg=>(ZH ZlJ Zn5 (YW (Zz rfl fh) rfl hg) (YW fh rfl hg) (hS.on k2) (Zq7 hg) (ZoT hg))) ?_;refine WO.gv (Zt.no rfl rfl rfl (YB rfl (Zz rfl fh))) rfl (fun hg=>(ZW Zr6 (YW fh rfl hg) (Zrc hg) (j:=0) rfl (v:= .bool ZnJ) rfl)) ?_;refine r3 ?_;refine cn hL ?_ ?_
        ·intro hc hL;refine XY ?_;exact rt hL hT hS
        ·intro hc hL;refine r4 ?_;refine r1 ?_;obtain⟨ZPA,ZxI,hL⟩:=bind_some hL;obtain⟨ZOl,ZVD,_,Zyw,ZHi,ZRi⟩:=Src.at_ (hS.QT k2) ZxI;refine WO.w gN rfl (ZH ZlJ Zn5 lk lk (hS.on k2) Zyw ZxI) ?_;refine WO.hu gN (Zet (e:=Zou) true () hS k2 Zn5 (Yt fh rfl) (evC rfl) Zyw ZxI ZHi (j:=0) rfl (vs:= [.bool true]) rfl rfl rfl rfl rfl (cs':= [.bool true]) rfl rfl trivial) ?_;rintro ZNt ⟨hS,ZT0⟩;refine r6 ?_;refine r1 ?_;exact Yh.Y7 (ZxX _ _ hL ⟨_,_,rfl,hS.only (.c k1 (.c k1 (.c k0 .n))),YH⟩)
       ·intro hc hL;refine r16 ?_;exact rt hL hT hS
theorem ZzQ {F:Nat} {h:H} {p0:Zb} {Zi:Option Addr} {Zh:Nat} {Zq:Option Addr} {Zo:Nat} {Zk:Option Addr} {Zj:Nat} {Zp:Option Addr} {Zn:Nat} {Zm:Option Addr} {Zl:Nat} {r:Bool} (ZA:Sl (Zu .i64) h.size h Zi Zh p0.Zv) (ZM:Sl (ZE (Zu .i64)) h.size h Zq Zo p0.qK) (ZL:Sl (ZE Zc) h.size h Zk Zj p0.qQ) (ZN:Sl (ZE Zg) h.size h Zp Zn p0.qJ) (ZK:Sl Zd h.size h Zm Zl p0.qG) (hL:Zpt F p0=some r):Pure XX 21 #[.agg [.slice Zi p0.Zv.length Zh,.slice Zq p0.qK.length Zo,.slice Zk p0.qQ.length Zj,.slice Zp p0.qJ.length Zn,.slice Zm p0.qG.length Zl,.int .i64 p0.said].toArray] h (.bool r):=
 WR.Qb rfl (ZIp (Nat.le_refl _) ZA ZM ZL ZN ZK hL)
theorem ZIi {F wm:Nat} {h:H} {p0:Zb} {Zi:Option Addr} {Zh:Nat} {Zq:Option Addr} {Zo:Nat} {Zk:Option Addr} {Zj:Nat} {Zp:Option Addr} {Zn:Nat} {Zm:Option Addr} {Zl:Nat} {r:Bool} (ZX:wm <=h.size) (ZA:Sl (Zu .i64) wm h Zi Zh p0.Zv) (ZM:Sl (ZE (Zu .i64)) wm h Zq Zo p0.qK) (ZL:Sl (ZE Zc) wm h Zk Zj p0.qQ) (ZN:Sl (ZE Zg) wm h Zp Zn p0.qJ) (ZK:Sl Zd wm h Zm Zl p0.qG) (hL:ZzN F p0=some r):
 WR XX 35 #[.agg [.slice Zi p0.Zv.length Zh,.slice Zq p0.qK.length Zo,.slice Zk p0.qQ.length Zj,.slice Zp p0.qJ.length Zn,.slice Zm p0.qG.length Zl,.int .i64 p0.said].toArray] wm h (CP (fun(v:Value) (Gb:List (Ast wm))=>v= .bool r∧Gb= []) [] h):=by
 refine bg Tryz.ntmps35 ZX Yd.nil ?_;intro T hT hS;unfold ZzN at hL;refine r3 ?_;rintro _ h2 ⟨b1,eb1,rfl,hS⟩;refine r6 ?_;obtain⟨x3,hx3,hL⟩:=bind_some hL;refine WO.cp gN rfl (Xg.fn ZLN (Zf lk Zy)) (WR.Qb rfl (ZIr (Nat.le_refl _) (hS.Y0 ZA) (hS.Y0 ZM) (hS.Y0 ZL) (hS.Y0 ZN) (hS.Y0 ZK) hx3)) ?_;refine r2 ?_;obtain⟨x4,hx4,hL⟩:=Yq hL;refine WO.gcp (Zt.yes rfl rfl rfl (Zz rfl fh)) rfl (fun hg=>(Xg.fn ZEI (Zf (YW fh rfl hg) Zy))) (fun hg=>ZzQ (hS.Y0 ZA) (hS.Y0 ZM) (hS.Y0 ZL) (hS.Y0 ZN) (hS.Y0 ZK) (hx4 hg)) ?_;refine r4 ?_;refine r1 ?_;exact rt hL hT hS
end Go.Proofs.YtbmbbcaaimehkaaGreat
end
end
section
namespace Go.Proofs.YtbmbbcaaimehkaaGreat
open Go.Lf
def Zm1 (F:Nat) (p0:Zb) (p1:Zx):Int×Bool ->Option Int:=fun(v20,Zwh)=>
 (bif Zwh then some v20 else(ZdR F p0 p1.a).bind fun Kn=>(bif((!Kn.1.here) || (Kn.1.machine==p1.b)) then some 7 else some 0))
def ZzM (p0:Zb) (v43:Int) (ZdK:(Int×Int×Bool ->Option (Bool×Int×Bool))):Int×Int×Bool ->(Int×Int×Bool ->Option (Bool×Int×Bool)) ->Option (Bool×Int×Bool):=fun(v69,v71,Zua) ZqK=>
 (bif decide (v69 < (p0.Zv.length:Int)) then(ZQ p0.Zv v69).bind fun x74=>(bif(x74==v43) then(ZdK (v69,v71,Zua)).bind fun(v80,v81,ZFs)=>(bif(!v80) then some (false,v81,ZFs) else ZqK (Xa (v69 + 1),v81,ZFs)) else ZqK (Xa (v69 + 1),v71,Zua)) else some (true,v71,Zua))
def ZdU (p0:Zb) (v43:Int) (ZdK:(Int×Int×Bool ->Option (Bool×Int×Bool))):Int×Int×Bool ->(Int×Int×Bool ->Option (Bool×Int×Bool)) ->Option (Bool×Int×Bool):=fun(v92,v94,Zt9) ZqJ=>
 (bif decide (v92 < (p0.Zv.length:Int)) then(ZQ p0.Zv v92).bind fun x97=>(bif(x97==v43) then(ZdK (v92,v94,Zt9)).bind fun(ZnU,Zai,Zwi)=>(bif(!ZnU) then some (false,Zai,Zwi) else ZqJ (Xa (v92 + 1),Zai,Zwi)) else ZqJ (Xa (v92 + 1),v94,Zt9)) else some (true,v94,Zt9))
def Zcp (F:Nat) (p0:Zb):Int×Int×Bool ->(Int×Int×Bool ->Option (Bool×Int×Bool)) ->Option (Bool×Int×Bool):=fun(v43,v44,Zqs) ZdK=>
 (bif Zqs then none else(ZdR F p0 v43).bind fun x55=>(bif decide (x55.1.age >=30) then(bif(!false) then some (false,3,true) else loop F (ZzM p0 v43 ZdK) (0,3,true)) else(bif(!true) then some (false,v44,false) else loop F (ZdU p0 v43 ZdK) (0,v44,false))))
def ZmZ:Option Unit:=
 some ()
def Zm0:(List Int) ->Option (List Int):=fun Zv8=>
 some Zv8
def ZrG (p0:Zb) (Zkb:Int) (Zhq:(Int×(List Int) ->Option (Bool×(List Int)))):Int×(List Int) ->(Int×(List Int) ->Option (Bool×(List Int))) ->Option (Bool×(List Int)):=fun(v203,ZlE) Zl8=>
 (bif decide (v203 < (p0.Zv.length:Int)) then(ZQ p0.Zv v203).bind fun ZFi=>(bif(ZFi==Zkb) then(Zhq (v203,ZlE)).bind fun(ZJx,Zka)=>(bif(!ZJx) then some (false,Zka) else Zl8 (Xa (v203 + 1),Zka)) else Zl8 (Xa (v203 + 1),ZlE)) else some (true,ZlE))
def Zjr (F:Nat) (p0:Zb):Int×(List Int) ->(Int×(List Int) ->Option (Bool×(List Int))) ->Option (Bool×(List Int)):=fun(Zkb,v175) Zhq=>
 (app 8 v175 [Zkb]).bind fun ZvV=>(bif(!true) then some (false,ZvV) else loop F (ZrG p0 Zkb Zhq) (0,ZvV))
def ZmY (F:Nat) (p0:Zb) (p1:Zx):Option (List Int):=
 (loop F (Zjr F p0) (p1.a,[])).bind fun(ZPD,v226)=>(Zm0) v226
def Zu2 (F:Nat) (p0:Zb) (p1:Zx):Option Int:=
 (bif(p1.act==1) then(bif decide (p0.said >=40) then some 3 else some 0) else(bif(p1.act==2) then(loop F (Zcp F p0) (p1.a,0,false)).bind fun(ZPF,Zel,ZDY)=>(Zm1 F p0 p1) (Zel,ZDY) else(bif(p1.act==3) then(ZdR F p0 p1.a).bind fun x115=>(ZdR F p0 p1.b).bind fun Zdz=>(ZQ p0.Zv p1.a).bind fun ZvY=>(bif(!((((ZvY != (-1)) || (!x115.1.here)) || (!Zdz.1.here)) || (x115.1.machine !=Zdz.1.machine))) then((ZmZ)).bind fun _=>((ZmY F p0 p1)).bind fun v234=>(Zpq F v234 p1.b).bind fun ZJo=>(bif ZJo then some 7 else some 0) else some 7) else(bif(p1.act==4) then(ZdR F p0 p1.a).bind fun ZFh=>(gd (!(!ZFh.1.here)) (ZQ p0.Zv p1.a) default).bind fun ZFg=>(bif((!ZFh.1.here) || (ZFg== (-1))) then some 7 else some 0) else some 0))))
def ZmX (p0:Zb) (x5:(List Int)) (XL:(List (List Int))) (U1:(List (List Zw))) (x23:(List (List Zr))):Int×(List Ze) ->(Int×(List Ze) ->Option Zb) ->Option Zb:=fun(v38,v40) Zxd=>
 (bif decide (v38 < (p0.qG.length:Int)) then(ZQ p0.qG v38).bind fun U6=>(ZmO U6.qV).bind fun x55=>(ZmO U6.Yk).bind fun x61=>(app 128 v40 [(Ze.mk U6.kind U6.Z9 U6.Yb x55 x61 U6.place U6.at_ U6.age)]).bind fun z75=>Zxd (Xa (v38 + 1),z75) else some (Zb.mk x5 XL U1 x23 v40 p0.said))
def ZzL (F:Nat) (p0:Zb):Option Zb:=
 (ZmO p0.Zv).bind fun x5=>(ZzA F p0.qK).bind fun XL=>(Zzz F p0.qQ).bind fun U1=>(Zzy F p0.qJ).bind fun x23=>loop F (ZmX p0 x5 XL U1 x23) (0,[])
def Zjg (v152:Int) (ZcP:(Int×(List Int)×(List (List Int))×(List (List Zw))×(List (List Zr))×(List Ze)×Int×(List ZI) ->Option Z6)):(List Int)×(List (List Int))×(List (List Zw))×(List (List Zr))×(List Ze)×Int×(List ZI) ->Option Z6:=fun(v194,v198,v203,v208,Zv7,Zka,v218)=>
 ZcP (Xa (v152 + 1),v194,v198,v203,v208,Zv7,Zka,v218)
def Zjh (x1:Ze) (v86:Int) (Zhr:(Int×(List Int)×(List (List Int))×(List (List Zw))×(List (List Zr))×(List Ze)×Int×(List ZI) ->Option Z6)) (ZhQ:Int) (ZlB:(List Zr)):Int×(List Int)×(List (List Int))×(List (List Zw))×(List (List Zr))×(List Ze)×Int×(List ZI) ->(Int×(List Int)×(List (List Int))×(List (List Zw))×(List (List Zr))×(List Ze)×Int×(List ZI) ->Option Z6) ->Option Z6:=fun(v152,v154,ZhT,ZlG,v168,v173,Zei,ZlF) ZcP=>
 (bif decide (v152 < (ZlB.length:Int)) then(ZQ ZlB v152).bind fun Zqk=>(bif(Zqk.place !=ZhQ) then(ZQ v168 x1.Z9).bind fun ZJp=>(app 40 ZJp [Zqk]).bind fun ZBa=>(ZQ v168 x1.Z9).bind fun ZPz=>(Zjg v152 ZcP) (v154,ZhT,ZlG,Yv v168 x1.Z9 ZBa,v173,Zei,ZlF) else(Zg1 (Z6.mk (Zb.mk v154 ZhT ZlG v168 v173 Zei) ZlF) x1.Z9 Zqk).bind fun Zed=>(Zjg v152 ZcP) (Zed.Za.Zv,Zed.Za.qK,Zed.Za.qQ,Zed.Za.qJ,Zed.Za.qG,Zed.Za.said,Zed.qX)) else Zhr (Xa (v86 + 1),v154,ZhT,ZlG,v168,v173,Zei,ZlF))
def Zf3 (F:Nat) (x1:Ze):Int×(List Int)×(List (List Int))×(List (List Zw))×(List (List Zr))×(List Ze)×Int×(List ZI) ->(Int×(List Int)×(List (List Int))×(List (List Zw))×(List (List Zr))×(List Ze)×Int×(List ZI) ->Option Z6) ->Option Z6:=fun(v86,v88,v92,v97,Zda,v107,Zel,Zt3) Zhr=>
 (bif decide (v86 < (x1.qV.length:Int)) then(ZQ x1.qV v86).bind fun ZhQ=>(app 40 Zt3 [(ZI.mk 3 ZhQ x1.Z9 0 0)]).bind fun ZvW=>(ZQ Zda x1.Z9).bind fun ZvY=>(ZQ Zda x1.Z9).bind fun ZlB=>loop F (Zjh x1 v86 Zhr ZhQ ZlB) (0,v88,v92,v97,Yv Zda x1.Z9 ([]:(List Zr)),v107,Zel,ZvW) else some (Z6.mk (Zb.mk v88 v92 v97 Zda v107 Zel) Zt3))
def Zji (F:Nat) (p0:Z6) (x1:Ze) (XL:(List Ze)):Int×(List (List Zw)) ->(Int×(List (List Zw)) ->Option Z6) ->Option Z6:=fun(v56,v58) Zw9=>
 (bif decide (v56 < (x1.qV.length:Int)) then(ZQ x1.qV v56).bind fun x61=>(ZQ v58 x1.Z9).bind fun x64=>(ZQ x1.Yk v56).bind fun x70=>(ZQ x64 x61).bind fun x73=>Zw9 (Xa (v56 + 1),Yv v58 x1.Z9 (Yv x64 x61 (Zw.mk true x1.Z9 x70))) else loop F (Zf3 F x1) (0,p0.Za.Zv,p0.Za.qK,v58,p0.Za.qJ,XL,p0.Za.said,p0.qX))
def Zjf (p0:Z6) (XL:(List Ze)):(List (List Zw)) ->Option Z6:=fun ZBk=>
 some (Z6.mk (Zb.mk p0.Za.Zv p0.Za.qK ZBk p0.Za.qJ XL p0.Za.said) p0.qX)
def ZzF (F:Nat) (p0:Z6) (p1:Int):Option Z6:=
 (ZQ p0.Za.qG p1).bind fun x1=>(Zzv p0.Za.qG p1 (Xa (p1 + 1))).bind fun XL=>(bif x1.kind==1 then(Zpp (Z6.mk (Zb.mk p0.Za.Zv p0.Za.qK p0.Za.qQ p0.Za.qJ XL p0.Za.said) p0.qX) x1.Z9 x1.Yb false).bind fun Kn=>some Kn else(bif x1.kind==2 then loop F (Zji F p0 x1 XL) (0,p0.Za.qQ) else(bif x1.kind==3 then(ZQ p0.Za.qQ x1.Z9).bind fun ZJn=>(ZQ ZJn x1.place).bind fun ZtR=>(bif((!ZtR.here) && (decide (ZtR.age < x1.age))) then(ZQ p0.Za.qQ x1.Z9).bind fun ZFf=>(ZQ ZFf x1.place).bind fun ZPy=>(Zjf p0 XL) (Yv p0.Za.qQ x1.Z9 (Yv ZFf x1.place (Zw.mk false x1.at_ x1.age))) else(Zjf p0 XL) p0.Za.qQ) else none)))
def Zcn (v6:Int) (Za9:(Int×(List Yr) ->Option (ZV×Bool))):(List Yr) ->Option (ZV×Bool):=fun v19=>
 Za9 (Xa (v6 + 1),v19)
def ZfZ (F:Nat) (p0:ZV):Int×(List Yr) ->(Int×(List Yr) ->Option (ZV×Bool)) ->Option (ZV×Bool):=fun(v6,v8) Za9=>
 (bif decide (v6 < (p0.Za.Zv.length:Int)) then(ZQ p0.Za.Zv v6).bind fun x23=>(ZdR F p0.Za v6).bind fun Kn=>(bif(Kn.2 !=1) then some ((ZV.mk p0.Za v8),false) else(ZQ v8 v6).bind fun x32=>(bif decide (x23 < 0) then(Zcn v6 Za9) (Yv v8 v6 Kn.1) else(ZdR F p0.Za x23).bind fun x37=>(gd ((!((x37.1.machine !=Kn.1.machine) || (x37.1.here !=Kn.1.here))) && (!Kn.1.here)) (ZrB F (ZV.mk p0.Za (Yv v8 v6 Kn.1)) v6 x23) default).bind fun x44=>(bif(((x37.1.machine !=Kn.1.machine) || (x37.1.here !=Kn.1.here)) || ((!Kn.1.here) && (!x44))) then some ((ZV.mk p0.Za (Yv v8 v6 Kn.1)),false) else(Zcn v6 Za9) (Yv v8 v6 Kn.1)))) else some ((ZV.mk p0.Za v8),true))
def ZzD (F:Nat) (p0:ZV):Option (ZV×Bool):=
 loop F (ZfZ F p0) (0,p0.Y2)
def ZfX (v23:Int) (KN:(Int ->Option Bool)):Unit ->Option Bool:=fun _=>
 KN (Xa (v23 + 1))
def ZfY (p0:ZV) (v6:Int) (Zdn:(Int ->Option Bool)) (x9:(List Zw)):Int ->(Int ->Option Bool) ->Option Bool:=fun v23 KN=>
 (bif decide (v23 < (x9.length:Int)) then(ZQ x9 v23).bind fun x36=>(bif UN x36 (Zw.mk true v6 x36.age) then(bif((decide (x36.age < 0)) || (decide (x36.age > 30))) then some false else(ZfX v23 KN) ()) else(gd (!(x36.here || (x36.Z9==v6))) (ZmI p0 v23 x36.Z9 x36.age) default).bind fun x42=>(bif((x36.here || (x36.Z9==v6)) || (!x42)) then some false else(ZfX v23 KN) ())) else Zdn (Xa (v6 + 1)))
def Zja (F:Nat) (p0:ZV):Int ->(Int ->Option Bool) ->Option Bool:=fun v6 Zdn=>
 (bif decide (v6 < (p0.Za.qQ.length:Int)) then(ZQ p0.Za.qQ v6).bind fun x9=>loop F (ZfY p0 v6 Zdn x9) 0 else some true)
def Zu0 (F:Nat) (p0:ZV):Option Bool:=
 loop F (Zja F p0) 0
end Go.Proofs.YtbmbbcaaimehkaaGreat
end
