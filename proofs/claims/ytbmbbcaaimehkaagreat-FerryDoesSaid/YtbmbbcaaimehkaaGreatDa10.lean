/- WeighDoes returns true, whatever the number of machines, the world and the deed. No condition. Part 10 of the proof. -/
import Derived.Shelf.Sort.Plain
import Derived.Test.YtbmbbcaaimehkaaGreatDa9
set_option linter.all false
set_option maxHeartbeats 2000000
section
noncomputable section
namespace Go.YR
open Go.Lf
def ZCb (P:Program) (f:FuncId):Prop:=∀ (blk off cap:Nat) (zs:List Int) (w:World),Go.Sort.Holds (Value.int .i64) w blk off zs.toArray ->blk < w.heap.size ->zs.length < 4611686018427387904 ->
 Calls P f #[.slice (some ⟨blk,off,none⟩) zs.length cap] w fun e w'=>e= .returned (.tuple #[])∧∃ n os,w'=Go.Sort.grow (Go.Sort.putRow (Value.int .i64) (Go.Sort.ahead w n) blk off (zs.mergeSort fun x y=>decide (x <=y)).toArray) os
def Zat (cs:List Value) (o:Nat) (ys:List Int):List Value:=cs.mapIdx fun k x=>if o <=k∧k < o + ys.length then .int .i64 (ys.getD (k - o) 0) else x
theorem Zd1 (cs:List Value) (o:Nat) (ys:List Int):(Zat cs o ys).length=cs.length:=by simp [Zat]
theorem ZiE (cs:List Value) (o:Nat) (ys:List Int) (k:Nat):(Zat cs o ys)[k]? =cs[k]?.map fun x=>if o <=k∧k < o + ys.length then .int .i64 (ys.getD (k - o) 0) else x:=by simp [Zat]
variable {X:Ctx} {f:FuncId} {wm wm0:Nat} {h:H} {i o c:Nat} {cs:List Value} {xs:List Int}
theorem ZxQ (he:Q7 (Zt .i64) wm0 h cs o xs) {j:Nat} (hj:j < xs.length):cs[o + j]? =some (.int .i64 xs[j]):=by
 obtain⟨q,h1,_⟩:=he.get j xs[j] (List.getElem?_eq_getElem hj);have h1:(cs.drop (o + j * 1)).take 1= [.int .i64 xs[j]]:=h1;rw [Nat.mul_one] at h1;have:=congrArg (fun l=>l[0]?) h1
 simpa [List.getElem?_take,List.getElem?_drop] using this
theorem Zxs (SC:ZCb X.P f) (hat:h.at i= .row cs true 1) (hw:wm <=i) (he:Q7 (Zt .i64) wm0 h cs o xs) (hne:0 < xs.length) (hlen:xs.length < 4611686018427387904):
 Y0 X (.call f #[.slice (some ⟨i,o,none⟩) xs.length c] wm h) (.fin (.ret (.tuple #[])) (h.put i (.row (Zat cs o (xs.mergeSort fun x y=>decide (x <=y))) true 1))):=by
 intro ρ args' w Z0 rel hv;obtain⟨hsz,hvv⟩:=hv;have hsz:args'.size=1:=hsz.symm
 obtain⟨v',rfl⟩:∃ v',args'=#[v']:= ⟨args'[0],by
  apply Array.ext
  ·simpa using hsz
  ·intro k h1 h2;have:k=0:=by omega
   subst this;rfl⟩
 have hvr:=hvv 0 _ _ rfl rfl;generalize hn:xs.length=n at hvr;cases hvr with
 | QH=>omega
 | @slice _ b d _ _ _ c' hρ hc=>
   subst hn;have hb:= (rel.dom i b d hρ).2;have hil:= (rel.dom i b d hρ).1;have hob:=rel.obj i b d hρ;rw [hat] at hob;obtain⟨cc,el,fz,hcc,hfz,hdl,hcv⟩:=hob;obtain⟨ZTO,ZTN⟩:=hfz rfl;subst ZTO;have ZYs:o + xs.length * 1 <=cs.length:=he.len
   have hcell:∀ j (hj:j < xs.length),cc[d + (o + j)]? =some (.int .i64 xs[j]):=fun j hj=>by
    have hk:d + (o + j) < cc.size:=by omega
    have:=hcv (o + j) _ cc[d + (o + j)] (ZxQ he hj) (Array.getElem?_eq_getElem hk);rw [Array.getElem?_eq_getElem hk];cases hx:cc[d + (o + j)] <;> rw [hx] at this <;> cases this
    rfl
   have hH:Go.Sort.Holds (Value.int .i64) w b (d + o) xs.toArray:=by
    intro j hj;have hj':j < xs.length:=by simpa using hj
    refine⟨?_,by simp [World.frozen?,hcc]⟩;have h1:=hcell j hj';simp only [World.cell?,hcc];simp only [Option.isSome_none,Bool.false_eq_true,if_false];rw [show d + o + j=d + (o + j) by omega,h1];simp [hj']
   refine callsIn_wide.2 ((SC b (d + o) c' xs w hH hb hlen).mono ?_);rintro e w' ⟨rfl,n,os,rfl⟩;generalize hys:(xs.mergeSort fun x y=>decide (x <=y))=ys;have hyl:ys.length=xs.length:=by rw [← hys,List.length_mergeSort]
   have hheap:∀ b',b' < w.heap.size ->(Go.Sort.grow (Go.Sort.putRow (Value.int .i64) (Go.Sort.ahead w n) b (d + o) ys.toArray) os).heap[b']? =if b=b' then(w.heap[b']?).map (Go.Sort.onCells (Go.Sort.putCells (Value.int .i64) (d + o) ys.toArray)) else w.heap[b']?:=fun b' hb'=>by
    have hs:b' < (w.heap.modify b (Go.Sort.onCells (Go.Sort.putCells (Value.int .i64) (d + o) ys.toArray))).size:=by simpa using hb'
    simp only [Go.Sort.grow,Go.Sort.putRow,Go.Sort.mapBlock,Go.Sort.ahead];rw [Array.getElem?_append_left hs,Array.getElem?_modify]
   have hsame:∀ b',b' < w.heap.size ->b' ≠ b ->(Go.Sort.grow (Go.Sort.putRow (Value.int .i64) (Go.Sort.ahead w n) b (d + o) ys.toArray) os).heap[b']? =w.heap[b']?:=fun b' hb' hne'=>by rw [hheap b' hb',if_neg (fun q=>hne' q.symm)]
   have hsize:w.heap.size <= (Go.Sort.grow (Go.Sort.putRow (Value.int .i64) (Go.Sort.ahead w n) b (d + o) ys.toArray) os).heap.size:=by simp [Go.Sort.grow,Go.Sort.putRow,Go.Sort.mapBlock,Go.Sort.ahead]
   have hat':∀ j,(h.put i (.row (Zat cs o ys) true 1)).at j=if j=i then .row (Zat cs o ys) true 1 else h.at j:=fun j=>by
    rw [H.QY];by_cases e:j=i
    ·subst e;rw [if_pos ⟨rfl,hil⟩,if_pos rfl]
    ·rw [if_neg (fun q=>e q.1),if_neg e]
   have ZNR:∀ j d',ρ j=some (b,d') ->j ≠ i ->(h.at j).live=false:=fun j d' hj hji=>by
    cases hl:(h.at j).live with
    | false=>rfl
    | true=>exact absurd (rel.inj i j b d d' hρ hj (by rw [hat];rfl) hl).symm hji
   refine⟨ρ,.ret (.tuple _ _ rfl fun k v v' e=>by simp at e),⟨fun j b' d' hj=>⟨(rel.dom j b' d' hj).1,Nat.lt_of_lt_of_le (rel.dom j b' d' hj).2 hsize⟩,fun j b' d' hj=>?_,fun j k b' d1 d2 h1 h2 h3 h4=>?_⟩,?_⟩
   ·rw [hat'];by_cases e:j=i
    ·subst e;rw [hρ] at hj;cases hj;rw [if_pos rfl];refine⟨Go.Sort.putCells (Value.int .i64) (d + o) ys.toArray cc,el,(0,0),?_,fun _=>⟨rfl,fun hz=>?_⟩,?_,fun k v v' e1 e2=>?_⟩
     ·rw [hheap b hb,if_pos rfl,hcc];rfl
     ·rw [ZTN hz];simp [Go.Sort.putCells]
     ·rw [Zd1];simpa [Go.Sort.putCells] using hdl
     ·rw [ZiE] at e1;obtain⟨v0,e0,rfl⟩:=Option.map_eq_some_iff.1 e1;have hkl:k < cs.length:= (Li0 e0).1;have hkc:d + k < cc.size:=by omega
      have e3:(Go.Sort.putCells (Value.int .i64) (d + o) ys.toArray cc)[d + k]? =some (if d + o <=d + k∧d + k < d + o + ys.length then .int .i64 ys.toArray[d + k - (d + o)]! else cc[d + k]):=by
       simp [Go.Sort.putCells,Array.getElem?_eq_getElem hkc]
      rw [e3] at e2;cases e2;by_cases hin:o <=k∧k < o + ys.length
      ·rw [if_pos hin,if_pos (by omega)]
       have:ys.toArray[d + k - (d + o)]! =ys.getD (k - o) 0:=by
        rw [show d + k - (d + o)=k - o by omega];have hlt:k - o < ys.length:=by omega
        simp [hlt]
       rw [this];exact .int _ _
      ·rw [if_neg hin,if_neg (by omega)];exact hcv k v0 _ e0 (Array.getElem?_eq_getElem hkc)
    ·rw [if_neg e];by_cases eb:b'=b
     ·subst eb;have:=ZNR j d' hj e;cases hh:h.at j with
      | dead=>trivial
      | row _ _ _=>rw [hh] at this;cases this
      | map _ _=>rw [hh] at this;cases this
      | loop _ _ _ _ _ _ _ _=>rw [hh] at this;cases this
      | deferred=>rw [hh] at this;cases this
      | Zde _ _=>rw [hh] at this;cases this
      | iter _ _ _ _=>rw [hh] at this;cases this
      | Ze7=>rw [hh] at this;cases this
     ·exact(rel.obj j b' d' hj).world (hsame b' (rel.dom j b' d' hj).2 eb)
   ·rw [hat'] at h3 h4;refine rel.inj j k b' d1 d2 h1 h2 ?_ ?_
    ·by_cases e:j=i
     ·subst e;rw [hat];rfl
     ·rwa [if_neg e] at h3
    ·by_cases e:k=i
     ·subst e;rw [hat];rfl
     ·rwa [if_neg e] at h4
   ·refine⟨Ren.le_refl ρ,Nat.le_refl _,fun j hj=>?_,fun j hj hx=>?_,fun j hj hx=>?_,rfl,rfl,rfl,hsize,fun b' hb' hno=>?_,fun j b' d' e e'=>by rw [e] at e';cases e'⟩
    ·rw [hat',if_neg (by omega)]
    ·rw [hat'] at hx;by_cases e:j=i
     ·subst e;rw [hat];rfl
     ·rwa [if_neg e] at hx
    ·rw [hat'] at hx;by_cases e:j=i
     ·subst e;rw [hat];rfl
     ·rwa [if_neg e] at hx
    ·exact hsame b' hb' fun q=>hno i d hw (by rw [q];exact hρ) (by rw [hat];rfl)
theorem ZCQ (SC:ZCb X.P f) (H0:∀ (wm:Nat) (h:H) (a:Option Addr) (c:Nat),Y0 X (.call f #[.slice a 0 c] wm h) (.fin (.ret (.tuple #[])) h)) {a:Option Addr} {n:Nat} (hlen:xs.length < 4611686018427387904)
 (Z0:wm <=h.size) (hO:Yd (wm:=wm) [ow wm (Zt .i64) a n c xs] h):
 WR X f #[.slice a n c] wm h (CP (fun(v:Value) (Gb:List (Ast wm))=>v= .tuple [].toArray∧Gb= [ow wm (Zt .i64) a n c (xs.mergeSort fun x y=>decide (x <=y))]) [ow wm (Zt .i64) a n c xs] h):=by
 have hP:(ow wm (Zt .i64) a n c xs).P h:=hO.all _ (by simp);obtain⟨hn,so⟩:=hP;have s0:Sp wm (Qi [ow wm (Zt .i64) a n c xs]) h [ow wm (Zt .i64) a n c xs] h:=Sp.start Z0 hO
 have empty:xs= [] ->WR X f #[.slice a n c] wm h (CP (fun(v:Value) (Gb:List (Ast wm))=>v= .tuple [].toArray∧Gb= [ow wm (Zt .i64) a n c (xs.mergeSort fun x y=>decide (x <=y))]) [ow wm (Zt .i64) a n c xs] h):=fun e=>by
  subst e;have hn:n=0:=hn;subst hn;exact⟨_,h,⟨_,rfl,_,⟨rfl,rfl⟩,by simpa using s0⟩,H0 wm h a c⟩
 rcases so.mem with⟨_,_,h3⟩ | ⟨i,o,cs,rfl,h2,h3,h4,h5,h6⟩
 ·exact empty h3
 ·rcases Nat.eq_zero_or_pos xs.length with z | z
  ·exact empty (List.length_eq_zero_iff.1 z)
  ·subst hn;have h3:h.at i= .row cs true 1:=h3;have hj:=Zxs (c:=c) SC h3 h2 h6 z hlen;refine⟨_,_,⟨_,rfl,_,⟨rfl,rfl⟩,?_⟩,hj⟩;have hil:i < h.size:=XQ h3 rfl
   have hu:Up wm (XB (some ⟨i,o,none⟩)) h (h.put i (.row (Zat cs o (xs.mergeSort fun x y=>decide (x <=y))) true 1)):=
    let u:=Up.put (lo:=wm) (A:= .row (Zat cs o (xs.mergeSort fun x y=>decide (x <=y))) true 1) h2 (show(h.at i).own=true by rw [h3];rfl)
    ⟨u.size,fun j hj hn=>u.keep j hj fun e=>hn ⟨o,by rw [e]⟩,fun j ⟨o',e⟩=>by cases e;exact⟨h2,by rw [h3];rfl⟩⟩
   refine s0.one .z hu (fun j q=>q) ⟨?_,?_,.inr ⟨i,o,_,rfl,h2,YJ hil _,?_,?_,?_⟩⟩ fun j q=>.inl q
   ·rw [List.length_mergeSort]
   ·rw [List.length_mergeSort];exact so.max
   ·rw [List.length_mergeSort];exact h4
   ·rw [Zd1];exact h5
   ·refine⟨?_,fun k x hk=>⟨(),?_,trivial⟩⟩
    ·rw [Zd1,List.length_mergeSort];exact h6.len
    ·have hkl:k < (xs.mergeSort fun x y=>decide (x <=y)).length:= (Li0 hk).1;have hl:o + xs.length * 1 <=cs.length:=h6.len;have Z2K:k < xs.length:=by rwa [List.length_mergeSort] at hkl
     show((Zat cs o _).drop (o + k * 1)).take 1= [.int .i64 x];rw [Nat.mul_one];apply List.ext_getElem?;intro j;cases j with
     | zero=>
       rw [List.getElem?_take_of_lt (by omega),List.getElem?_drop,Nat.add_zero,ZiE,List.getElem?_eq_getElem (show o + k < cs.length by omega)];simp only [Option.map_some,List.getElem?_cons_zero];rw [if_pos (by omega),show o + k - o=k by omega,List.getD_eq_getElem?_getD,hk];rfl
     | succ j=>rw [List.getElem?_take_eq_none (by omega)];simp
end Go.YR
end
end
section
set_option maxRecDepth 100000
noncomputable section
namespace Go.Proofs.YtbmbbcaaimehkaaGreat
open Go.YR Go.Lf
def ZHS:Go.Shelf.Ren:= ⟨fun | 189=>94 | 125=>108 | 257=>107 | 128=>119 | 129=>120 | 294=>110 | 295=>111 | 296=>112 | 297=>113 | 298=>114 | 299=>115 | 216=>116 | 300=>117 | 301=>118 | 328=>121 | 329=>122 | 330=>123 | 331=>124 | 332=>125 | 215=>126 | 343=>127 | n=>n,fun | 28=>22 | 3=>3 | 46=>155 | 0=>0 | 51=>165 | 53=>167 | 4=>4 | 183=>159 | 182=>158 | 131=>69 | 5=>5 | 9=>9 | 218=>168 | 222=>172 | 228=>174 | 229=>175 | n=>n,fun n=>n⟩
theorem ZMC:Lays.n189 Tryz.prog ZHS:= {
 mixed:=by kernel_rfl,
 f125:=Tryz.func108.trans (congrArg some Kq0),
 f128:=Tryz.func119.trans (congrArg some Kq0),
 f129:=Tryz.func120.trans (congrArg some Kq0),
 f189:=Tryz.func94.trans (congrArg some Kq0),
 f215:=Tryz.func126.trans (congrArg some Kq0),
 f216:=Tryz.func116.trans (congrArg some Kq0),
 f257:=Tryz.func107.trans (congrArg some Kq0),
 f294:=Tryz.func110.trans (congrArg some Kq0),
 f295:=Tryz.func111.trans (congrArg some Kq0),
 f296:=Tryz.func112.trans (congrArg some Kq0),
 f297:=Tryz.func113.trans (congrArg some Kq0),
 f298:=Tryz.func114.trans (congrArg some Kq0),
 f299:=Tryz.func115.trans (congrArg some Kq0),
 f300:=Tryz.func117.trans (congrArg some Kq0),
 f301:=Tryz.func118.trans (congrArg some Kq0),
 f328:=Tryz.func121.trans (congrArg some Kq0),
 f329:=Tryz.func122.trans (congrArg some Kq0),
 f330:=Tryz.func123.trans (congrArg some Kq0),
 f331:=Tryz.func124.trans (congrArg some Kq0),
 f332:=Tryz.func125.trans (congrArg some Kq0),
 f343:=Tryz.func127.trans (congrArg some Kq0),
 t0:=Tryz.underlying0,
 a0:=Tryz.isAgg0,
 z0:=Tryz.sizeOf0,
 v0:=Tryz.zeroValue0,
 t3:=Tryz.underlying3,
 a3:=Tryz.isAgg3,
 z3:=Tryz.sizeOf3,
 v3:=Tryz.zeroValue3,
 t4:=Tryz.underlying4,
 a4:=Tryz.isAgg4,
 z4:=Tryz.sizeOf4,
 v4:=Tryz.zeroValue4,
 t5:=Tryz.underlying5,
 a5:=Tryz.isAgg5,
 z5:=Tryz.sizeOf5,
 v5:=Tryz.zeroValue5,
 t9:=Tryz.underlying9,
 a9:=Tryz.isAgg9,
 z9:=Tryz.sizeOf9,
 v9:=Tryz.zeroValue9,
 t28:=Tryz.underlying22,
 a28:=Tryz.isAgg22,
 z28:=Tryz.sizeOf22,
 v28:=Tryz.zeroValue22,
 t46:=Tryz.underlying155,
 a46:=Tryz.isAgg155,
 z46:=Tryz.sizeOf155,
 v46:=Tryz.zeroValue155,
 t51:=Tryz.underlying165,
 a51:=Tryz.isAgg165,
 z51:=Tryz.sizeOf165,
 v51:=Tryz.zeroValue165,
 t53:=Tryz.underlying167,
 a53:=Tryz.isAgg167,
 z53:=Tryz.sizeOf167,
 v53:=Tryz.zeroValue167,
 t131:=Tryz.underlying69,
 a131:=Tryz.isAgg69,
 z131:=Tryz.sizeOf69,
 v131:=Tryz.zeroValue69,
 t182:=Tryz.underlying158,
 a182:=Tryz.isAgg158,
 z182:=Tryz.sizeOf158,
 v182:=Tryz.zeroValue158,
 t183:=Tryz.underlying159,
 a183:=Tryz.isAgg159,
 z183:=Tryz.sizeOf159,
 v183:=Tryz.zeroValue159,
 t218:=Tryz.underlying168,
 a218:=Tryz.isAgg168,
 z218:=Tryz.sizeOf168,
 v218:=Tryz.zeroValue168,
 t222:=Tryz.underlying172,
 a222:=Tryz.isAgg172,
 z222:=Tryz.sizeOf172,
 v222:=Tryz.zeroValue172,
 t228:=Tryz.underlying174,
 a228:=Tryz.isAgg174,
 z228:=Tryz.sizeOf174,
 v228:=Tryz.zeroValue174,
 t229:=Tryz.underlying175,
 a229:=Tryz.isAgg175,
 z229:=Tryz.sizeOf175,
 v229:=Tryz.zeroValue175}
theorem ZL3:ZCb XX.P 94:=fun blk off cap zs w h1 h2 h3=>Any.slices_Sort_int ZMC blk off cap zs w h1 h2 h3
theorem Zxr (wm:Nat) (h:H) (a:Option Addr) (c:Nat):Y0 XX (.call 94 #[.slice a 0 c] wm h) (.fin (.ret (.tuple #[])) h):=by
 have e:ev (cfg XX fun _=>false) 100 (.call 94 #[.slice a 0 c] wm h)=some (.fin (.ret (.tuple #[])) h):=Kq0
 exact Zf0 (X:=XX) mixed 100 _ _ e
theorem ZAY {wm:Nat} {h:H} {p0:List Int} {Zi:Option Addr} {Zh XA:Nat} {r:List Int} (Z0:wm <=h.size) (hO:Yd (wm:=wm) [ow wm (Zt .i64) Zi XA Zh p0] h) (hL:Zsx p0=some r):
 WR XX 94 #[.slice Zi XA Zh] wm h (CP (fun(v:Value) (Gb:List (Ast wm))=>v= .tuple [].toArray∧Gb= [ow wm (Zt .i64) Zi XA Zh r]) [ow wm (Zt .i64) Zi XA Zh p0] h):=by
 unfold Zsx at hL;cases hb:Nat.ble p0.length 1000000 with
 | false=>rw [hb] at hL;cases hL
 | true=>
   rw [hb] at hL;cases hL;have:=Nl0 hb;exact ZCQ ZL3 Zxr (by omega) Z0 hO
end Go.Proofs.YtbmbbcaaimehkaaGreat
end
end
section
namespace Go.Proofs.YtbmbbcaaimehkaaGreat
open Go.Lf
def ZjE (v17:Int) (U7:(Int×Int×Int×Bool×Int ->Option (Yy×Int))):Int×Int×Bool×Int ->Option (Yy×Int):=fun(v29,v34,v35,v36)=>
 U7 (v29,Y2 (v17 + 1),v34,v35,v36)
def Zgo (v58:Int) (ZcD:(Int×Int×Int×Bool×Int ->Option (Yy×Int))):Int×Int×Bool×Int ->Option (Yy×Int):=fun(v69,v74,v75,v76)=>
 ZcD (v69,Y2 (v58 + 1),v74,v75,v76)
def ZjD (ZhH:Int) (Zdk:(Int×Int×Int×Bool×Int ->Option (Yy×Int))):Int×Int×Bool×Int ->Option (Yy×Int):=fun(ZeI,ZCH,Zix,ZkV)=>
 Zdk (ZeI,Y2 (ZhH + 1),ZCH,Zix,ZkV)
def ZnC (p1:Int) (v58:Int) (ZcD:(Int×Int×Int×Bool×Int ->Option (Yy×Int))) (x77:Zg):Int×Int×Int×Bool×Int ->(Int×Int×Int×Bool×Int ->Option (Yy×Int)) ->Option (Yy×Int):=fun(v92,ZhH,ZdD,ZoZ,Zas) Zdk=>
 (bif decide (ZhH < (x77.qV.length:Int)) then(ZK x77.qV ZhH).bind fun ZoO=>(bif(ZoO==p1) then(ZK x77.Yc ZhH).bind fun Zw4=>(ZjD ZhH Zdk) (Y2 (v92 + 1),x77.ZX,false,Zw4) else(ZjD ZhH Zdk) (v92,ZdD,ZoZ,Zas)) else(Zgo v58 ZcD) (v92,ZdD,ZoZ,Zas))
def ZjF (F:Nat) (p0:Zb) (p1:Int):Int×Int×Int×Bool×Int ->(Int×Int×Int×Bool×Int ->Option (Yy×Int)) ->Option (Yy×Int):=fun(v54,v58,v60,v61,v62) ZcD=>
 (bif decide (v58 < (p0.qG.length:Int)) then(ZK p0.qG v58).bind fun x77=>(bif(x77.kind !=2) then(Zgo v58 ZcD) (v54,v60,v61,v62) else loop F (ZnC p1 v58 ZcD x77) (v54,0,v60,v61,v62)) else some ((Yy.mk v60 v61 v62),v54))
def ZnD (F:Nat) (p0:Zb) (p1:Int):Int×Int×Int×Bool×Int ->(Int×Int×Int×Bool×Int ->Option (Yy×Int)) ->Option (Yy×Int):=fun(v13,v17,v19,v20,v21) U7=>
 (bif decide (v17 < (p0.qQ.length:Int)) then(ZK p0.qQ v17).bind fun x37=>(ZK x37 p1).bind fun x42=>(bif x42.here then(ZK x37 p1).bind fun Ww=>(ZjE v17 U7) (Y2 (v13 + 1),v17,true,Ww.age) else(ZjE v17 U7) (v13,v19,v20,v21)) else loop F (ZjF F p0 p1) (v13,0,v19,v20,v21))
def Zef (F:Nat) (p0:Zb) (p1:Int):Option (Yy×Int):=
 loop F (ZnD F p0 p1) (0,0,0,false,0)
def Zgm (p0:Zb) (v23:Int) (KV:(Int ->Option Bool)):Int×Int ->(Int×Int ->Option Bool) ->Option Bool:=fun(v33,v35) ZiX=>
 (bif decide (v35 >=0) then(bif decide ((Y2 (v33 + 1)) > (p0.Zx.length:Int)) then some false else(ZK p0.Zx v35).bind fun x41=>(gd (!(decide (x41 < (-1)))) (ZK p0.Zx v35) default).bind fun x44=>(bif((decide (x41 < (-1))) || (decide (x44 >= (p0.Zx.length:Int)))) then some false else(ZK p0.Zx v35).bind fun x47=>ZiX (Y2 (v33 + 1),x47))) else KV (Y2 (v23 + 1)))
def Zgn (F:Nat) (p0:Zb):Int ->(Int ->Option Bool) ->Option Bool:=fun v23 KV=>
 (bif decide (v23 < (p0.Zx.length:Int)) then(ZK p0.Zx v23).bind fun KE=>(bif((decide (KE < (-1))) || (decide (KE >= (p0.Zx.length:Int)))) then some false else loop F (Zgm p0 v23 KV) (0,v23)) else some true)
def ZjC (F:Nat) (p0:Zb):Int ->(Int ->Option Bool) ->Option Bool:=fun v9 Zyv=>
 (bif decide (v9 < (p0.qQ.length:Int)) then(ZK p0.qQ v9).bind fun x12=>(bif((x12.length:Int) != (p0.Zx.length:Int)) then some false else Zyv (Y2 (v9 + 1))) else loop F (Zgn F p0) 0)
def ZA8 (F:Nat) (p0:Zb):Option Bool:=
 (bif((((((decide ((p0.qQ.length:Int) < 1)) || (decide ((p0.qQ.length:Int) > 5))) || (decide ((p0.Zx.length:Int) < 1))) || (decide ((p0.Zx.length:Int) > 8))) || ((p0.qK.length:Int) != (p0.Zx.length:Int))) || ((p0.qJ.length:Int) != (p0.qQ.length:Int))) then some false else loop F (ZjC F p0) 0)
def Zbu (v8:Int) (Uj:(Int ->Option Bool)):Unit ->Option Bool:=fun _=>
 Uj (Y2 (v8 + 1))
def Zee (p0:Zb) (v8:Int) (Uj:(Int ->Option Bool)) (Ub:Zg):Int ->(Int ->Option Bool) ->Option Bool:=fun v46 ZiW=>
 (bif decide (v46 < (Ub.qV.length:Int)) then(ZK Ub.qV v46).bind fun x49=>(gd ((!((decide (x49 < 0)) || (decide (x49 >= (p0.Zx.length:Int))))) && (decide (v46 > 0))) (ZK Ub.qV (Y2 (v46 - 1))) default).bind fun x52=>(gd (!(((decide (x49 < 0)) || (decide (x49 >= (p0.Zx.length:Int)))) || ((decide (v46 > 0)) && (decide (x49 <=x52))))) (ZK Ub.Yc v46) default).bind fun x55=>(gd (!((((decide (x49 < 0)) || (decide (x49 >= (p0.Zx.length:Int)))) || ((decide (v46 > 0)) && (decide (x49 <=x52)))) || (decide (x55 < 1)))) (ZK Ub.Yc v46) default).bind fun x58=>(bif(((((decide (x49 < 0)) || (decide (x49 >= (p0.Zx.length:Int)))) || ((decide (v46 > 0)) && (decide (x49 <=x52)))) || (decide (x55 < 1))) || (decide (x58 > 30))) then some false else ZiW (Y2 (v46 + 1))) else(Zbu v8 Uj) ())
def Zed (F:Nat) (p0:Zb) (v8:Int) (Uj:(Int ->Option Bool)) (Ub:Zg):Bool ->Option Bool:=fun v35=>
 (bif v35 then(Zbu v8 Uj) () else(bif(Ub.kind==2) then(bif((decide ((Ub.qV.length:Int) < 1)) || ((Ub.Yc.length:Int) != (Ub.qV.length:Int))) then some false else loop F (Zee p0 v8 Uj Ub) 0) else some false))
def Zax (F:Nat) (p0:Zb):Int ->(Int ->Option Bool) ->Option Bool:=fun v8 Uj=>
 (bif decide (v8 < (p0.qG.length:Int)) then(ZK p0.qG v8).bind fun Ub=>(bif(Ub.kind==1) then(Zed F p0 v8 Uj Ub) (Ub.kind==1) else(Zed F p0 v8 Uj Ub) (Ub.kind==3)) else some true)
def Zwb (F:Nat) (p0:Zb):Option Bool:=
 loop F (Zax F p0) 0
def ZnB (v33:Int) (ZmG:((List Int)×Int ->Option Bool)) (x36:(List Zr)):(List Int)×Int ->((List Int)×Int ->Option Bool) ->Option Bool:=fun(v44,v54) Zyl=>
 (bif decide (v54 < (x36.length:Int)) then(ZK x36 v54).bind fun x57=>(app 8 v44 [x57.msg]).bind fun z65=>Zyl (z65,Y2 (v54 + 1)) else ZmG (v44,Y2 (v33 + 1)))
def Zjx (v79:Int) (Zf9:((List Int)×Int ->Option Bool)):(List Int) ->Option Bool:=fun v85=>
 Zf9 (v85,Y2 (v79 + 1))
def Zbt (p0:ZY) (ZhE:(List Int)):Int ->(Int ->Option Bool) ->Option Bool:=fun ZhF ZtR=>
 (bif decide (ZhF < (ZhE.length:Int)) then(ZK ZhE ZhF).bind fun Zb3=>(bif(Zb3 !=ZhF) then some false else ZtR (Y2 (ZhF + 1))) else some ((ZhE.length:Int)==p0.Za.said))
def Zjy (F:Nat) (p0:ZY):(List Int)×Int ->((List Int)×Int ->Option Bool) ->Option Bool:=fun(v72,v79) Zf9=>
 (bif decide (v79 < (p0.Za.qG.length:Int)) then(ZK p0.Za.qG v79).bind fun x93=>(bif(x93.kind==1) then(app 8 v72 [x93.ZV.msg]).bind fun z105=>(Zjx v79 Zf9) z105 else(Zjx v79 Zf9) v72) else(Zsx v72).bind fun ZhE=>loop F (Zbt p0 ZhE) 0)
def Zjz (F:Nat) (p0:ZY):(List Int)×Int ->((List Int)×Int ->Option Bool) ->Option Bool:=fun(v26,v33) ZmG=>
 (bif decide (v33 < (p0.Za.qJ.length:Int)) then(ZK p0.Za.qJ v33).bind fun x36=>loop F (ZnB v33 ZmG x36) (v26,0) else loop F (Zjy F p0) (v26,0))
def ZjA (F:Nat) (p0:ZY):(List Int)×Int ->((List Int)×Int ->Option Bool) ->Option Bool:=fun(v4,v11) Qa=>
 (bif decide (v11 < (p0.Za.qK.length:Int)) then(ZK p0.Za.qK v11).bind fun x14=>(app 8 v4 x14).bind fun z19=>Qa (z19,Y2 (v11 + 1)) else loop F (Zjz F p0) (v4,0))
def Zv9 (F:Nat) (p0:ZY):Option Bool:=
 (bif((decide (p0.Za.said < 0)) || (decide (p0.Za.said > 40))) then some false else loop F (ZjA F p0) ([],0))
end Go.Proofs.YtbmbbcaaimehkaaGreat
end
section
set_option maxRecDepth 20000
noncomputable section
namespace Go.Proofs.YtbmbbcaaimehkaaGreat
open Go.YR Go.Lf
theorem ZcT {F wm h} {p0:Zb} {p1:Int} {Zi Zh Zm Zl Zk Zj Zo Zn Zq Zp} {r} (Z0:wm <=h.size) (ZB:Sl (Zt .i64) wm h Zi Zh p0.Zx) (ZM:Sl (ZN (Zt .i64)) wm h Zm Zl p0.qK) (ZF:Sl (ZN Zc) wm h Zk Zj p0.qQ) (ZL:Sl (ZN Ze) wm h Zo Zn p0.qJ) (ZI:Sl Zd wm h Zq Zp p0.qG) (hL:Zef F p0 p1=some r):
 WR XX 67 #[.agg [.slice Zi p0.Zx.length Zh,.slice Zm p0.qK.length Zl,.slice Zk p0.qQ.length Zj,.slice Zo p0.qJ.length Zn,.slice Zq p0.qG.length Zp,.int .i64 p0.said].toArray,.int .i64 p1] wm h (CP (fun(v:Value) (Gb:List (Ast wm))=>v= .tuple [.agg [.int .i64 r.1.machine,.bool r.1.here,.int .i64 r.1.age].toArray,.int .i64 r.2].toArray∧Gb= []) [] h):=by
 refine bg Tryz.ntmps67 Z0 Yd.nil ?_;intro T hT hS;unfold Zef at hL;refine r3 ?_;rintro _ h2 ⟨b1,eb1,rfl,hS⟩;refine r1 ?_;rintro _ h4 ⟨b3,eb3,rfl,hS⟩;refine r6 ?_;rintro _ h6 ⟨b5,eb5,rfl,hS⟩;refine r16 ?_;refine r1 ?_;refine WC.loop (WL.lift hL (fun p s=>match p with | (v13,v17,v19,v20,v21)=>∃ fr8 h7,s= ⟨fr8,[],h7,none⟩∧Sp wm T h [bx wm b1 (cW p0 Zi Zh Zm Zl Zk Zj Zo Zn Zq Zp),bx wm b3 [.int .i64 0,.bool false,.int .i64 0],bx wm b5 [.int .i64 v19,.bool v20,.int .i64 v21]] h7∧fr8.at 1= .int .i64 p1∧fr8.at 2= .pointer (some ⟨b1,0,none⟩)∧fr8.at 4= .pointer (some ⟨b3,0,none⟩)∧fr8.at 6= .pointer (some ⟨b5,0,none⟩)∧fr8.at 7= .int .i64 v13∧fr8.at 15= .slice Zk p0.qQ.length Zj∧fr8.at 16= .int .i64 (p0.qQ.length:Int)∧fr8.at 17= .int .i64 v17) ⟨_,_,rfl,hS.only sl,Yv⟩ ?_);clear hL hS;rintro U7 ⟨v13,v17,v19,v20,v21⟩ s Zne hL ⟨fr8,h7,rfl,hS,e9,e10,e11,e12,e14,e15,e16,e18⟩;dsimp only [ZnD] at hL;refine r6 ?_;refine cn hL ?_ ?_
 ·intro hc hL;refine r2 ?_;refine WC.Zae (r:=r) (fun(p:Int×Int×Bool×Int) s=>match p with | (v29,v34,v35,v36)=>∃ UO h23,s= ⟨UO,[],h23,none⟩∧Sp wm T h [bx wm b1 (cW p0 Zi Zh Zm Zl Zk Zj Zo Zn Zq Zp),bx wm b3 [.int .i64 0,.bool false,.int .i64 0],bx wm b5 [.int .i64 v34,.bool v35,.int .i64 v36]] h23∧UO.at 1= .int .i64 p1∧UO.at 2= .pointer (some ⟨b1,0,none⟩)∧UO.at 4= .pointer (some ⟨b3,0,none⟩)∧UO.at 6= .pointer (some ⟨b5,0,none⟩)∧UO.at 7= .int .i64 v29∧UO.at 15= .slice Zk p0.qQ.length Zj∧UO.at 16= .int .i64 (p0.qQ.length:Int)∧UO.at 17= .int .i64 v17) (ZjE v17 U7) ?_ ?_
  ·clear hL hS;rintro⟨v29,v34,v35,v36⟩ s hL ⟨UO,h23,rfl,hS,e25,e26,e27,e28,e30,e31,e32,e33⟩;dsimp only [ZjE] at hL;refine r4 ?_;exact Ya.YU (Zne _ _ hL ⟨_,_,rfl,hS.only sl,Yv⟩)
  ·skip;refine r4 ?_;obtain⟨x37,ZmU,hL⟩:=qZ hL;obtain⟨b38,o39,⟨a40,c41⟩,ZzW,ZAq,ZAi,ZlX⟩:=Sl.at_ ZF ZmU;refine r1 ?_;have ZpS:Sl Zc wm h a40 c41 x37:=ZlX;refine r9 ?_;obtain⟨x42,ZyQ,hL⟩:=qZ hL;obtain⟨b43,o44,_,ZOE,ZPD,ZPm,ZOZ⟩:=Sl.at_ ZpS ZyQ;refine r5 ?_;refine cn hL ?_ ?_
   ·intro hc hL;refine r5 ?_;obtain⟨Ww,ZyP,hL⟩:=qZ hL;obtain⟨b46,o47,_,ZGd,ZAp,ZAg,Zp0⟩:=Sl.at_ ZpS ZyP;refine r3 ?_;refine WO.w gN rfl (YS Zs0 (Zu lk (Zu lk (Zu lk ZT))) rfl (cs':= [.int .i64 v17,.bool true,.int .i64 Ww.age]) rfl) ?_;refine r1 ?_;rintro h48 hS;refine r8 ?_;exact YT.YU _ hL ⟨_,_,rfl,hS.only sl,Yv⟩
   ·intro hc hL;refine r2 ?_;exact YT.YU _ hL ⟨_,_,rfl,hS.only sl,Yv⟩
 ·intro hc hL;refine r15 ?_;refine WC.loop (WL.lift hL (fun p s=>match p with | (v54,v58,v60,v61,v62)=>∃ Znn h49,s= ⟨Znn,[],h49,none⟩∧Sp wm T h [bx wm b3 [.int .i64 0,.bool false,.int .i64 0],bx wm b5 [.int .i64 v60,.bool v61,.int .i64 v62]] h49∧Znn.at 1= .int .i64 p1∧Znn.at 4= .pointer (some ⟨b3,0,none⟩)∧Znn.at 6= .pointer (some ⟨b5,0,none⟩)∧Znn.at 7= .int .i64 v54∧Znn.at 38= .slice Zq p0.qG.length Zp∧Znn.at 39= .int .i64 (p0.qG.length:Int)∧Znn.at 40= .int .i64 v58) ⟨_,_,rfl,hS.only sl,Yv⟩ ?_);clear hL hS;rintro ZcD ⟨v54,v58,v60,v61,v62⟩ s ZDz hL ⟨Znn,h49,rfl,hS,e51,e52,e53,e55,e56,e57,e59⟩;dsimp only [ZjF] at hL;refine r6 ?_;refine cn hL ?_ ?_
  ·intro hc hL;refine r2 ?_;refine WC.Zae (r:=r) (fun(p:Int×Int×Bool×Int) s=>match p with | (v69,v74,v75,v76)=>∃ Znm h64,s= ⟨Znm,[],h64,none⟩∧Sp wm T h [bx wm b3 [.int .i64 0,.bool false,.int .i64 0],bx wm b5 [.int .i64 v74,.bool v75,.int .i64 v76]] h64∧Znm.at 1= .int .i64 p1∧Znm.at 4= .pointer (some ⟨b3,0,none⟩)∧Znm.at 6= .pointer (some ⟨b5,0,none⟩)∧Znm.at 7= .int .i64 v69∧Znm.at 38= .slice Zq p0.qG.length Zp∧Znm.at 39= .int .i64 (p0.qG.length:Int)∧Znm.at 40= .int .i64 v58) (Zgo v58 ZcD) ?_ ?_
   ·clear hL hS;rintro⟨v69,v74,v75,v76⟩ s hL ⟨Znm,h64,rfl,hS,e66,e67,e68,e70,e71,e72,e73⟩;dsimp only [Zgo] at hL;refine r4 ?_;exact Ya.YU (ZDz _ _ hL ⟨_,_,rfl,hS.only sl,Yv⟩)
   ·skip;refine r3 ?_;obtain⟨x77,ZTe,hL⟩:=qZ hL;obtain⟨b78,o79,⟨⟨a80,c81⟩,⟨a82,c83⟩⟩,ZYz,ZPu,ZPb,ZGg⟩:=Sl.at_ ZI ZTe;refine r1 ?_;have ZNx:Sl (Zt .i64) wm h a80 c81 x77.qV:=ZGg.1;have ZNw:Sl (Zt .i64) wm h a82 c83 x77.Yc:=ZGg.2;refine WO.w gN rfl (YK WS Xf (YF fh rfl) (At.fz hS.fz ZPb ZPu) (j:=0) rfl rfl (ws:= (cL x77 a80 c81 a82 c83)) rfl) ?_;refine r1 ?_;rintro _ h85 ⟨b84,Z4n,rfl,hS⟩;refine r1 ?_;rintro h86 hS;refine r10 ?_;refine cn hL ?_ ?_
    ·intro hc hL;refine r3 ?_;exact YT.YU _ hL ⟨_,_,rfl,hS.only sl,Yv⟩
    ·intro hc hL;refine JC ?_;refine WC.loop (WL.lift hL (fun p s=>match p with | (v92,ZhH,ZdD,ZoZ,Zas)=>∃ Zgg h87,s= ⟨Zgg,[],h87,none⟩∧Sp wm T h [bx wm b3 [.int .i64 0,.bool false,.int .i64 0],bx wm b5 [.int .i64 ZdD,.bool ZoZ,.int .i64 Zas],bx wm b84 (cL x77 a80 c81 a82 c83)] h87∧Zgg.at 1= .int .i64 p1∧Zgg.at 4= .pointer (some ⟨b3,0,none⟩)∧Zgg.at 6= .pointer (some ⟨b5,0,none⟩)∧Zgg.at 7= .int .i64 v92∧Zgg.at 11= .pointer (some ⟨b84,0,none⟩)∧Zgg.at 38= .slice Zq p0.qG.length Zp∧Zgg.at 39= .int .i64 (p0.qG.length:Int)∧Zgg.at 40= .int .i64 v58∧Zgg.at 48= .slice a80 x77.qV.length c81∧Zgg.at 49= .int .i64 (x77.qV.length:Int)∧Zgg.at 50= .int .i64 ZhH) ⟨_,_,rfl,hS.only sl,Yv⟩ ?_);clear hL hS;rintro Zdk ⟨v92,ZhH,ZdD,ZoZ,Zas⟩ s Zzz hL ⟨Zgg,h87,rfl,hS,e89,e90,e91,e93,e94,e95,e96,e97,e98,e99,ZKO⟩;dsimp only [ZnC] at hL;refine r6 ?_;refine cn hL ?_ ?_
     ·intro hc hL;refine r2 ?_;refine WC.Zae (r:=r) (fun(p:Int×Int×Bool×Int) s=>match p with | (ZeI,ZCH,Zix,ZkV)=>∃ ZaW ZAC,s= ⟨ZaW,[],ZAC,none⟩∧Sp wm T h [bx wm b3 [.int .i64 0,.bool false,.int .i64 0],bx wm b5 [.int .i64 ZCH,.bool Zix,.int .i64 ZkV],bx wm b84 (cL x77 a80 c81 a82 c83)] ZAC∧ZaW.at 1= .int .i64 p1∧ZaW.at 4= .pointer (some ⟨b3,0,none⟩)∧ZaW.at 6= .pointer (some ⟨b5,0,none⟩)∧ZaW.at 7= .int .i64 ZeI∧ZaW.at 11= .pointer (some ⟨b84,0,none⟩)∧ZaW.at 38= .slice Zq p0.qG.length Zp∧ZaW.at 39= .int .i64 (p0.qG.length:Int)∧ZaW.at 40= .int .i64 v58∧ZaW.at 48= .slice a80 x77.qV.length c81∧ZaW.at 49= .int .i64 (x77.qV.length:Int)∧ZaW.at 50= .int .i64 ZhH) (ZjD ZhH Zdk) ?_ ?_
      ·clear hL hS;rintro⟨ZeI,ZCH,Zix,ZkV⟩ s hL ⟨ZaW,ZAC,rfl,hS,e108,e109,ZQk,ZWj,ZWi,ZKK,e115,e116,e117,e118,e119⟩;dsimp only [ZjD] at hL;refine r4 ?_;exact Ya.YU (Zzz _ _ hL ⟨_,_,rfl,hS.only sl,Yv⟩)
      ·skip;refine r4 ?_;obtain⟨ZoO,Zy2,hL⟩:=qZ hL;obtain⟨ZQ0,ZSO,_,ZIW,ZJz,ZI9,ZI0⟩:=Sl.at_ ZNx Zy2;refine r13 ?_;refine cn hL ?_ ?_
       ·intro hc hL;refine r1 ?_;refine WC.YD mixed Kq0 ?_;refine r5 ?_;obtain⟨Zw4,ZNp,hL⟩:=qZ hL;obtain⟨ZWZ,Z2f,_,ZT8,ZVe,ZUR,ZUF⟩:=Sl.at_ ZNw ZNp;refine r2 ?_;refine WX.w gN rfl (YS Zs0 (Zu lk (Zu lk (Zu lk ZT))) rfl (cs':= [.int .i64 x77.ZX,.bool false,.int .i64 Zw4]) rfl) ?_ rfl;refine WX.hu gN (Ug hS k1 Zal lk lk (vs:= [.int .i64 x77.ZX,.bool false,.int .i64 Zw4]) rfl rfl rfl rfl (cs':= [.int .i64 x77.ZX,.bool false,.int .i64 Zw4]) rfl) ?_ rfl rfl [] Kq0 Yg.e;rintro ZVE hS;refine r8 ?_;exact YT.YU _ hL ⟨_,_,rfl,hS.only sl,Yv⟩
       ·intro hc hL;refine r2 ?_;exact YT.YU _ hL ⟨_,_,rfl,hS.only sl,Yv⟩
     ·intro hc hL;refine r5 ?_;exact YT.YU _ hL ⟨_,_,rfl,hS.only sl,Yv⟩
  ·intro hc hL;refine r10 ?_;rintro ZD2 hS;refine r4 ?_;have hr:=Oi0 hL;subst hr;exact Yk.gen (vs:= [.agg [.int .i64 v60,.bool v61,.int .i64 v62].toArray,.int .i64 v54]) rfl (Y6 (Y5 rfl e52) (Ji Zow Zal (hS.KC k0) (j:=0) rfl rfl (ws:= [.int .i64 v60,.bool v61,.int .i64 v62]) rfl) (ZU lk ZE)) rfl ⟨_,⟨rfl,rfl⟩,hT ▸ hS.only .n⟩
theorem ZKc {F wm h} {p0:Zb} {Zi Zh Zm Zl Zk Zj Zo Zn Zq Zp} {r} (Z0:wm <=h.size) (ZB:Sl (Zt .i64) wm h Zi Zh p0.Zx) (ZM:Sl (ZN (Zt .i64)) wm h Zm Zl p0.qK) (ZF:Sl (ZN Zc) wm h Zk Zj p0.qQ) (ZL:Sl (ZN Ze) wm h Zo Zn p0.qJ) (ZI:Sl Zd wm h Zq Zp p0.qG) (hL:ZA8 F p0=some r):
 WR XX 68 #[.agg [.slice Zi p0.Zx.length Zh,.slice Zm p0.qK.length Zl,.slice Zk p0.qQ.length Zj,.slice Zo p0.qJ.length Zn,.slice Zq p0.qG.length Zp,.int .i64 p0.said].toArray] wm h (CP (fun(v:Value) (Gb:List (Ast wm))=>v= .bool r∧Gb= []) [] h):=by
 refine bg Tryz.ntmps68 Z0 Yd.nil ?_;intro T hT hS;unfold ZA8 at hL;refine r3 ?_;rintro _ h2 ⟨b1,eb1,rfl,hS⟩;refine r4 ?_;refine WC.YD mixed Kq0 ?_;refine r16 ?_;refine r16 ?_;refine JC ?_;refine cn hL ?_ ?_
 ·intro hc hL;refine r7 ?_;exact rt hL hT hS
 ·intro hc hL;refine WG ?_;refine WC.loop (WL.lift hL (fun v9 s=>∃ fr4 h3,s= ⟨fr4,[],h3,none⟩∧Sp wm T h [bx wm b1 (cW p0 Zi Zh Zm Zl Zk Zj Zo Zn Zq Zp)] h3∧fr4.at 1= .pointer (some ⟨b1,0,none⟩)∧fr4.at 4= .int .i64 (p0.Zx.length:Int)∧fr4.at 46= .slice Zk p0.qQ.length Zj∧fr4.at 47= .int .i64 (p0.qQ.length:Int)∧fr4.at 48= .int .i64 v9) ⟨_,_,rfl,hS.only sl,Yv⟩ ?_);clear hL hS;rintro Zyv v9 s ZDQ hL ⟨fr4,h3,rfl,hS,e5,e6,e7,e8,e10⟩;dsimp only [ZjC] at hL;refine r6 ?_;refine cn hL ?_ ?_
  ·intro hc hL;refine r6 ?_;obtain⟨x12,Zr0,hL⟩:=qZ hL;obtain⟨b13,o14,⟨a15,c16⟩,ZGf,ZAv,ZAk,ZAc⟩:=Sl.at_ ZF Zr0;refine r1 ?_;have ZX9:Sl Zc wm h a15 c16 x12:=ZAc;refine WG ?_;refine cn hL ?_ ?_
   ·intro hc hL;refine JC ?_;exact rt hL hT hS
   ·intro hc hL;refine r7 ?_;exact Ya.YU (ZDQ _ _ hL ⟨_,_,rfl,hS.only sl,Yv⟩)
  ·intro hc hL;refine r15 ?_;refine WC.loop (WL.lift hL (fun v23 s=>∃ Zss h17,s= ⟨Zss,[],h17,none⟩∧Sp wm T h [bx wm b1 (cW p0 Zi Zh Zm Zl Zk Zj Zo Zn Zq Zp)] h17∧Zss.at 1= .pointer (some ⟨b1,0,none⟩)∧Zss.at 4= .int .i64 (p0.Zx.length:Int)∧Zss.at 58= .slice Zi p0.Zx.length Zh∧Zss.at 59= .int .i64 (p0.Zx.length:Int)∧Zss.at 60= .int .i64 v23) ⟨_,_,rfl,hS.only sl,Yv⟩ ?_);clear hL hS;rintro KV v23 s Znd hL ⟨Zss,h17,rfl,hS,e19,e20,e21,e22,e24⟩;dsimp only [Zgn] at hL;refine r6 ?_;refine cn hL ?_ ?_
   ·intro hc hL;refine r7 ?_;obtain⟨KE,ZmV,hL⟩:=qZ hL;obtain⟨b27,o28,_,ZYH,ZZB,ZZk,ZY5⟩:=Sl.at_ ZB ZmV;refine r16 ?_;refine r2 ?_;refine cn hL ?_ ?_
    ·intro hc hL;refine WG ?_;exact rt hL hT hS
    ·intro hc hL;refine r14 ?_;refine WC.loop (WL.lift hL (fun p s=>match p with | (v33,v35)=>∃ WM h29,s= ⟨WM,[],h29,none⟩∧Sp wm T h [bx wm b1 (cW p0 Zi Zh Zm Zl Zk Zj Zo Zn Zq Zp)] h29∧WM.at 1= .pointer (some ⟨b1,0,none⟩)∧WM.at 4= .int .i64 (p0.Zx.length:Int)∧WM.at 9= .int .i64 v33∧WM.at 10= .int .i64 v35∧WM.at 58= .slice Zi p0.Zx.length Zh∧WM.at 59= .int .i64 (p0.Zx.length:Int)∧WM.at 60= .int .i64 v23) ⟨_,_,rfl,hS.only sl,Yv⟩ ?_);clear hL hS;rintro ZiX ⟨v33,v35⟩ s Znb hL ⟨WM,h29,rfl,hS,e31,e32,e34,e36,e37,e38,e39⟩;dsimp only [Zgm] at hL;refine r7 ?_;refine cn hL ?_ ?_
     ·intro hc hL;refine r16 ?_;refine r3 ?_;refine cn hL ?_ ?_
      ·intro hc hL;refine r16 ?_;exact rt hL hT hS
      ·intro hc hL;refine r7 ?_;obtain⟨x41,ZH4,hL⟩:=qZ hL;obtain⟨b42,o43,_,ZOF,ZPE,ZPn,ZO0⟩:=Sl.at_ ZB ZH4;refine r7 ?_;obtain⟨x44,ZDi,hL⟩:=Yi hL;obtain⟨b45,o46,_,hQ⟩:=Sl.atG (fun hg=>ZB) ZDi;have ZOD:=fun hg=>(hQ hg).1
       have ZPC:=fun hg=>(hQ hg).2.1
       have ZPl:=fun hg=>(hQ hg).2.2.1
       have ZY3:=fun hg=>(hQ hg).2.2.2
       refine WO.gv (Zw.no rfl rfl rfl (YC rfl (ZC rfl fh))) rfl (fun hg=>(Yn XP XE (YQ (ZC rfl fh) rfl hg) (YQ fh rfl hg) rfl (ZOD hg) (ZDi hg))) ?_;refine WO.gv (Zw.no rfl rfl rfl (Y5 rfl fh)) rfl (fun hg=>(Y4 WT (YQ fh rfl hg) (At.fz hS.fz (ZPl hg) (ZPC hg)) (j:=0) rfl (v:= .int .i64 x44) rfl)) ?_;refine r5 ?_;refine cn hL ?_ ?_
       ·intro hc hL;refine r15 ?_;exact rt hL hT hS
       ·intro hc hL;refine r7 ?_;obtain⟨x47,ZTn,hL⟩:=qZ hL;obtain⟨b48,o49,_,ZYE,ZZy,ZZh,ZY2⟩:=Sl.at_ ZB ZTn;refine r4 ?_;exact Ya.YU (Znb _ _ hL ⟨_,_,rfl,hS.only sl,Yv⟩)
     ·intro hc hL;refine r10 ?_;exact Ya.YU (Znd _ _ hL ⟨_,_,rfl,hS.only sl,Yv⟩)
   ·intro hc hL;refine JC ?_;exact rt hL hT hS
theorem ZKa {F wm h} {p0:Zb} {Zi Zh Zm Zl Zk Zj Zo Zn Zq Zp} {r} (Z0:wm <=h.size) (ZB:Sl (Zt .i64) wm h Zi Zh p0.Zx) (ZM:Sl (ZN (Zt .i64)) wm h Zm Zl p0.qK) (ZF:Sl (ZN Zc) wm h Zk Zj p0.qQ) (ZL:Sl (ZN Ze) wm h Zo Zn p0.qJ) (ZI:Sl Zd wm h Zq Zp p0.qG) (hL:Zwb F p0=some r):
 WR XX 69 #[.agg [.slice Zi p0.Zx.length Zh,.slice Zm p0.qK.length Zl,.slice Zk p0.qQ.length Zj,.slice Zo p0.qJ.length Zn,.slice Zq p0.qG.length Zp,.int .i64 p0.said].toArray] wm h (CP (fun(v:Value) (Gb:List (Ast wm))=>v= .bool r∧Gb= []) [] h):=by
 refine bg Tryz.ntmps69 Z0 Yd.nil ?_;intro T hT hS;unfold Zwb at hL;refine r3 ?_;rintro _ h2 ⟨b1,eb1,rfl,hS⟩;refine r13 ?_;refine WC.loop (WL.lift hL (fun v8 s=>∃ fr4 h3,s= ⟨fr4,[],h3,none⟩∧Sp wm T h [bx wm b1 (cW p0 Zi Zh Zm Zl Zk Zj Zo Zn Zq Zp)] h3∧fr4.at 1= .pointer (some ⟨b1,0,none⟩)∧fr4.at 8= .slice Zq p0.qG.length Zp∧fr4.at 9= .int .i64 (p0.qG.length:Int)∧fr4.at 10= .int .i64 v8) ⟨_,_,rfl,hS.only sl,Yv⟩ ?_);clear hL hS;rintro Uj v8 s Znh hL ⟨fr4,h3,rfl,hS,e5,e6,e7,e9⟩;dsimp only [Zax] at hL;refine r6 ?_;refine cn hL ?_ ?_
 ·intro hc hL;refine r2 ?_;refine WC.Zae (r:=r) (fun(_:Unit) s=>∃ Zv5 h11,s= ⟨Zv5,[],h11,none⟩∧Sp wm T h [bx wm b1 (cW p0 Zi Zh Zm Zl Zk Zj Zo Zn Zq Zp)] h11∧Zv5.at 1= .pointer (some ⟨b1,0,none⟩)∧Zv5.at 8= .slice Zq p0.qG.length Zp∧Zv5.at 9= .int .i64 (p0.qG.length:Int)∧Zv5.at 10= .int .i64 v8) (Zbu v8 Uj) ?_ ?_
  ·clear hL hS;rintro _ s hL ⟨Zv5,h11,rfl,hS,e13,e14,e15,e16⟩;dsimp only [Zbu] at hL;refine r4 ?_;exact Ya.YU (Znh _ _ hL ⟨_,_,rfl,hS.only sl,Yv⟩)
  ·skip;refine r3 ?_;obtain⟨Ub,ZrZ,hL⟩:=qZ hL;obtain⟨b18,o19,⟨⟨a20,c21⟩,⟨a22,c23⟩⟩,ZYM,ZPH,ZPp,ZGk⟩:=Sl.at_ ZI ZrZ;refine r1 ?_;have ZFW:Sl (Zt .i64) wm h a20 c21 Ub.qV:=ZGk.1;have Zue:Sl (Zt .i64) wm h a22 c23 Ub.Yc:=ZGk.2;refine WO.w gN rfl (YK WS Xf (YF fh rfl) (At.fz hS.fz ZPp ZPH) (j:=0) rfl rfl (ws:= (cL Ub a20 c21 a22 c23)) rfl) ?_;refine r1 ?_;rintro _ h25 ⟨b24,ZQe,rfl,hS⟩;refine r1 ?_;rintro h26 hS;refine r10 ?_;refine WC.Zae (r:=r) (fun(v35:Bool) s=>∃ Znp h27,s= ⟨Znp,[],h27,none⟩∧Sp wm T h [bx wm b1 (cW p0 Zi Zh Zm Zl Zk Zj Zo Zn Zq Zp),bx wm b24 (cL Ub a20 c21 a22 c23)] h27∧Znp.at 1= .pointer (some ⟨b1,0,none⟩)∧Znp.at 4= .pointer (some ⟨b24,0,none⟩)∧Znp.at 8= .slice Zq p0.qG.length Zp∧Znp.at 9= .int .i64 (p0.qG.length:Int)∧Znp.at 10= .int .i64 v8∧Znp.at 15= .int .i64 Ub.kind∧Znp.at 16= .bool v35) (Zed F p0 v8 Uj Ub) ?_ ?_
   ·clear hL hS;rintro v35 s hL ⟨Znp,h27,rfl,hS,e29,e30,e31,e32,e33,e34,e36⟩;dsimp only [Zed] at hL;refine cn hL ?_ ?_
    ·intro hc hL;refine r1 ?_;refine UN.other rfl ?_;refine r2 ?_;exact YT.YU _ hL ⟨_,_,rfl,hS.only sl,Yv⟩
    ·intro hc hL;refine r6 ?_;refine cn hL ?_ ?_
     ·intro hc hL;refine r16 ?_;refine r1 ?_;refine cn hL ?_ ?_
      ·intro hc hL;refine r9 ?_;refine YT.ret ?_;refine r3 ?_;exact rt hL hT hS
      ·intro hc hL;refine WG ?_;refine WC.loop (WL.lift hL (fun v46 s=>∃ ZaU h37,s= ⟨ZaU,[],h37,none⟩∧Sp wm T h [bx wm b1 (cW p0 Zi Zh Zm Zl Zk Zj Zo Zn Zq Zp),bx wm b24 (cL Ub a20 c21 a22 c23)] h37∧ZaU.at 1= .pointer (some ⟨b1,0,none⟩)∧ZaU.at 4= .pointer (some ⟨b24,0,none⟩)∧ZaU.at 8= .slice Zq p0.qG.length Zp∧ZaU.at 9= .int .i64 (p0.qG.length:Int)∧ZaU.at 10= .int .i64 v8∧ZaU.at 35= .slice a20 Ub.qV.length c21∧ZaU.at 36= .int .i64 (Ub.qV.length:Int)∧ZaU.at 37= .int .i64 v46) ⟨_,_,rfl,hS.only sl,Yv⟩ ?_);clear hL hS;rintro ZiW v46 s Zna hL ⟨ZaU,h37,rfl,hS,e39,e40,e41,e42,e43,e44,e45,e47⟩;dsimp only [Zee] at hL;refine r6 ?_;refine cn hL ?_ ?_
       ·intro hc hL;refine r7 ?_;obtain⟨x49,ZvU,hL⟩:=qZ hL;obtain⟨b50,o51,_,ZzU,ZuA,ZGo,Zut⟩:=Sl.at_ ZFW ZvU;refine r16 ?_;refine r10 ?_;obtain⟨x52,ZpJ,hL⟩:=Yi hL;obtain⟨b53,o54,_,hQ⟩:=Sl.atG (fun hg=>ZFW) ZpJ;have ZpY:=fun hg=>(hQ hg).1
        have Zp2:=fun hg=>(hQ hg).2.1
        have ZAf:=fun hg=>(hQ hg).2.2.1
        have ZGi:=fun hg=>(hQ hg).2.2.2
        refine WO.gv (Zw.ZkR rfl rfl rfl (Y5 rfl (ZC rfl fh))) rfl (fun hg=>(Yn XP XE (YQ (YC rfl fh) rfl hg) (YQ fh rfl hg) rfl (ZpY hg) (ZpJ hg))) ?_;refine WO.gv (Zw.ZkR rfl rfl rfl (Y5 rfl (YC rfl fh))) rfl (fun hg=>(Y4 WT (YQ fh rfl hg) (At.fz hS.fz (ZAf hg) (Zp2 hg)) (j:=0) rfl (v:= .int .i64 x52) rfl)) ?_;refine r1 ?_;refine WO.gv (Zw.no rfl rfl rfl (Xa rfl (YC rfl (ZC rfl fh)))) rfl (fun hg=>(Zku (YQ (Xa rfl fh) rfl hg) (Zfm fh hg) lk)) ?_;refine r5 ?_;obtain⟨x55,ZmT,hL⟩:=Yi hL;obtain⟨b56,o57,_,hQ⟩:=Sl.atG (fun hg=>Zue) ZmT;have ZzS:=fun hg=>(hQ hg).1
        have ZAn:=fun hg=>(hQ hg).2.1
        have ZPk:=fun hg=>(hQ hg).2.2.1
        have ZOW:=fun hg=>(hQ hg).2.2.2
        refine WO.gv (Zw.no rfl rfl rfl (YC rfl (ZC rfl fh))) rfl (fun hg=>(Yn XP XE (YQ (ZC rfl fh) rfl hg) (YQ fh rfl hg) rfl (ZzS hg) (ZmT hg))) ?_;refine WO.gv (Zw.no rfl rfl rfl (Y5 rfl fh)) rfl (fun hg=>(Y4 WT (YQ fh rfl hg) (At.fz hS.fz (ZPk hg) (ZAn hg)) (j:=0) rfl (v:= .int .i64 x55) rfl)) ?_;refine r6 ?_;obtain⟨x58,ZyN,hL⟩:=Yi hL;obtain⟨b59,o60,_,hQ⟩:=Sl.atG (fun hg=>Zue) ZyN;have ZzR:=fun hg=>(hQ hg).1
        have ZGw:=fun hg=>(hQ hg).2.1
        have ZPi:=fun hg=>(hQ hg).2.2.1
        have ZOV:=fun hg=>(hQ hg).2.2.2
        refine WO.gv (Zw.no rfl rfl rfl (YC rfl (ZC rfl fh))) rfl (fun hg=>(Yn XP XE (YQ (ZC rfl fh) rfl hg) (YQ fh rfl hg) rfl (ZzR hg) (ZyN hg))) ?_;refine WO.gv (Zw.no rfl rfl rfl (Y5 rfl fh)) rfl (fun hg=>(Y4 WT (YQ fh rfl hg) (At.fz hS.fz (ZPi hg) (ZGw hg)) (j:=0) rfl (v:= .int .i64 x58) rfl)) ?_;refine r4 ?_;refine cn hL ?_ ?_
        ·intro hc hL;refine JC ?_;refine YT.ret ?_;refine r3 ?_;exact rt hL hT hS
        ·intro hc hL;refine r7 ?_;exact Ya.YU (Zna _ _ hL ⟨_,_,rfl,hS.only sl,Yv⟩)
       ·intro hc hL;refine r5 ?_;exact YT.YU _ hL ⟨_,_,rfl,hS.only sl,Yv⟩
     ·intro hc hL;refine r9 ?_;refine YT.ret ?_;refine r3 ?_;exact rt hL hT hS
   ·skip;refine r6 ?_;refine cn hL ?_ ?_
    ·intro hc hL;refine r1 ?_;exact YT.YU _ hL ⟨_,_,rfl,hS.only sl,Yv⟩
    ·intro hc hL;refine r4 ?_;exact YT.YU _ hL ⟨_,_,rfl,hS.only sl,Yv⟩
 ·intro hc hL;refine JC ?_;exact rt hL hT hS
theorem ZKb {F h} {p0:Zb} {Zi Zh Zm Zl Zk Zj Zo Zn Zq Zp} {r} (ZB:Sl (Zt .i64) h.size h Zi Zh p0.Zx) (ZM:Sl (ZN (Zt .i64)) h.size h Zm Zl p0.qK) (ZF:Sl (ZN Zc) h.size h Zk Zj p0.qQ) (ZL:Sl (ZN Ze) h.size h Zo Zn p0.qJ) (ZI:Sl Zd h.size h Zq Zp p0.qG) (hL:Zwb F p0=some r):Pure XX 69 #[.agg [.slice Zi p0.Zx.length Zh,.slice Zm p0.qK.length Zl,.slice Zk p0.qQ.length Zj,.slice Zo p0.qJ.length Zn,.slice Zq p0.qG.length Zp,.int .i64 p0.said].toArray] h (.bool r):=
 WR.X9 rfl (ZKa (Nat.le_refl _) ZB ZM ZF ZL ZI hL)
theorem ZJ5 {F wm h} {p0:ZY} {Zi Zh Zm Zl Zk Zj Zo Zn Zq Zp Z7 Z6 YO Ke} {r} (Z0:wm <=h.size) (X4:At h YO Ke [.slice Zi p0.Za.Zx.length Zh,.slice Zm p0.Za.qK.length Zl,.slice Zk p0.Za.qQ.length Zj,.slice Zo p0.Za.qJ.length Zn,.slice Zq p0.Za.qG.length Zp,.int .i64 p0.Za.said,.slice Z7 p0.Xc.length Z6]) (X3:Stb wm h YO) (ZB:Sl (Zt .i64) wm h Zi Zh p0.Za.Zx) (ZM:Sl (ZN (Zt .i64)) wm h Zm Zl p0.Za.qK) (ZF:Sl (ZN Zc) wm h Zk Zj p0.Za.qQ) (ZL:Sl (ZN Ze) wm h Zo Zn p0.Za.qJ) (ZI:Sl Zd wm h Zq Zp p0.Za.qG) (Xw:Sl XI wm h Z7 Z6 p0.Xc) (hL:Zv9 F p0=some r):
 WR XX 72 #[.pointer (some ⟨YO,Ke,none⟩)] wm h (CP (fun(v:Value) (Gb:List (Ast wm))=>v= .bool r∧Gb= []) [] h):=by
 refine bg Tryz.ntmps72 Z0 Yd.nil ?_;intro T hT hS;unfold Zv9 at hL;refine WG ?_;refine WO.w gN rfl (Y4 WT (YF fh rfl) (At.fz hS.fz X3 X4) (j:=5) rfl (v:= .int .i64 p0.Za.said) rfl) ?_;refine r6 ?_;refine WO.gv (Zw.no rfl rfl rfl (Y5 rfl fh)) rfl (fun hg=>(Y4 WT (YQ fh rfl hg) (At.fz hS.fz X3 X4) (j:=5) rfl (v:= .int .i64 p0.Za.said) rfl)) ?_;refine r4 ?_;refine cn hL ?_ ?_
 ·intro hc hL;refine r7 ?_;exact rt hL hT hS
 ·intro hc hL;refine r14 ?_;refine WO.w gN rfl (Y4 Zky (YF fh rfl) (At.fz hS.fz X3 X4) (j:=1) rfl (v:= .slice Zm p0.Za.qK.length Zl) rfl) ?_;refine r5 ?_;have hS:=hS.nil (e:= (Zt .i64));refine WC.loop (WL.lift hL (fun p s=>match p with | (v4,v11)=>∃ XT h1 a5 c6 n7,s= ⟨XT,[],h1,none⟩∧Sp wm T h [ow wm (Zt .i64) a5 n7 c6 v4] h1∧XT.at 0= .pointer (some ⟨YO,Ke,none⟩)∧XT.at 3= .slice a5 n7 c6∧XT.at 32= .slice Zm p0.Za.qK.length Zl∧XT.at 33= .int .i64 (p0.Za.qK.length:Int)∧XT.at 34= .int .i64 v11) ⟨_,_,none,0,0,rfl,hS.only sl,Yv⟩ ?_);clear hL hS;rintro Qa ⟨v4,v11⟩ s UD hL ⟨XT,h1,a5,c6,n7,rfl,hS,e3,e8,e9,e10,e12⟩;obtain rfl:=hS.on k0;dsimp only [ZjA] at hL;refine r6 ?_;refine cn hL ?_ ?_
  ·intro hc hL;refine r6 ?_;obtain⟨x14,ZmY,hL⟩:=qZ hL;obtain⟨b15,o16,⟨a17,c18⟩,Zup,ZuB,Zuw,Zfc⟩:=Sl.at_ ZM ZmY;refine r1 ?_;have Zfb:Sl (Zt .i64) wm h a17 c18 x14:=Zfc;refine r7 ?_;obtain⟨z19,ZHW,hL⟩:=qZ hL;refine WO.hv gN rfl (XY (e:= (Zt .i64)) hS k0 Xk lk lk (Sl.src (hS.sl Zfb)) rfl ZHW) ?_;rintro _ h22 ⟨a20,c21,rfl,hS⟩;refine r8 ?_;exact Ya.YU (UD _ _ hL ⟨_,_,a20,c21,z19.length,rfl,hS.only sl,Yv⟩)
  ·intro hc hL;refine WG ?_;refine WO.w gN rfl (Y4 Zkx (YF fh rfl) (At.fz hS.fz X3 X4) (j:=3) rfl (v:= .slice Zo p0.Za.qJ.length Zn) rfl) ?_;refine r5 ?_;refine WC.loop (WL.lift hL (fun p s=>match p with | (v26,v33)=>∃ UO h23 a27 c28 n29,s= ⟨UO,[],h23,none⟩∧Sp wm T h [ow wm (Zt .i64) a27 n29 c28 v26] h23∧UO.at 0= .pointer (some ⟨YO,Ke,none⟩)∧UO.at 3= .slice a27 n29 c28∧UO.at 46= .slice Zo p0.Za.qJ.length Zn∧UO.at 47= .int .i64 (p0.Za.qJ.length:Int)∧UO.at 48= .int .i64 v33) ⟨_,_,a5,c6,v4.length,rfl,hS.only sl,Yv⟩ ?_);clear hL hS;rintro ZmG ⟨v26,v33⟩ s ZDJ hL ⟨UO,h23,a27,c28,n29,rfl,hS,e25,e30,e31,e32,e34⟩;obtain rfl:=hS.on k0;dsimp only [Zjz] at hL;refine r6 ?_;refine cn hL ?_ ?_
   ·intro hc hL;refine r6 ?_;obtain⟨x36,ZH5,hL⟩:=qZ hL;obtain⟨b37,o38,⟨a39,c40⟩,ZOH,ZGz,ZGp,ZGj⟩:=Sl.at_ ZL ZH5;refine r1 ?_;have ZND:Sl Ze wm h a39 c40 x36:=ZGj;refine WG ?_;refine WC.loop (WL.lift hL (fun p s=>match p with | (v44,v54)=>∃ Zk9 h41 a45 c46 n47,s= ⟨Zk9,[],h41,none⟩∧Sp wm T h [ow wm (Zt .i64) a45 n47 c46 v44] h41∧Zk9.at 0= .pointer (some ⟨YO,Ke,none⟩)∧Zk9.at 3= .slice a45 n47 c46∧Zk9.at 46= .slice Zo p0.Za.qJ.length Zn∧Zk9.at 47= .int .i64 (p0.Za.qJ.length:Int)∧Zk9.at 48= .int .i64 v33∧Zk9.at 52= .slice a39 x36.length c40∧Zk9.at 53= .int .i64 (x36.length:Int)∧Zk9.at 54= .int .i64 v54) ⟨_,_,a27,c28,v26.length,rfl,hS.only sl,Yv⟩ ?_);clear hL hS;rintro Zyl ⟨v44,v54⟩ s ZDC hL ⟨Zk9,h41,a45,c46,n47,rfl,hS,e43,e48,e49,e50,e51,e52,e53,e55⟩;obtain rfl:=hS.on k0;dsimp only [ZnB] at hL;refine r6 ?_;refine cn hL ?_ ?_
    ·intro hc hL;refine r6 ?_;obtain⟨x57,ZyO,hL⟩:=qZ hL;obtain⟨b58,o59,_,ZOB,ZGx,ZPj,ZYY⟩:=Sl.at_ ZND ZyO;refine r1 ?_;refine WO.w gN rfl (YK Zfz Js (YF fh rfl) (At.fz hS.fz ZPj ZGx) (j:=0) rfl rfl (ws:= (cM x57)) rfl) ?_;refine r1 ?_;rintro _ h61 ⟨b60,ZVS,rfl,hS⟩;refine r1 ?_;rintro h62 hS;refine r6 ?_;refine WO.hn gN rfl (Q8 (e:= (Zt .i64)) hS XP XE Kb rfl rfl rfl (Zu lk ZT) rfl [((),x57.msg)] rfl (xs:= [x57.msg]) rfl (by intro q hq;simp only [List.mem_cons,List.not_mem_nil,or_false] at hq;subst hq;exact trivial) rfl) ?_;rintro _ h64 ⟨b63,Z4w,rfl,hS⟩;obtain⟨z65,ZSY,hL⟩:=qZ hL;refine WO.hv gN rfl (XY (e:= (Zt .i64)) hS k2 Xk lk lk (hS.Xj k0) (hS.on k0) ZSY) ?_;rintro _ h68 ⟨a66,c67,rfl,hS⟩;refine r8 ?_;exact Ya.YU (ZDC _ _ hL ⟨_,_,a66,c67,z65.length,rfl,hS.only sl,Yv⟩)
    ·intro hc hL;refine r10 ?_;exact Ya.YU (ZDJ _ _ hL ⟨_,_,a45,c46,v44.length,rfl,hS.only sl,Yv⟩)
   ·intro hc hL;refine WG ?_;refine WO.w gN rfl (Y4 ZBY (YF fh rfl) (At.fz hS.fz X3 X4) (j:=4) rfl (v:= .slice Zq p0.Za.qG.length Zp) rfl) ?_;refine r5 ?_;refine WC.loop (WL.lift hL (fun p s=>match p with | (v72,v79)=>∃ Zsm h69 a73 c74 n75,s= ⟨Zsm,[],h69,none⟩∧Sp wm T h [ow wm (Zt .i64) a73 n75 c74 v72] h69∧Zsm.at 0= .pointer (some ⟨YO,Ke,none⟩)∧Zsm.at 3= .slice a73 n75 c74∧Zsm.at 69= .slice Zq p0.Za.qG.length Zp∧Zsm.at 70= .int .i64 (p0.Za.qG.length:Int)∧Zsm.at 71= .int .i64 v79) ⟨_,_,a27,c28,v26.length,rfl,hS.only sl,Yv⟩ ?_);clear hL hS;rintro Zf9 ⟨v72,v79⟩ s ZDu hL ⟨Zsm,h69,a73,c74,n75,rfl,hS,e71,e76,e77,e78,e80⟩;obtain rfl:=hS.on k0;dsimp only [Zjy] at hL;refine r6 ?_;refine cn hL ?_ ?_
    ·intro hc hL;refine r2 ?_;refine WC.Zae (r:=r) (fun(v85:(List Int)) s=>∃ Zsk h82 a86 c87 n88,s= ⟨Zsk,[],h82,none⟩∧Sp wm T h [ow wm (Zt .i64) a86 n88 c87 v85] h82∧Zsk.at 0= .pointer (some ⟨YO,Ke,none⟩)∧Zsk.at 3= .slice a86 n88 c87∧Zsk.at 69= .slice Zq p0.Za.qG.length Zp∧Zsk.at 70= .int .i64 (p0.Za.qG.length:Int)∧Zsk.at 71= .int .i64 v79) (Zjx v79 Zf9) ?_ ?_
     ·clear hL hS;rintro v85 s hL ⟨Zsk,h82,a86,c87,n88,rfl,hS,e84,e89,e90,e91,e92⟩;obtain rfl:=hS.on k0;dsimp only [Zjx] at hL;refine r4 ?_;exact Ya.YU (ZDu _ _ hL ⟨_,_,a86,c87,v85.length,rfl,hS.only sl,Yv⟩)
     ·skip;refine r3 ?_;obtain⟨x93,hx93,hL⟩:=qZ hL;obtain⟨b94,o95,⟨⟨a96,c97⟩,⟨a98,c99⟩⟩,ZGa,Zuy,Zuv,Zjj⟩:=Sl.at_ ZI hx93;refine r1 ?_;have ZFT:Sl (Zt .i64) wm h a96 c97 x93.qV:=Zjj.1;have ZNv:Sl (Zt .i64) wm h a98 c99 x93.Yc:=Zjj.2;refine WO.w gN rfl (YK WS Xf (YF fh rfl) (At.fz hS.fz Zuv Zuy) (j:=0) rfl rfl (ws:= (cL x93 a96 c97 a98 c99)) rfl) ?_;refine r1 ?_;rintro _ Zp5 ⟨ZbV,ZBq,rfl,hS⟩;refine r1 ?_;rintro ZVJ hS;refine r9 ?_;refine cn hL ?_ ?_
      ·intro hc hL;refine r5 ?_;refine WO.hn gN rfl (Q8 (e:= (Zt .i64)) hS XP XE Kb rfl rfl rfl (Zu lk ZT) rfl [((),x93.ZV.msg)] rfl (xs:= [x93.ZV.msg]) rfl (by intro q hq;simp only [List.mem_cons,List.not_mem_nil,or_false] at hq;subst hq;exact trivial) rfl) ?_;rintro _ ZP3 ⟨ZW2,ZQi,rfl,hS⟩;obtain⟨z105,ZyK,hL⟩:=qZ hL;refine WO.hv gN rfl (XY (e:= (Zt .i64)) hS k2 Xk lk lk (hS.Xj k0) (hS.on k0) ZyK) ?_;rintro _ ZJO ⟨ZLj,c107,rfl,hS⟩;refine r3 ?_;exact YT.YU _ hL ⟨_,_,ZLj,c107,z105.length,rfl,hS.only sl,Yv⟩
      ·intro hc hL;refine r2 ?_;exact YT.YU _ hL ⟨_,_,a73,c74,v72.length,rfl,hS.only sl,Yv⟩
    ·intro hc hL;refine r8 ?_;obtain⟨ZhE,Zy4,hL⟩:=qZ hL;refine WO.cl gN rfl (Y9.fn ZF1 (Zf lk Zz)) hS (.c k0 .n) (fun g' hz hf hO=>ZAY (by rw [hz];exact hS.hw) hO Zy4) ?_;rintro _ Z4b _ ⟨rfl,rfl⟩ hS;refine r6 ?_;refine WO.w gN rfl (ZbB XP lk (congrArg Nat.cast (hS.on k0))) ?_;refine r4 ?_;refine WC.loop (WL.lift hL (fun ZhF s=>∃ UF h112,s= ⟨UF,[],h112,none⟩∧Sp wm T h [ow wm (Zt .i64) a73 v72.length c74 ZhE] h112∧UF.at 0= .pointer (some ⟨YO,Ke,none⟩)∧UF.at 3= .slice a73 v72.length c74∧UF.at 87= .slice a73 v72.length c74∧UF.at 88= .int .i64 (ZhE.length:Int)∧UF.at 89= .int .i64 ZhF) ⟨_,_,rfl,hS.only sl,Yv⟩ ?_);clear hL hS;rintro ZtR ZhF s Zzt hL ⟨UF,h112,rfl,hS,ZKK,e115,e116,e117,e119⟩;dsimp only [Zbt] at hL;refine r6 ?_;refine cn hL ?_ ?_
     ·intro hc hL;refine r7 ?_;obtain⟨Zb3,ZbK,hL⟩:=qZ hL;obtain⟨ZK6,ZMA,_,Zgd,Zse,ZI1⟩:=Src.at_ (hS.Xj k0) ZbK;refine WO.w gN rfl (Yn XP XE lk lk (hS.on k0) Zgd ZbK) ?_;refine WG ?_;refine cn hL ?_ ?_
      ·intro hc hL;refine JC ?_;exact rt hL hT hS
      ·intro hc hL;refine r7 ?_;exact Ya.YU (Zzt _ _ hL ⟨_,_,rfl,hS.only sl,Yv⟩)
     ·intro hc hL;refine r8 ?_;refine WO.w gN rfl (ZbB XP lk (congrArg Nat.cast (hS.on k0))) ?_;refine r4 ?_;refine WO.w gN rfl (Y4 WT (YF fh rfl) (At.fz hS.fz X3 X4) (j:=5) rfl (v:= .int .i64 p0.Za.said) rfl) ?_;refine r5 ?_;exact rt hL hT hS
theorem ZJ6 {F h} {p0:ZY} {Zi Zh Zm Zl Zk Zj Zo Zn Zq Zp Z7 Z6 YO Ke} {r} (X4:At h YO Ke [.slice Zi p0.Za.Zx.length Zh,.slice Zm p0.Za.qK.length Zl,.slice Zk p0.Za.qQ.length Zj,.slice Zo p0.Za.qJ.length Zn,.slice Zq p0.Za.qG.length Zp,.int .i64 p0.Za.said,.slice Z7 p0.Xc.length Z6]) (X3:Stb h.size h YO) (ZB:Sl (Zt .i64) h.size h Zi Zh p0.Za.Zx) (ZM:Sl (ZN (Zt .i64)) h.size h Zm Zl p0.Za.qK) (ZF:Sl (ZN Zc) h.size h Zk Zj p0.Za.qQ) (ZL:Sl (ZN Ze) h.size h Zo Zn p0.Za.qJ) (ZI:Sl Zd h.size h Zq Zp p0.Za.qG) (Xw:Sl XI h.size h Z7 Z6 p0.Xc) (hL:Zv9 F p0=some r):Pure XX 72 #[.pointer (some ⟨YO,Ke,none⟩)] h (.bool r):=
 WR.X9 rfl (ZJ5 (Nat.le_refl _) X4 X3 ZB ZM ZF ZL ZI Xw hL)
end Go.Proofs.YtbmbbcaaimehkaaGreat
end
end
section
namespace Go.Proofs.YtbmbbcaaimehkaaGreat
open Go.Lf
def ZnA (p0:(List Int)):Option (List Int):=
 (app 8 ([]:List Int) p0).bind fun z3=>some z3
def Zny (p0:(List (List Int))):(List (List Int))×Int ->((List (List Int))×Int ->Option (List (List Int))) ->Option (List (List Int)):=fun(v3,v11) Qa=>
 (bif decide (v11 < (p0.length:Int)) then(ZK p0 v11).bind fun x14=>(ZnA x14).bind fun x19=>(app 24 v3 [x19]).bind fun z27=>Qa (z27,Y2 (v11 + 1)) else some v3)
def ZA4 (F:Nat) (p0:(List (List Int))):Option (List (List Int)):=
 loop F (Zny p0) ([],0)
def Zjw (p0:Yb) (p1:Int) (p2:Int) (x1:(Yy×Int)) (x31:(List Int)):Int×(List Zv)×(List Int)×(List (List ZA)) ->(Int×(List Zv)×(List Int)×(List (List ZA)) ->Option Yb) ->Option Yb:=fun(v45,v47,v51,v55) Zyk=>
 (bif decide (v45 < (x31.length:Int)) then(ZK x31 v45).bind fun x58=>(ZK v55 x1.1.machine).bind fun x61=>(ZK x61 x58).bind fun x67=>(app 8 v51 [Y2 (x67.age + 1)]).bind fun z76=>(app 40 v47 [(Zv.mk 2 x58 x1.1.machine p2 0)]).bind fun z83=>Zyk (Y2 (v45 + 1),z83,z76,Yl v55 x1.1.machine (Yl x61 x58 (ZA.mk false p2 (Y2 (x67.age + 1))))) else(app 128 p0.Za.qG [(Zg.mk 2 p2 (Zr.mk 0 0 0 0 0) x31 v51 0 0 0)]).bind fun z95=>some (Yb.mk (Zb.mk (Yl p0.Za.Zx p1 (-1)) p0.Za.qK v55 p0.Za.qJ z95 p0.Za.said) v47))
def Znv (F:Nat) (p0:Yb) (p1:Int) (p2:Int) (x1:(Yy×Int)):(List Int) ->Option Yb:=fun v25=>
 (Zsx v25).bind fun x31=>loop F (Zjw p0 p1 p2 x1 x31) (0,p0.qX,[],p0.Za.qQ)
def ZsA (p0:Yb) (p1:Int) (v107:Int) (Zh6:(Int×(List Int) ->Option (Bool×(List Int)))):Int×(List Int) ->(Int×(List Int) ->Option (Bool×(List Int))) ->Option (Bool×(List Int)):=fun(ZoX,v138) ZmK=>
 (bif decide (ZoX < ((Yl p0.Za.Zx p1 (-1)).length:Int)) then(ZK (Yl p0.Za.Zx p1 (-1)) ZoX).bind fun U2=>(bif(U2==v107) then(Zh6 (ZoX,v138)).bind fun(ZoW,Zxg)=>(bif(!ZoW) then some (false,Zxg) else ZmK (Y2 (ZoX + 1),Zxg)) else ZmK (Y2 (ZoX + 1),v138)) else some (true,v138))
def Zjv (F:Nat) (p0:Yb) (p1:Int):Int×(List Int) ->(Int×(List Int) ->Option (Bool×(List Int))) ->Option (Bool×(List Int)):=fun(v107,Zrw) Zh6=>
 (app 8 Zrw [v107]).bind fun z124=>(bif(!true) then some (false,z124) else loop F (ZsA p0 p1 v107 Zh6) (0,z124))
def ZA0 (F:Nat) (p0:Yb) (p1:Int) (p2:Int):Option Yb:=
 (Zef F p0.Za p1).bind fun x1=>(ZK p0.Za.Zx p1).bind fun x7=>(loop F (Zjv F p0 p1) (p1,[])).bind fun(Ziw,v159)=>(Znv F p0 p1 p2 x1) v159
def Zv7 (p0:Zg):Option Bool:=
 (bif(p0.kind==1) then some ((!(((p0.place !=0) || (p0.at_ !=0)) || (p0.age !=0))) && (!((decide ((p0.qV.length:Int) > 0)) || (decide ((p0.Yc.length:Int) > 0))))) else(bif(p0.kind==2) then some ((((!(((p0.place !=0) || (p0.at_ !=0)) || (p0.age !=0))) && (!(!(Xt p0.ZV (Zr.mk 0 0 0 0 0))))) && (decide ((p0.qV.length:Int) > 0))) && ((p0.qV.length:Int)== (p0.Yc.length:Int))) else(bif(p0.kind==3) then some ((!(!(Xt p0.ZV (Zr.mk 0 0 0 0 0)))) && (!((decide ((p0.qV.length:Int) > 0)) || (decide ((p0.Yc.length:Int) > 0))))) else some false)))
def ZAZ (p0:(List Zg)) (p1:Int) (p2:Int):Option (List Zg):=
 (slL p0 p1 p2).bind fun z1=>(bif(p1==p2) then some p0 else(slL p0 0 p1).bind fun z4=>(slL p0 p2 (p0.length:Int)).bind fun z13=>(app 128 z4 z13).bind fun z17=>some z17)
end Go.Proofs.YtbmbbcaaimehkaaGreat
end
section
set_option maxRecDepth 20000
noncomputable section
namespace Go.Proofs.YtbmbbcaaimehkaaGreat
open Go.YR Go.Lf
theorem Znz {wm h} {p0:(List Int)} {Zi Zh} {r} (Z0:wm <=h.size) (ZB:Sl (Zt .i64) wm h Zi Zh p0) (hL:ZnA p0=some r):
 WR XX 80 #[.slice Zi p0.length Zh] wm h (CP (fun(v:Value) (Gb:List (Ast wm))=>∃ Xq Xo Xp,v= .slice Xq Xo Xp∧Gb= [ow wm (Zt .i64) Xq Xo Xp r]) [] h):=by
 refine bg Tryz.ntmps80 Z0 Yd.nil ?_;intro T hT hS;unfold ZnA at hL;refine r8 ?_;rcases Sl.cases ZB with⟨rfl,rfl,rfl⟩ | ⟨qa,rfl⟩
 ·
  refine r1 ?_;refine WO.w gN rfl (Qe (YF fh rfl) (evC rfl) (Zg2 XP)) ?_;refine r2 ?_;refine WC.Zoh lk rfl ?_;rw [Zs6 _ (by decide)] at hL;replace hL:some []=some r:=hL;refine r7 ?_;have hS:=hS.nil (e:= (Zt .i64));have hr:=Oi0 hL;subst hr;exact Yk.XF rfl (ZU lk ZE) ⟨_,⟨none,0,0,rfl,rfl⟩,hT ▸ hS.only sl⟩
 ·
  refine r1 ?_;refine WO.w gN rfl (Qe (YF fh rfl) (evC rfl) (Zg3 XP)) ?_;refine r2 ?_;refine WC.Zem lk rfl ?_;refine r4 ?_;refine WO.hn gN rfl (Q8 (e:= (Zt .i64)) hS XP XE Kb rfl rfl rfl ZT rfl [] rfl (xs:= ([]:List Int)) rfl (by intro q hq;cases hq) rfl) ?_;rintro _ h2 ⟨b1,eb1,rfl,hS⟩;refine r1 ?_;obtain⟨z3,hz3,hL⟩:=qZ hL;refine WO.hv gN rfl (XY (e:= (Zt .i64)) hS k0 Xk lk lk (Sl.src (hS.sl ZB)) rfl hz3) ?_;rintro _ h6 ⟨a4,c5,rfl,hS⟩;refine r4 ?_;have hr:=Oi0 hL;subst hr;exact Yk.XF rfl (ZU lk ZE) ⟨_,⟨a4,z3.length,c5,rfl,rfl⟩,hT ▸ hS.only sl⟩
theorem ZJ2 {F wm h} {p0:(List (List Int))} {Zi Zh} {r} (Z0:wm <=h.size) (ZB:Sl (ZN (Zt .i64)) wm h Zi Zh p0) (hL:ZA4 F p0=some r):
 WR XX 81 #[.slice Zi p0.length Zh] wm h (CP (fun(v:Value) (Gb:List (Ast wm))=>∃ Xq Xo Xp ZeV,v= .slice Xq Xo Xp∧Gb= [YG wm (ZP (Zt .i64)) Xq Xo Xp ZeV r]) [] h):=by
 refine bg Tryz.ntmps81 Z0 Yd.nil ?_;intro T hT hS;unfold ZA4 at hL;refine r16 ?_;refine r3 ?_;have hS:=hS.ZbR (e:= (ZP (Zt .i64))) (ps:=fun _=>(ZP (Zt .i64)).dflt);refine WC.loop (WL.lift hL (fun p s=>match p with | (v3,v11)=>∃ XT h1 a4 c5 n6 ps7,s= ⟨XT,[],h1,none⟩∧Sp wm T h [YG wm (ZP (Zt .i64)) a4 n6 c5 ps7 v3] h1∧XT.at 3= .slice a4 n6 c5∧XT.at 6= .slice Zi p0.length Zh∧XT.at 7= .int .i64 (p0.length:Int)∧XT.at 8= .int .i64 v11) ⟨_,_,none,0,0,(fun _=>(ZP (Zt .i64)).dflt),rfl,hS.only sl,Yv⟩ ?_);clear hL hS;rintro Qa ⟨v3,v11⟩ s UD hL ⟨XT,h1,a4,c5,n6,ps7,rfl,hS,e8,e9,e10,e12⟩;obtain rfl:=hS.YP k0;dsimp only [Zny] at hL;refine r6 ?_;refine cn hL ?_ ?_
 ·intro hc hL;refine r6 ?_;obtain⟨x14,ZmY,hL⟩:=qZ hL;obtain⟨b15,o16,⟨a17,c18⟩,Zup,ZuB,Zuw,Zfc⟩:=Sl.at_ ZB ZmY;refine r1 ?_;have Zfb:Sl (Zt .i64) wm h a17 c18 x14:=Zfc;refine r7 ?_;obtain⟨x19,ZmX,hL⟩:=qZ hL;refine WO.cl gN rfl (Y9.fn Zuk (Zf lk Zz)) hS .n (fun g' hz hf hO=>Znz (by rw [hz];exact hS.hw) ((hS.sl Zfb).mono hf) ZmX) ?_;rintro _ h23 _ ⟨a20,n21,c22,rfl,rfl⟩ hS;obtain rfl:=hS.on k0;refine WO.hn gN rfl (ZlE (e:= (Zt .i64)) (x:=x19) hS k0 Zg4 Uf Zrg rfl rfl (Zu lk ZT) rfl rfl) ?_;rintro _ h26 ⟨b25,ZQd,rfl,hS⟩;obtain⟨z27,ZyJ,hL⟩:=qZ hL;refine WO.hv gN rfl (ZlF (e:= (ZP (Zt .i64))) hS (.c k1 (.c k0 .n)) ZqQ lk lk ZyJ) ?_;rintro _ h31 ⟨a28,c29,ZxX,rfl,hS⟩;refine r8 ?_;exact Ya.YU (UD _ _ hL ⟨_,_,a28,c29,z27.length,ZxX,rfl,hS.only sl,Yv⟩)
 ·intro hc hL;refine WG ?_;have hr:=Oi0 hL;subst hr;exact Yk.XF rfl (ZU lk ZE) ⟨_,⟨a4,v3.length,c5,ps7,rfl,rfl⟩,hT ▸ hS.only sl⟩
theorem ZJZ {F wm h} {p0:Yb} {p1 p2:Int} {Zi Zh XA Zm Zl Qu Yr Zk Zj Qt Yw Zo Zn Qs Yq Zq Zp Qr Z7 Z6 Qq YO} {r} (Z0:wm <=h.size) (hO:Yd (wm:=wm) [bx wm YO (cG Zi XA Zh Zm Qu Zl Zk Qt Zj Zo Qs Zn Zq Qr Zp p0.Za.said Z7 Qq Z6),ow wm (Zt .i64) Zi XA Zh p0.Za.Zx,YG wm (ZP (Zt .i64)) Zm Qu Zl Yr p0.Za.qK,YG wm (ZP Zc) Zk Qt Zj Yw p0.Za.qQ,YG wm (ZP Ze) Zo Qs Zn Yq p0.Za.qJ,ow wm Zd Zq Qr Zp p0.Za.qG,ow wm Zy Z7 Qq Z6 p0.qX] h) (hL:ZA0 F p0 p1 p2=some r):
 WR XX 85 #[.pointer (some ⟨YO,0,none⟩),.int .i64 p1,.int .i64 p2] wm h (CP (fun(v:Value) (Gb:List (Ast wm))=>∃ QT Jz QM QS Jy QL JF QR Jw QK JE QO Jv QJ JD QN Ju QI JB Jt JA,v= .tuple [].toArray∧Gb= [bx wm YO (cG QT Jz QM QS Jy QL QR Jw QK QO Jv QJ QN Ju QI r.Za.said JB Jt JA),ow wm (Zt .i64) QT Jz QM r.Za.Zx,YG wm (ZP (Zt .i64)) QS Jy QL JF r.Za.qK,YG wm (ZP Zc) QR Jw QK JE r.Za.qQ,YG wm (ZP Ze) QO Jv QJ JD r.Za.qJ,ow wm Zd QN Ju QI r.Za.qG,ow wm Zy JB Jt JA r.qX]) [bx wm YO (cG Zi XA Zh Zm Qu Zl Zk Qt Zj Zo Qs Zn Zq Qr Zp p0.Za.said Z7 Qq Z6),ow wm (Zt .i64) Zi XA Zh p0.Za.Zx,YG wm (ZP (Zt .i64)) Zm Qu Zl Yr p0.Za.qK,YG wm (ZP Zc) Zk Qt Zj Yw p0.Za.qQ,YG wm (ZP Ze) Zo Qs Zn Yq p0.Za.qJ,ow wm Zd Zq Qr Zp p0.Za.qG,ow wm Zy Z7 Qq Z6 p0.qX] h):=by
 refine bg Tryz.ntmps85 Z0 hO ?_;intro T hT hS;unfold ZA0 at hL;obtain rfl:=hS.on k1;obtain rfl:=hS.YP k2;obtain rfl:=hS.YP k3;obtain rfl:=hS.YP k4;obtain rfl:=hS.on k5;obtain rfl:=hS.on k6;refine r7 ?_;obtain⟨x1,hx1,hL⟩:=qZ hL;refine WO.clR gN rfl (Y9.fn Zho (Zf lk (Zf lk Zz))) hS.hw (ZcT (Nat.le_refl _) (hS.ord k1) (hS.nrd k2 Jj) (hS.nrd k3 Jj) (hS.nrd k4 Jj) (hS.ord k5) hx1) ?_;rintro _ h2 _ ⟨rfl,rfl⟩ hR3;have hS:=hS.clR hR3 .n;refine r4 ?_;rintro _ h5 ⟨b4,eb4,rfl,hS⟩;refine r1 ?_;rintro h6 hS;refine JC ?_;obtain⟨x7,hx7,hL⟩:=qZ hL;obtain⟨b8,o9,_,ZDW,ZPt,Z2Q⟩:=Src.at_ (hS.Xj k2) hx7;refine r1 ?_;refine WO.hu gN (KP (e:= (Zt .i64)) (-1) () hS k2 XE (YF fh rfl) (evC rfl) ZDW hx7 ZPt (j:=0) rfl (vs:= [.int .i64 (-1)]) rfl rfl rfl rfl rfl (cs':= [.int .i64 (-1)]) rfl rfl trivial) ?_;rintro h10 ⟨hS,Z20⟩;refine r10 ?_;refine WO.inl gN rfl (Y9.fn ZzJ (Zf lk (Zf lk Zz))) (WF.begin (args:= [_,_]) (fn:=Tryz.f77) Kq0 (by exact rfl) Tryz.ntmps77 (by simp) ?_);simp only [Z4,Z9,Nat.reduceAdd];refine r3 ?_;rintro _ h13 ⟨b12,ZVY,rfl,hS⟩;refine r1 ?_;rintro _ h15 ⟨b14,ZVX,rfl,hS⟩;refine r5 ?_;refine WO.w gN rfl (ZbA (Zf lk (Zf lk Zz))) ?_;refine r4 ?_;refine Yk.XF rfl (ZU lk ZE) ?_;refine WO.inl gN rfl (Y9.fn ZIz (Zf lk Zz)) (WF.begin (args:= [_]) (fn:=Tryz.f104) Kq0 (by exact rfl) Tryz.ntmps104 (by simp) ?_);simp only [Z4,Z9,Nat.reduceAdd];refine r8 ?_;refine WO.inl gN rfl (Y9.fn ZF3 (Zf lk Zz)) (WF.begin (args:= [_]) (fn:=Tryz.f79) Kq0 (by exact rfl) Tryz.ntmps79 (by simp) ?_);simp only [Z4,Z9,Nat.reduceAdd];refine r8 ?_;refine WO.inl gN rfl (Y9.fn ZzP (Zf lk (Zf lk Zz))) (WF.Zs1 (args:= [_,_]) (fn:=Tryz.f100) Kq0 (by exact rfl) Tryz.ntmps100 (by simp) ?_);simp only [Z4,Z9,Nat.reduceAdd];refine r3 ?_;rintro _ h17 ⟨b16,Z4O,rfl,hS⟩;refine r10 ?_;refine WC.ZxO (first:= []) (cap:= [.pointer (some ⟨b12,0,none⟩),.pointer (some ⟨b14,0,none⟩)]) hS lk ZzF ?_;intro h18 l19 ZsN Ztm Zuq hS;refine WR.ZmR (r:=r) (fun(v25:(List Int)) (v:Value) (h23:H)=>∃ a26 c27 n28,v= .tuple [].toArray∧Sp wm T h [bx wm b12 (cW p0.Za Zi Zh Zm Zl Zk Zj Zo Zn Zq Zp),bx wm b14 [.int .i64 p1],ow wm (Zt .i64) a26 n28 c27 v25,bx wm b16 [.slice a26 n28 c27],bx wm YO (cH p0 Zi Zh Zm Zl Zk Zj Zo Zn Zq Zp Z7 Z6),bx wm b4 [.int .i64 x1.1.machine,.bool x1.1.here,.int .i64 x1.1.age],ow wm (Zt .i64) Zi p0.Za.Zx.length Zh (Yl p0.Za.Zx p1 (-1)),YG wm (ZP (Zt .i64)) Zm p0.Za.qK.length Zl Yr p0.Za.qK,YG wm (ZP Zc) Zk p0.Za.qQ.length Zj Yw p0.Za.qQ,YG wm (ZP Ze) Zo p0.Za.qJ.length Zn Yq p0.Za.qJ,ow wm Zd Zq p0.Za.qG.length Zp p0.Za.qG,ow wm Zy Z7 p0.qX.length Z6 p0.qX,ob wm l19 Ztm,ob wm ZsN .deferred] h23) (Znv F p0 p1 p2 x1) ?_ (WF.begin (args:= [_,_,_]) (fn:=Tryz.f97) Kq0 (by exact rfl) Tryz.ntmps97 (by simp) ?_)
 ·clear hL hS;rintro v25 v h23 hL ⟨a26,c27,n28,rfl,hS⟩;obtain rfl:=hS.on k2;dsimp only [Znv] at hL;refine RgE.sp Zuq hS k12 ?_;rintro h29 hS;refine r9 ?_;refine UK.ZBv hS k12 ?_;rintro h30 hS;refine UK.gen rfl (ZU lk ZE) rfl ?_;refine r4 ?_;refine Yk.XF rfl (ZU lk ZE) ?_;refine r6 ?_;obtain⟨x31,hx31,hL⟩:=qZ hL;refine WO.cl gN rfl (Y9.fn ZF1 (Zf lk Zz)) hS (.c k2 .n) (fun g' hz hf hO=>ZAY (by rw [hz];exact hS.hw) hO hx31) ?_;rintro _ h32 _ ⟨rfl,rfl⟩ hS;refine r9 ?_;refine Yk.XF rfl (ZU lk ZE) ?_;refine WO.w gN rfl (YS Zfu (Zu lk (Zu lk (Zu lk ZT))) rfl (cs':= [.int .i64 2,.int .i64 p2,.int .i64 0,.int .i64 0,.int .i64 0,.int .i64 0,.int .i64 0,.slice a26 v25.length c27,.slice none 0 0,.int .i64 0,.int .i64 0,.int .i64 0]) rfl) ?_;refine r1 ?_;rintro _ h35 ⟨b34,Z4I,rfl,hS⟩;refine r1 ?_;rintro h36 hS;refine r7 ?_;refine WO.w gN rfl (ZbB XP lk (congrArg Nat.cast (hS.on k1))) ?_;refine r4 ?_;have hS:=hS.nil (e:= (Zt .i64));refine WC.loop (WL.lift hL (fun p s=>match p with | (v45,v47,v51,v55)=>∃ ZaU h37 a48 c49 n50 a52 c53 n54 ZHB,s= ⟨ZaU,[],h37,none⟩∧Sp wm T h [ow wm Zy a48 n50 c49 v47,bx wm YO (cG Zi p0.Za.Zx.length Zh Zm p0.Za.qK.length Zl Zk p0.Za.qQ.length Zj Zo p0.Za.qJ.length Zn Zq p0.Za.qG.length Zp p0.Za.said a48 n50 c49),bx wm b4 [.int .i64 x1.1.machine,.bool x1.1.here,.int .i64 x1.1.age],ow wm (Zt .i64) a52 n54 c53 v51,bx wm b34 [.int .i64 2,.int .i64 p2,.int .i64 0,.int .i64 0,.int .i64 0,.int .i64 0,.int .i64 0,.slice a26 v25.length c27,.slice a52 n54 c53,.int .i64 0,.int .i64 0,.int .i64 0],ow wm (Zt .i64) a26 v25.length c27 x31,ow wm (Zt .i64) Zi p0.Za.Zx.length Zh (Yl p0.Za.Zx p1 (-1)),YG wm (ZP (Zt .i64)) Zm p0.Za.qK.length Zl Yr p0.Za.qK,YG wm (ZP Zc) Zk p0.Za.qQ.length Zj ZHB v55,YG wm (ZP Ze) Zo p0.Za.qJ.length Zn Yq p0.Za.qJ,ow wm Zd Zq p0.Za.qG.length Zp p0.Za.qG] h37∧ZaU.at 0= .pointer (some ⟨YO,0,none⟩)∧ZaU.at 2= .int .i64 p2∧ZaU.at 6= .pointer (some ⟨b4,0,none⟩)∧ZaU.at 8= .pointer (some ⟨b34,0,none⟩)∧ZaU.at 38= .slice a26 v25.length c27∧ZaU.at 39= .int .i64 (x31.length:Int)∧ZaU.at 40= .int .i64 v45) ⟨_,_,Z7,Z6,p0.qX.length,none,0,0,Yw,rfl,hS.only sl,Yv⟩ ?_);clear hL hS;rintro Zyk ⟨v45,v47,v51,v55⟩ s ZDB hL ⟨ZaU,h37,a48,c49,n50,a52,c53,n54,ZHB,rfl,hS,e39,e40,e41,e42,e43,e44,e46⟩;obtain rfl:=hS.on k0;obtain rfl:=hS.on k3;dsimp only [Zjw] at hL;refine r6 ?_;refine cn hL ?_ ?_
  ·intro hc hL;refine r6 ?_;obtain⟨x58,ZyN,hL⟩:=qZ hL;obtain⟨b59,o60,_,ZzR,ZGw,ZOV⟩:=Src.at_ (hS.Xj k5) ZyN;refine WO.w gN rfl (Yn XP XE lk lk (hS.on k5) ZzR ZyN) ?_;refine r5 ?_;refine WC.YD mixed Kq0 ?_;refine r7 ?_;obtain⟨x61,ZhL,hL⟩:=qZ hL;obtain⟨b62,o63,a64,n65,c66,Zzg,ZGc,ZPy⟩:=hS.atS k8 ZhL;refine WX.w gN rfl (Yn ZeM Zbf lk lk (hS.YP k8) ZGc ZhL) ?_ rfl;refine r2 ?_;obtain⟨x67,ZrX,hL⟩:=qZ hL;obtain⟨b68,o69,_,Zun,ZAm,Zus⟩:=Src.at_ (hS.inS k8 ZhL Zzg).2.1 ZrX;refine WX.w gN rfl (Yn Wz Y3 lk lk (hS.inS k8 ZhL Zzg).1 Zun ZrX) ?_ rfl;refine WG ?_;refine WO.w gN rfl (YS Zkq (Zu lk (Zu lk ZT)) rfl (cs':= [.bool false,.int .i64 p2,.int .i64 (Y2 (x67.age + 1))]) rfl) ?_;refine r1 ?_;have hS:=hS.Kc k8 ZhL Zzg;refine WO.hu gN (KP (e:=Zc) (ZA.mk false p2 (Y2 (x67.age + 1))) () hS k1 Y3 (YF fh rfl) (YF (ZC rfl fh) rfl) Zun ZrX ZAm (j:=0) rfl (vs:= [.bool false,.int .i64 p2,.int .i64 (Y2 (x67.age + 1))]) rfl rfl rfl rfl rfl (cs':= [.bool false,.int .i64 p2,.int .i64 (Y2 (x67.age + 1))]) rfl rfl trivial) ?_;rintro h70 ⟨hS,ZVk⟩;obtain⟨ZSC,Z2C,hS⟩:=hS.Kj (.c k1 (.c k0 .n)) ZhL;refine r3 ?_;refine WC.YD mixed Kq0 ?_;refine r5 ?_;refine WX.w gN rfl (Y4 WT (YF fh rfl) ZVk (j:=2) rfl (v:= .int .i64 (Y2 (x67.age + 1))) rfl) ?_ rfl;refine WX.hn gN rfl (Q8 (e:= (Zt .i64)) hS XP XE Kb rfl rfl rfl (Zu lk ZT) rfl [((),Y2 (x67.age + 1))] rfl (xs:= [Y2 (x67.age + 1)]) rfl (by intro q hq;simp only [List.mem_cons,List.not_mem_nil,or_false] at hq;subst hq;exact trivial) rfl) ?_ rfl;rintro _ h75 ⟨b74,Z4s,rfl,hS⟩;obtain⟨z76,ZSV,hL⟩:=qZ hL;refine WX.hv gN rfl (XY (e:= (Zt .i64)) hS k5 Xk lk lk (hS.Xj k0) (hS.on k0) ZSV) ?_ rfl rfl [] Kq0 Yg.e;rintro _ h79 ⟨a77,c78,rfl,hS⟩;refine WX.w gN rfl (Qd Znq lk) ?_ Kq0;refine WX.hu gN (Ug hS k6 Uf lk lk (vs:= [.slice a77 z76.length c78]) rfl rfl rfl rfl (cs':= [.int .i64 2,.int .i64 p2,.int .i64 0,.int .i64 0,.int .i64 0,.int .i64 0,.int .i64 0,.slice a26 v25.length c27,.slice a77 z76.length c78,.int .i64 0,.int .i64 0,.int .i64 0]) rfl) ?_ rfl Kq0 [] Kq0 Yg.e;rintro h80 hS;refine r2 ?_;refine WC.YD mixed Kq0 ?_;refine r9 ?_;refine WX.w gN rfl (YS ZhA (Zu lk (Zu lk (Zu lk (Zu lk ZT)))) rfl (cs':= [.int .i64 2,.int .i64 x58,.int .i64 x1.1.machine,.int .i64 p2,.int .i64 0]) rfl) ?_ rfl;refine WX.hn gN rfl (Q8 (e:=Zy) hS ZeK KM Zaq rfl rfl rfl (Zu lk ZT) rfl [((),(Zv.mk 2 x58 x1.1.machine p2 0))] rfl (xs:= [(Zv.mk 2 x58 x1.1.machine p2 0)]) rfl (by intro q hq;simp only [List.mem_cons,List.not_mem_nil,or_false] at hq;subst hq;exact trivial) rfl) ?_ rfl;rintro _ h82 ⟨b81,Z4o,rfl,hS⟩;obtain⟨z83,ZST,hL⟩:=qZ hL;refine WX.hv gN rfl (XY (e:=Zy) hS k5 Za3 lk lk (hS.Xj k0) (hS.on k0) ZST) ?_ rfl rfl [] Kq0 Yg.e;rintro _ h86 ⟨a84,c85,rfl,hS⟩;refine WX.w gN rfl (Ka lk) ?_ Kq0;refine WX.w gN rfl (Qd Zfg lk) ?_ Kq0;refine WX.hu gN (Ug hS k6 Zmv lk lk (vs:= [.slice a84 z83.length c85]) rfl rfl rfl rfl (cs':= (cG Zi p0.Za.Zx.length Zh Zm p0.Za.qK.length Zl Zk p0.Za.qQ.length Zj Zo p0.Za.qJ.length Zn Zq p0.Za.qG.length Zp p0.Za.said a84 z83.length c85)) rfl) ?_ rfl Kq0 [] Kq0 Yg.e;rintro h87 hS;refine r7 ?_;exact Ya.YU (ZDB _ _ hL ⟨_,_,a84,c85,z83.length,a77,c78,z76.length,ZSC,rfl,hS.only sl,Yv⟩)
  ·intro hc hL;refine r5 ?_;have ZIi:=hS.on k5;rw [ZIi] at hS;rw [ZIi] at e43
   try rw [ZIi]
   refine WC.fzn hS k5 ?_;rintro h89 ⟨Z2G,hS⟩;refine WC.fzn hS k4 ?_;rintro h91 ⟨Z2F,hS⟩;refine WC.YD mixed Kq0 ?_;refine r7 ?_;refine WX.hn gN rfl (Q8 (e:=Zd) hS UR Xf U0 rfl rfl rfl (Zu lk ZT) rfl [(((a26,c27),(a52,c53)),(Zg.mk 2 p2 (Zr.mk 0 0 0 0 0) x31 v51 0 0 0))] rfl (xs:= [(Zg.mk 2 p2 (Zr.mk 0 0 0 0 0) x31 v51 0 0 0)]) rfl (by intro q hq;simp only [List.mem_cons,List.not_mem_nil,or_false] at hq;subst hq;exact⟨(hS.fsl k1),(hS.fsl k0)⟩) rfl) ?_ rfl;rintro _ h94 ⟨b93,ZVO,rfl,hS⟩;obtain⟨z95,ZSS,hL⟩:=qZ hL;refine WX.hv gN rfl (XY (e:=Zd) hS k11 QZ lk lk (hS.Xj k0) (hS.on k0) ZSS) ?_ rfl rfl [] Kq0 Yg.e;rintro _ h98 ⟨a96,c97,rfl,hS⟩;refine WX.w gN rfl (Ka lk) ?_ Kq0;refine WX.w gN rfl (Qd Zfh lk) ?_ Kq0;refine WX.w gN rfl (Qd Ku lk) ?_ Kq0;refine WX.hu gN (Ug hS k5 Zbg lk lk (vs:= [.slice a96 z95.length c97]) rfl rfl rfl rfl (cs':= (cG Zi p0.Za.Zx.length Zh Zm p0.Za.qK.length Zl Zk p0.Za.qQ.length Zj Zo p0.Za.qJ.length Zn a96 z95.length c97 p0.Za.said a48 v47.length c49)) rfl) ?_ rfl Kq0 [] Kq0 Yg.e;rintro h99 hS;refine r1 ?_;refine Yk.YU ?_;have hr:=Oi0 hL;subst hr;exact Yk.gen (vs:= []) rfl ZE rfl ⟨_,⟨Zi,p0.Za.Zx.length,Zh,Zm,p0.Za.qK.length,Zl,Yr,Zk,p0.Za.qQ.length,Zj,ZHB,Zo,p0.Za.qJ.length,Zn,Yq,a96,z95.length,c97,a48,v47.length,c49,rfl,rfl⟩,hT ▸ hS.only sl⟩
 ·skip;simp only [Z4,Z9,Nat.reduceAdd];refine r3 ?_;rintro _ Zp5 ⟨ZbV,ZBq,rfl,hS⟩;refine r5 ?_;rintro _ Z4e ⟨ZdH,Z0F,rfl,hS⟩;refine r4 ?_;refine WO.w gN rfl (ZbA (Zf lk (Zf lk (Zf lk Zz)))) ?_;refine r1 ?_;rintro ZP3 hS;refine r5 ?_
  have ZDq:∀ (Fr:Nat) (x:Int×(List Int)) (r:Bool×(List Int)),loop Fr (Zjv F p0 p1) x=some r ->match x with | (v107,Zrw)=>∀ {h:H} (a109:Option Addr) (ZhT:Nat) (n111:Nat),wm <=h.size ->Yd (wm:=wm) [bx wm YO (cH p0 Zi Zh Zm Zl Zk Zj Zo Zn Zq Zp Z7 Z6),bx wm b4 [.int .i64 x1.1.machine,.bool x1.1.here,.int .i64 x1.1.age],bx wm b12 (cW p0.Za Zi Zh Zm Zl Zk Zj Zo Zn Zq Zp),bx wm b14 [.int .i64 p1],ow wm (Zt .i64) a109 n111 ZhT Zrw,bx wm b16 [.slice a109 n111 ZhT],bx wm ZbV [.func (.yield l19) #[] #[]],bx wm ZdH [.func (.func 98) #[] [.pointer (some ⟨ZbV,0,none⟩),.pointer (some ⟨b12,0,none⟩),.pointer (some ⟨ZdH,0,none⟩)].toArray],ow wm (Zt .i64) Zi p0.Za.Zx.length Zh (Yl p0.Za.Zx p1 (-1)),YG wm (ZP (Zt .i64)) Zm p0.Za.qK.length Zl Yr p0.Za.qK,YG wm (ZP Zc) Zk p0.Za.qQ.length Zj Yw p0.Za.qQ,YG wm (ZP Ze) Zo p0.Za.qJ.length Zn Yq p0.Za.qJ,ow wm Zd Zq p0.Za.qG.length Zp p0.Za.qG,ow wm Zy Z7 p0.qX.length Z6 p0.qX,ob wm l19 Ztm,ob wm ZsN .deferred] h ->WR XX 98 #[.int .i64 v107,.pointer (some ⟨ZbV,0,none⟩),.pointer (some ⟨b12,0,none⟩),.pointer (some ⟨ZdH,0,none⟩)] wm h (CP (fun(v:Value) (Gb:List (Ast wm))=>match r with | (Zvm,v117)=>∃ ZRh c119 n120,v= .bool Zvm∧Gb= [bx wm YO (cH p0 Zi Zh Zm Zl Zk Zj Zo Zn Zq Zp Z7 Z6),bx wm b4 [.int .i64 x1.1.machine,.bool x1.1.here,.int .i64 x1.1.age],bx wm b12 (cW p0.Za Zi Zh Zm Zl Zk Zj Zo Zn Zq Zp),bx wm b14 [.int .i64 p1],ow wm (Zt .i64) ZRh n120 c119 v117,bx wm b16 [.slice ZRh n120 c119],bx wm ZbV [.func (.yield l19) #[] #[]],bx wm ZdH [.func (.func 98) #[] [.pointer (some ⟨ZbV,0,none⟩),.pointer (some ⟨b12,0,none⟩),.pointer (some ⟨ZdH,0,none⟩)].toArray],ow wm (Zt .i64) Zi p0.Za.Zx.length Zh (Yl p0.Za.Zx p1 (-1)),YG wm (ZP (Zt .i64)) Zm p0.Za.qK.length Zl Yr p0.Za.qK,YG wm (ZP Zc) Zk p0.Za.qQ.length Zj Yw p0.Za.qQ,YG wm (ZP Ze) Zo p0.Za.qJ.length Zn Yq p0.Za.qJ,ow wm Zd Zq p0.Za.qG.length Zp p0.Za.qG,ow wm Zy Z7 p0.qX.length Z6 p0.qX,ob wm l19 Ztm,ob wm ZsN .deferred]) [bx wm YO (cH p0 Zi Zh Zm Zl Zk Zj Zo Zn Zq Zp Z7 Z6),bx wm b4 [.int .i64 x1.1.machine,.bool x1.1.here,.int .i64 x1.1.age],bx wm b12 (cW p0.Za Zi Zh Zm Zl Zk Zj Zo Zn Zq Zp),bx wm b14 [.int .i64 p1],ow wm (Zt .i64) a109 n111 ZhT Zrw,bx wm b16 [.slice a109 n111 ZhT],bx wm ZbV [.func (.yield l19) #[] #[]],bx wm ZdH [.func (.func 98) #[] [.pointer (some ⟨ZbV,0,none⟩),.pointer (some ⟨b12,0,none⟩),.pointer (some ⟨ZdH,0,none⟩)].toArray],ow wm (Zt .i64) Zi p0.Za.Zx.length Zh (Yl p0.Za.Zx p1 (-1)),YG wm (ZP (Zt .i64)) Zm p0.Za.qK.length Zl Yr p0.Za.qK,YG wm (ZP Zc) Zk p0.Za.qQ.length Zj Yw p0.Za.qQ,YG wm (ZP Ze) Zo p0.Za.qJ.length Zn Yq p0.Za.qJ,ow wm Zd Zq p0.Za.qG.length Zp p0.Za.qG,ow wm Zy Z7 p0.qX.length Z6 p0.qX,ob wm l19 Ztm,ob wm ZsN .deferred] h):=by
   clear hL hS;refine ZiH _ ?_;rintro Zh6 Zzv ⟨v107,Zrw⟩ r hL h a109 ZhT n111 Z0 hO;dsimp only [Zjv] at hL;obtain⟨T,hT,hS⟩:∃ T,T=Qi (wm:=wm) [bx wm YO (cH p0 Zi Zh Zm Zl Zk Zj Zo Zn Zq Zp Z7 Z6),bx wm b4 [.int .i64 x1.1.machine,.bool x1.1.here,.int .i64 x1.1.age],bx wm b12 (cW p0.Za Zi Zh Zm Zl Zk Zj Zo Zn Zq Zp),bx wm b14 [.int .i64 p1],ow wm (Zt .i64) a109 n111 ZhT Zrw,bx wm b16 [.slice a109 n111 ZhT],bx wm ZbV [.func (.yield l19) #[] #[]],bx wm ZdH [.func (.func 98) #[] [.pointer (some ⟨ZbV,0,none⟩),.pointer (some ⟨b12,0,none⟩),.pointer (some ⟨ZdH,0,none⟩)].toArray],ow wm (Zt .i64) Zi p0.Za.Zx.length Zh (Yl p0.Za.Zx p1 (-1)),YG wm (ZP (Zt .i64)) Zm p0.Za.qK.length Zl Yr p0.Za.qK,YG wm (ZP Zc) Zk p0.Za.qQ.length Zj Yw p0.Za.qQ,YG wm (ZP Ze) Zo p0.Za.qJ.length Zn Yq p0.Za.qJ,ow wm Zd Zq p0.Za.qG.length Zp p0.Za.qG,ow wm Zy Z7 p0.qX.length Z6 p0.qX,ob wm l19 Ztm,ob wm ZsN .deferred]∧Sp wm T h [bx wm YO (cH p0 Zi Zh Zm Zl Zk Zj Zo Zn Zq Zp Z7 Z6),bx wm b4 [.int .i64 x1.1.machine,.bool x1.1.here,.int .i64 x1.1.age],bx wm b12 (cW p0.Za Zi Zh Zm Zl Zk Zj Zo Zn Zq Zp),bx wm b14 [.int .i64 p1],ow wm (Zt .i64) a109 n111 ZhT Zrw,bx wm b16 [.slice a109 n111 ZhT],bx wm ZbV [.func (.yield l19) #[] #[]],bx wm ZdH [.func (.func 98) #[] [.pointer (some ⟨ZbV,0,none⟩),.pointer (some ⟨b12,0,none⟩),.pointer (some ⟨ZdH,0,none⟩)].toArray],ow wm (Zt .i64) Zi p0.Za.Zx.length Zh (Yl p0.Za.Zx p1 (-1)),YG wm (ZP (Zt .i64)) Zm p0.Za.qK.length Zl Yr p0.Za.qK,YG wm (ZP Zc) Zk p0.Za.qQ.length Zj Yw p0.Za.qQ,YG wm (ZP Ze) Zo p0.Za.qJ.length Zn Yq p0.Za.qJ,ow wm Zd Zq p0.Za.qG.length Zp p0.Za.qG,ow wm Zy Z7 p0.qX.length Z6 p0.qX,ob wm l19 Ztm,ob wm ZsN .deferred] h:= ⟨_,rfl,Sp.start Z0 hO⟩
   obtain rfl:=hS.on k4;refine WF.begin (args:= [_,_,_,_]) (fn:=Tryz.f98) Kq0 (by exact rfl) Tryz.ntmps98 (by simp) ?_;simp only [Z4,Z9,Nat.reduceAdd];refine r10 ?_;refine WO.ZLH gN rfl lk lks hS k14 Zuq rfl rfl ?_;refine r3 ?_;refine AsK.sp Zuq hS k14 ?_;rintro ZVF hS;refine r4 ?_;refine WO.hn gN rfl (Q8 (e:= (Zt .i64)) hS XP XE Kb rfl rfl rfl (Zu lk ZT) rfl [((),v107)] rfl (xs:= [v107]) rfl (by intro q hq;simp only [List.mem_cons,List.not_mem_nil,or_false] at hq;subst hq;exact trivial) rfl) ?_;rintro _ Z4a ⟨ZK6,Z0y,rfl,hS⟩;obtain⟨z124,ZMY,hL⟩:=qZ hL;refine WO.hv gN rfl (XY (e:= (Zt .i64)) hS k6 Xk lk lk (hS.Xj k0) (hS.on k0) ZMY) ?_;rintro _ h127 ⟨ZRg,ZK2,rfl,hS⟩;refine r1 ?_;rintro h128 hS;refine r2 ?_;refine BdK.sp Zuq hS k3 ?_;rintro ZVE hS;refine r3 ?_;refine cn hL ?_ ?_
   ·intro hc hL;refine r7 ?_;have hr:=Oi0 hL;subst hr;exact Yk.XF rfl (ZU lk ZE) ⟨_,⟨ZRg,ZK2,z124.length,rfl,rfl⟩,hT ▸ hS.only sl⟩
   ·intro hc hL;refine r7 ?_;refine WO.w gN rfl (ZbB XP lk (congrArg Nat.cast (hS.on k10))) ?_;refine r4 ?_;refine WC.loop (WL.lift hL (fun p s=>match p with | (ZoX,v138)=>∃ Zjp ZD2 a139 ZqC n141,s= ⟨Zjp,[],ZD2,none⟩∧Sp wm T h [bx wm ZdH [.func (.func 98) #[] [.pointer (some ⟨ZbV,0,none⟩),.pointer (some ⟨b12,0,none⟩),.pointer (some ⟨ZdH,0,none⟩)].toArray],bx wm ZbV [.func (.yield l19) #[] #[]],bx wm b12 (cW p0.Za Zi Zh Zm Zl Zk Zj Zo Zn Zq Zp),bx wm YO (cH p0 Zi Zh Zm Zl Zk Zj Zo Zn Zq Zp Z7 Z6),bx wm b4 [.int .i64 x1.1.machine,.bool x1.1.here,.int .i64 x1.1.age],bx wm b14 [.int .i64 p1],ow wm (Zt .i64) a139 n141 ZqC v138,bx wm b16 [.slice a139 n141 ZqC],ow wm (Zt .i64) Zi p0.Za.Zx.length Zh (Yl p0.Za.Zx p1 (-1)),YG wm (ZP (Zt .i64)) Zm p0.Za.qK.length Zl Yr p0.Za.qK,YG wm (ZP Zc) Zk p0.Za.qQ.length Zj Yw p0.Za.qQ,YG wm (ZP Ze) Zo p0.Za.qJ.length Zn Yq p0.Za.qJ,ow wm Zd Zq p0.Za.qG.length Zp p0.Za.qG,ow wm Zy Z7 p0.qX.length Z6 p0.qX,ob wm l19 Ztm,ob wm ZsN .deferred] ZD2∧Zjp.at 0= .int .i64 v107∧Zjp.at 3= .pointer (some ⟨ZdH,0,none⟩)∧Zjp.at 13= .slice Zi p0.Za.Zx.length Zh∧Zjp.at 14= .int .i64 ((Yl p0.Za.Zx p1 (-1)).length:Int)∧Zjp.at 15= .int .i64 ZoX) ⟨_,_,ZRg,ZK2,z124.length,rfl,hS.only sl,Yv⟩ ?_);clear hL hS;rintro ZmK ⟨ZoX,v138⟩ s ZpU hL ⟨Zjp,ZD2,a139,ZqC,n141,rfl,hS,Z5s,Z5r,Z5q,ZWg,e137⟩;obtain rfl:=hS.on k6;dsimp only [ZsA] at hL;refine r6 ?_;refine cn hL ?_ ?_
    ·intro hc hL;refine r7 ?_;obtain⟨U2,Zua,hL⟩:=qZ hL;obtain⟨ZWV,ZSL,_,Zz5,ZAt,Zsd⟩:=Src.at_ (hS.Xj k8) Zua;refine WO.w gN rfl (Yn XP XE lk lk (hS.on k8) Zz5 Zua) ?_;refine r13 ?_;refine WO.ZcM (Zw.yes rfl rfl rfl (YC rfl fh)) (fun ZcI=>?_) (fun ZcI=>?_)
     ·replace hL:=J8 ZcI hL;obtain⟨⟨ZoW,Zxg⟩,ZyY,hL⟩:=qZ hL;dsimp only at hL;refine WO.cl (Zw.on (Zw.yes rfl rfl rfl (YC rfl fh)) ZcI) rfl (Y9.clo (first:= []) (cap:= [.pointer (some ⟨ZbV,0,none⟩),.pointer (some ⟨b12,0,none⟩),.pointer (some ⟨ZdH,0,none⟩)]) (YQ (ZC rfl fh) rfl ZcI) Zjg (Zf (YQ fh rfl ZcI) Zz) rfl) hS (.c k3 (.c k3 (.c k2 (.c k2 (.c k2 (.c k2 (.c k1 (.c k0 (.c k0 (.c k0 (.c k0 (.c k0 (.c k0 (.c k0 (.c k0 (.c k0 .n)))))))))))))))) (fun g' hz hf hO=>Zzv _ _ ZyY a139 ZqC v138.length (by rw [hz];exact hS.hw) hO) ?_;rintro _ ZJM _ ⟨ZLh,c152,n153,rfl,rfl⟩ hS;simp only [List.cons_append,List.nil_append] at hS;obtain rfl:=hS.on k4;refine WO.w (Zw.on (Zw.yes rfl rfl rfl (YC rfl (ZC rfl fh))) ZcI) rfl (Zkt lk) ?_;refine WO.w gN rfl (Zeo lk ZcI lk) ?_;refine r2 ?_;refine cn hL ?_ ?_
      ·intro hc hL;refine JC ?_;have hr:=Oi0 hL;subst hr;exact Yk.XF rfl (ZU lk ZE) ⟨_,⟨ZLh,c152,Zxg.length,rfl,rfl⟩,hT ▸ hS.only sl⟩
      ·intro hc hL;refine r7 ?_;exact Ya.YU (ZpU _ _ hL ⟨_,_,ZLh,c152,Zxg.length,rfl,hS.only sl,Yv⟩)
     ·replace hL:=J9 ZcI hL;refine WO.ZcC (Zw.yes rfl rfl rfl (YC rfl fh)) ZcI rfl ?_;refine WO.ZcC (Zw.yes rfl rfl rfl (YC rfl (ZC rfl fh))) ZcI rfl ?_;refine WO.w gN rfl (Zep lk ZcI lk) ?_;refine r2 ?_;refine WC.Zem lk rfl ?_;refine r7 ?_;exact Ya.YU (ZpU _ _ hL ⟨_,_,a139,ZqC,v138.length,rfl,hS.only sl,Yv⟩)
    ·intro hc hL;refine JC ?_;have hr:=Oi0 hL;subst hr;exact Yk.XF rfl (ZU lk ZE) ⟨_,⟨a139,ZqC,v138.length,rfl,rfl⟩,hT ▸ hS.only sl⟩
  have hS:=hS.nil (e:= (Zt .i64));obtain⟨⟨Ziw,v159⟩,ZNl,hL⟩:=qZ hL;dsimp only at hL;refine WO.cl gN rfl (Y9.clo (first:= []) (cap:= [.pointer (some ⟨ZbV,0,none⟩),.pointer (some ⟨b12,0,none⟩),.pointer (some ⟨ZdH,0,none⟩)]) lk Zjg lks rfl) hS (.c k10 (.c k9 (.c k7 (.c k6 (.c k0 (.c k4 (.c k1 (.c k0 (.c k2 (.c k2 (.c k2 (.c k2 (.c k2 (.c k2 (.c k0 (.c k0 .n)))))))))))))))) (fun g' hz hf hO=>ZDq _ _ _ ZNl none 0 0 (by rw [hz];exact hS.hw) hO) ?_;rintro _ Z3X _ ⟨a160,ZWC,n162,rfl,rfl⟩ hS;simp only [List.cons_append,List.nil_append] at hS;obtain rfl:=hS.on k4;refine r1 ?_;refine Yk.YU ?_;exact Yk.gen (vs:= []) rfl ZE rfl ⟨_,hL,⟨a160,ZWC,v159.length,rfl,hS.only sl⟩⟩
theorem ZJX {wm h} {p0:Zg} {Zi Zh Zm Zl} {r} (Z0:wm <=h.size) (ZB:Sl (Zt .i64) wm h Zi Zh p0.qV) (ZM:Sl (Zt .i64) wm h Zm Zl p0.Yc) (hL:Zv7 p0=some r):
 WR XX 86 #[.agg [.int .i64 p0.kind,.int .i64 p0.ZX,.int .i64 p0.ZV.msg,.int .i64 p0.ZV.place,.int .i64 p0.ZV.from_,.int .i64 p0.ZV.age,.int .i64 p0.ZV.hops,.slice Zi p0.qV.length Zh,.slice Zm p0.Yc.length Zl,.int .i64 p0.place,.int .i64 p0.at_,.int .i64 p0.age].toArray] wm h (CP (fun(v:Value) (Gb:List (Ast wm))=>v= .bool r∧Gb= []) [] h):=by
 refine bg Tryz.ntmps86 Z0 Yd.nil ?_;intro T hT hS;unfold Zv7 at hL;refine r3 ?_;rintro _ h2 ⟨b1,eb1,rfl,hS⟩;refine r16 ?_;refine r16 ?_;refine r8 ?_;refine WO.w gN rfl (YS ZBI ZT rfl (cs':= [.int .i64 0,.int .i64 0,.int .i64 0,.int .i64 0,.int .i64 0]) rfl) ?_;refine WO.w gN rfl (Qe (YF (ZC rfl fh) rfl) (YF fh rfl) (Za4 (xs:= [.int .i64 p0.ZV.msg,.int .i64 p0.ZV.place,.int .i64 p0.ZV.from_,.int .i64 p0.ZV.age,.int .i64 p0.ZV.hops]) (ys:= [.int .i64 0,.int .i64 0,.int .i64 0,.int .i64 0,.int .i64 0]) (ZuQ p0.ZV (Zr.mk 0 0 0 0 0)) rfl rfl)) ?_;refine r16 ?_;refine r1 ?_;refine cn hL ?_ ?_
 ·intro hc hL;refine r14 ?_;exact rt hL hT hS
 ·intro hc hL;refine r6 ?_;refine cn hL ?_ ?_
  ·intro hc hL;refine r16 ?_;refine r13 ?_;exact rt hL hT hS
  ·intro hc hL;refine r6 ?_;refine cn hL ?_ ?_
   ·intro hc hL;refine r14 ?_;exact rt hL hT hS
   ·intro hc hL;refine r9 ?_;exact rt hL hT hS
theorem ZJY {h} {p0:Zg} {Zi Zh Zm Zl} {r} (ZB:Sl (Zt .i64) h.size h Zi Zh p0.qV) (ZM:Sl (Zt .i64) h.size h Zm Zl p0.Yc) (hL:Zv7 p0=some r):Pure XX 86 #[.agg [.int .i64 p0.kind,.int .i64 p0.ZX,.int .i64 p0.ZV.msg,.int .i64 p0.ZV.place,.int .i64 p0.ZV.from_,.int .i64 p0.ZV.age,.int .i64 p0.ZV.hops,.slice Zi p0.qV.length Zh,.slice Zm p0.Yc.length Zl,.int .i64 p0.place,.int .i64 p0.at_,.int .i64 p0.age].toArray] h (.bool r):=
 WR.X9 rfl (ZJX (Nat.le_refl _) ZB ZM hL)
theorem ZJW {wm h} {p0:(List Zg)} {p1 p2:Int} {Zi Zh XA} {r} (Z0:wm <=h.size) (hO:Yd (wm:=wm) [ow wm Zd Zi XA Zh p0] h) (hL:ZAZ p0 p1 p2=some r):
 WR XX 88 #[.slice Zi XA Zh,.int .i64 p1,.int .i64 p2] wm h (CP (fun(v:Value) (Gb:List (Ast wm))=>∃ Xq Xo Xp,v= .slice Xq Xo Xp∧Gb= [ow wm Zd Xq Xo Xp r]) [ow wm Zd Zi XA Zh p0] h):=by
 refine bg Tryz.ntmps88 Z0 hO ?_;intro T hT hS;unfold ZAZ at hL;obtain rfl:=hS.on k0;refine WG ?_;obtain⟨z1,hz1,hL⟩:=qZ hL;refine WO.he gN rfl (ZHo (hS.get k0).2 rfl UR Xf (YF (Y5 rfl fh) rfl) (YF (YC rfl (ZC rfl fh)) rfl) (YF (YC rfl fh) rfl) (YF fh rfl) hz1) ?_;rintro v2 hv3;refine r10 ?_;refine cn hL ?_ ?_
 ·intro hc hL;refine r8 ?_;have hr:=Oi0 hL;subst hr;exact Yk.XF rfl (ZU lk ZE) ⟨_,⟨Zi,p0.length,Zh,rfl,rfl⟩,hT ▸ hS.only sl⟩
 ·intro hc hL;refine r10 ?_;refine WC.YD mixed Kq0 ?_;refine r2 ?_;obtain⟨z4,hz4,hL⟩:=qZ hL;have ZzD:= (hS.get k0).2.cap;refine WX.he gN rfl (ZHn (hS.get k0).2 rfl UR Xf (YF (ZC rfl fh) rfl) (YF fh rfl) hz4) ?_ rfl;rintro _ ⟨a5,c6,ea7,ec8,rfl,ZTx⟩;have ZQb:=ec8.symm;refine r2 ?_;obtain⟨z13,ZHZ,hL⟩:=qZ hL;refine WX.he gN rfl (ZxF (hS.get k0).2 rfl UR Xf (YF (ZC rfl fh) rfl) (.inr ⟨_,Xy (YF fh rfl)⟩) (.inl ⟨rfl,rfl⟩) ZHZ) ?_ rfl;rintro _ ⟨a14,c15,rfl,ZTv⟩;obtain⟨z17,ZHX,hL⟩:=qZ hL;have ZS9:= (ZTv.own (hS.get k0).2).src;have hS:=hS.sub k0 ZTx;refine WX.hv gN rfl (ZL8 (e:=Zd) hS k0 QZ lk lk ZS9 rfl ZHX (ZQb ▸ Nat.le_trans (ZuW hz1 hz4 ZHZ ZHX) ZzD)) ?_ rfl rfl [] Kq0 Yg.e;rintro _ h19 ⟨rfl,hS⟩;refine WX.w gN rfl (Zdz lk) ?_ Kq0;refine r8 ?_;refine WO.he gN rfl (ZHm (hS.get k0).2 UR Xf (YF (YC rfl (ZC rfl fh)) rfl) (YF (ZC rfl fh) rfl) (YF fh rfl) (ZuW hz1 hz4 ZHZ ZHX) (ZQb ▸ ZzD)) ?_;rintro _ ⟨a20,c21,rfl,ZTz⟩;refine WO.hw gN (ZL6 hS k0 ZTz rfl UR U0 rfl (YF fh rfl)) ?_;rintro h24 hS;refine r9 ?_;have hr:=Oi0 hL;subst hr;exact Yk.XF rfl (ZU lk ZE) ⟨_,⟨a5,z17.length,c6,rfl,rfl⟩,hT ▸ hS.only sl⟩
end Go.Proofs.YtbmbbcaaimehkaaGreat
end
end
section
namespace Go.Proofs.YtbmbbcaaimehkaaGreat
open Go.Lf
def Znt (p0:ZY) (p1:Int):Option Bool:=
 some ((decide (p1 >=0)) && (decide (p1 < (p0.Za.qQ.length:Int))))
def Zsv (p0:ZY) (p1:Int):Option Bool:=
 some ((decide (p1 >=0)) && (decide (p1 < (p0.Za.Zx.length:Int))))
def Zjs (p0:(List Int)) (p1:Int):Int ->(Int ->Option Int) ->Option Int:=fun v6 ZaO=>
 (bif decide (v6 < (p0.length:Int)) then(ZK p0 v6).bind fun x9=>(bif(p1==x9) then some v6 else ZaO (Y2 (v6 + 1))) else some (-1))
def ZAW (F:Nat) (p0:(List Int)) (p1:Int):Option Int:=
 loop F (Zjs p0 p1) 0
def ZuL (p0:(List ZA)):Option (List ZA):=
 (app 24 ([]:List ZA) p0).bind fun z3=>some z3
end Go.Proofs.YtbmbbcaaimehkaaGreat
end
section
set_option maxRecDepth 20000
noncomputable section
namespace Go.Proofs.YtbmbbcaaimehkaaGreat
open Go.YR Go.Lf
theorem ZJS {wm h} {p0:ZY} {p1:Int} {Zi Zh Zm Zl Zk Zj Zo Zn Zq Zp Z7 Z6 YO Ke} {r} (Z0:wm <=h.size) (X4:At h YO Ke [.slice Zi p0.Za.Zx.length Zh,.slice Zm p0.Za.qK.length Zl,.slice Zk p0.Za.qQ.length Zj,.slice Zo p0.Za.qJ.length Zn,.slice Zq p0.Za.qG.length Zp,.int .i64 p0.Za.said,.slice Z7 p0.Xc.length Z6]) (X3:Stb wm h YO) (ZB:Sl (Zt .i64) wm h Zi Zh p0.Za.Zx) (ZM:Sl (ZN (Zt .i64)) wm h Zm Zl p0.Za.qK) (ZF:Sl (ZN Zc) wm h Zk Zj p0.Za.qQ) (ZL:Sl (ZN Ze) wm h Zo Zn p0.Za.qJ) (ZI:Sl Zd wm h Zq Zp p0.Za.qG) (Xw:Sl XI wm h Z7 Z6 p0.Xc) (hL:Znt p0 p1=some r):
 WR XX 95 #[.pointer (some ⟨YO,Ke,none⟩),.int .i64 p1] wm h (CP (fun(v:Value) (Gb:List (Ast wm))=>v= .bool r∧Gb= []) [] h):=by
 refine bg Tryz.ntmps95 Z0 Yd.nil ?_;intro T hT hS;unfold Znt at hL;refine r15 ?_;refine WO.gv (Zw.yes rfl rfl rfl (Y5 rfl (ZC rfl fh))) rfl (fun hg=>(Y4 ZqV (YQ fh rfl hg) (At.fz hS.fz X3 X4) (j:=2) rfl (v:= .slice Zk p0.Za.qQ.length Zj) rfl)) ?_;refine r7 ?_;exact rt hL hT hS
theorem Zsw {h} {p0:ZY} {p1:Int} {Zi Zh Zm Zl Zk Zj Zo Zn Zq Zp Z7 Z6 YO Ke} {r} (X4:At h YO Ke [.slice Zi p0.Za.Zx.length Zh,.slice Zm p0.Za.qK.length Zl,.slice Zk p0.Za.qQ.length Zj,.slice Zo p0.Za.qJ.length Zn,.slice Zq p0.Za.qG.length Zp,.int .i64 p0.Za.said,.slice Z7 p0.Xc.length Z6]) (X3:Stb h.size h YO) (ZB:Sl (Zt .i64) h.size h Zi Zh p0.Za.Zx) (ZM:Sl (ZN (Zt .i64)) h.size h Zm Zl p0.Za.qK) (ZF:Sl (ZN Zc) h.size h Zk Zj p0.Za.qQ) (ZL:Sl (ZN Ze) h.size h Zo Zn p0.Za.qJ) (ZI:Sl Zd h.size h Zq Zp p0.Za.qG) (Xw:Sl XI h.size h Z7 Z6 p0.Xc) (hL:Znt p0 p1=some r):Pure XX 95 #[.pointer (some ⟨YO,Ke,none⟩),.int .i64 p1] h (.bool r):=
 WR.X9 rfl (ZJS (Nat.le_refl _) X4 X3 ZB ZM ZF ZL ZI Xw hL)
theorem ZJR {wm h} {p0:ZY} {p1:Int} {Zi Zh Zm Zl Zk Zj Zo Zn Zq Zp Z7 Z6 YO Ke} {r} (Z0:wm <=h.size) (X4:At h YO Ke [.slice Zi p0.Za.Zx.length Zh,.slice Zm p0.Za.qK.length Zl,.slice Zk p0.Za.qQ.length Zj,.slice Zo p0.Za.qJ.length Zn,.slice Zq p0.Za.qG.length Zp,.int .i64 p0.Za.said,.slice Z7 p0.Xc.length Z6]) (X3:Stb wm h YO) (ZB:Sl (Zt .i64) wm h Zi Zh p0.Za.Zx) (ZM:Sl (ZN (Zt .i64)) wm h Zm Zl p0.Za.qK) (ZF:Sl (ZN Zc) wm h Zk Zj p0.Za.qQ) (ZL:Sl (ZN Ze) wm h Zo Zn p0.Za.qJ) (ZI:Sl Zd wm h Zq Zp p0.Za.qG) (Xw:Sl XI wm h Z7 Z6 p0.Xc) (hL:Zsv p0 p1=some r):
 WR XX 96 #[.pointer (some ⟨YO,Ke,none⟩),.int .i64 p1] wm h (CP (fun(v:Value) (Gb:List (Ast wm))=>v= .bool r∧Gb= []) [] h):=by
 refine bg Tryz.ntmps96 Z0 Yd.nil ?_;intro T hT hS;unfold Zsv at hL;refine r15 ?_;refine WO.gv (Zw.yes rfl rfl rfl (Y5 rfl (ZC rfl fh))) rfl (fun hg=>(Y4 ZGQ (YQ fh rfl hg) (At.fz hS.fz X3 X4) (j:=0) rfl (v:= .slice Zi p0.Za.Zx.length Zh) rfl)) ?_;refine r7 ?_;exact rt hL hT hS
theorem ZAX {h} {p0:ZY} {p1:Int} {Zi Zh Zm Zl Zk Zj Zo Zn Zq Zp Z7 Z6 YO Ke} {r} (X4:At h YO Ke [.slice Zi p0.Za.Zx.length Zh,.slice Zm p0.Za.qK.length Zl,.slice Zk p0.Za.qQ.length Zj,.slice Zo p0.Za.qJ.length Zn,.slice Zq p0.Za.qG.length Zp,.int .i64 p0.Za.said,.slice Z7 p0.Xc.length Z6]) (X3:Stb h.size h YO) (ZB:Sl (Zt .i64) h.size h Zi Zh p0.Za.Zx) (ZM:Sl (ZN (Zt .i64)) h.size h Zm Zl p0.Za.qK) (ZF:Sl (ZN Zc) h.size h Zk Zj p0.Za.qQ) (ZL:Sl (ZN Ze) h.size h Zo Zn p0.Za.qJ) (ZI:Sl Zd h.size h Zq Zp p0.Za.qG) (Xw:Sl XI h.size h Z7 Z6 p0.Xc) (hL:Zsv p0 p1=some r):Pure XX 96 #[.pointer (some ⟨YO,Ke,none⟩),.int .i64 p1] h (.bool r):=
 WR.X9 rfl (ZJR (Nat.le_refl _) X4 X3 ZB ZM ZF ZL ZI Xw hL)
theorem ZJQ {F wm h} {p0:(List Int)} {p1:Int} {Zi Zh} {r} (Z0:wm <=h.size) (ZB:Sl (Zt .i64) wm h Zi Zh p0) (hL:ZAW F p0 p1=some r):
 WR XX 99 #[.slice Zi p0.length Zh,.int .i64 p1] wm h (CP (fun(v:Value) (Gb:List (Ast wm))=>v= .int .i64 r∧Gb= []) [] h):=by
 refine bg Tryz.ntmps99 Z0 Yd.nil ?_;intro T hT hS;unfold ZAW at hL;refine r14 ?_;refine WC.loop (WL.lift hL (fun v6 s=>∃ XT h1,s= ⟨XT,[],h1,none⟩∧Sp wm T h [] h1∧XT.at 0= .slice Zi p0.length Zh∧XT.at 1= .int .i64 p1∧XT.at 7= .int .i64 (p0.length:Int)∧XT.at 8= .int .i64 v6) ⟨_,_,rfl,hS.only .n,Yv⟩ ?_);clear hL hS;rintro ZaO v6 s Zd9 hL ⟨XT,h1,rfl,hS,e3,e4,e5,e7⟩;dsimp only [Zjs] at hL;refine r6 ?_;refine cn hL ?_ ?_
 ·intro hc hL;refine r15 ?_;obtain⟨x9,hx9,hL⟩:=qZ hL;obtain⟨b10,o11,_,ZpZ,ZlY,Zux,Zp1⟩:=Sl.at_ ZB hx9;refine r5 ?_;refine cn hL ?_ ?_
  ·intro hc hL;refine WG ?_;exact rt hL hT hS
  ·intro hc hL;refine r7 ?_;exact Ya.YU (Zd9 _ _ hL ⟨_,_,rfl,hS.only .n,Yv⟩)
 ·intro hc hL;refine JC ?_;exact rt hL hT hS
theorem ZEv {wm h} {p0:(List ZA)} {Zi Zh} {r} (Z0:wm <=h.size) (ZB:Sl Zc wm h Zi Zh p0) (hL:ZuL p0=some r):
 WR XX 101 #[.slice Zi p0.length Zh] wm h (CP (fun(v:Value) (Gb:List (Ast wm))=>∃ Xq Xo Xp,v= .slice Xq Xo Xp∧Gb= [ow wm Zc Xq Xo Xp r]) [] h):=by
 refine bg Tryz.ntmps101 Z0 Yd.nil ?_;intro T hT hS;unfold ZuL at hL;refine r8 ?_;rcases Sl.cases ZB with⟨rfl,rfl,rfl⟩ | ⟨qa,rfl⟩
 ·
  refine r1 ?_;refine WO.w gN rfl (Qe (YF fh rfl) (evC rfl) (Zg2 Wz)) ?_;refine r2 ?_;refine WC.Zoh lk rfl ?_;rw [Zs6 _ (by decide)] at hL;replace hL:some []=some r:=hL;refine r7 ?_;have hS:=hS.nil (e:=Zc);have hr:=Oi0 hL;subst hr;exact Yk.XF rfl (ZU lk ZE) ⟨_,⟨none,0,0,rfl,rfl⟩,hT ▸ hS.only sl⟩
 ·
  refine r1 ?_;refine WO.w gN rfl (Qe (YF fh rfl) (evC rfl) (Zg3 Wz)) ?_;refine r2 ?_;refine WC.Zem lk rfl ?_;refine r4 ?_;refine WO.hn gN rfl (Q8 (e:=Zc) hS Wz Y3 Za9 rfl rfl rfl ZT rfl [] rfl (xs:= ([]:List ZA)) rfl (by intro q hq;cases hq) rfl) ?_;rintro _ h2 ⟨b1,eb1,rfl,hS⟩;refine r1 ?_;obtain⟨z3,hz3,hL⟩:=qZ hL;refine WO.hv gN rfl (XY (e:=Zc) hS k0 ZqN lk lk (Sl.src (hS.sl ZB)) rfl hz3) ?_;rintro _ h6 ⟨a4,c5,rfl,hS⟩;refine r4 ?_;have hr:=Oi0 hL;subst hr;exact Yk.XF rfl (ZU lk ZE) ⟨_,⟨a4,z3.length,c5,rfl,rfl⟩,hT ▸ hS.only sl⟩
end Go.Proofs.YtbmbbcaaimehkaaGreat
end
end
section
namespace Go.Proofs.YtbmbbcaaimehkaaGreat
open Go.Lf
def ZuK (p0:(List Zr)):Option (List Zr):=
 (app 40 ([]:List Zr) p0).bind fun z3=>some z3
def Zht (p0:Yb) (p1:Int) (p2:Zr):Option Yb:=
 (ZK p0.Za.qK p2.place).bind fun x7=>(app 8 x7 [p2.msg]).bind fun z15=>(ZK p0.Za.qK p2.place).bind fun x19=>(app 40 p0.qX [(Zv.mk 1 p2.place p1 p2.msg p2.hops)]).bind fun z26=>some (Yb.mk (Zb.mk p0.Za.Zx (Yl p0.Za.qK p2.place z15) p0.Za.qQ p0.Za.qJ p0.Za.qG p0.Za.said) z26)
end Go.Proofs.YtbmbbcaaimehkaaGreat
end
section
set_option maxRecDepth 20000
noncomputable section
namespace Go.Proofs.YtbmbbcaaimehkaaGreat
open Go.YR Go.Lf
theorem ZEu {wm h} {p0:(List Zr)} {Zi Zh} {r} (Z0:wm <=h.size) (ZB:Sl Ze wm h Zi Zh p0) (hL:ZuK p0=some r):
 WR XX 102 #[.slice Zi p0.length Zh] wm h (CP (fun(v:Value) (Gb:List (Ast wm))=>∃ Xq Xo Xp,v= .slice Xq Xo Xp∧Gb= [ow wm Ze Xq Xo Xp r]) [] h):=by
 refine bg Tryz.ntmps102 Z0 Yd.nil ?_;intro T hT hS;unfold ZuK at hL;refine r8 ?_;rcases Sl.cases ZB with⟨rfl,rfl,rfl⟩ | ⟨qa,rfl⟩
 ·
  refine r1 ?_;refine WO.w gN rfl (Qe (YF fh rfl) (evC rfl) (Zg2 ZaJ)) ?_;refine r2 ?_;refine WC.Zoh lk rfl ?_;rw [Zs6 _ (by decide)] at hL;replace hL:some []=some r:=hL;refine r7 ?_;have hS:=hS.nil (e:=Ze);have hr:=Oi0 hL;subst hr;exact Yk.XF rfl (ZU lk ZE) ⟨_,⟨none,0,0,rfl,rfl⟩,hT ▸ hS.only sl⟩
 ·
  refine r1 ?_;refine WO.w gN rfl (Qe (YF fh rfl) (evC rfl) (Zg3 ZaJ)) ?_;refine r2 ?_;refine WC.Zem lk rfl ?_;refine r4 ?_;refine WO.hn gN rfl (Q8 (e:=Ze) hS ZaJ Js Zb1 rfl rfl rfl ZT rfl [] rfl (xs:= ([]:List Zr)) rfl (by intro q hq;cases hq) rfl) ?_;rintro _ h2 ⟨b1,eb1,rfl,hS⟩;refine r1 ?_;obtain⟨z3,hz3,hL⟩:=qZ hL;refine WO.hv gN rfl (XY (e:=Ze) hS k0 K8 lk lk (Sl.src (hS.sl ZB)) rfl hz3) ?_;rintro _ h6 ⟨a4,c5,rfl,hS⟩;refine r4 ?_;have hr:=Oi0 hL;subst hr;exact Yk.XF rfl (ZU lk ZE) ⟨_,⟨a4,z3.length,c5,rfl,rfl⟩,hT ▸ hS.only sl⟩
theorem ZuJ {wm h} {p0:Yb} {p1:Int} {p2:Zr} {Zi Zh XA Zm Zl Qu Yr Zk Zj Qt Yw Zo Zn Qs Yq Zq Zp Qr Z7 Z6 Qq YO} {r} (Z0:wm <=h.size) (hO:Yd (wm:=wm) [bx wm YO (cG Zi XA Zh Zm Qu Zl Zk Qt Zj Zo Qs Zn Zq Qr Zp p0.Za.said Z7 Qq Z6),ow wm (Zt .i64) Zi XA Zh p0.Za.Zx,YG wm (ZP (Zt .i64)) Zm Qu Zl Yr p0.Za.qK,YG wm (ZP Zc) Zk Qt Zj Yw p0.Za.qQ,YG wm (ZP Ze) Zo Qs Zn Yq p0.Za.qJ,ow wm Zd Zq Qr Zp p0.Za.qG,ow wm Zy Z7 Qq Z6 p0.qX] h) (hL:Zht p0 p1 p2=some r):
 WR XX 103 #[.pointer (some ⟨YO,0,none⟩),.int .i64 p1,.agg [.int .i64 p2.msg,.int .i64 p2.place,.int .i64 p2.from_,.int .i64 p2.age,.int .i64 p2.hops].toArray] wm h (CP (fun(v:Value) (Gb:List (Ast wm))=>∃ QT Jz QM QS Jy QL JF QR Jw QK JE QO Jv QJ JD QN Ju QI JB Jt JA,v= .tuple [].toArray∧Gb= [bx wm YO (cG QT Jz QM QS Jy QL QR Jw QK QO Jv QJ QN Ju QI r.Za.said JB Jt JA),ow wm (Zt .i64) QT Jz QM r.Za.Zx,YG wm (ZP (Zt .i64)) QS Jy QL JF r.Za.qK,YG wm (ZP Zc) QR Jw QK JE r.Za.qQ,YG wm (ZP Ze) QO Jv QJ JD r.Za.qJ,ow wm Zd QN Ju QI r.Za.qG,ow wm Zy JB Jt JA r.qX]) [bx wm YO (cG Zi XA Zh Zm Qu Zl Zk Qt Zj Zo Qs Zn Zq Qr Zp p0.Za.said Z7 Qq Z6),ow wm (Zt .i64) Zi XA Zh p0.Za.Zx,YG wm (ZP (Zt .i64)) Zm Qu Zl Yr p0.Za.qK,YG wm (ZP Zc) Zk Qt Zj Yw p0.Za.qQ,YG wm (ZP Ze) Zo Qs Zn Yq p0.Za.qJ,ow wm Zd Zq Qr Zp p0.Za.qG,ow wm Zy Z7 Qq Z6 p0.qX] h):=by
 refine bg Tryz.ntmps103 Z0 hO ?_;intro T hT hS;unfold Zht at hL;obtain rfl:=hS.on k1;obtain rfl:=hS.YP k2;obtain rfl:=hS.YP k3;obtain rfl:=hS.YP k4;obtain rfl:=hS.on k5;obtain rfl:=hS.on k6;refine r3 ?_;rintro _ h2 ⟨b1,eb1,rfl,hS⟩;refine r3 ?_;refine WC.YD mixed Kq0 ?_;refine r4 ?_;refine WX.wr (fun x=>x=YO) hS gN rfl (fun _ _ hR=>Y4 Zky (YF fh rfl) (At.eqv (hR YO rfl) (hS.KC k1)) (j:=1) rfl (v:= .slice Zm p0.Za.qK.length Zl) rfl) ?_ rfl rfl;rintro h3 e4 hS;refine r1 ?_;refine WX.wr (fun x=>x=b1) hS gN rfl (fun _ _ hR=>Y4 WT (YF fh rfl) (At.eqv (hR b1 rfl) (hS.KC k0)) (j:=1) rfl (v:= .int .i64 p2.place) rfl) ?_ rfl rfl;rintro h5 e6 hS;refine r7 ?_;obtain⟨x7,hx7,hL⟩:=qZ hL;obtain⟨b8,o9,a10,n11,c12,ZTD,ZDW,ZPt⟩:=hS.atS k3 hx7;refine r4 ?_;refine WX.hn gN rfl (Q8 (e:= (Zt .i64)) hS XP XE Kb rfl rfl rfl (Zu lk ZT) rfl [((),p2.msg)] rfl (xs:= [p2.msg]) rfl (by intro q hq;simp only [List.mem_cons,List.not_mem_nil,or_false] at hq;subst hq;exact trivial) rfl) ?_ rfl;rintro _ h14 ⟨b13,Z4P,rfl,hS⟩;obtain⟨z15,ZHY,hL⟩:=qZ hL;have hS:=hS.Kc k4 hx7 ZTD;refine WX.hv gN rfl (XY (e:= (Zt .i64)) hS k1 Xk lk lk (hS.Xj k2) (hS.on k2) ZHY) ?_ rfl rfl [4,6] Kq0 (.c (.s (.s .z)) (hS.dj (.c k1 (.c k3 .n))) (.c (.s .z) (hS.dj (.c k1 (.c k2 .n))) Yg.e));rintro _ h18 ⟨a16,c17,rfl,hS⟩;obtain⟨x19,ZmX,hL⟩:=qZ hL;refine WX.w gN rfl (Yn Zg4 Uf lk lk rfl ZDW ZmX) ?_ Kq0;refine WX.hu gN (ZdM hS k1 Uf (YF fh rfl) (YF (ZC rfl fh) rfl) ZDW hx7 (j:=0) rfl (vs:= [.slice a16 z15.length c17]) rfl rfl rfl rfl rfl (cs':= [.slice a16 z15.length c17]) rfl rfl rfl) ?_ rfl Kq0 [] Kq0 Yg.e;rintro h21 hS;obtain⟨ZSF,Z2E,hS⟩:=hS.Kj (.c k0 (.c k0 .n)) hx7;refine r2 ?_;refine WC.YD mixed Kq0 ?_;refine WG ?_;refine WX.w gN rfl (YS ZhA (Zu lk (Zu lk (Zu lk (Zu lk (Zu lk ZT))))) rfl (cs':= [.int .i64 1,.int .i64 p2.place,.int .i64 p1,.int .i64 p2.msg,.int .i64 p2.hops]) rfl) ?_ rfl;refine WX.hn gN rfl (Q8 (e:=Zy) hS ZeK KM Zaq rfl rfl rfl (Zu lk ZT) rfl [((),(Zv.mk 1 p2.place p1 p2.msg p2.hops))] rfl (xs:= [(Zv.mk 1 p2.place p1 p2.msg p2.hops)]) rfl (by intro q hq;simp only [List.mem_cons,List.not_mem_nil,or_false] at hq;subst hq;exact trivial) rfl) ?_ rfl;rintro _ h25 ⟨b24,ZQe,rfl,hS⟩;obtain⟨z26,ZS5,hL⟩:=qZ hL;refine WX.hv gN rfl (XY (e:=Zy) hS k9 Za3 lk lk (hS.Xj k0) (hS.on k0) ZS5) ?_ rfl rfl [] Kq0 Yg.e;rintro _ h29 ⟨a27,c28,rfl,hS⟩;refine WX.w gN rfl (Ka lk) ?_ Kq0;refine WX.w gN rfl (Qd Zfg lk) ?_ Kq0;refine WX.hu gN (Ug hS k5 Zmv lk lk (vs:= [.slice a27 z26.length c28]) rfl rfl rfl rfl (cs':= (cG Zi p0.Za.Zx.length Zh Zm p0.Za.qK.length Zl Zk p0.Za.qQ.length Zj Zo p0.Za.qJ.length Zn Zq p0.Za.qG.length Zp p0.Za.said a27 z26.length c28)) rfl) ?_ rfl Kq0 [] Kq0 Yg.e;rintro h30 hS;refine r1 ?_;refine Yk.YU ?_;have hr:=Oi0 hL;subst hr;exact Yk.gen (vs:= []) rfl ZE rfl ⟨_,⟨Zi,p0.Za.Zx.length,Zh,Zm,p0.Za.qK.length,Zl,ZSF,Zk,p0.Za.qQ.length,Zj,Yw,Zo,p0.Za.qJ.length,Zn,Yq,Zq,p0.Za.qG.length,Zp,a27,z26.length,c28,rfl,rfl⟩,hT ▸ hS.only sl⟩
end Go.Proofs.YtbmbbcaaimehkaaGreat
end
end
section
namespace Go.Proofs.YtbmbbcaaimehkaaGreat
open Go.Lf
def Zn0 (p0:Zb) (p1:Zb) (v30:Int) (ZmH:(Int ->Option Bool)) (x43:(List ZA)):Int ->(Int ->Option Bool) ->Option Bool:=fun v56 ZiV=>
 (bif decide (v56 < (x43.length:Int)) then(ZK p0.qQ v30).bind fun x59=>(ZK x59 v56).bind fun x64=>(ZK p1.qQ v30).bind fun x67=>(ZK x67 v56).bind fun x72=>(bif(!(Qx x64 x72)) then some false else ZiV (Y2 (v56 + 1))) else ZmH (Y2 (v30 + 1)))
def ZnZ (p0:Zb) (p1:Zb) (v80:Int) (KU:(Int ->Option Bool)) (x93:(List Zr)):Int ->(Int ->Option Bool) ->Option Bool:=fun ZhG ZtT=>
 (bif decide (ZhG < (x93.length:Int)) then(ZK p0.qJ v80).bind fun ZhE=>(ZK ZhE ZhG).bind fun x114=>(ZK p1.qJ v80).bind fun ZeE=>(ZK ZeE ZhG).bind fun Zmj=>(bif(!(Xt x114 Zmj)) then some false else ZtT (Y2 (ZhG + 1))) else KU (Y2 (v80 + 1)))
def Zj8 (F:Nat) (p0:Zb) (p1:Zb):Int ->(Int ->Option Bool) ->Option Bool:=fun v130 ZtO=>
 (bif decide (v130 < (p0.qG.length:Int)) then(ZK p0.qG v130).bind fun Jp=>(ZK p1.qG v130).bind fun U2=>(gd (!(((Jp.kind !=U2.kind) || (Jp.ZX !=U2.ZX)) || (!(Xt Jp.ZV U2.ZV)))) (ZnV F Jp.qV U2.qV) default).bind fun x153=>(gd (!((((Jp.kind !=U2.kind) || (Jp.ZX !=U2.ZX)) || (!(Xt Jp.ZV U2.ZV))) || (!x153))) (ZnV F Jp.Yc U2.Yc) default).bind fun Zmh=>(bif((((((((Jp.kind !=U2.kind) || (Jp.ZX !=U2.ZX)) || (!(Xt Jp.ZV U2.ZV))) || (!x153)) || (!Zmh)) || (Jp.place !=U2.place)) || (Jp.at_ !=U2.at_)) || (Jp.age !=U2.age)) then some false else ZtO (Y2 (v130 + 1))) else some true)
def Zj9 (F:Nat) (p0:Zb) (p1:Zb):Int ->(Int ->Option Bool) ->Option Bool:=fun v80 KU=>
 (bif decide (v80 < (p0.qJ.length:Int)) then(ZK p0.qJ v80).bind fun x83=>(ZK p1.qJ v80).bind fun x88=>(bif((x83.length:Int) != (x88.length:Int)) then some false else(ZK p0.qJ v80).bind fun x93=>loop F (ZnZ p0 p1 v80 KU x93) 0) else loop F (Zj8 F p0 p1) 0)
def Zka (F:Nat) (p0:Zb) (p1:Zb):Int ->(Int ->Option Bool) ->Option Bool:=fun v30 ZmH=>
 (bif decide (v30 < (p0.qQ.length:Int)) then(ZK p0.qQ v30).bind fun x33=>(ZK p1.qQ v30).bind fun x38=>(bif((x33.length:Int) != (x38.length:Int)) then some false else(ZK p0.qQ v30).bind fun x43=>loop F (Zn0 p0 p1 v30 ZmH x43) 0) else loop F (Zj9 F p0 p1) 0)
def Zn1 (F:Nat) (p0:Zb) (p1:Zb):Int ->(Int ->Option Bool) ->Option Bool:=fun v11 Qa=>
 (bif decide (v11 < (p0.qK.length:Int)) then(ZK p0.qK v11).bind fun x14=>(ZK p1.qK v11).bind fun x19=>(ZnV F x14 x19).bind fun x24=>(bif(!x24) then some false else Qa (Y2 (v11 + 1))) else loop F (Zka F p0 p1) 0)
def ZsG (F:Nat) (p0:Zb) (p1:Zb):Option Bool:=
 (ZnV F p0.Zx p1.Zx).bind fun x5=>(bif((((((!x5) || ((p0.qK.length:Int) != (p1.qK.length:Int))) || ((p0.qQ.length:Int) != (p1.qQ.length:Int))) || ((p0.qJ.length:Int) != (p1.qJ.length:Int))) || ((p0.qG.length:Int) != (p1.qG.length:Int))) || (p0.said !=p1.said)) then some false else loop F (Zn1 F p0 p1) 0)
def Zwf (p0:Zb) (p1:ZH):Option Bool:=
 (bif(p1.act==1) then(ZhO p1.a (p0.qQ.length:Int)).bind fun x5=>(gd x5 (ZhO p1.b (p0.Zx.length:Int)) default).bind fun x6=>some (x5 && x6) else(bif(p1.act==2) then(ZhO p1.a (p0.Zx.length:Int)).bind fun x7=>(gd x7 (ZhO p1.b (p0.qQ.length:Int)) default).bind fun x8=>some (x7 && x8) else(bif(p1.act==3) then(ZhO p1.a (p0.Zx.length:Int)).bind fun x9=>(gd x9 (ZhO p1.b (p0.Zx.length:Int)) default).bind fun x10=>some (x9 && x10) else(bif(p1.act==4) then(ZhO p1.a (p0.Zx.length:Int)).bind fun Ye=>some Ye else(bif(p1.act==5) then some ((decide (p1.a >=0)) && (decide (p1.a < (p0.qG.length:Int)))) else some false)))))
end Go.Proofs.YtbmbbcaaimehkaaGreat
end
section
set_option maxRecDepth 20000
noncomputable section
namespace Go.Proofs.YtbmbbcaaimehkaaGreat
open Go.YR Go.Lf
theorem ZKD {F wm h} {p0 p1:Zb} {Zi Zh Zm Zl Zk Zj Zo Zn Zq Zp XK XJ KR KQ ZcA Zcw Zcz Zcv Zcy Zcu} {r} (Z0:wm <=h.size) (ZB:Sl (Zt .i64) wm h Zi Zh p0.Zx) (ZM:Sl (ZN (Zt .i64)) wm h Zm Zl p0.qK) (ZF:Sl (ZN Zc) wm h Zk Zj p0.qQ) (ZL:Sl (ZN Ze) wm h Zo Zn p0.qJ) (ZI:Sl Zd wm h Zq Zp p0.qG) (JY:Sl (Zt .i64) wm h XK XJ p1.Zx) (Zm1:Sl (ZN (Zt .i64)) wm h KR KQ p1.qK) (Zm0:Sl (ZN Zc) wm h ZcA Zcw p1.qQ) (ZmZ:Sl (ZN Ze) wm h Zcz Zcv p1.qJ) (Zr3:Sl Zd wm h Zcy Zcu p1.qG) (hL:ZsG F p0 p1=some r):
 WR XX 18 #[.agg [.slice Zi p0.Zx.length Zh,.slice Zm p0.qK.length Zl,.slice Zk p0.qQ.length Zj,.slice Zo p0.qJ.length Zn,.slice Zq p0.qG.length Zp,.int .i64 p0.said].toArray,.agg [.slice XK p1.Zx.length XJ,.slice KR p1.qK.length KQ,.slice ZcA p1.qQ.length Zcw,.slice Zcz p1.qJ.length Zcv,.slice Zcy p1.qG.length Zcu,.int .i64 p1.said].toArray] wm h (CP (fun(v:Value) (Gb:List (Ast wm))=>v= .bool r∧Gb= []) [] h):=by
 refine bg Tryz.ntmps18 Z0 Yd.nil ?_;intro T hT hS;unfold ZsG at hL;refine r3 ?_;rintro _ h2 ⟨b1,eb1,rfl,hS⟩;refine r1 ?_;rintro _ h4 ⟨b3,eb3,rfl,hS⟩;refine r10 ?_;obtain⟨x5,hx5,hL⟩:=qZ hL;refine WO.cp gN rfl (Y9.fn Zum (Zf lk (Zf lk Zz))) (ZnT (hS.Y1 ZB) (hS.Y1 JY) hx5) ?_;refine r16 ?_;refine r16 ?_;refine r14 ?_;refine cn hL ?_ ?_
 ·intro hc hL;refine r7 ?_;exact rt hL hT hS
 ·intro hc hL;refine WG ?_;refine WC.loop (WL.lift hL (fun v11 s=>∃ fr7 h6,s= ⟨fr7,[],h6,none⟩∧Sp wm T h [bx wm b1 (cW p0 Zi Zh Zm Zl Zk Zj Zo Zn Zq Zp),bx wm b3 (cW p1 XK XJ KR KQ ZcA Zcw Zcz Zcv Zcy Zcu)] h6∧fr7.at 2= .pointer (some ⟨b1,0,none⟩)∧fr7.at 3= .pointer (some ⟨b3,0,none⟩)∧fr7.at 64= .int .i64 (p0.qK.length:Int)∧fr7.at 65= .int .i64 v11) ⟨_,_,rfl,hS.only sl,Yv⟩ ?_);clear hL hS;rintro Qa v11 s UD hL ⟨fr7,h6,rfl,hS,e8,e9,e10,e12⟩;dsimp only [Zn1] at hL;refine r6 ?_;refine cn hL ?_ ?_
  ·intro hc hL;refine JC ?_;refine WC.YD mixed Kq0 ?_;refine r3 ?_;obtain⟨x14,ZmY,hL⟩:=qZ hL;obtain⟨b15,o16,⟨a17,c18⟩,Zup,ZuB,Zuw,Zfc⟩:=Sl.at_ ZM ZmY;refine r1 ?_;have Zfb:Sl (Zt .i64) wm h a17 c18 x14:=Zfc;refine r4 ?_;obtain⟨x19,ZmX,hL⟩:=qZ hL;obtain⟨b20,o21,⟨a22,c23⟩,ZYL,ZZF,ZZo,ZO6⟩:=Sl.at_ Zm1 ZmX;refine r1 ?_;have Zue:Sl (Zt .i64) wm h a22 c23 x19:=ZO6;refine r1 ?_;obtain⟨x24,hx24,hL⟩:=qZ hL;refine WX.cp gN rfl (Y9.fn Zum (Zf lk (Zf lk Zz))) (ZnT (hS.Y1 Zfb) (hS.Y1 Zue) hx24) ?_ rfl rfl;refine r3 ?_;refine cn hL ?_ ?_
   ·intro hc hL;refine JC ?_;exact rt hL hT hS
   ·intro hc hL;refine r7 ?_;exact Ya.YU (UD _ _ hL ⟨_,_,rfl,hS.only sl,Yv⟩)
  ·intro hc hL;refine r15 ?_;refine WC.loop (WL.lift hL (fun v30 s=>∃ WY h25,s= ⟨WY,[],h25,none⟩∧Sp wm T h [bx wm b1 (cW p0 Zi Zh Zm Zl Zk Zj Zo Zn Zq Zp),bx wm b3 (cW p1 XK XJ KR KQ ZcA Zcw Zcz Zcv Zcy Zcu)] h25∧WY.at 2= .pointer (some ⟨b1,0,none⟩)∧WY.at 3= .pointer (some ⟨b3,0,none⟩)∧WY.at 83= .int .i64 (p0.qQ.length:Int)∧WY.at 84= .int .i64 v30) ⟨_,_,rfl,hS.only sl,Yv⟩ ?_);clear hL hS;rintro ZmH v30 s ZDK hL ⟨WY,h25,rfl,hS,e27,e28,e29,e31⟩;dsimp only [Zka] at hL;refine r6 ?_;refine cn hL ?_ ?_
   ·intro hc hL;refine WG ?_;refine WC.YD mixed Kq0 ?_;refine r3 ?_;obtain⟨x33,ZyS,hL⟩:=qZ hL;obtain⟨b34,o35,⟨a36,c37⟩,ZYF,ZZz,ZZi,ZO2⟩:=Sl.at_ ZF ZyS;refine r1 ?_;have ZX6:Sl Zc wm h a36 c37 x33:=ZO2;refine r5 ?_;obtain⟨x38,hx38,hL⟩:=qZ hL;obtain⟨b39,o40,⟨a41,c42⟩,ZOG,ZPF,ZPo,ZAa⟩:=Sl.at_ Zm0 hx38;refine r1 ?_;have ZFV:Sl Zc wm h a41 c42 x38:=ZAa;refine r5 ?_;refine cn hL ?_ ?_
    ·intro hc hL;refine WG ?_;exact rt hL hT hS
    ·intro hc hL;refine r7 ?_;obtain⟨x43,ZpK,hL⟩:=qZ hL;obtain⟨b44,o45,⟨a46,c47⟩,Zuo,Zp3,ZAh,ZlW⟩:=Sl.at_ ZF ZpK;refine r1 ?_;have ZFU:Sl Zc wm h a46 c47 x43:=ZlW;refine r6 ?_;refine WC.loop (WL.lift hL (fun v56 s=>∃ Zno h48,s= ⟨Zno,[],h48,none⟩∧Sp wm T h [bx wm b1 (cW p0 Zi Zh Zm Zl Zk Zj Zo Zn Zq Zp),bx wm b3 (cW p1 XK XJ KR KQ ZcA Zcw Zcz Zcv Zcy Zcu)] h48∧Zno.at 2= .pointer (some ⟨b1,0,none⟩)∧Zno.at 3= .pointer (some ⟨b3,0,none⟩)∧Zno.at 6= .int .i64 v30∧Zno.at 83= .int .i64 (p0.qQ.length:Int)∧Zno.at 84= .int .i64 v30∧Zno.at 105= .int .i64 (x43.length:Int)∧Zno.at 106= .int .i64 v56) ⟨_,_,rfl,hS.only sl,Yv⟩ ?_);clear hL hS;rintro ZiV v56 s Zm9 hL ⟨Zno,h48,rfl,hS,e50,e51,e52,e53,e54,e55,e57⟩;dsimp only [Zn0] at hL;refine r6 ?_;refine cn hL ?_ ?_
     ·intro hc hL;refine JC ?_;refine WC.YD mixed Kq0 ?_;refine r3 ?_;obtain⟨x59,ZyM,hL⟩:=qZ hL;obtain⟨b60,o61,⟨a62,c63⟩,ZOA,ZGv,ZGn,ZGh⟩:=Sl.at_ ZF ZyM;refine r1 ?_;have ZNA:Sl Zc wm h a62 c63 x59:=ZGh;refine r2 ?_;obtain⟨x64,ZpI,hL⟩:=qZ hL;obtain⟨b65,o66,_,ZGb,ZGu,ZPf,ZYV⟩:=Sl.at_ ZNA ZpI;refine r1 ?_;refine WX.w gN rfl (YK ZbO Y3 (YF fh rfl) (At.fz hS.fz ZPf ZGu) (j:=0) rfl rfl (ws:= (cE x64)) rfl) ?_ rfl;refine r3 ?_;obtain⟨x67,ZrX,hL⟩:=qZ hL;obtain⟨b68,o69,⟨a70,c71⟩,Zun,ZAm,ZPe,Zus⟩:=Sl.at_ Zm0 ZrX;refine r1 ?_;have Zzb:Sl Zc wm h a70 c71 x67:=Zus;refine r2 ?_;obtain⟨x72,ZTg,hL⟩:=qZ hL;obtain⟨b73,o74,_,ZYB,ZPv,ZPd,ZYU⟩:=Sl.at_ Zzb ZTg;refine r1 ?_;refine WX.w gN rfl (YK ZbO Y3 (YF fh rfl) (At.fz hS.fz ZPd ZPv) (j:=0) rfl rfl (ws:= (cE x72)) rfl) ?_ rfl;refine WX.w gN rfl (Qe (YF (Xa rfl fh) rfl) (YF fh rfl) (Za4 (xs:= [.bool x64.here,.int .i64 x64.ZX,.int .i64 x64.age]) (ys:= [.bool x72.here,.int .i64 x72.ZX,.int .i64 x72.age]) (ZGI x64 x72) rfl rfl)) ?_ rfl;refine r2 ?_;refine cn hL ?_ ?_
      ·intro hc hL;refine r15 ?_;exact rt hL hT hS
      ·intro hc hL;refine r7 ?_;exact Ya.YU (Zm9 _ _ hL ⟨_,_,rfl,hS.only sl,Yv⟩)
     ·intro hc hL;refine r10 ?_;exact Ya.YU (ZDK _ _ hL ⟨_,_,rfl,hS.only sl,Yv⟩)
   ·intro hc hL;refine r15 ?_;refine WC.loop (WL.lift hL (fun v80 s=>∃ Zv3 h75,s= ⟨Zv3,[],h75,none⟩∧Sp wm T h [bx wm b1 (cW p0 Zi Zh Zm Zl Zk Zj Zo Zn Zq Zp),bx wm b3 (cW p1 XK XJ KR KQ ZcA Zcw Zcz Zcv Zcy Zcu)] h75∧Zv3.at 2= .pointer (some ⟨b1,0,none⟩)∧Zv3.at 3= .pointer (some ⟨b3,0,none⟩)∧Zv3.at 130= .int .i64 (p0.qJ.length:Int)∧Zv3.at 131= .int .i64 v80) ⟨_,_,rfl,hS.only sl,Yv⟩ ?_);clear hL hS;rintro KU v80 s Zm7 hL ⟨Zv3,h75,rfl,hS,e77,e78,e79,e81⟩;dsimp only [Zj9] at hL;refine r6 ?_;refine cn hL ?_ ?_
    ·intro hc hL;refine WG ?_;refine WC.YD mixed Kq0 ?_;refine r3 ?_;obtain⟨x83,ZTc,hL⟩:=qZ hL;obtain⟨b84,o85,⟨a86,c87⟩,ZYx,ZZu,ZZb,ZOS⟩:=Sl.at_ ZL ZTc;refine r1 ?_;have ZX3:Sl Ze wm h a86 c87 x83:=ZOS;refine r5 ?_;obtain⟨x88,ZH1,hL⟩:=qZ hL;obtain⟨b89,o90,⟨a91,c92⟩,ZOu,ZGr,ZGl,Zur⟩:=Sl.at_ ZmZ ZH1;refine r1 ?_;have Zud:Sl Ze wm h a91 c92 x88:=Zur;refine r5 ?_;refine cn hL ?_ ?_
     ·intro hc hL;refine WG ?_;exact rt hL hT hS
     ·intro hc hL;refine r7 ?_;obtain⟨x93,hx93,hL⟩:=qZ hL;obtain⟨b94,o95,⟨a96,c97⟩,ZGa,Zuy,Zuv,Zjj⟩:=Sl.at_ ZL hx93;refine r1 ?_;have ZFT:Sl Ze wm h a96 c97 x93:=Zjj;refine r6 ?_;refine WC.loop (WL.lift hL (fun ZhG s=>∃ Znl h98,s= ⟨Znl,[],h98,none⟩∧Sp wm T h [bx wm b1 (cW p0 Zi Zh Zm Zl Zk Zj Zo Zn Zq Zp),bx wm b3 (cW p1 XK XJ KR KQ ZcA Zcw Zcz Zcv Zcy Zcu)] h98∧Znl.at 2= .pointer (some ⟨b1,0,none⟩)∧Znl.at 3= .pointer (some ⟨b3,0,none⟩)∧Znl.at 8= .int .i64 v80∧Znl.at 130= .int .i64 (p0.qJ.length:Int)∧Znl.at 131= .int .i64 v80∧Znl.at 152= .int .i64 (x93.length:Int)∧Znl.at 153= .int .i64 ZhG) ⟨_,_,rfl,hS.only sl,Yv⟩ ?_);clear hL hS;rintro ZtT ZhG s Zzx hL ⟨Znl,h98,rfl,hS,e100,ZKO,ZKN,ZKM,ZQm,ZKL,ZQl⟩;dsimp only [ZnZ] at hL;refine r6 ?_;refine cn hL ?_ ?_
      ·intro hc hL;refine JC ?_;refine WC.YD mixed Kq0 ?_;refine r3 ?_;obtain⟨ZhE,Zy4,hL⟩:=qZ hL;obtain⟨b110,o111,⟨ZXr,ZWE⟩,ZUd,ZVh,ZUU,ZI2⟩:=Sl.at_ ZL Zy4;refine r1 ?_;have ZIf:Sl Ze wm h ZXr ZWE ZhE:=ZI2;refine r2 ?_;obtain⟨x114,hx114,hL⟩:=qZ hL;obtain⟨Z6Y,Z2k,_,ZUb,ZJE,ZJf,ZUK⟩:=Sl.at_ ZIf hx114;refine r1 ?_;refine WX.w gN rfl (YK Zfz Js (YF fh rfl) (At.fz hS.fz ZJf ZJE) (j:=0) rfl rfl (ws:= (cM x114)) rfl) ?_ rfl;refine r3 ?_;obtain⟨ZeE,Zy3,hL⟩:=qZ hL;obtain⟨ZQ1,ZSP,⟨ZXq,ZWD⟩,ZIY,ZJC,ZJd,ZAe⟩:=Sl.at_ ZmZ Zy3;refine r1 ?_;have ZIe:Sl Ze wm h ZXq ZWD ZeE:=ZAe;refine r2 ?_;obtain⟨Zmj,ZNq,hL⟩:=qZ hL;obtain⟨Z6T,Z2g,_,ZT9,ZJA,ZJa,ZUG⟩:=Sl.at_ ZIe ZNq;refine r1 ?_;refine WX.w gN rfl (YK Zfz Js (YF fh rfl) (At.fz hS.fz ZJa ZJA) (j:=0) rfl rfl (ws:= (cM Zmj)) rfl) ?_ rfl;refine WX.w gN rfl (Qe (YF (Xa rfl fh) rfl) (YF fh rfl) (Za4 (xs:= [.int .i64 x114.msg,.int .i64 x114.place,.int .i64 x114.from_,.int .i64 x114.age,.int .i64 x114.hops]) (ys:= [.int .i64 Zmj.msg,.int .i64 Zmj.place,.int .i64 Zmj.from_,.int .i64 Zmj.age,.int .i64 Zmj.hops]) (ZuQ x114 Zmj) rfl rfl)) ?_ rfl;refine r2 ?_;refine cn hL ?_ ?_
       ·intro hc hL;refine r15 ?_;exact rt hL hT hS
       ·intro hc hL;refine r7 ?_;exact Ya.YU (Zzx _ _ hL ⟨_,_,rfl,hS.only sl,Yv⟩)
      ·intro hc hL;refine r10 ?_;exact Ya.YU (Zm7 _ _ hL ⟨_,_,rfl,hS.only sl,Yv⟩)
    ·intro hc hL;refine r15 ?_;refine WC.loop (WL.lift hL (fun v130 s=>∃ Zl0 ZAB,s= ⟨Zl0,[],ZAB,none⟩∧Sp wm T h [bx wm b3 (cW p1 XK XJ KR KQ ZcA Zcw Zcz Zcv Zcy Zcu)] ZAB∧Zl0.at 3= .pointer (some ⟨b3,0,none⟩)∧Zl0.at 176= .slice Zq p0.qG.length Zp∧Zl0.at 177= .int .i64 (p0.qG.length:Int)∧Zl0.at 178= .int .i64 v130) ⟨_,_,rfl,hS.only sl,Yv⟩ ?_);clear hL hS;rintro ZtO v130 s Zzq hL ⟨Zl0,ZAB,rfl,hS,e127,e128,e129,Z5t⟩;dsimp only [Zj8] at hL;refine r6 ?_;refine cn hL ?_ ?_
     ·intro hc hL;refine r7 ?_;obtain⟨Jp,Zhn,hL⟩:=qZ hL;obtain⟨ZWX,ZSM,⟨⟨ZFc,ZQI⟩,⟨a138,c139⟩⟩,Zz6,ZAu,ZI6,ZAb⟩:=Sl.at_ ZI Zhn;refine r1 ?_;have ZIb:Sl (Zt .i64) wm h ZFc ZQI Jp.qV:=ZAb.1;have ZIa:Sl (Zt .i64) wm h a138 c139 Jp.Yc:=ZAb.2;refine WO.w gN rfl (YK WS Xf (YF fh rfl) (At.fz hS.fz ZI6 ZAu) (j:=0) rfl rfl (ws:= (cL Jp ZFc ZQI a138 c139)) rfl) ?_;refine r1 ?_;rintro _ ZPZ ⟨ZWW,ZQg,rfl,hS⟩;refine r2 ?_;rintro ZAz hS;refine r7 ?_;obtain⟨U2,Zua,hL⟩:=qZ hL;obtain⟨ZWV,ZSL,⟨⟨a146,ZQH⟩,⟨a148,ZBG⟩⟩,Zz5,ZAt,ZI5,Zsd⟩:=Sl.at_ Zr3 Zua;refine r1 ?_;have ZH9:Sl (Zt .i64) wm h a146 ZQH U2.qV:=Zsd.1;have Zzd:Sl (Zt .i64) wm h a148 ZBG U2.Yc:=Zsd.2;refine WO.w gN rfl (YK WS Xf (YF fh rfl) (At.fz hS.fz ZI5 ZAt) (j:=0) rfl rfl (ws:= (cL U2 a146 ZQH a148 ZBG)) rfl) ?_;refine r1 ?_;rintro _ Z32 ⟨Z6N,Z0s,rfl,hS⟩;refine r1 ?_;rintro Z31 hS;refine r16 ?_;refine r5 ?_;refine WO.gv (Zw.no rfl rfl rfl (Y5 rfl fh)) rfl (fun hg=>(Qe (YQ (YC rfl fh) rfl hg) (YQ fh rfl hg) (Za4 (xs:= [.int .i64 Jp.ZV.msg,.int .i64 Jp.ZV.place,.int .i64 Jp.ZV.from_,.int .i64 Jp.ZV.age,.int .i64 Jp.ZV.hops]) (ys:= [.int .i64 U2.ZV.msg,.int .i64 U2.ZV.place,.int .i64 U2.ZV.from_,.int .i64 U2.ZV.age,.int .i64 U2.ZV.hops]) (ZuQ Jp.ZV U2.ZV) rfl rfl))) ?_;refine r6 ?_;obtain⟨x153,hx153,hL⟩:=Yi hL;refine WO.gcp (Zw.no rfl rfl rfl (Y5 rfl fh)) rfl (fun hg=>(Y9.fn Zum (Zf (YQ (YC rfl fh) rfl hg) (Zf (YQ fh rfl hg) Zz)))) (fun hg=>ZnT (hS.Y1 ZIb) (hS.Y1 ZH9) (hx153 hg)) ?_;refine r7 ?_;obtain⟨Zmh,ZyZ,hL⟩:=Yi hL;refine WO.gcp (Zw.no rfl rfl rfl (Y5 rfl fh)) rfl (fun hg=>(Y9.fn Zum (Zf (YQ (YC rfl fh) rfl hg) (Zf (YQ fh rfl hg) Zz)))) (fun hg=>ZnT (hS.Y1 ZIa) (hS.Y1 Zzd) (ZyZ hg)) ?_;refine r16 ?_;refine r9 ?_;refine cn hL ?_ ?_
      ·intro hc hL;refine JC ?_;exact rt hL hT hS
      ·intro hc hL;refine r7 ?_;exact Ya.YU (Zzq _ _ hL ⟨_,_,rfl,hS.only sl,Yv⟩)
     ·intro hc hL;refine JC ?_;exact rt hL hT hS
theorem ZBn {F h} {p0 p1:Zb} {Zi Zh Zm Zl Zk Zj Zo Zn Zq Zp XK XJ KR KQ ZcA Zcw Zcz Zcv Zcy Zcu} {r} (ZB:Sl (Zt .i64) h.size h Zi Zh p0.Zx) (ZM:Sl (ZN (Zt .i64)) h.size h Zm Zl p0.qK) (ZF:Sl (ZN Zc) h.size h Zk Zj p0.qQ) (ZL:Sl (ZN Ze) h.size h Zo Zn p0.qJ) (ZI:Sl Zd h.size h Zq Zp p0.qG) (JY:Sl (Zt .i64) h.size h XK XJ p1.Zx) (Zm1:Sl (ZN (Zt .i64)) h.size h KR KQ p1.qK) (Zm0:Sl (ZN Zc) h.size h ZcA Zcw p1.qQ) (ZmZ:Sl (ZN Ze) h.size h Zcz Zcv p1.qJ) (Zr3:Sl Zd h.size h Zcy Zcu p1.qG) (hL:ZsG F p0 p1=some r):Pure XX 18 #[.agg [.slice Zi p0.Zx.length Zh,.slice Zm p0.qK.length Zl,.slice Zk p0.qQ.length Zj,.slice Zo p0.qJ.length Zn,.slice Zq p0.qG.length Zp,.int .i64 p0.said].toArray,.agg [.slice XK p1.Zx.length XJ,.slice KR p1.qK.length KQ,.slice ZcA p1.qQ.length Zcw,.slice Zcz p1.qJ.length Zcv,.slice Zcy p1.qG.length Zcu,.int .i64 p1.said].toArray] h (.bool r):=
 WR.X9 rfl (ZKD (Nat.le_refl _) ZB ZM ZF ZL ZI JY Zm1 Zm0 ZmZ Zr3 hL)
theorem ZKy {wm h} {p0:Zb} {p1:ZH} {Zi Zh Zm Zl Zk Zj Zo Zn Zq Zp} {r} (Z0:wm <=h.size) (ZB:Sl (Zt .i64) wm h Zi Zh p0.Zx) (ZM:Sl (ZN (Zt .i64)) wm h Zm Zl p0.qK) (ZF:Sl (ZN Zc) wm h Zk Zj p0.qQ) (ZL:Sl (ZN Ze) wm h Zo Zn p0.qJ) (ZI:Sl Zd wm h Zq Zp p0.qG) (hL:Zwf p0 p1=some r):
 WR XX 22 #[.agg [.slice Zi p0.Zx.length Zh,.slice Zm p0.qK.length Zl,.slice Zk p0.qQ.length Zj,.slice Zo p0.qJ.length Zn,.slice Zq p0.qG.length Zp,.int .i64 p0.said].toArray,.agg [.int .i64 p1.act,.int .i64 p1.a,.int .i64 p1.b].toArray] wm h (CP (fun(v:Value) (Gb:List (Ast wm))=>v= .bool r∧Gb= []) [] h):=by
 refine bg Tryz.ntmps22 Z0 Yd.nil ?_;intro T hT hS;unfold Zwf at hL;refine r3 ?_;rintro _ h2 ⟨b1,eb1,rfl,hS⟩;refine r1 ?_;rintro _ h4 ⟨b3,eb3,rfl,hS⟩;refine r16 ?_;refine r1 ?_;refine cn hL ?_ ?_
 ·intro hc hL;refine r7 ?_;obtain⟨x5,hx5,hL⟩:=qZ hL;refine WO.cp gN rfl (Y9.fn Zjh (Zf lk (Zf lk Zz))) (Zeg hx5) ?_;refine r6 ?_;obtain⟨x6,hx6,hL⟩:=Yi hL;refine WO.gcp (Zw.yes rfl rfl rfl (Y5 rfl (ZC rfl fh))) rfl (fun hg=>(Y9.fn Zjh (Zf (YQ (YC rfl (ZC rfl fh)) rfl hg) (Zf (YQ fh rfl hg) Zz)))) (fun hg=>Zeg (hx6 hg)) ?_;refine r7 ?_;exact rt hL hT hS
 ·intro hc hL;refine r6 ?_;refine cn hL ?_ ?_
  ·intro hc hL;refine r7 ?_;obtain⟨x7,hx7,hL⟩:=qZ hL;refine WO.cp gN rfl (Y9.fn Zjh (Zf lk (Zf lk Zz))) (Zeg hx7) ?_;refine r6 ?_;obtain⟨x8,hx8,hL⟩:=Yi hL;refine WO.gcp (Zw.yes rfl rfl rfl (Y5 rfl (ZC rfl fh))) rfl (fun hg=>(Y9.fn Zjh (Zf (YQ (YC rfl (ZC rfl fh)) rfl hg) (Zf (YQ fh rfl hg) Zz)))) (fun hg=>Zeg (hx8 hg)) ?_;refine r7 ?_;exact rt hL hT hS
  ·intro hc hL;refine r6 ?_;refine cn hL ?_ ?_
   ·intro hc hL;refine r7 ?_;obtain⟨x9,hx9,hL⟩:=qZ hL;refine WO.cp gN rfl (Y9.fn Zjh (Zf lk (Zf lk Zz))) (Zeg hx9) ?_;refine r6 ?_;obtain⟨x10,Zy6,hL⟩:=Yi hL;refine WO.gcp (Zw.yes rfl rfl rfl (Y5 rfl (ZC rfl fh))) rfl (fun hg=>(Y9.fn Zjh (Zf (YQ (YC rfl (ZC rfl fh)) rfl hg) (Zf (YQ fh rfl hg) Zz)))) (fun hg=>Zeg (Zy6 hg)) ?_;refine r7 ?_;exact rt hL hT hS
   ·intro hc hL;refine r6 ?_;refine cn hL ?_ ?_
    ·intro hc hL;refine r7 ?_;obtain⟨Ye,Zd8,hL⟩:=qZ hL;refine WO.cp gN rfl (Y9.fn Zjh (Zf lk (Zf lk Zz))) (Zeg Zd8) ?_;refine r6 ?_;exact rt hL hT hS
    ·intro hc hL;refine r6 ?_;refine cn hL ?_ ?_
     ·intro hc hL;refine r16 ?_;refine r3 ?_;exact rt hL hT hS
     ·intro hc hL;refine r9 ?_;exact rt hL hT hS
theorem ZKz {h} {p0:Zb} {p1:ZH} {Zi Zh Zm Zl Zk Zj Zo Zn Zq Zp} {r} (ZB:Sl (Zt .i64) h.size h Zi Zh p0.Zx) (ZM:Sl (ZN (Zt .i64)) h.size h Zm Zl p0.qK) (ZF:Sl (ZN Zc) h.size h Zk Zj p0.qQ) (ZL:Sl (ZN Ze) h.size h Zo Zn p0.qJ) (ZI:Sl Zd h.size h Zq Zp p0.qG) (hL:Zwf p0 p1=some r):Pure XX 22 #[.agg [.slice Zi p0.Zx.length Zh,.slice Zm p0.qK.length Zl,.slice Zk p0.qQ.length Zj,.slice Zo p0.qJ.length Zn,.slice Zq p0.qG.length Zp,.int .i64 p0.said].toArray,.agg [.int .i64 p1.act,.int .i64 p1.a,.int .i64 p1.b].toArray] h (.bool r):=
 WR.X9 rfl (ZKy (Nat.le_refl _) ZB ZM ZF ZL ZI hL)
end Go.Proofs.YtbmbbcaaimehkaaGreat
end
end
section
namespace Go.Proofs.YtbmbbcaaimehkaaGreat
open Go.Lf
def ZjZ (p0:Zb) (v22:Int) (ZmI:(Int ->Option Bool)):Int×Int ->(Int×Int ->Option Bool) ->Option Bool:=fun(v34,v36) ZiX=>
 (bif((decide (v36 <= (p0.Zx.length:Int))) && (decide (v34 >=0))) then(bif(v34==v22) then some false else(ZK p0.Zx v34).bind fun x41=>ZiX (x41,Y2 (v36 + 1))) else ZmI (Y2 (v22 + 1)))
def Zgw (p0:Zb) (v51:Int) (ZmE:(Int ->Option Bool)) (x54:(List ZA)):Int ->(Int ->Option Bool) ->Option Bool:=fun v70 Zyi=>
 (bif decide (v70 < (x54.length:Int)) then(ZK x54 v70).bind fun x73=>(bif(((((decide (x73.age < 0)) || (decide (x73.age > 30))) || (decide (x73.ZX < 0))) || (decide (x73.ZX >= (p0.qQ.length:Int)))) || (x73.here != (x73.ZX==v51))) then some false else Zyi (Y2 (v70 + 1))) else ZmE (Y2 (v51 + 1)))
def Zgv (p0:Zb) (v85:Int) (ZmB:(Int ->Option Bool)) (x88:Zg):Int ->(Int ->Option Bool) ->Option Bool:=fun v109 ZtS=>
 (bif decide (v109 < (x88.qV.length:Int)) then(ZK x88.qV v109).bind fun x112=>(gd ((!((decide (x112 < 0)) || (decide (x112 >= (p0.Zx.length:Int))))) && (decide (v109 > 0))) (ZK x88.qV (Y2 (v109 - 1))) default).bind fun x115=>(gd (!(((decide (x112 < 0)) || (decide (x112 >= (p0.Zx.length:Int)))) || ((decide (v109 > 0)) && (decide (x112 <=x115))))) (ZK x88.Yc v109) default).bind fun ZkT=>(gd (!((((decide (x112 < 0)) || (decide (x112 >= (p0.Zx.length:Int)))) || ((decide (v109 > 0)) && (decide (x112 <=x115)))) || (decide (ZkT < 1)))) (ZK x88.Yc v109) default).bind fun Zb3=>(bif(((((decide (x112 < 0)) || (decide (x112 >= (p0.Zx.length:Int)))) || ((decide (v109 > 0)) && (decide (x112 <=x115)))) || (decide (ZkT < 1))) || (decide (Zb3 > 30))) then some false else ZtS (Y2 (v109 + 1))) else(bif((x88.kind==3) && (((decide (x88.place < 0)) || (decide (x88.place >= (p0.Zx.length:Int)))) || (x88.at_==x88.ZX))) then some false else ZmB (Y2 (v85 + 1))))
def KZ (F:Nat) (p0:Zb):Int ->(Int ->Option Bool) ->Option Bool:=fun v85 ZmB=>
 (bif decide (v85 < (p0.qG.length:Int)) then(ZK p0.qG v85).bind fun x88=>(gd (!((decide (x88.ZX < 0)) || (decide (x88.ZX >= (p0.qQ.length:Int))))) (Zv7 x88) default).bind fun x98=>(bif(((decide (x88.ZX < 0)) || (decide (x88.ZX >= (p0.qQ.length:Int)))) || (!x98)) then some false else loop F (Zgv p0 v85 ZmB x88) 0) else some true)
def Zei (F:Nat) (p0:Zb):Int ->(Int ->Option Bool) ->Option Bool:=fun v51 ZmE=>
 (bif decide (v51 < (p0.qQ.length:Int)) then(ZK p0.qQ v51).bind fun x54=>(bif((x54.length:Int) != (p0.Zx.length:Int)) then some false else loop F (Zgw p0 v51 ZmE x54) 0) else loop F (KZ F p0) 0)
def Zgx (F:Nat) (p0:Zb):Int ->(Int ->Option Bool) ->Option Bool:=fun v22 ZmI=>
 (bif decide (v22 < (p0.Zx.length:Int)) then(ZK p0.Zx v22).bind fun x25=>loop F (ZjZ p0 v22 ZmI) (x25,0) else loop F (Zei F p0) 0)
def Zj0 (F:Nat) (p0:Zb):Int ->(Int ->Option Bool) ->Option Bool:=fun v10 Zbq=>
 (bif decide (v10 < (p0.Zx.length:Int)) then(ZK p0.Zx v10).bind fun x13=>(bif((decide (x13 < (-1))) || (decide (x13 >= (p0.Zx.length:Int)))) then some false else Zbq (Y2 (v10 + 1))) else loop F (Zgx F p0) 0)
def ZBg (F:Nat) (p0:Zb):Option Bool:=
 (bif((((((((decide ((p0.Zx.length:Int) < 1)) || (decide ((p0.Zx.length:Int) > 8))) || (decide ((p0.qQ.length:Int) < 1))) || (decide ((p0.qQ.length:Int) > 5))) || ((p0.qK.length:Int) != (p0.Zx.length:Int))) || ((p0.qJ.length:Int) != (p0.qQ.length:Int))) || (decide (p0.said < 0))) || (decide (p0.said > 40))) then some false else loop F (Zj0 F p0) 0)
def Zgt:Unit ->Option Bool:=fun _=>
 some false
def ZjS (F:Nat) (p0:Zb) (x7:(List Int)):Int ->(Int ->Option Bool) ->Option Bool:=fun v18 Zys=>
 (bif decide (v18 < (x7.length:Int)) then(ZK x7 v18).bind fun x21=>(Zgu F p0 x21).bind fun x24=>(bif decide (x24.1.age >=30) then some true else Zys (Y2 (v18 + 1))) else(Zgt) ())
def ZBd (F:Nat) (p0:Zb) (p1:ZH):Option Bool:=
 (bif(p1.act==1) then some (decide (p0.said >=40)) else(bif(p1.act==2) then(Zqi F p0.Zx p1.a).bind fun x7=>loop F (ZjS F p0 x7) 0 else(Zgt) ()))
def Zgs (p0:Zb) (p1:ZH) (Ye:(XO×Bool)) (Ub:(XO×Bool)) (x23:(List Int)):Int ->(Int ->Option Bool) ->Option Bool:=fun v37 Zyp=>
 (bif decide (v37 < (x23.length:Int)) then(ZK x23 v37).bind fun x40=>(bif(x40==p1.b) then some false else Zyp (Y2 (v37 + 1))) else(ZK p0.Zx p1.a).bind fun x43=>some ((((x43== (-1)) && Ye.1.is) && Ub.1.is) && (Ye.1.at_==Ub.1.at_)))
def ZBc (F:Nat) (p0:Zb) (p1:ZH):Option Bool:=
 (bif(p1.act==2) then(Zgu F p0 p1.a).bind fun x5=>some (x5.1.is && (x5.1.at_ !=p1.b)) else(bif(p1.act==3) then(Zgu F p0 p1.a).bind fun Ye=>(Zgu F p0 p1.b).bind fun Ub=>(Zqi F p0.Zx p1.a).bind fun x23=>loop F (Zgs p0 p1 Ye Ub x23) 0 else(bif(p1.act==4) then(Zgu F p0 p1.a).bind fun x46=>(gd x46.1.is (ZK p0.Zx p1.a) default).bind fun x52=>some (x46.1.is && (decide (x52 >=0))) else some true)))
def Zqh (F:Nat) (p0:(List Int)) (p1:Int):Option Bool:=
 (ZAW F p0 p1).bind fun x1=>some (decide (x1 >=0))
end Go.Proofs.YtbmbbcaaimehkaaGreat
end
section
set_option maxRecDepth 20000
noncomputable section
namespace Go.Proofs.YtbmbbcaaimehkaaGreat
open Go.YR Go.Lf
theorem ZKm {F wm h} {p0:Zb} {Zi Zh Zm Zl Zk Zj Zo Zn Zq Zp} {r} (Z0:wm <=h.size) (ZB:Sl (Zt .i64) wm h Zi Zh p0.Zx) (ZM:Sl (ZN (Zt .i64)) wm h Zm Zl p0.qK) (ZF:Sl (ZN Zc) wm h Zk Zj p0.qQ) (ZL:Sl (ZN Ze) wm h Zo Zn p0.qJ) (ZI:Sl Zd wm h Zq Zp p0.qG) (hL:ZBg F p0=some r):
 WR XX 51 #[.agg [.slice Zi p0.Zx.length Zh,.slice Zm p0.qK.length Zl,.slice Zk p0.qQ.length Zj,.slice Zo p0.qJ.length Zn,.slice Zq p0.qG.length Zp,.int .i64 p0.said].toArray] wm h (CP (fun(v:Value) (Gb:List (Ast wm))=>v= .bool r∧Gb= []) [] h):=by
 refine bg Tryz.ntmps51 Z0 Yd.nil ?_;intro T hT hS;unfold ZBg at hL;refine r3 ?_;rintro _ h2 ⟨b1,eb1,rfl,hS⟩;refine r4 ?_;refine WC.YD mixed Kq0 ?_;refine r16 ?_;refine r16 ?_;refine r16 ?_;refine r5 ?_;refine cn hL ?_ ?_
 ·intro hc hL;refine r7 ?_;exact rt hL hT hS
 ·intro hc hL;refine WG ?_;refine WC.loop (WL.lift hL (fun v10 s=>∃ fr4 h3,s= ⟨fr4,[],h3,none⟩∧Sp wm T h [bx wm b1 (cW p0 Zi Zh Zm Zl Zk Zj Zo Zn Zq Zp)] h3∧fr4.at 1= .pointer (some ⟨b1,0,none⟩)∧fr4.at 3= .int .i64 (p0.Zx.length:Int)∧fr4.at 4= .int .i64 (p0.qQ.length:Int)∧fr4.at 63= .slice Zi p0.Zx.length Zh∧fr4.at 64= .int .i64 (p0.Zx.length:Int)∧fr4.at 65= .int .i64 v10) ⟨_,_,rfl,hS.only sl,Yv⟩ ?_);clear hL hS;rintro Zbq v10 s Zng hL ⟨fr4,h3,rfl,hS,e5,e6,e7,e8,e9,e11⟩;dsimp only [Zj0] at hL;refine r6 ?_;refine cn hL ?_ ?_
  ·intro hc hL;refine r6 ?_;obtain⟨x13,ZH6,hL⟩:=qZ hL;obtain⟨b14,o15,_,ZOL,ZPI,ZPq,ZO7⟩:=Sl.at_ ZB ZH6;refine r16 ?_;refine cn hL ?_ ?_
   ·intro hc hL;refine JC ?_;exact rt hL hT hS
   ·intro hc hL;refine r7 ?_;exact Ya.YU (Zng _ _ hL ⟨_,_,rfl,hS.only sl,Yv⟩)
  ·intro hc hL;refine r15 ?_;refine WC.loop (WL.lift hL (fun v22 s=>∃ Zff h16,s= ⟨Zff,[],h16,none⟩∧Sp wm T h [bx wm b1 (cW p0 Zi Zh Zm Zl Zk Zj Zo Zn Zq Zp)] h16∧Zff.at 1= .pointer (some ⟨b1,0,none⟩)∧Zff.at 3= .int .i64 (p0.Zx.length:Int)∧Zff.at 4= .int .i64 (p0.qQ.length:Int)∧Zff.at 79= .int .i64 (p0.Zx.length:Int)∧Zff.at 80= .int .i64 v22) ⟨_,_,rfl,hS.only sl,Yv⟩ ?_);clear hL hS;rintro ZmI v22 s ZDM hL ⟨Zff,h16,rfl,hS,e18,e19,e20,e21,e23⟩;dsimp only [Zgx] at hL;refine r6 ?_;refine cn hL ?_ ?_
   ·intro hc hL;refine r15 ?_;obtain⟨x25,hx25,hL⟩:=qZ hL;obtain⟨b26,o27,_,ZYI,ZZC,ZZl,ZY6⟩:=Sl.at_ ZB hx25;refine JC ?_;refine WC.loop (WL.lift hL (fun p s=>match p with | (v34,v36)=>∃ Zai h28,s= ⟨Zai,[],h28,none⟩∧Sp wm T h [bx wm b1 (cW p0 Zi Zh Zm Zl Zk Zj Zo Zn Zq Zp)] h28∧Zai.at 1= .pointer (some ⟨b1,0,none⟩)∧Zai.at 3= .int .i64 (p0.Zx.length:Int)∧Zai.at 4= .int .i64 (p0.qQ.length:Int)∧Zai.at 7= .int .i64 v22∧Zai.at 8= .int .i64 v34∧Zai.at 9= .int .i64 v36∧Zai.at 79= .int .i64 (p0.Zx.length:Int)∧Zai.at 80= .int .i64 v22) ⟨_,_,rfl,hS.only sl,Yv⟩ ?_);clear hL hS;rintro ZiX ⟨v34,v36⟩ s Znb hL ⟨Zai,h28,rfl,hS,e30,e31,e32,e33,e35,e37,e38,e39⟩;dsimp only [ZjZ] at hL;refine WG ?_;refine cn hL ?_ ?_
    ·intro hc hL;refine WG ?_;refine cn hL ?_ ?_
     ·intro hc hL;refine r16 ?_;exact rt hL hT hS
     ·intro hc hL;refine r6 ?_;obtain⟨x41,ZH4,hL⟩:=qZ hL;obtain⟨b42,o43,_,ZOF,ZPE,ZPn,ZO0⟩:=Sl.at_ ZB ZH4;refine JC ?_;exact Ya.YU (Znb _ _ hL ⟨_,_,rfl,hS.only sl,Yv⟩)
    ·intro hc hL;refine r10 ?_;exact Ya.YU (ZDM _ _ hL ⟨_,_,rfl,hS.only sl,Yv⟩)
   ·intro hc hL;refine r15 ?_;refine WC.loop (WL.lift hL (fun v51 s=>∃ Zqb h44,s= ⟨Zqb,[],h44,none⟩∧Sp wm T h [bx wm b1 (cW p0 Zi Zh Zm Zl Zk Zj Zo Zn Zq Zp)] h44∧Zqb.at 1= .pointer (some ⟨b1,0,none⟩)∧Zqb.at 3= .int .i64 (p0.Zx.length:Int)∧Zqb.at 4= .int .i64 (p0.qQ.length:Int)∧Zqb.at 107= .slice Zk p0.qQ.length Zj∧Zqb.at 108= .int .i64 (p0.qQ.length:Int)∧Zqb.at 109= .int .i64 v51) ⟨_,_,rfl,hS.only sl,Yv⟩ ?_);clear hL hS;rintro ZmE v51 s ZDD hL ⟨Zqb,h44,rfl,hS,e46,e47,e48,e49,e50,e52⟩;dsimp only [Zei] at hL;refine r6 ?_;refine cn hL ?_ ?_
    ·intro hc hL;refine r7 ?_;obtain⟨x54,ZvT,hL⟩:=qZ hL;obtain⟨b55,o56,⟨a57,c58⟩,ZzT,ZPA,ZZe,ZOX⟩:=Sl.at_ ZF ZvT;refine r1 ?_;have ZNB:Sl Zc wm h a57 c58 x54:=ZOX;refine r14 ?_;refine cn hL ?_ ?_
     ·intro hc hL;refine WG ?_;exact rt hL hT hS
     ·intro hc hL;refine r10 ?_;refine WC.loop (WL.lift hL (fun v70 s=>∃ ZhN h59,s= ⟨ZhN,[],h59,none⟩∧Sp wm T h [bx wm b1 (cW p0 Zi Zh Zm Zl Zk Zj Zo Zn Zq Zp)] h59∧ZhN.at 1= .pointer (some ⟨b1,0,none⟩)∧ZhN.at 3= .int .i64 (p0.Zx.length:Int)∧ZhN.at 4= .int .i64 (p0.qQ.length:Int)∧ZhN.at 10= .int .i64 v51∧ZhN.at 107= .slice Zk p0.qQ.length Zj∧ZhN.at 108= .int .i64 (p0.qQ.length:Int)∧ZhN.at 109= .int .i64 v51∧ZhN.at 118= .slice a57 x54.length c58∧ZhN.at 119= .int .i64 (x54.length:Int)∧ZhN.at 120= .int .i64 v70) ⟨_,_,rfl,hS.only sl,Yv⟩ ?_);clear hL hS;rintro Zyi v70 s ZDw hL ⟨ZhN,h59,rfl,hS,e61,e62,e63,e64,e65,e66,e67,e68,e69,e71⟩;dsimp only [Zgw] at hL;refine r6 ?_;refine cn hL ?_ ?_
      ·intro hc hL;refine r6 ?_;obtain⟨x73,Zk4,hL⟩:=qZ hL;obtain⟨b74,o75,_,ZlU,Zuz,ZPc,ZOT⟩:=Sl.at_ ZNB Zk4;refine r1 ?_;refine WO.w gN rfl (YK ZbO Y3 (YF fh rfl) (At.fz hS.fz ZPc Zuz) (j:=0) rfl rfl (ws:= (cE x73)) rfl) ?_;refine r1 ?_;rintro _ h77 ⟨b76,Z4r,rfl,hS⟩;refine r1 ?_;rintro h78 hS;refine r16 ?_;refine r14 ?_;refine WO.gv (Zw.no rfl rfl rfl (Y5 rfl (YC rfl fh))) rfl (fun hg=>(Qe (YQ (Y5 rfl fh) rfl hg) (YQ fh rfl hg) (ZdC ZCJ))) ?_;refine r3 ?_;refine cn hL ?_ ?_
       ·intro hc hL;refine r15 ?_;exact rt hL hT hS
       ·intro hc hL;refine r7 ?_;exact Ya.YU (ZDw _ _ hL ⟨_,_,rfl,hS.only sl,Yv⟩)
      ·intro hc hL;refine r10 ?_;exact Ya.YU (ZDD _ _ hL ⟨_,_,rfl,hS.only sl,Yv⟩)
    ·intro hc hL;refine r15 ?_;refine WC.loop (WL.lift hL (fun v85 s=>∃ Zsl h79,s= ⟨Zsl,[],h79,none⟩∧Sp wm T h [] h79∧Zsl.at 3= .int .i64 (p0.Zx.length:Int)∧Zsl.at 4= .int .i64 (p0.qQ.length:Int)∧Zsl.at 155= .slice Zq p0.qG.length Zp∧Zsl.at 156= .int .i64 (p0.qG.length:Int)∧Zsl.at 157= .int .i64 v85) ⟨_,_,rfl,hS.only .n,Yv⟩ ?_);clear hL hS;rintro ZmB v85 s ZDs hL ⟨Zsl,h79,rfl,hS,e81,e82,e83,e84,e86⟩;dsimp only [KZ] at hL;refine r6 ?_;refine cn hL ?_ ?_
     ·intro hc hL;refine r6 ?_;obtain⟨x88,ZH1,hL⟩:=qZ hL;obtain⟨b89,o90,⟨⟨a91,c92⟩,⟨a93,c94⟩⟩,ZOu,ZGr,ZGl,Zur⟩:=Sl.at_ ZI ZH1;refine r1 ?_;have Zud:Sl (Zt .i64) wm h a91 c92 x88.qV:=Zur.1;have Zza:Sl (Zt .i64) wm h a93 c94 x88.Yc:=Zur.2;refine WO.w gN rfl (YK WS Xf (YF fh rfl) (At.fz hS.fz ZGl ZGr) (j:=0) rfl rfl (ws:= (cL x88 a91 c92 a93 c94)) rfl) ?_;refine r1 ?_;rintro _ h96 ⟨b95,Z4j,rfl,hS⟩;refine r1 ?_;rintro h97 hS;refine r16 ?_;obtain⟨x98,hx98,hL⟩:=Yi hL;refine WO.gcp (Zw.no rfl rfl rfl (ZC rfl fh)) rfl (fun hg=>(Y9.fn ZN0 (Zf (YQ fh rfl hg) Zz))) (fun hg=>ZJY (hS.Y1 Zud) (hS.Y1 Zza) (hx98 hg)) ?_;refine r4 ?_;refine cn hL ?_ ?_
      ·intro hc hL;refine WG ?_;exact rt hL hT hS
      ·intro hc hL;refine WG ?_;refine WC.loop (WL.lift hL (fun v109 s=>∃ ZcQ h99,s= ⟨ZcQ,[],h99,none⟩∧Sp wm T h [bx wm b95 (cL x88 a91 c92 a93 c94)] h99∧ZcQ.at 3= .int .i64 (p0.Zx.length:Int)∧ZcQ.at 4= .int .i64 (p0.qQ.length:Int)∧ZcQ.at 15= .pointer (some ⟨b95,0,none⟩)∧ZcQ.at 155= .slice Zq p0.qG.length Zp∧ZcQ.at 156= .int .i64 (p0.qG.length:Int)∧ZcQ.at 157= .int .i64 v85∧ZcQ.at 176= .slice a91 x88.qV.length c92∧ZcQ.at 177= .int .i64 (x88.qV.length:Int)∧ZcQ.at 178= .int .i64 v109) ⟨_,_,rfl,hS.only sl,Yv⟩ ?_);clear hL hS;rintro ZtS v109 s Zzw hL ⟨ZcQ,h99,rfl,hS,ZKO,ZKN,ZKM,ZQm,ZKL,Z5y,ZQl,e108,ZQk⟩;dsimp only [Zgv] at hL;refine r6 ?_;refine cn hL ?_ ?_
       ·intro hc hL;refine r7 ?_;obtain⟨x112,hx112,hL⟩:=qZ hL;obtain⟨ZW1,Z2l,_,ZUc,ZVg,ZUT,ZUL⟩:=Sl.at_ Zud hx112;refine r16 ?_;refine r8 ?_;obtain⟨x115,hx115,hL⟩:=Yi hL;obtain⟨Z6X,Z2j,_,hQ⟩:=Sl.atG (fun hg=>Zud) hx115;have ZIZ:=fun hg=>(hQ hg).1
        have ZJD:=fun hg=>(hQ hg).2.1
        have ZJe:=fun hg=>(hQ hg).2.2.1
        have ZUJ:=fun hg=>(hQ hg).2.2.2
        refine WO.gv (Zw.ZkR rfl rfl rfl (Y5 rfl (ZC rfl fh))) rfl (fun hg=>(Yn XP XE (YQ (YC rfl fh) rfl hg) (YQ fh rfl hg) rfl (ZIZ hg) (hx115 hg))) ?_;refine WO.gv (Zw.ZkR rfl rfl rfl (Y5 rfl (YC rfl fh))) rfl (fun hg=>(Y4 WT (YQ fh rfl hg) (At.fz hS.fz (ZJe hg) (ZJD hg)) (j:=0) rfl (v:= .int .i64 x115) rfl)) ?_;refine r1 ?_;refine WO.gv (Zw.no rfl rfl rfl (Xa rfl (YC rfl (ZC rfl fh)))) rfl (fun hg=>(Zku (YQ (Xa rfl fh) rfl hg) (Zfm fh hg) lk)) ?_;refine r5 ?_;obtain⟨ZkT,ZFS,hL⟩:=Yi hL;obtain⟨Z6W,Z2i,_,hQ⟩:=Sl.atG (fun hg=>Zza) ZFS;have ZIX:=fun hg=>(hQ hg).1
        have ZJB:=fun hg=>(hQ hg).2.1
        have ZJc:=fun hg=>(hQ hg).2.2.1
        have ZUI:=fun hg=>(hQ hg).2.2.2
        refine WO.gv (Zw.no rfl rfl rfl (YC rfl (ZC rfl fh))) rfl (fun hg=>(Yn XP XE (YQ (ZC rfl fh) rfl hg) (YQ fh rfl hg) rfl (ZIX hg) (ZFS hg))) ?_;refine WO.gv (Zw.no rfl rfl rfl (Y5 rfl fh)) rfl (fun hg=>(Y4 WT (YQ fh rfl hg) (At.fz hS.fz (ZJc hg) (ZJB hg)) (j:=0) rfl (v:= .int .i64 ZkT) rfl)) ?_;refine r6 ?_;obtain⟨Zb3,ZbK,hL⟩:=Yi hL;obtain⟨ZK6,ZMA,_,hQ⟩:=Sl.atG (fun hg=>Zza) ZbK;have Zgd:=fun hg=>(hQ hg).1
        have Zse:=fun hg=>(hQ hg).2.1
        have ZJb:=fun hg=>(hQ hg).2.2.1
        have ZI1:=fun hg=>(hQ hg).2.2.2
        refine WO.gv (Zw.no rfl rfl rfl (YC rfl (ZC rfl fh))) rfl (fun hg=>(Yn XP XE (YQ (ZC rfl fh) rfl hg) (YQ fh rfl hg) rfl (Zgd hg) (ZbK hg))) ?_;refine WO.gv (Zw.no rfl rfl rfl (Y5 rfl fh)) rfl (fun hg=>(Y4 WT (YQ fh rfl hg) (At.fz hS.fz (ZJb hg) (Zse hg)) (j:=0) rfl (v:= .int .i64 Zb3) rfl)) ?_;refine r4 ?_;refine cn hL ?_ ?_
        ·intro hc hL;refine r16 ?_;exact rt hL hT hS
        ·intro hc hL;refine r7 ?_;exact Ya.YU (Zzw _ _ hL ⟨_,_,rfl,hS.only sl,Yv⟩)
       ·intro hc hL;refine r16 ?_;refine r3 ?_;refine WO.gv (Zw.yes rfl rfl rfl (Xa rfl fh)) rfl (fun hg=>(Zl8 (YQ (Y5 rfl fh) rfl hg) lk (Zfm fh hg))) ?_;refine r6 ?_;refine WO.gv (Zw.yes rfl rfl rfl (Xa rfl (Y5 rfl (YC rfl (ZC rfl fh))))) rfl (fun hg=>(Zl8 (YQ (Y5 rfl (ZC rfl fh)) rfl hg) lk (Zfm fh hg))) ?_;refine r3 ?_;refine cn hL ?_ ?_
        ·intro hc hL;refine JC ?_;exact rt hL hT hS
        ·intro hc hL;refine r7 ?_;exact Ya.YU (ZDs _ _ hL ⟨_,_,rfl,hS.only .n,Yv⟩)
     ·intro hc hL;refine JC ?_;exact rt hL hT hS
theorem ZKh {F wm h} {p0:Zb} {p1:ZH} {Zi Zh Zm Zl Zk Zj Zo Zn Zq Zp} {r} (Z0:wm <=h.size) (ZB:Sl (Zt .i64) wm h Zi Zh p0.Zx) (ZM:Sl (ZN (Zt .i64)) wm h Zm Zl p0.qK) (ZF:Sl (ZN Zc) wm h Zk Zj p0.qQ) (ZL:Sl (ZN Ze) wm h Zo Zn p0.qJ) (ZI:Sl Zd wm h Zq Zp p0.qG) (hL:ZBd F p0 p1=some r):
 WR XX 57 #[.agg [.slice Zi p0.Zx.length Zh,.slice Zm p0.qK.length Zl,.slice Zk p0.qQ.length Zj,.slice Zo p0.qJ.length Zn,.slice Zq p0.qG.length Zp,.int .i64 p0.said].toArray,.agg [.int .i64 p1.act,.int .i64 p1.a,.int .i64 p1.b].toArray] wm h (CP (fun(v:Value) (Gb:List (Ast wm))=>v= .bool r∧Gb= []) [] h):=by
 refine bg Tryz.ntmps57 Z0 Yd.nil ?_;intro T hT hS;unfold ZBd at hL;refine r3 ?_;rintro _ h2 ⟨b1,eb1,rfl,hS⟩;refine r1 ?_;rintro _ h4 ⟨b3,eb3,rfl,hS⟩;refine r3 ?_;refine WC.Zae (r:=r) (fun(_:Unit) s=>∃ fr6 h5,s= ⟨fr6,[],h5,none⟩∧Sp wm T h [] h5) (Zgt) ?_ ?_
 ·clear hL hS;rintro _ s hL ⟨fr6,h5,rfl,hS⟩;dsimp only [Zgt] at hL;refine r6 ?_;exact rt hL hT hS
 ·skip;refine r13 ?_;refine cn hL ?_ ?_
  ·intro hc hL;refine r10 ?_;refine YT.ret ?_;exact rt hL hT hS
  ·intro hc hL;refine r6 ?_;refine cn hL ?_ ?_
   ·intro hc hL;refine r6 ?_;obtain⟨x7,hx7,hL⟩:=qZ hL;refine WO.cl gN rfl (Y9.fn ZzK (Zf lk (Zf lk Zz))) hS .n (fun g' hz hf hO=>ZsC (by rw [hz];exact hS.hw) ((hS.sl ZB).mono hf) hx7) ?_;rintro _ h11 _ ⟨a8,n9,c10,rfl,rfl⟩ hS;obtain rfl:=hS.on k0;refine r5 ?_;refine WC.loop (WL.lift hL (fun v18 s=>∃ Zaj h13,s= ⟨Zaj,[],h13,none⟩∧Sp wm T h [bx wm b1 (cW p0 Zi Zh Zm Zl Zk Zj Zo Zn Zq Zp),ow wm (Zt .i64) a8 x7.length c10 x7] h13∧Zaj.at 2= .pointer (some ⟨b1,0,none⟩)∧Zaj.at 22= .slice a8 x7.length c10∧Zaj.at 23= .int .i64 (x7.length:Int)∧Zaj.at 24= .int .i64 v18) ⟨_,_,rfl,hS.only sl,Yv⟩ ?_);clear hL hS;rintro Zys v18 s ZDO hL ⟨Zaj,h13,rfl,hS,e15,e16,e17,e19⟩;dsimp only [ZjS] at hL;refine r6 ?_;refine cn hL ?_ ?_
    ·intro hc hL;refine r6 ?_;obtain⟨x21,ZTp,hL⟩:=qZ hL;obtain⟨b22,o23,_,ZYK,ZZE,ZY7⟩:=Src.at_ (hS.Xj k1) ZTp;refine r9 ?_;obtain⟨x24,hx24,hL⟩:=qZ hL;refine WO.cl gN rfl (Y9.fn Zji (Zf lk (Zf lk Zz))) hS .n (fun g' hz hf hO=>Zeh (by rw [hz];exact hS.hw) ((hS.sl ZB).mono hf) ((hS.sl ZM).mono hf) ((hS.sl ZF).mono hf) ((hS.sl ZL).mono hf) ((hS.sl ZI).mono hf) hx24) ?_;rintro _ h25 _ ⟨rfl,rfl⟩ hS;refine r4 ?_;rintro _ h28 ⟨b27,Z4L,rfl,hS⟩;refine r1 ?_;rintro h29 hS;refine r10 ?_;refine cn hL ?_ ?_
     ·intro hc hL;refine JC ?_;refine YT.ret ?_;exact rt hL hT hS
     ·intro hc hL;refine r7 ?_;exact Ya.YU (ZDO _ _ hL ⟨_,_,rfl,hS.only sl,Yv⟩)
    ·intro hc hL;refine r5 ?_;exact YT.YU _ hL ⟨_,_,rfl,hS.only .n⟩
   ·intro hc hL;refine r2 ?_;exact YT.YU _ hL ⟨_,_,rfl,hS.only .n⟩
theorem ZKg {F wm h} {p0:Zb} {p1:ZH} {Zi Zh Zm Zl Zk Zj Zo Zn Zq Zp} {r} (Z0:wm <=h.size) (ZB:Sl (Zt .i64) wm h Zi Zh p0.Zx) (ZM:Sl (ZN (Zt .i64)) wm h Zm Zl p0.qK) (ZF:Sl (ZN Zc) wm h Zk Zj p0.qQ) (ZL:Sl (ZN Ze) wm h Zo Zn p0.qJ) (ZI:Sl Zd wm h Zq Zp p0.qG) (hL:ZBc F p0 p1=some r):
 WR XX 58 #[.agg [.slice Zi p0.Zx.length Zh,.slice Zm p0.qK.length Zl,.slice Zk p0.qQ.length Zj,.slice Zo p0.qJ.length Zn,.slice Zq p0.qG.length Zp,.int .i64 p0.said].toArray,.agg [.int .i64 p1.act,.int .i64 p1.a,.int .i64 p1.b].toArray] wm h (CP (fun(v:Value) (Gb:List (Ast wm))=>v= .bool r∧Gb= []) [] h):=by
 refine bg Tryz.ntmps58 Z0 Yd.nil ?_;intro T hT hS;unfold ZBc at hL;refine r3 ?_;rintro _ h2 ⟨b1,eb1,rfl,hS⟩;refine r1 ?_;rintro _ h4 ⟨b3,eb3,rfl,hS⟩;refine r16 ?_;refine r1 ?_;refine cn hL ?_ ?_
 ·intro hc hL;refine r5 ?_;obtain⟨x5,hx5,hL⟩:=qZ hL;refine WO.cl gN rfl (Y9.fn Zji (Zf lk (Zf lk Zz))) hS .n (fun g' hz hf hO=>Zeh (by rw [hz];exact hS.hw) ((hS.sl ZB).mono hf) ((hS.sl ZM).mono hf) ((hS.sl ZF).mono hf) ((hS.sl ZL).mono hf) ((hS.sl ZI).mono hf) hx5) ?_;rintro _ h6 _ ⟨rfl,rfl⟩ hS;refine r4 ?_;rintro _ h9 ⟨b8,eb8,rfl,hS⟩;refine r1 ?_;rintro h10 hS;refine r16 ?_;refine r4 ?_;exact rt hL hT hS
 ·intro hc hL;refine r6 ?_;refine cn hL ?_ ?_
  ·intro hc hL;refine r5 ?_;obtain⟨Ye,Zd8,hL⟩:=qZ hL;refine WO.cl gN rfl (Y9.fn Zji (Zf lk (Zf lk Zz))) hS .n (fun g' hz hf hO=>Zeh (by rw [hz];exact hS.hw) ((hS.sl ZB).mono hf) ((hS.sl ZM).mono hf) ((hS.sl ZF).mono hf) ((hS.sl ZL).mono hf) ((hS.sl ZI).mono hf) Zd8) ?_;rintro _ h12 _ ⟨rfl,rfl⟩ hS;refine r4 ?_;rintro _ h15 ⟨b14,ZVX,rfl,hS⟩;refine r1 ?_;rintro h16 hS;refine r8 ?_;obtain⟨Ub,ZrZ,hL⟩:=qZ hL;refine WO.cl gN rfl (Y9.fn Zji (Zf lk (Zf lk Zz))) hS .n (fun g' hz hf hO=>Zeh (by rw [hz];exact hS.hw) ((hS.sl ZB).mono hf) ((hS.sl ZM).mono hf) ((hS.sl ZF).mono hf) ((hS.sl ZL).mono hf) ((hS.sl ZI).mono hf) ZrZ) ?_;rintro _ h18 _ ⟨rfl,rfl⟩ hS;refine r4 ?_;rintro _ h21 ⟨b20,ZVW,rfl,hS⟩;refine r1 ?_;rintro h22 hS;refine r10 ?_;obtain⟨x23,ZmW,hL⟩:=qZ hL;refine WO.cl gN rfl (Y9.fn ZzK (Zf lk (Zf lk Zz))) hS .n (fun g' hz hf hO=>ZsC (by rw [hz];exact hS.hw) ((hS.sl ZB).mono hf) ZmW) ?_;rintro _ h27 _ ⟨a24,n25,c26,rfl,rfl⟩ hS;obtain rfl:=hS.on k0;refine r5 ?_;refine WC.loop (WL.lift hL (fun v37 s=>∃ WM h29,s= ⟨WM,[],h29,none⟩∧Sp wm T h [bx wm b1 (cW p0 Zi Zh Zm Zl Zk Zj Zo Zn Zq Zp),bx wm b3 (cS p1),bx wm b14 [.int .i64 Ye.1.at_,.int .i64 Ye.1.age,.int .i64 Ye.1.letter,.bool Ye.1.is],bx wm b20 [.int .i64 Ub.1.at_,.int .i64 Ub.1.age,.int .i64 Ub.1.letter,.bool Ub.1.is],ow wm (Zt .i64) a24 x23.length c26 x23] h29∧WM.at 2= .pointer (some ⟨b1,0,none⟩)∧WM.at 3= .pointer (some ⟨b3,0,none⟩)∧WM.at 7= .pointer (some ⟨b14,0,none⟩)∧WM.at 9= .pointer (some ⟨b20,0,none⟩)∧WM.at 55= .slice a24 x23.length c26∧WM.at 56= .int .i64 (x23.length:Int)∧WM.at 57= .int .i64 v37) ⟨_,_,rfl,hS.only sl,Yv⟩ ?_);clear hL hS;rintro Zyp v37 s ZDH hL ⟨WM,h29,rfl,hS,e31,e32,e33,e34,e35,e36,e38⟩;dsimp only [Zgs] at hL;refine r6 ?_;refine cn hL ?_ ?_
   ·intro hc hL;refine r6 ?_;obtain⟨x40,ZDj,hL⟩:=qZ hL;obtain⟨b41,o42,_,ZGe,ZGy,ZO1⟩:=Src.at_ (hS.Xj k4) ZDj;refine r13 ?_;refine cn hL ?_ ?_
    ·intro hc hL;refine r13 ?_;exact rt hL hT hS
    ·intro hc hL;refine r7 ?_;exact Ya.YU (ZDH _ _ hL ⟨_,_,rfl,hS.only sl,Yv⟩)
   ·intro hc hL;refine JC ?_;obtain⟨x43,ZpK,hL⟩:=qZ hL;obtain⟨b44,o45,_,Zuo,Zp3,ZAh,ZlW⟩:=Sl.at_ ZB ZpK;refine r16 ?_;refine r8 ?_;exact rt hL hT hS
  ·intro hc hL;refine r6 ?_;refine cn hL ?_ ?_
   ·intro hc hL;refine r5 ?_;obtain⟨x46,ZrY,hL⟩:=qZ hL;refine WO.cl gN rfl (Y9.fn Zji (Zf lk (Zf lk Zz))) hS .n (fun g' hz hf hO=>Zeh (by rw [hz];exact hS.hw) ((hS.sl ZB).mono hf) ((hS.sl ZM).mono hf) ((hS.sl ZF).mono hf) ((hS.sl ZL).mono hf) ((hS.sl ZI).mono hf) ZrY) ?_;rintro _ h47 _ ⟨rfl,rfl⟩ hS;refine r4 ?_;rintro _ h50 ⟨b49,Z4C,rfl,hS⟩;refine r1 ?_;rintro h51 hS;refine WG ?_;obtain⟨x52,ZpJ,hL⟩:=Yi hL;obtain⟨b53,o54,_,hQ⟩:=Sl.atG (fun hg=>ZB) ZpJ;have ZpY:=fun hg=>(hQ hg).1
    have Zp2:=fun hg=>(hQ hg).2.1
    have ZAf:=fun hg=>(hQ hg).2.2.1
    have ZGi:=fun hg=>(hQ hg).2.2.2
    refine WO.gv (Zw.yes rfl rfl rfl (Y5 rfl fh)) rfl (fun hg=>(Yn XP XE (YQ (YC rfl fh) rfl hg) (YQ fh rfl hg) rfl (ZpY hg) (ZpJ hg))) ?_;refine WO.gv (Zw.yes rfl rfl rfl (Y5 rfl (ZC rfl fh))) rfl (fun hg=>(Y4 WT (YQ fh rfl hg) (At.fz hS.fz (ZAf hg) (Zp2 hg)) (j:=0) rfl (v:= .int .i64 x52) rfl)) ?_;refine r8 ?_;exact rt hL hT hS
   ·intro hc hL;refine r9 ?_;exact rt hL hT hS
theorem ZJ3 {F wm h} {p0:(List Int)} {p1:Int} {Zi Zh} {r} (Z0:wm <=h.size) (ZB:Sl (Zt .i64) wm h Zi Zh p0) (hL:Zqh F p0 p1=some r):
 WR XX 78 #[.slice Zi p0.length Zh,.int .i64 p1] wm h (CP (fun(v:Value) (Gb:List (Ast wm))=>v= .bool r∧Gb= []) [] h):=by
 refine bg Tryz.ntmps78 Z0 Yd.nil ?_;intro T hT hS;unfold Zqh at hL;refine r9 ?_;obtain⟨x1,hx1,hL⟩:=qZ hL;refine WO.cp gN rfl (Y9.fn ZNU (Zf lk (Zf lk Zz))) (WR.X9 rfl (ZJQ (Nat.le_refl _) (hS.Y1 ZB) hx1)) ?_;refine r5 ?_;exact rt hL hT hS
theorem ZsB {F h} {p0:(List Int)} {p1:Int} {Zi Zh} {r} (ZB:Sl (Zt .i64) h.size h Zi Zh p0) (hL:Zqh F p0 p1=some r):Pure XX 78 #[.slice Zi p0.length Zh,.int .i64 p1] h (.bool r):=
 WR.X9 rfl (ZJ3 (Nat.le_refl _) ZB hL)
end Go.Proofs.YtbmbbcaaimehkaaGreat
end
end
section
namespace Go.Proofs.YtbmbbcaaimehkaaGreat
open Go.Lf
def Znx (p0:(List (List ZA))):(List (List ZA))×Int ->((List (List ZA))×Int ->Option (List (List ZA))) ->Option (List (List ZA)):=fun(v3,v11) Qa=>
 (bif decide (v11 < (p0.length:Int)) then(ZK p0 v11).bind fun x14=>(ZuL x14).bind fun x19=>(app 24 v3 [x19]).bind fun z27=>Qa (z27,Y2 (v11 + 1)) else some v3)
def ZA3 (F:Nat) (p0:(List (List ZA))):Option (List (List ZA)):=
 loop F (Znx p0) ([],0)
def Znw (p0:(List (List Zr))):(List (List Zr))×Int ->((List (List Zr))×Int ->Option (List (List Zr))) ->Option (List (List Zr)):=fun(v3,v11) Qa=>
 (bif decide (v11 < (p0.length:Int)) then(ZK p0 v11).bind fun x14=>(ZuK x14).bind fun x19=>(app 24 v3 [x19]).bind fun z27=>Qa (z27,Y2 (v11 + 1)) else some v3)
def ZA2 (F:Nat) (p0:(List (List Zr))):Option (List (List Zr)):=
 loop F (Znw p0) ([],0)
def Zqg (p0:Yb) (p1:Int) (p2:Zr) (p3:Bool):Option Yb:=
 (ZK p0.Za.qQ p1).bind fun x3=>(ZK x3 p2.place).bind fun x9=>(bif x9.here then(Zht p0 p1 p2).bind fun x15=>some x15 else(bif((decide (x9.age > p2.age)) || p3) then(app 128 p0.Za.qG ([(Zg.mk 1 x9.ZX (Zr.mk p2.msg p2.place p2.from_ x9.age (Y2 (p2.hops + 1))) [] [] 0 0 0)])).bind fun z40=>(bif(((!p3) && (p2.from_ !=p1)) && (p2.from_ !=x9.ZX)) then(app 128 z40 ([(Zg.mk 3 p2.from_ (Zr.mk 0 0 0 0 0) [] [] p2.place x9.ZX x9.age)])).bind fun z47=>some (Yb.mk (Zb.mk p0.Za.Zx p0.Za.qK p0.Za.qQ p0.Za.qJ z47 p0.Za.said) p0.qX) else some (Yb.mk (Zb.mk p0.Za.Zx p0.Za.qK p0.Za.qQ p0.Za.qJ z40 p0.Za.said) p0.qX)) else(ZK p0.Za.qJ p1).bind fun x54=>(app 40 x54 [p2]).bind fun z62=>(ZK p0.Za.qJ p1).bind fun x66=>some (Yb.mk (Zb.mk p0.Za.Zx p0.Za.qK p0.Za.qQ (Yl p0.Za.qJ p1 z62) p0.Za.qG p0.Za.said) p0.qX)))
end Go.Proofs.YtbmbbcaaimehkaaGreat
end
section
set_option maxRecDepth 20000
noncomputable section
namespace Go.Proofs.YtbmbbcaaimehkaaGreat
open Go.YR Go.Lf
theorem ZJ1 {F wm h} {p0:(List (List ZA))} {Zi Zh} {r} (Z0:wm <=h.size) (ZB:Sl (ZN Zc) wm h Zi Zh p0) (hL:ZA3 F p0=some r):
 WR XX 82 #[.slice Zi p0.length Zh] wm h (CP (fun(v:Value) (Gb:List (Ast wm))=>∃ Xq Xo Xp ZeV,v= .slice Xq Xo Xp∧Gb= [YG wm (ZP Zc) Xq Xo Xp ZeV r]) [] h):=by
 refine bg Tryz.ntmps82 Z0 Yd.nil ?_;intro T hT hS;unfold ZA3 at hL;refine r16 ?_;refine r3 ?_;have hS:=hS.ZbR (e:= (ZP Zc)) (ps:=fun _=>(ZP Zc).dflt);refine WC.loop (WL.lift hL (fun p s=>match p with | (v3,v11)=>∃ XT h1 a4 c5 n6 ps7,s= ⟨XT,[],h1,none⟩∧Sp wm T h [YG wm (ZP Zc) a4 n6 c5 ps7 v3] h1∧XT.at 3= .slice a4 n6 c5∧XT.at 6= .slice Zi p0.length Zh∧XT.at 7= .int .i64 (p0.length:Int)∧XT.at 8= .int .i64 v11) ⟨_,_,none,0,0,(fun _=>(ZP Zc).dflt),rfl,hS.only sl,Yv⟩ ?_);clear hL hS;rintro Qa ⟨v3,v11⟩ s UD hL ⟨XT,h1,a4,c5,n6,ps7,rfl,hS,e8,e9,e10,e12⟩;obtain rfl:=hS.YP k0;dsimp only [Znx] at hL;refine r6 ?_;refine cn hL ?_ ?_
 ·intro hc hL;refine r6 ?_;obtain⟨x14,ZmY,hL⟩:=qZ hL;obtain⟨b15,o16,⟨a17,c18⟩,Zup,ZuB,Zuw,Zfc⟩:=Sl.at_ ZB ZmY;refine r1 ?_;have Zfb:Sl Zc wm h a17 c18 x14:=Zfc;refine r7 ?_;obtain⟨x19,ZmX,hL⟩:=qZ hL;refine WO.cl gN rfl (Y9.fn ZIB (Zf lk Zz)) hS .n (fun g' hz hf hO=>ZEv (by rw [hz];exact hS.hw) ((hS.sl Zfb).mono hf) ZmX) ?_;rintro _ h23 _ ⟨a20,n21,c22,rfl,rfl⟩ hS;obtain rfl:=hS.on k0;refine WO.hn gN rfl (ZlE (e:=Zc) (x:=x19) hS k0 ZeM Zbf Zre rfl rfl (Zu lk ZT) rfl rfl) ?_;rintro _ h26 ⟨b25,ZQd,rfl,hS⟩;obtain⟨z27,ZyJ,hL⟩:=qZ hL;refine WO.hv gN rfl (ZlF (e:= (ZP Zc)) hS (.c k1 (.c k0 .n)) ZqP lk lk ZyJ) ?_;rintro _ h31 ⟨a28,c29,ZxX,rfl,hS⟩;refine r8 ?_;exact Ya.YU (UD _ _ hL ⟨_,_,a28,c29,z27.length,ZxX,rfl,hS.only sl,Yv⟩)
 ·intro hc hL;refine WG ?_;have hr:=Oi0 hL;subst hr;exact Yk.XF rfl (ZU lk ZE) ⟨_,⟨a4,v3.length,c5,ps7,rfl,rfl⟩,hT ▸ hS.only sl⟩
theorem ZJ0 {F wm h} {p0:(List (List Zr))} {Zi Zh} {r} (Z0:wm <=h.size) (ZB:Sl (ZN Ze) wm h Zi Zh p0) (hL:ZA2 F p0=some r):
 WR XX 83 #[.slice Zi p0.length Zh] wm h (CP (fun(v:Value) (Gb:List (Ast wm))=>∃ Xq Xo Xp ZeV,v= .slice Xq Xo Xp∧Gb= [YG wm (ZP Ze) Xq Xo Xp ZeV r]) [] h):=by
 refine bg Tryz.ntmps83 Z0 Yd.nil ?_;intro T hT hS;unfold ZA2 at hL;refine r16 ?_;refine r3 ?_;have hS:=hS.ZbR (e:= (ZP Ze)) (ps:=fun _=>(ZP Ze).dflt);refine WC.loop (WL.lift hL (fun p s=>match p with | (v3,v11)=>∃ XT h1 a4 c5 n6 ps7,s= ⟨XT,[],h1,none⟩∧Sp wm T h [YG wm (ZP Ze) a4 n6 c5 ps7 v3] h1∧XT.at 3= .slice a4 n6 c5∧XT.at 6= .slice Zi p0.length Zh∧XT.at 7= .int .i64 (p0.length:Int)∧XT.at 8= .int .i64 v11) ⟨_,_,none,0,0,(fun _=>(ZP Ze).dflt),rfl,hS.only sl,Yv⟩ ?_);clear hL hS;rintro Qa ⟨v3,v11⟩ s UD hL ⟨XT,h1,a4,c5,n6,ps7,rfl,hS,e8,e9,e10,e12⟩;obtain rfl:=hS.YP k0;dsimp only [Znw] at hL;refine r6 ?_;refine cn hL ?_ ?_
 ·intro hc hL;refine r6 ?_;obtain⟨x14,ZmY,hL⟩:=qZ hL;obtain⟨b15,o16,⟨a17,c18⟩,Zup,ZuB,Zuw,Zfc⟩:=Sl.at_ ZB ZmY;refine r1 ?_;have Zfb:Sl Ze wm h a17 c18 x14:=Zfc;refine r7 ?_;obtain⟨x19,ZmX,hL⟩:=qZ hL;refine WO.cl gN rfl (Y9.fn ZIA (Zf lk Zz)) hS .n (fun g' hz hf hO=>ZEu (by rw [hz];exact hS.hw) ((hS.sl Zfb).mono hf) ZmX) ?_;rintro _ h23 _ ⟨a20,n21,c22,rfl,rfl⟩ hS;obtain rfl:=hS.on k0;refine WO.hn gN rfl (ZlE (e:=Ze) (x:=x19) hS k0 ZeL Ue Zrd rfl rfl (Zu lk ZT) rfl rfl) ?_;rintro _ h26 ⟨b25,ZQd,rfl,hS⟩;obtain⟨z27,ZyJ,hL⟩:=qZ hL;refine WO.hv gN rfl (ZlF (e:= (ZP Ze)) hS (.c k1 (.c k0 .n)) ZqO lk lk ZyJ) ?_;rintro _ h31 ⟨a28,c29,ZxX,rfl,hS⟩;refine r8 ?_;exact Ya.YU (UD _ _ hL ⟨_,_,a28,c29,z27.length,ZxX,rfl,hS.only sl,Yv⟩)
 ·intro hc hL;refine WG ?_;have hr:=Oi0 hL;subst hr;exact Yk.XF rfl (ZU lk ZE) ⟨_,⟨a4,v3.length,c5,ps7,rfl,rfl⟩,hT ▸ hS.only sl⟩
theorem ZA1 {wm h} {p0:Yb} {p1:Int} {p2:Zr} {p3:Bool} {Zi Zh XA Zm Zl Qu Yr Zk Zj Qt Yw Zo Zn Qs Yq Zq Zp Qr Z7 Z6 Qq YO} {r} (Z0:wm <=h.size) (hO:Yd (wm:=wm) [bx wm YO (cG Zi XA Zh Zm Qu Zl Zk Qt Zj Zo Qs Zn Zq Qr Zp p0.Za.said Z7 Qq Z6),ow wm (Zt .i64) Zi XA Zh p0.Za.Zx,YG wm (ZP (Zt .i64)) Zm Qu Zl Yr p0.Za.qK,YG wm (ZP Zc) Zk Qt Zj Yw p0.Za.qQ,YG wm (ZP Ze) Zo Qs Zn Yq p0.Za.qJ,ow wm Zd Zq Qr Zp p0.Za.qG,ow wm Zy Z7 Qq Z6 p0.qX] h) (hL:Zqg p0 p1 p2 p3=some r):
 WR XX 84 #[.pointer (some ⟨YO,0,none⟩),.int .i64 p1,.agg [.int .i64 p2.msg,.int .i64 p2.place,.int .i64 p2.from_,.int .i64 p2.age,.int .i64 p2.hops].toArray,.bool p3] wm h (CP (fun(v:Value) (Gb:List (Ast wm))=>∃ QT Jz QM QS Jy QL JF QR Jw QK JE QO Jv QJ JD QN Ju QI JB Jt JA,v= .tuple [].toArray∧Gb= [bx wm YO (cG QT Jz QM QS Jy QL QR Jw QK QO Jv QJ QN Ju QI r.Za.said JB Jt JA),ow wm (Zt .i64) QT Jz QM r.Za.Zx,YG wm (ZP (Zt .i64)) QS Jy QL JF r.Za.qK,YG wm (ZP Zc) QR Jw QK JE r.Za.qQ,YG wm (ZP Ze) QO Jv QJ JD r.Za.qJ,ow wm Zd QN Ju QI r.Za.qG,ow wm Zy JB Jt JA r.qX]) [bx wm YO (cG Zi XA Zh Zm Qu Zl Zk Qt Zj Zo Qs Zn Zq Qr Zp p0.Za.said Z7 Qq Z6),ow wm (Zt .i64) Zi XA Zh p0.Za.Zx,YG wm (ZP (Zt .i64)) Zm Qu Zl Yr p0.Za.qK,YG wm (ZP Zc) Zk Qt Zj Yw p0.Za.qQ,YG wm (ZP Ze) Zo Qs Zn Yq p0.Za.qJ,ow wm Zd Zq Qr Zp p0.Za.qG,ow wm Zy Z7 Qq Z6 p0.qX] h):=by
 refine bg Tryz.ntmps84 Z0 hO ?_;intro T hT hS;unfold Zqg at hL;obtain rfl:=hS.on k1;obtain rfl:=hS.YP k2;obtain rfl:=hS.YP k3;obtain rfl:=hS.YP k4;obtain rfl:=hS.on k5;obtain rfl:=hS.on k6;refine r3 ?_;rintro _ h2 ⟨b1,eb1,rfl,hS⟩;refine r3 ?_;refine WC.YD mixed Kq0 ?_;refine r6 ?_;obtain⟨x3,hx3,hL⟩:=qZ hL;obtain⟨b4,o5,a6,n7,c8,ZNM,Z2O,Z2U⟩:=hS.atS k4 hx3;refine r4 ?_;obtain⟨x9,hx9,hL⟩:=qZ hL;obtain⟨b10,o11,_,ZpZ,ZlY,Zp1⟩:=Src.at_ (hS.inS k4 hx3 ZNM).2.1 hx9;refine WX.w gN rfl (Yn Wz Y3 lk lk (hS.inS k4 hx3 ZNM).1 ZpZ hx9) ?_ rfl;refine WX.w gN rfl (YK ZbO Y3 (YF fh rfl) ZlY (j:=0) rfl rfl (ws:= (cE x9)) rfl) ?_ rfl;refine WX.hn gN rfl (Zha hS Za9 (vs:= [.bool false,.int .i64 0,.int .i64 0]) rfl) ?_ rfl;rintro _ h13 ⟨b12,ZVY,rfl,hS⟩;refine WX.hu gN (Ug hS k0 Y3 lk lk (vs:= (cE x9)) rfl rfl rfl rfl (cs':= (cE x9)) rfl) ?_ rfl rfl [] Kq0 Yg.e;rintro h14 hS;refine r10 ?_;refine cn hL ?_ ?_
 ·intro hc hL;refine r4 ?_;obtain⟨x15,ZTr,hL⟩:=qZ hL;refine WO.cl gN rfl (Y9.fn ZzO (Zf lk (Zf lk (Zf lk Zz)))) hS (.c k2 (.c k2 (.c k2 (.c k2 (.c k2 (.c k2 (.c k2 .n))))))) (fun g' hz hf hO=>ZuJ (by rw [hz];exact hS.hw) hO ZTr) ?_;rintro _ h34 _ ⟨a16,n17,c18,a19,n20,c21,ZFx,a22,n23,c24,ZFw,a25,n26,c27,ZMk,a28,n29,c30,a31,n32,c33,rfl,rfl⟩ hS;obtain rfl:=hS.on k1;obtain rfl:=hS.YP k2;obtain rfl:=hS.YP k3;obtain rfl:=hS.YP k4;obtain rfl:=hS.on k5;obtain rfl:=hS.on k6;refine r2 ?_;refine Yk.YU ?_;have hr:=Oi0 hL;subst hr;exact Yk.gen (vs:= []) rfl ZE rfl ⟨_,⟨a16,x15.Za.Zx.length,c18,a19,x15.Za.qK.length,c21,ZFx,a22,x15.Za.qQ.length,c24,ZFw,a25,x15.Za.qJ.length,c27,ZMk,a28,x15.Za.qG.length,c30,a31,x15.qX.length,c33,rfl,rfl⟩,hT ▸ hS.only sl⟩
 ·intro hc hL;refine r13 ?_;refine cn hL ?_ ?_
  ·intro hc hL;refine r6 ?_;rintro h36 hS;refine r9 ?_;rintro h37 hS;refine r3 ?_;refine WC.YD mixed Kq0 ?_;refine r9 ?_;refine WX.w gN rfl (YS Zfu (Zu lk (Zu lk (Zu lk ZT))) rfl (cs':= [.int .i64 1,.int .i64 x9.ZX,.int .i64 p2.msg,.int .i64 p2.place,.int .i64 p2.from_,.int .i64 x9.age,.int .i64 (Y2 (p2.hops + 1)),.slice none 0 0,.slice none 0 0,.int .i64 0,.int .i64 0,.int .i64 0]) rfl) ?_ rfl;refine WX.hn gN rfl (Q8 (e:=Zd) hS UR Xf U0 rfl rfl rfl (Zu lk ZT) rfl [(((none,0),(none,0)),(Zg.mk 1 x9.ZX (Zr.mk p2.msg p2.place p2.from_ x9.age (Y2 (p2.hops + 1))) [] [] 0 0 0))] rfl (xs:= [(Zg.mk 1 x9.ZX (Zr.mk p2.msg p2.place p2.from_ x9.age (Y2 (p2.hops + 1))) [] [] 0 0 0)]) rfl (by intro q hq;simp only [List.mem_cons,List.not_mem_nil,or_false] at hq;subst hq;exact⟨Sl.nil,Sl.nil⟩) rfl) ?_ rfl;rintro _ h39 ⟨b38,ZVV,rfl,hS⟩;obtain⟨z40,ZS3,hL⟩:=qZ hL;refine WX.hv gN rfl (XY (e:=Zd) hS k8 QZ lk lk (hS.Xj k0) (hS.on k0) ZS3) ?_ rfl rfl [] Kq0 Yg.e;rintro _ h43 ⟨a41,c42,rfl,hS⟩;refine WX.w gN rfl (Ka lk) ?_ Kq0;refine WX.w gN rfl (Qd Zfh lk) ?_ Kq0;refine WX.w gN rfl (Qd Ku lk) ?_ Kq0;refine WX.hu gN (Ug hS k4 Zbg lk lk (vs:= [.slice a41 z40.length c42]) rfl rfl rfl rfl (cs':= (cG Zi p0.Za.Zx.length Zh Zm p0.Za.qK.length Zl Zk p0.Za.qQ.length Zj Zo p0.Za.qJ.length Zn a41 z40.length c42 p0.Za.said Z7 p0.qX.length Z6)) rfl) ?_ rfl Kq0 [] Kq0 Yg.e;rintro h44 hS;refine r16 ?_;refine r5 ?_;refine cn hL ?_ ?_
   ·intro hc hL;refine WC.YD mixed Kq0 ?_;refine r14 ?_;refine WX.w gN rfl (YS Zfu (Zu lk (Zu lk (Zu lk (Zu lk (Zu lk ZT))))) rfl (cs':= [.int .i64 3,.int .i64 p2.from_,.int .i64 0,.int .i64 0,.int .i64 0,.int .i64 0,.int .i64 0,.slice none 0 0,.slice none 0 0,.int .i64 p2.place,.int .i64 x9.ZX,.int .i64 x9.age]) rfl) ?_ rfl;refine WX.hn gN rfl (Q8 (e:=Zd) hS UR Xf U0 rfl rfl rfl (Zu lk ZT) rfl [(((none,0),(none,0)),(Zg.mk 3 p2.from_ (Zr.mk 0 0 0 0 0) [] [] p2.place x9.ZX x9.age))] rfl (xs:= [(Zg.mk 3 p2.from_ (Zr.mk 0 0 0 0 0) [] [] p2.place x9.ZX x9.age)]) rfl (by intro q hq;simp only [List.mem_cons,List.not_mem_nil,or_false] at hq;subst hq;exact⟨Sl.nil,Sl.nil⟩) rfl) ?_ rfl;rintro _ h46 ⟨b45,Z4E,rfl,hS⟩;obtain⟨z47,ZS0,hL⟩:=qZ hL;refine WX.hv gN rfl (XY (e:=Zd) hS k2 QZ lk lk (hS.Xj k0) (hS.on k0) ZS0) ?_ rfl rfl [] Kq0 Yg.e;rintro _ h50 ⟨a48,c49,rfl,hS⟩;refine WX.w gN rfl (Ka lk) ?_ Kq0;refine WX.w gN rfl (Qd Zfh lk) ?_ Kq0;refine WX.w gN rfl (Qd Ku lk) ?_ Kq0;refine WX.hu gN (Ug hS k2 Zbg lk lk (vs:= [.slice a48 z47.length c49]) rfl rfl rfl rfl (cs':= (cG Zi p0.Za.Zx.length Zh Zm p0.Za.qK.length Zl Zk p0.Za.qQ.length Zj Zo p0.Za.qJ.length Zn a48 z47.length c49 p0.Za.said Z7 p0.qX.length Z6)) rfl) ?_ rfl Kq0 [] Kq0 Yg.e;rintro h51 hS;refine r2 ?_;refine Yk.YU ?_;have hr:=Oi0 hL;subst hr;exact Yk.gen (vs:= []) rfl ZE rfl ⟨_,⟨Zi,p0.Za.Zx.length,Zh,Zm,p0.Za.qK.length,Zl,Yr,Zk,p0.Za.qQ.length,Zj,Yw,Zo,p0.Za.qJ.length,Zn,Yq,a48,z47.length,c49,Z7,p0.qX.length,Z6,rfl,rfl⟩,hT ▸ hS.only sl⟩
   ·intro hc hL;refine r2 ?_;refine Yk.YU ?_;have hr:=Oi0 hL;subst hr;exact Yk.gen (vs:= []) rfl ZE rfl ⟨_,⟨Zi,p0.Za.Zx.length,Zh,Zm,p0.Za.qK.length,Zl,Yr,Zk,p0.Za.qQ.length,Zj,Yw,Zo,p0.Za.qJ.length,Zn,Yq,a41,z40.length,c42,Z7,p0.qX.length,Z6,rfl,rfl⟩,hT ▸ hS.only sl⟩
  ·intro hc hL;refine WC.YD mixed Kq0 ?_;refine r4 ?_;refine WX.wr (fun x=>x=YO) hS gN rfl (fun _ _ hR=>Y4 Zkx (YF fh rfl) (At.eqv (hR YO rfl) (hS.KC k2)) (j:=3) rfl (v:= .slice Zo p0.Za.qJ.length Zn) rfl) ?_ rfl rfl;rintro h52 e53 hS;refine r7 ?_;obtain⟨x54,ZvT,hL⟩:=qZ hL;obtain⟨b55,o56,a57,n58,c59,ZNL,ZzT,ZPA⟩:=hS.atS k6 ZvT;refine r3 ?_;refine WX.hn gN rfl (Q8 (e:=Ze) hS ZaJ Js Zb1 rfl rfl rfl (Zu lk ZT) rfl [((),p2)] rfl (xs:= [p2]) rfl (by intro q hq;simp only [List.mem_cons,List.not_mem_nil,or_false] at hq;subst hq;exact trivial) rfl) ?_ rfl;rintro _ h61 ⟨b60,ZVS,rfl,hS⟩;obtain⟨z62,ZSZ,hL⟩:=qZ hL;have hS:=hS.Kc k7 ZvT ZNL;refine WX.hv gN rfl (XY (e:=Ze) hS k1 K8 lk lk (hS.Xj k2) (hS.on k2) ZSZ) ?_ rfl rfl [4] Kq0 (.c (.s .z) (hS.dj (.c k1 (.c k4 .n))) Yg.e);rintro _ h65 ⟨a63,c64,rfl,hS⟩;obtain⟨x66,ZTh,hL⟩:=qZ hL;refine WX.w gN rfl (Yn ZeL Ue lk lk rfl ZzT ZTh) ?_ Kq0;refine WX.hu gN (ZdM hS k1 Ue (YF fh rfl) (YF (ZC rfl fh) rfl) ZzT ZvT (j:=0) rfl (vs:= [.slice a63 z62.length c64]) rfl rfl rfl rfl rfl (cs':= [.slice a63 z62.length c64]) rfl rfl rfl) ?_ rfl Kq0 [] Kq0 Yg.e;rintro h68 hS;obtain⟨ZSD,Z2D,hS⟩:=hS.Kj (.c k0 (.c k0 .n)) ZvT;refine r2 ?_;refine Yk.YU ?_;have hr:=Oi0 hL;subst hr;exact Yk.gen (vs:= []) rfl ZE rfl ⟨_,⟨Zi,p0.Za.Zx.length,Zh,Zm,p0.Za.qK.length,Zl,Yr,Zk,p0.Za.qQ.length,Zj,Yw,Zo,p0.Za.qJ.length,Zn,ZSD,Zq,p0.Za.qG.length,Zp,Z7,p0.qX.length,Z6,rfl,rfl⟩,hT ▸ hS.only sl⟩
end Go.Proofs.YtbmbbcaaimehkaaGreat
end
end
section
namespace Go.Proofs.YtbmbbcaaimehkaaGreat
open Go.Lf
def Zjt:Int ->Option Bool:=fun v7=>
 some (decide (v7 >=0))
def Zju (F:Nat) (p0:ZY) (p1:Int) (p2:Int):Int ->(Int ->Option Bool) ->Option Bool:=fun v13 ZiZ=>
 (bif decide (v13 < (p0.Za.qG.length:Int)) then(ZK p0.Za.qG v13).bind fun x16=>(gd (x16.kind==2) (Zqh F x16.qV p1) default).bind fun x25=>(gd ((x16.kind==2) && x25) (Zqh F x16.qV p2) default).bind fun KE=>(bif(((x16.kind==2) && x25) && KE) then(Zjt) v13 else ZiZ (Y2 (v13 + 1))) else(Zjt) (-1))
def Zsz (F:Nat) (p0:ZY) (p1:Int) (p2:Int):Option Bool:=
 loop F (Zju F p0 p1 p2) 0
def Znu (p0:ZY) (p1:Int) (p2:Int) (p3:Int):Option Bool:=
 (ZK p0.Xc p1).bind fun x1=>(gd (!((decide (p3 < 0)) || (decide (p3 > x1.age)))) (Znt p0 p2) default).bind fun x7=>(bif(((decide (p3 < 0)) || (decide (p3 > x1.age))) || (!x7)) then some false else(bif(p3==x1.age) then some (p2==x1.machine) else(ZK p0.Za.qQ p2).bind fun x8=>(ZK x8 p1).bind fun x13=>some (decide (x13.age > p3))))
end Go.Proofs.YtbmbbcaaimehkaaGreat
end
section
set_option maxRecDepth 20000
noncomputable section
namespace Go.Proofs.YtbmbbcaaimehkaaGreat
open Go.YR Go.Lf
theorem ZJU {F wm h} {p0:ZY} {p1 p2:Int} {Zi Zh Zm Zl Zk Zj Zo Zn Zq Zp Z7 Z6 YO Ke} {r} (Z0:wm <=h.size) (X4:At h YO Ke [.slice Zi p0.Za.Zx.length Zh,.slice Zm p0.Za.qK.length Zl,.slice Zk p0.Za.qQ.length Zj,.slice Zo p0.Za.qJ.length Zn,.slice Zq p0.Za.qG.length Zp,.int .i64 p0.Za.said,.slice Z7 p0.Xc.length Z6]) (X3:Stb wm h YO) (ZB:Sl (Zt .i64) wm h Zi Zh p0.Za.Zx) (ZM:Sl (ZN (Zt .i64)) wm h Zm Zl p0.Za.qK) (ZF:Sl (ZN Zc) wm h Zk Zj p0.Za.qQ) (ZL:Sl (ZN Ze) wm h Zo Zn p0.Za.qJ) (ZI:Sl Zd wm h Zq Zp p0.Za.qG) (Xw:Sl XI wm h Z7 Z6 p0.Xc) (hL:Zsz F p0 p1 p2=some r):
 WR XX 92 #[.pointer (some ⟨YO,Ke,none⟩),.int .i64 p1,.int .i64 p2] wm h (CP (fun(v:Value) (Gb:List (Ast wm))=>v= .bool r∧Gb= []) [] h):=by
 refine bg Tryz.ntmps92 Z0 Yd.nil ?_;intro T hT hS;unfold Zsz at hL;refine r3 ?_;rintro _ h2 ⟨b1,eb1,rfl,hS⟩;refine r1 ?_;rintro _ h4 ⟨b3,eb3,rfl,hS⟩;refine r9 ?_;refine WO.w gN rfl (Y4 ZBY (YF fh rfl) (At.fz hS.fz X3 X4) (j:=4) rfl (v:= .slice Zq p0.Za.qG.length Zp) rfl) ?_;refine WO.w gN rfl (ZbA (Zf lk (Zf lk Zz))) ?_;refine WO.inl gN rfl (Y9.fn ZIy (Zf lk (Zf lk Zz))) (WF.begin (args:= [_,_]) (fn:=Tryz.f105) Kq0 (by exact rfl) Tryz.ntmps105 (by simp) ?_);simp only [Z4,Z9,Nat.reduceAdd];refine r9 ?_;refine WO.ZmR (r:=r) (fun(v7:Int) (v:Value) (h5:H)=>v= .int .i64 v7∧Sp wm T h [bx wm b1 [.int .i64 p1],bx wm b3 [.int .i64 p2]] h5) (Zjt) gN rfl (Y9.fn ZIw (Zf lk (Zf lk Zz))) ?_ (WF.begin (args:= [_,_]) (fn:=Tryz.f109) Kq0 (by exact rfl) Tryz.ntmps109 (by simp) ?_)
 ·clear hL hS;rintro v7 v h5 hL ⟨rfl,hS⟩;dsimp only [Zjt] at hL;refine r5 ?_;refine Yk.XF rfl (ZU lk ZE) ?_;refine r4 ?_;exact rt hL hT hS
 ·skip;simp only [Z4,Z9,Nat.reduceAdd];refine r14 ?_;refine WC.loop (WL.lift hL (fun v13 s=>∃ fr9 h8,s= ⟨fr9,[],h8,none⟩∧Sp wm T h [bx wm b1 [.int .i64 p1],bx wm b3 [.int .i64 p2]] h8∧fr9.at 0= .slice Zq p0.Za.qG.length Zp∧fr9.at 1= .func (.func 106) #[] [.pointer (some ⟨b1,0,none⟩),.pointer (some ⟨b3,0,none⟩)].toArray∧fr9.at 7= .int .i64 (p0.Za.qG.length:Int)∧fr9.at 8= .int .i64 v13) ⟨_,_,rfl,hS.only sl,Yv⟩ ?_);clear hL hS;rintro ZiZ v13 s Znf hL ⟨fr9,h8,rfl,hS,e10,e11,e12,e14⟩;dsimp only [Zju] at hL;refine r6 ?_;refine cn hL ?_ ?_
  ·intro hc hL;refine r15 ?_;obtain⟨x16,hx16,hL⟩:=qZ hL;obtain⟨b17,o18,⟨⟨a19,c20⟩,⟨a21,c22⟩⟩,ZOK,ZGB,ZGq,Zuu⟩:=Sl.at_ ZI hx16;refine r1 ?_;have Zuf:Sl (Zt .i64) wm h a19 c20 x16.qV:=Zuu.1;have ZX8:Sl (Zt .i64) wm h a21 c22 x16.Yc:=Zuu.2;refine WO.w gN rfl (YK WS Xf (YF fh rfl) (At.fz hS.fz ZGq ZGB) (j:=0) rfl rfl (ws:= (cL x16 a19 c20 a21 c22)) rfl) ?_;refine WO.inl gN rfl (Y9.clo (first:= []) (cap:= [.pointer (some ⟨b1,0,none⟩),.pointer (some ⟨b3,0,none⟩)]) lk ZIx lks rfl) (WF.begin (args:= [_,_,_]) (fn:=Tryz.f106) Kq0 (by exact rfl) Tryz.ntmps106 (by simp) ?_);simp only [Z4,Z9,Nat.reduceAdd];refine r3 ?_;rintro _ h24 ⟨b23,Z4M,rfl,hS⟩;refine WG ?_;obtain⟨x25,hx25,hL⟩:=Yi hL;refine WO.gcp (Zw.yes rfl rfl rfl (YC rfl (ZC rfl fh))) rfl (fun hg=>(Y9.fn ZzI (Zf (YQ (ZC rfl fh) rfl hg) (Zf (YQ fh rfl hg) Zz)))) (fun hg=>ZsB (hS.Y1 Zuf) (hx25 hg)) ?_;refine r5 ?_;obtain⟨KE,ZmV,hL⟩:=Yi hL;refine WO.gcp (Zw.yes rfl rfl rfl (YC rfl (ZC rfl fh))) rfl (fun hg=>(Y9.fn ZzI (Zf (YQ (ZC rfl fh) rfl hg) (Zf (YQ fh rfl hg) Zz)))) (fun hg=>ZsB (hS.Y1 Zuf) (ZmV hg)) ?_;refine r5 ?_;refine Yk.XF rfl (ZU lk ZE) ?_;refine r2 ?_;refine cn hL ?_ ?_
   ·intro hc hL;refine WG ?_;exact Yk.XF rfl (ZU lk ZE) ⟨_,hL,⟨rfl,hS.only sl⟩⟩
   ·intro hc hL;refine r7 ?_;exact Ya.YU (Znf _ _ hL ⟨_,_,rfl,hS.only sl,Yv⟩)
  ·intro hc hL;refine JC ?_;exact Yk.XF rfl (ZU lk ZE) ⟨_,hL,⟨rfl,hS.only sl⟩⟩
theorem ZJV {F h} {p0:ZY} {p1 p2:Int} {Zi Zh Zm Zl Zk Zj Zo Zn Zq Zp Z7 Z6 YO Ke} {r} (X4:At h YO Ke [.slice Zi p0.Za.Zx.length Zh,.slice Zm p0.Za.qK.length Zl,.slice Zk p0.Za.qQ.length Zj,.slice Zo p0.Za.qJ.length Zn,.slice Zq p0.Za.qG.length Zp,.int .i64 p0.Za.said,.slice Z7 p0.Xc.length Z6]) (X3:Stb h.size h YO) (ZB:Sl (Zt .i64) h.size h Zi Zh p0.Za.Zx) (ZM:Sl (ZN (Zt .i64)) h.size h Zm Zl p0.Za.qK) (ZF:Sl (ZN Zc) h.size h Zk Zj p0.Za.qQ) (ZL:Sl (ZN Ze) h.size h Zo Zn p0.Za.qJ) (ZI:Sl Zd h.size h Zq Zp p0.Za.qG) (Xw:Sl XI h.size h Z7 Z6 p0.Xc) (hL:Zsz F p0 p1 p2=some r):Pure XX 92 #[.pointer (some ⟨YO,Ke,none⟩),.int .i64 p1,.int .i64 p2] h (.bool r):=
 WR.X9 rfl (ZJU (Nat.le_refl _) X4 X3 ZB ZM ZF ZL ZI Xw hL)
theorem ZJT {wm h} {p0:ZY} {p1 p2 p3:Int} {Zi Zh Zm Zl Zk Zj Zo Zn Zq Zp Z7 Z6 YO Ke} {r} (Z0:wm <=h.size) (X4:At h YO Ke [.slice Zi p0.Za.Zx.length Zh,.slice Zm p0.Za.qK.length Zl,.slice Zk p0.Za.qQ.length Zj,.slice Zo p0.Za.qJ.length Zn,.slice Zq p0.Za.qG.length Zp,.int .i64 p0.Za.said,.slice Z7 p0.Xc.length Z6]) (X3:Stb wm h YO) (ZB:Sl (Zt .i64) wm h Zi Zh p0.Za.Zx) (ZM:Sl (ZN (Zt .i64)) wm h Zm Zl p0.Za.qK) (ZF:Sl (ZN Zc) wm h Zk Zj p0.Za.qQ) (ZL:Sl (ZN Ze) wm h Zo Zn p0.Za.qJ) (ZI:Sl Zd wm h Zq Zp p0.Za.qG) (Xw:Sl XI wm h Z7 Z6 p0.Xc) (hL:Znu p0 p1 p2 p3=some r):
 WR XX 93 #[.pointer (some ⟨YO,Ke,none⟩),.int .i64 p1,.int .i64 p2,.int .i64 p3] wm h (CP (fun(v:Value) (Gb:List (Ast wm))=>v= .bool r∧Gb= []) [] h):=by
 refine bg Tryz.ntmps93 Z0 Yd.nil ?_;intro T hT hS;unfold Znu at hL;refine r10 ?_;refine WO.w gN rfl (Y4 ZBZ (YF fh rfl) (At.fz hS.fz X3 X4) (j:=6) rfl (v:= .slice Z7 p0.Xc.length Z6) rfl) ?_;refine r1 ?_;obtain⟨x1,hx1,hL⟩:=qZ hL;obtain⟨b2,o3,_,ZOJ,ZAr,ZUN,ZvY⟩:=Sl.at_ Xw hx1;refine r1 ?_;refine WO.w gN rfl (YK Zow Zal (YF fh rfl) (At.fz hS.fz ZUN ZAr) (j:=0) rfl rfl (ws:= [.int .i64 x1.machine,.bool x1.here,.int .i64 x1.age]) rfl) ?_;refine r1 ?_;rintro _ h5 ⟨b4,eb4,rfl,hS⟩;refine r1 ?_;rintro h6 hS;refine r16 ?_;obtain⟨x7,hx7,hL⟩:=Yi hL;refine WO.gcp (Zw.no rfl rfl rfl (YC rfl fh)) rfl (fun hg=>(Y9.fn ZzG (Zf (YQ (ZC rfl fh) rfl hg) (Zf (YQ fh rfl hg) Zz)))) (fun hg=>Zsw (At.fz hS.fz X3 X4) (Stb.up hS.hw (Stb.fz hS.fz X4 X3)) (hS.Y1 ZB) (hS.Y1 ZM) (hS.Y1 ZF) (hS.Y1 ZL) (hS.Y1 ZI) (hS.Y1 Xw) (hx7 hg)) ?_;refine r4 ?_;refine cn hL ?_ ?_
 ·intro hc hL;refine r7 ?_;exact rt hL hT hS
 ·intro hc hL;refine JC ?_;refine cn hL ?_ ?_
  ·intro hc hL;refine JC ?_;exact rt hL hT hS
  ·intro hc hL;refine r8 ?_;refine WO.w gN rfl (Y4 ZqV (YF fh rfl) (At.fz hS.fz X3 X4) (j:=2) rfl (v:= .slice Zk p0.Za.qQ.length Zj) rfl) ?_;refine r1 ?_;obtain⟨x8,hx8,hL⟩:=qZ hL;obtain⟨b9,o10,⟨a11,c12⟩,Z2N,Z2T,Z2S,ZUg⟩:=Sl.at_ ZF hx8;refine r1 ?_;have ZNG:Sl Zc wm h a11 c12 x8:=ZUg;refine r2 ?_;obtain⟨x13,ZH6,hL⟩:=qZ hL;obtain⟨b14,o15,_,ZOL,ZPI,ZPq,ZO7⟩:=Sl.at_ ZNG ZH6;refine r9 ?_;exact rt hL hT hS
theorem Zsy {h} {p0:ZY} {p1 p2 p3:Int} {Zi Zh Zm Zl Zk Zj Zo Zn Zq Zp Z7 Z6 YO Ke} {r} (X4:At h YO Ke [.slice Zi p0.Za.Zx.length Zh,.slice Zm p0.Za.qK.length Zl,.slice Zk p0.Za.qQ.length Zj,.slice Zo p0.Za.qJ.length Zn,.slice Zq p0.Za.qG.length Zp,.int .i64 p0.Za.said,.slice Z7 p0.Xc.length Z6]) (X3:Stb h.size h YO) (ZB:Sl (Zt .i64) h.size h Zi Zh p0.Za.Zx) (ZM:Sl (ZN (Zt .i64)) h.size h Zm Zl p0.Za.qK) (ZF:Sl (ZN Zc) h.size h Zk Zj p0.Za.qQ) (ZL:Sl (ZN Ze) h.size h Zo Zn p0.Za.qJ) (ZI:Sl Zd h.size h Zq Zp p0.Za.qG) (Xw:Sl XI h.size h Z7 Z6 p0.Xc) (hL:Znu p0 p1 p2 p3=some r):Pure XX 93 #[.pointer (some ⟨YO,Ke,none⟩),.int .i64 p1,.int .i64 p2,.int .i64 p3] h (.bool r):=
 WR.X9 rfl (ZJT (Nat.le_refl _) X4 X3 ZB ZM ZF ZL ZI Xw hL)
end Go.Proofs.YtbmbbcaaimehkaaGreat
end
end
section
namespace Go.Proofs.YtbmbbcaaimehkaaGreat
open Go.Lf
def Zwg (F:Nat) (p0:Zb):Option Bool:=
 (ZsG F p0 (Zb.mk [] [] [] [] [] 0)).bind fun x3=>some x3
def ZnX (p0:Zb) (v15:(List XO)) (v64:Int) (ZmD:(Int ->Option Bool)) (x67:(List ZA)):Int ->(Int ->Option Bool) ->Option Bool:=fun v81 Zyg=>
 (bif decide (v81 < (x67.length:Int)) then(ZK x67 v81).bind fun x84=>(gd (!x84.here) (ZK v15 v81) default).bind fun x90=>(gd (!x84.here) (ZnK p0 v81 x90 x84.ZX x84.age) default).bind fun x93=>(bif((!x84.here) && (!x93)) then some false else Zyg (Y2 (v81 + 1))) else ZmD (Y2 (v64 + 1)))
def Zj5 (p0:Zb) (Zas:Int) (Zh7:((List XO)×Int ->Option Bool)) (x107:(List Zr)):(List XO)×Int ->((List XO)×Int ->Option Bool) ->Option Bool:=fun(ZoY,Zvl) ZtP=>
 (bif decide (Zvl < (x107.length:Int)) then(ZK x107 Zvl).bind fun ZHc=>(Zqj p0 ZoY ZHc Zas true).bind fun ZLQ=>(bif(!ZLQ) then some false else ZtP (ZoY,Y2 (Zvl + 1))) else Zh7 (ZoY,Y2 (Zas + 1)))
def Zel (p0:Zb) (x160:(List Int)):Int×(List Bool) ->(Int×(List Bool) ->Option Bool) ->Option Bool:=fun(ZaI,Zbc) ZtN=>
 (bif decide (ZaI < (x160.length:Int)) then(ZK x160 ZaI).bind fun ZoL=>(gd (!((decide (ZoL < 0)) || (decide (ZoL >=p0.said)))) (ZK Zbc ZoL) default).bind fun ZHa=>(bif(((decide (ZoL < 0)) || (decide (ZoL >=p0.said))) || ZHa) then some false else(ZK Zbc ZoL).bind fun ZSc=>ZtN (Y2 (ZaI + 1),Yl Zbc ZoL true)) else some ((x160.length:Int)==p0.said))
def ZgB (F:Nat) (p0:Zb) (v97:(List XO)):Int ->(Int ->Option Bool) ->Option Bool:=fun Zad Ze1=>
 (bif decide (Zad < (p0.qG.length:Int)) then(ZK p0.qG Zad).bind fun Zar=>(gd (Zar.kind==1) (Zqj p0 v97 Zar.ZV Zar.ZX false) default).bind fun ZoN=>(gd ((!((Zar.kind==1) && (!ZoN))) && (Zar.kind==3)) (ZK v97 Zar.place) default).bind fun ZoM=>(gd ((!((Zar.kind==1) && (!ZoN))) && (Zar.kind==3)) (ZnK p0 Zar.place ZoM Zar.at_ Zar.age) default).bind fun x159=>(bif(((Zar.kind==1) && (!ZoN)) || ((Zar.kind==3) && (!x159))) then some false else Ze1 (Y2 (Zad + 1))) else(ZBe F p0).bind fun x160=>(mkL false 1 p0.said p0.said).bind fun ZCv=>loop F (Zel p0 x160) (0,ZCv))
def ZgC (F:Nat) (p0:Zb):(List XO)×Int ->((List XO)×Int ->Option Bool) ->Option Bool:=fun(v97,Zas) Zh7=>
 (bif decide (Zas < (p0.qJ.length:Int)) then(ZK p0.qJ Zas).bind fun x107=>loop F (Zj5 p0 Zas Zh7 x107) (v97,0) else loop F (ZgB F p0 v97) 0)
def ZgD (F:Nat) (p0:Zb) (v15:(List XO)):Int ->(Int ->Option Bool) ->Option Bool:=fun v64 ZmD=>
 (bif decide (v64 < (p0.qQ.length:Int)) then(ZK p0.qQ v64).bind fun x67=>loop F (ZnX p0 v15 v64 ZmD x67) 0 else loop F (ZgC F p0) (v15,0))
def ZgE (F:Nat) (p0:Zb) (v15:(List XO)):Int ->(Int ->Option Bool) ->Option Bool:=fun v34 ZiY=>
 (bif decide (v34 < (p0.Zx.length:Int)) then(ZK p0.Zx v34).bind fun x37=>(gd (decide (x37 >=0)) (ZK v15 v34) default).bind fun x40=>(gd (decide (x37 >=0)) (ZK v15 x37) default).bind fun x43=>(gd ((decide (x37 >=0)) && (!(x40.is !=x43.is))) (ZK v15 v34) default).bind fun x46=>(gd ((decide (x37 >=0)) && (!(x40.is !=x43.is))) (ZK v15 x37) default).bind fun x49=>(gd ((decide (x37 >=0)) && (!((x40.is !=x43.is) || (x46.at_ !=x49.at_)))) (ZK v15 v34) default).bind fun x52=>(gd ((decide (x37 >=0)) && (!((x40.is !=x43.is) || (x46.at_ !=x49.at_)))) (ZK v15 x37) default).bind fun x55=>(bif((decide (x37 >=0)) && (((x40.is !=x43.is) || (x46.at_ !=x49.at_)) || (x52.letter !=x55.letter))) then some false else ZiY (Y2 (v34 + 1))) else loop F (ZgD F p0 v15) 0)
def Zj6 (F:Nat) (p0:Zb):Int×(List XO) ->(Int×(List XO) ->Option Bool) ->Option Bool:=fun(v13,v15) Zyu=>
 (bif decide (v13 < (p0.Zx.length:Int)) then(Zgu F p0 v13).bind fun Ub=>(bif(!Ub.2) then some false else(ZK v15 v13).bind fun x23=>Zyu (Y2 (v13 + 1),Yl v15 v13 Ub.1)) else loop F (ZgE F p0 v15) 0)
def ZnY (F:Nat) (p0:Zb):Option Bool:=
 (ZBg F p0).bind fun x3=>(bif(!x3) then some false else(mkL (XO.mk 0 0 0 false) 32 (p0.Zx.length:Int) (p0.Zx.length:Int)).bind fun z4=>loop F (Zj6 F p0) (0,z4))
def K3:(List Zv)×(List Int)×(List (List Int))×(List (List ZA))×(List (List Zr))×(List Zg)×Int ->Option (Zb×(List Zv)×Int):=fun(v34,v39,v43,v48,v53,v58,v62)=>
 some ((Zb.mk v39 v43 v48 v53 v58 v62),v34,0)
def Zek (Ye:Zb):(List Zv)×(List Zg)×(List (List Int))×(List (List Zr)) ->Option (Zb×(List Zv)×Int):=fun(v70,v74,v78,v80)=>
 (K3) (v70,Ye.Zx,v78,Ye.qQ,v80,v74,Y2 (Ye.said + 1))
def Zj4 (Ye:Zb):(List Zg) ->Option (Zb×(List Zv)×Int):=fun ZoW=>
 (Zek Ye) ([],ZoW,Ye.qK,Ye.qJ)
def ZgA (p1:ZH) (Ye:Zb) (x160:(XO×Bool)) (Zis:(List Int)):(List Zv)×Int×(List Int)×(List Int)×(List (List ZA)) ->((List Zv)×Int×(List Int)×(List Int)×(List (List ZA)) ->Option (Zb×(List Zv)×Int)) ->Option (Zb×(List Zv)×Int):=fun(Zvk,Zvj,Zrt,Zrs,Zrr) ZtM=>
 (bif decide (Zvj < (Zis.length:Int)) then(ZK Zis Zvj).bind fun Zir=>(ZK Zrr x160.1.at_).bind fun ZLP=>(ZK ZLP Zir).bind fun Zmg=>(ZK Zrr x160.1.at_).bind fun ZG9=>(ZK ZG9 Zir).bind fun ZSb=>(app 8 Zrt [Zir]).bind fun z229=>(app 8 Zrs [Y2 (Zmg.age + 1)]).bind fun z236=>(app 40 Zvk [(Zv.mk 2 Zir x160.1.at_ p1.b 0)]).bind fun ZG1=>ZtM (ZG1,Y2 (Zvj + 1),z229,z236,Yl Zrr x160.1.at_ (Yl ZG9 Zir (ZA.mk false p1.b (Y2 (Zmg.age + 1))))) else(ZK Ye.Zx p1.a).bind fun Zw3=>(app 128 Ye.qG [(Zg.mk 2 p1.b (Zr.mk 0 0 0 0 0) Zrt Zrs 0 0 0)]).bind fun ZG0=>(K3) (Zvk,Yl Ye.Zx p1.a (-1),Ye.qK,Zrr,Ye.qJ,ZG0,Ye.said))
def ZBk (F:Nat) (p0:Zb) (p1:ZH):Option (Zb×(List Zv)×Int):=
 (ZBd F p0 p1).bind fun x7=>(bif x7 then some ((Zb.mk [] [] [] [] [] 0),[],3) else(ZBc F p0 p1).bind fun x9=>(bif(!x9) then some ((Zb.mk [] [] [] [] [] 0),[],7) else(ZBb F p0).bind fun Ye=>(bif(p1.act==1) then(ZK Ye.qQ p1.a).bind fun x84=>(ZK x84 p1.b).bind fun x90=>(bif x90.here then(ZK Ye.qK p1.b).bind fun x100=>(app 8 x100 [Ye.said]).bind fun ZCx=>(ZK Ye.qK p1.b).bind fun x112=>(Zek Ye) ([(Zv.mk 1 p1.b p1.a Ye.said 0)],Ye.qG,Yl Ye.qK p1.b ZCx,Ye.qJ) else(bif((!true) && (decide (x90.age <=0))) then(ZK Ye.qJ p1.a).bind fun Zb3=>(app 40 Zb3 [(Zr.mk Ye.said p1.b p1.a 0 0)]).bind fun ZCw=>(ZK Ye.qJ p1.a).bind fun Jp=>(Zek Ye) ([],Ye.qG,Ye.qK,Yl Ye.qJ p1.a ZCw) else(app 128 Ye.qG ([(Zg.mk 1 x90.ZX (Zr.mk Ye.said p1.b p1.a x90.age (Y2 (0 + 1))) [] [] 0 0 0)])).bind fun Zu7=>(bif(((!true) && (p1.a !=p1.a)) && (p1.a !=x90.ZX)) then(app 128 Zu7 ([(Zg.mk 3 p1.a (Zr.mk 0 0 0 0 0) [] [] p1.b x90.ZX x90.age)])).bind fun ZwW=>(Zj4 Ye) ZwW else(Zj4 Ye) Zu7))) else(bif(p1.act==2) then(Zgu F Ye p1.a).bind fun x160=>(Zqi F Ye.Zx p1.a).bind fun Zis=>loop F (ZgA p1 Ye x160 Zis) ([],0,[],[],Ye.qQ) else(bif(p1.act==3) then(ZK Ye.Zx p1.a).bind fun ZR9=>(K3) ([],Yl Ye.Zx p1.a p1.b,Ye.qK,Ye.qQ,Ye.qJ,Ye.qG,Ye.said) else(bif(p1.act==4) then(ZK Ye.Zx p1.a).bind fun ZR8=>(K3) ([],Yl Ye.Zx p1.a (-1),Ye.qK,Ye.qQ,Ye.qJ,Ye.qG,Ye.said) else(bif(p1.act==5) then(ZBa F Ye p1.a).bind fun ZeC=>(K3) (ZeC.2,ZeC.1.Zx,ZeC.1.qK,ZeC.1.qQ,ZeC.1.qJ,ZeC.1.qG,ZeC.1.said) else(K3) ([],Ye.Zx,Ye.qK,Ye.qQ,Ye.qJ,Ye.qG,Ye.said))))))))
end Go.Proofs.YtbmbbcaaimehkaaGreat
end
