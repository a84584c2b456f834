/- Plays Part 10 of the proof. -/
import Derived.Shelf.Sort.Plain
import Derived.Test.YtbmbbcaaimehkaaGreatPa9
set_option linter.all false
set_option maxHeartbeats 2000000
section
noncomputable section
namespace Go.YT
open Go.Lf
def ZCH (P:Program) (f:FuncId):Prop:=∀ (blk off cap:Nat) (zs:List Int) (w:World),Go.Sort.Holds (Value.int .i64) w blk off zs.toArray ->blk < w.heap.size ->zs.length < 4611686018427387904 ->
 Calls P f #[.slice (some ⟨blk,off,none⟩) zs.length cap] w fun e w'=>e= .returned (.tuple #[])∧∃ n os,w'=Go.Sort.grow (Go.Sort.putRow (Value.int .i64) (Go.Sort.ahead w n) blk off (zs.mergeSort fun x y=>decide (x <=y)).toArray) os
def ZaH (cs:List Value) (o:Nat) (ys:List Int):List Value:=cs.mapIdx fun k x=>if o <=k∧k < o + ys.length then .int .i64 (ys.getD (k - o) 0) else x
theorem Zeb (cs:List Value) (o:Nat) (ys:List Int):(ZaH cs o ys).length=cs.length:=by simp [ZaH]
theorem ZiR (cs:List Value) (o:Nat) (ys:List Int) (k:Nat):(ZaH cs o ys)[k]? =cs[k]?.map fun x=>if o <=k∧k < o + ys.length then .int .i64 (ys.getD (k - o) 0) else x:=by simp [ZaH]
variable {X:Ctx} {f:FuncId} {wm wm0:Nat} {h:H} {i o c:Nat} {cs:List Value} {xs:List Int}
theorem Zyk (he:Q9 (Zr .i64) wm0 h cs o xs) {j:Nat} (hj:j < xs.length):cs[o + j]? =some (.int .i64 xs[j]):=by
 obtain⟨q,h1,_⟩:=he.get j xs[j] (List.getElem?_eq_getElem hj);have h1:(cs.drop (o + j * 1)).take 1= [.int .i64 xs[j]]:=h1;rw [Nat.mul_one] at h1;have:=congrArg (fun l=>l[0]?) h1
 simpa [List.getElem?_take,List.getElem?_drop] using this
theorem ZxX (SC:ZCH X.P f) (hat:h.at i= .row cs true 1) (hw:wm <=i) (he:Q9 (Zr .i64) wm0 h cs o xs) (hne:0 < xs.length) (hlen:xs.length < 4611686018427387904):
 Y1 X (.call f #[.slice (some ⟨i,o,none⟩) xs.length c] wm h) (.fin (.ret (.tuple #[])) (h.put i (.row (ZaH cs o (xs.mergeSort fun x y=>decide (x <=y))) true 1))):=by
 intro ρ args' w Z0 rel hv;obtain⟨hsz,hvv⟩:=hv;have hsz:args'.size=1:=hsz.symm
 obtain⟨v',rfl⟩:∃ v',args'=#[v']:= ⟨args'[0],by
  apply Array.ext
  ·simpa using hsz
  ·intro k h1 h2;have:k=0:=by omega
   subst this;rfl⟩
 have hvr:=hvv 0 _ _ rfl rfl;generalize hn:xs.length=n at hvr;cases hvr with
 | QJ=>omega
 | @slice _ b d _ _ _ c' hρ hc=>
   subst hn;have hb:= (rel.dom i b d hρ).2;have hil:= (rel.dom i b d hρ).1;have hob:=rel.obj i b d hρ;rw [hat] at hob;obtain⟨cc,el,fz,hcc,hfz,hdl,hcv⟩:=hob;obtain⟨ZUM,ZUL⟩:=hfz rfl;subst ZUM;have ZZy:o + xs.length * 1 <=cs.length:=he.len
   have hcell:∀ j (hj:j < xs.length),cc[d + (o + j)]? =some (.int .i64 xs[j]):=fun j hj=>by
    have hk:d + (o + j) < cc.size:=by omega
    have:=hcv (o + j) _ cc[d + (o + j)] (Zyk he hj) (Array.getElem?_eq_getElem hk);rw [Array.getElem?_eq_getElem hk];cases hx:cc[d + (o + j)] <;> rw [hx] at this <;> cases this
    rfl
   have hH:Go.Sort.Holds (Value.int .i64) w b (d + o) xs.toArray:=by
    intro j hj;have hj':j < xs.length:=by simpa using hj
    refine⟨?_,by simp [World.frozen?,hcc]⟩;have h1:=hcell j hj';simp only [World.cell?,hcc];simp only [Option.isSome_none,Bool.false_eq_true,if_false];rw [show d + o + j=d + (o + j) by omega,h1];simp [hj']
   refine callsIn_wide.2 ((SC b (d + o) c' xs w hH hb hlen).mono ?_);rintro e w' ⟨rfl,n,os,rfl⟩;generalize hys:(xs.mergeSort fun x y=>decide (x <=y))=ys;have hyl:ys.length=xs.length:=by rw [← hys,List.length_mergeSort]
   have hheap:∀ b',b' < w.heap.size ->(Go.Sort.grow (Go.Sort.putRow (Value.int .i64) (Go.Sort.ahead w n) b (d + o) ys.toArray) os).heap[b']? =if b=b' then(w.heap[b']?).map (Go.Sort.onCells (Go.Sort.putCells (Value.int .i64) (d + o) ys.toArray)) else w.heap[b']?:=fun b' hb'=>by
    have hs:b' < (w.heap.modify b (Go.Sort.onCells (Go.Sort.putCells (Value.int .i64) (d + o) ys.toArray))).size:=by simpa using hb'
    simp only [Go.Sort.grow,Go.Sort.putRow,Go.Sort.mapBlock,Go.Sort.ahead];rw [Array.getElem?_append_left hs,Array.getElem?_modify]
   have hsame:∀ b',b' < w.heap.size ->b' ≠ b ->(Go.Sort.grow (Go.Sort.putRow (Value.int .i64) (Go.Sort.ahead w n) b (d + o) ys.toArray) os).heap[b']? =w.heap[b']?:=fun b' hb' hne'=>by rw [hheap b' hb',if_neg (fun q=>hne' q.symm)]
   have hsize:w.heap.size <= (Go.Sort.grow (Go.Sort.putRow (Value.int .i64) (Go.Sort.ahead w n) b (d + o) ys.toArray) os).heap.size:=by simp [Go.Sort.grow,Go.Sort.putRow,Go.Sort.mapBlock,Go.Sort.ahead]
   have hat':∀ j,(h.put i (.row (ZaH cs o ys) true 1)).at j=if j=i then .row (ZaH cs o ys) true 1 else h.at j:=fun j=>by
    rw [H.Q0];by_cases e:j=i
    ·subst e;rw [if_pos ⟨rfl,hil⟩,if_pos rfl]
    ·rw [if_neg (fun q=>e q.1),if_neg e]
   have ZOO:∀ j d',ρ j=some (b,d') ->j ≠ i ->(h.at j).live=false:=fun j d' hj hji=>by
    cases hl:(h.at j).live with
    | false=>rfl
    | true=>exact absurd (rel.inj i j b d d' hρ hj (by rw [hat];rfl) hl).symm hji
   refine⟨ρ,.ret (.tuple _ _ rfl fun k v v' e=>by simp at e),⟨fun j b' d' hj=>⟨(rel.dom j b' d' hj).1,Nat.lt_of_lt_of_le (rel.dom j b' d' hj).2 hsize⟩,fun j b' d' hj=>?_,fun j k b' d1 d2 h1 h2 h3 h4=>?_⟩,?_⟩
   ·rw [hat'];by_cases e:j=i
    ·subst e;rw [hρ] at hj;cases hj;rw [if_pos rfl];refine⟨Go.Sort.putCells (Value.int .i64) (d + o) ys.toArray cc,el,(0,0),?_,fun _=>⟨rfl,fun hz=>?_⟩,?_,fun k v v' e1 e2=>?_⟩
     ·rw [hheap b hb,if_pos rfl,hcc];rfl
     ·rw [ZUL hz];simp [Go.Sort.putCells]
     ·rw [Zeb];simpa [Go.Sort.putCells] using hdl
     ·rw [ZiR] at e1;obtain⟨v0,e0,rfl⟩:=Option.map_eq_some_iff.1 e1;have hkl:k < cs.length:= (Li0 e0).1;have hkc:d + k < cc.size:=by omega
      have e3:(Go.Sort.putCells (Value.int .i64) (d + o) ys.toArray cc)[d + k]? =some (if d + o <=d + k∧d + k < d + o + ys.length then .int .i64 ys.toArray[d + k - (d + o)]! else cc[d + k]):=by
       simp [Go.Sort.putCells,Array.getElem?_eq_getElem hkc]
      rw [e3] at e2;cases e2;by_cases hin:o <=k∧k < o + ys.length
      ·rw [if_pos hin,if_pos (by omega)]
       have:ys.toArray[d + k - (d + o)]! =ys.getD (k - o) 0:=by
        rw [show d + k - (d + o)=k - o by omega];have hlt:k - o < ys.length:=by omega
        simp [hlt]
       rw [this];exact .int _ _
      ·rw [if_neg hin,if_neg (by omega)];exact hcv k v0 _ e0 (Array.getElem?_eq_getElem hkc)
    ·rw [if_neg e];by_cases eb:b'=b
     ·subst eb;have:=ZOO j d' hj e;cases hh:h.at j with
      | dead=>trivial
      | row _ _ _=>rw [hh] at this;cases this
      | map _ _=>rw [hh] at this;cases this
      | loop _ _ _ _ _ _ _ _=>rw [hh] at this;cases this
      | deferred=>rw [hh] at this;cases this
      | Zdo _ _=>rw [hh] at this;cases this
      | iter _ _ _ _=>rw [hh] at this;cases this
      | Zfi=>rw [hh] at this;cases this
     ·exact(rel.obj j b' d' hj).world (hsame b' (rel.dom j b' d' hj).2 eb)
   ·rw [hat'] at h3 h4;refine rel.inj j k b' d1 d2 h1 h2 ?_ ?_
    ·by_cases e:j=i
     ·subst e;rw [hat];rfl
     ·rwa [if_neg e] at h3
    ·by_cases e:k=i
     ·subst e;rw [hat];rfl
     ·rwa [if_neg e] at h4
   ·refine⟨Ren.le_refl ρ,Nat.le_refl _,fun j hj=>?_,fun j hj hx=>?_,fun j hj hx=>?_,rfl,rfl,rfl,hsize,fun b' hb' hno=>?_,fun j b' d' e e'=>by rw [e] at e';cases e'⟩
    ·rw [hat',if_neg (by omega)]
    ·rw [hat'] at hx;by_cases e:j=i
     ·subst e;rw [hat];rfl
     ·rwa [if_neg e] at hx
    ·rw [hat'] at hx;by_cases e:j=i
     ·subst e;rw [hat];rfl
     ·rwa [if_neg e] at hx
    ·exact hsame b' hb' fun q=>hno i d hw (by rw [q];exact hρ) (by rw [hat];rfl)
theorem ZDv (SC:ZCH X.P f) (H0:∀ (wm:Nat) (h:H) (a:Option Addr) (c:Nat),Y1 X (.call f #[.slice a 0 c] wm h) (.fin (.ret (.tuple #[])) h)) {a:Option Addr} {n:Nat} (hlen:xs.length < 4611686018427387904)
 (Z0:wm <=h.size) (hO:Yc (wm:=wm) [ow wm (Zr .i64) a n c xs] h):
 WR X f #[.slice a n c] wm h (CP (fun(v:Value) (Gb:List (Ast wm))=>v= .tuple [].toArray∧Gb= [ow wm (Zr .i64) a n c (xs.mergeSort fun x y=>decide (x <=y))]) [ow wm (Zr .i64) a n c xs] h):=by
 have hP:(ow wm (Zr .i64) a n c xs).P h:=hO.all _ (by simp);obtain⟨hn,so⟩:=hP;have s0:Sp wm (Qk [ow wm (Zr .i64) a n c xs]) h [ow wm (Zr .i64) a n c xs] h:=Sp.start Z0 hO
 have empty:xs= [] ->WR X f #[.slice a n c] wm h (CP (fun(v:Value) (Gb:List (Ast wm))=>v= .tuple [].toArray∧Gb= [ow wm (Zr .i64) a n c (xs.mergeSort fun x y=>decide (x <=y))]) [ow wm (Zr .i64) a n c xs] h):=fun e=>by
  subst e;have hn:n=0:=hn;subst hn;exact⟨_,h,⟨_,rfl,_,⟨rfl,rfl⟩,by simpa using s0⟩,H0 wm h a c⟩
 rcases so.mem with⟨_,_,h3⟩ | ⟨i,o,cs,rfl,h2,h3,h4,h5,h6⟩
 ·exact empty h3
 ·rcases Nat.eq_zero_or_pos xs.length with z | z
  ·exact empty (List.length_eq_zero_iff.1 z)
  ·subst hn;have h3:h.at i= .row cs true 1:=h3;have hj:=ZxX (c:=c) SC h3 h2 h6 z hlen;refine⟨_,_,⟨_,rfl,_,⟨rfl,rfl⟩,?_⟩,hj⟩;have hil:i < h.size:=XM h3 rfl
   have hu:Up wm (Xy (some ⟨i,o,none⟩)) h (h.put i (.row (ZaH cs o (xs.mergeSort fun x y=>decide (x <=y))) true 1)):=
    let u:=Up.put (lo:=wm) (A:= .row (ZaH cs o (xs.mergeSort fun x y=>decide (x <=y))) true 1) h2 (show(h.at i).own=true by rw [h3];rfl)
    ⟨u.size,fun j hj hn=>u.keep j hj fun e=>hn ⟨o,by rw [e]⟩,fun j ⟨o',e⟩=>by cases e;exact⟨h2,by rw [h3];rfl⟩⟩
   refine s0.one .z hu (fun j q=>q) ⟨?_,?_,.inr ⟨i,o,_,rfl,h2,YH hil _,?_,?_,?_⟩⟩ fun j q=>.inl q
   ·rw [List.length_mergeSort]
   ·rw [List.length_mergeSort];exact so.max
   ·rw [List.length_mergeSort];exact h4
   ·rw [Zeb];exact h5
   ·refine⟨?_,fun k x hk=>⟨(),?_,trivial⟩⟩
    ·rw [Zeb,List.length_mergeSort];exact h6.len
    ·have hkl:k < (xs.mergeSort fun x y=>decide (x <=y)).length:= (Li0 hk).1;have hl:o + xs.length * 1 <=cs.length:=h6.len;have Z3U:k < xs.length:=by rwa [List.length_mergeSort] at hkl
     show((ZaH cs o _).drop (o + k * 1)).take 1= [.int .i64 x];rw [Nat.mul_one];apply List.ext_getElem?;intro j;cases j with
     | zero=>
       rw [List.getElem?_take_of_lt (by omega),List.getElem?_drop,Nat.add_zero,ZiR,List.getElem?_eq_getElem (show o + k < cs.length by omega)];simp only [Option.map_some,List.getElem?_cons_zero];rw [if_pos (by omega),show o + k - o=k by omega,List.getD_eq_getElem?_getD,hk];rfl
     | succ j=>rw [List.getElem?_take_eq_none (by omega)];simp
end Go.YT
end
end
section
set_option maxRecDepth 100000
noncomputable section
namespace Go.Proofs.YtbmbbcaaimehkaaGreat
open Go.YT Go.Lf
def ZIy:Go.Shelf.Ren:= ⟨fun | 189=>94 | 125=>108 | 257=>107 | 128=>119 | 129=>120 | 294=>110 | 295=>111 | 296=>112 | 297=>113 | 298=>114 | 299=>115 | 216=>116 | 300=>117 | 301=>118 | 328=>121 | 329=>122 | 330=>123 | 331=>124 | 332=>125 | 215=>126 | 343=>127 | n=>n,fun | 28=>22 | 3=>3 | 46=>155 | 0=>0 | 51=>165 | 53=>167 | 4=>4 | 183=>159 | 182=>158 | 131=>69 | 5=>5 | 9=>9 | 218=>168 | 222=>172 | 228=>174 | 229=>175 | n=>n,fun n=>n⟩
theorem ZNx:Lays.n189 Tryz.prog ZIy:= {
 mixed:=by kernel_rfl,
 f125:=Tryz.func108.trans (congrArg some Kq0),
 f128:=Tryz.func119.trans (congrArg some Kq0),
 f129:=Tryz.func120.trans (congrArg some Kq0),
 f189:=Tryz.func94.trans (congrArg some Kq0),
 f215:=Tryz.func126.trans (congrArg some Kq0),
 f216:=Tryz.func116.trans (congrArg some Kq0),
 f257:=Tryz.func107.trans (congrArg some Kq0),
 f294:=Tryz.func110.trans (congrArg some Kq0),
 f295:=Tryz.func111.trans (congrArg some Kq0),
 f296:=Tryz.func112.trans (congrArg some Kq0),
 f297:=Tryz.func113.trans (congrArg some Kq0),
 f298:=Tryz.func114.trans (congrArg some Kq0),
 f299:=Tryz.func115.trans (congrArg some Kq0),
 f300:=Tryz.func117.trans (congrArg some Kq0),
 f301:=Tryz.func118.trans (congrArg some Kq0),
 f328:=Tryz.func121.trans (congrArg some Kq0),
 f329:=Tryz.func122.trans (congrArg some Kq0),
 f330:=Tryz.func123.trans (congrArg some Kq0),
 f331:=Tryz.func124.trans (congrArg some Kq0),
 f332:=Tryz.func125.trans (congrArg some Kq0),
 f343:=Tryz.func127.trans (congrArg some Kq0),
 t0:=Tryz.underlying0,
 a0:=Tryz.isAgg0,
 z0:=Tryz.sizeOf0,
 v0:=Tryz.zeroValue0,
 t3:=Tryz.underlying3,
 a3:=Tryz.isAgg3,
 z3:=Tryz.sizeOf3,
 v3:=Tryz.zeroValue3,
 t4:=Tryz.underlying4,
 a4:=Tryz.isAgg4,
 z4:=Tryz.sizeOf4,
 v4:=Tryz.zeroValue4,
 t5:=Tryz.underlying5,
 a5:=Tryz.isAgg5,
 z5:=Tryz.sizeOf5,
 v5:=Tryz.zeroValue5,
 t9:=Tryz.underlying9,
 a9:=Tryz.isAgg9,
 z9:=Tryz.sizeOf9,
 v9:=Tryz.zeroValue9,
 t28:=Tryz.underlying22,
 a28:=Tryz.isAgg22,
 z28:=Tryz.sizeOf22,
 v28:=Tryz.zeroValue22,
 t46:=Tryz.underlying155,
 a46:=Tryz.isAgg155,
 z46:=Tryz.sizeOf155,
 v46:=Tryz.zeroValue155,
 t51:=Tryz.underlying165,
 a51:=Tryz.isAgg165,
 z51:=Tryz.sizeOf165,
 v51:=Tryz.zeroValue165,
 t53:=Tryz.underlying167,
 a53:=Tryz.isAgg167,
 z53:=Tryz.sizeOf167,
 v53:=Tryz.zeroValue167,
 t131:=Tryz.underlying69,
 a131:=Tryz.isAgg69,
 z131:=Tryz.sizeOf69,
 v131:=Tryz.zeroValue69,
 t182:=Tryz.underlying158,
 a182:=Tryz.isAgg158,
 z182:=Tryz.sizeOf158,
 v182:=Tryz.zeroValue158,
 t183:=Tryz.underlying159,
 a183:=Tryz.isAgg159,
 z183:=Tryz.sizeOf159,
 v183:=Tryz.zeroValue159,
 t218:=Tryz.underlying168,
 a218:=Tryz.isAgg168,
 z218:=Tryz.sizeOf168,
 v218:=Tryz.zeroValue168,
 t222:=Tryz.underlying172,
 a222:=Tryz.isAgg172,
 z222:=Tryz.sizeOf172,
 v222:=Tryz.zeroValue172,
 t228:=Tryz.underlying174,
 a228:=Tryz.isAgg174,
 z228:=Tryz.sizeOf174,
 v228:=Tryz.zeroValue174,
 t229:=Tryz.underlying175,
 a229:=Tryz.isAgg175,
 z229:=Tryz.sizeOf175,
 v229:=Tryz.zeroValue175}
theorem ZMU:ZCH XX.P 94:=fun blk off cap zs w h1 h2 h3=>Any.slices_Sort_int ZNx blk off cap zs w h1 h2 h3
theorem ZxW (wm:Nat) (h:H) (a:Option Addr) (c:Nat):Y1 XX (.call 94 #[.slice a 0 c] wm h) (.fin (.ret (.tuple #[])) h):=by
 have e:ev (cfg XX fun _=>false) 100 (.call 94 #[.slice a 0 c] wm h)=some (.fin (.ret (.tuple #[])) h):=Kq0
 exact Zgc (X:=XX) mixed 100 _ _ e
theorem ZBv {wm:Nat} {h:H} {p0:List Int} {Zi:Option Addr} {Zh XF:Nat} {r:List Int} (Z0:wm <=h.size) (hO:Yc (wm:=wm) [ow wm (Zr .i64) Zi XF Zh p0] h) (hL:ZsW p0=some r):
 WR XX 94 #[.slice Zi XF Zh] wm h (CP (fun(v:Value) (Gb:List (Ast wm))=>v= .tuple [].toArray∧Gb= [ow wm (Zr .i64) Zi XF Zh r]) [ow wm (Zr .i64) Zi XF Zh p0] h):=by
 unfold ZsW at hL;cases hb:Nat.ble p0.length 1000000 with
 | false=>rw [hb] at hL;cases hL
 | true=>
   rw [hb] at hL;cases hL;have:=Nl0 hb;exact ZDv ZMU ZxW (by omega) Z0 hO
end Go.Proofs.YtbmbbcaaimehkaaGreat
end
end
section
namespace Go.Proofs.YtbmbbcaaimehkaaGreat
open Go.Lf
def ZjQ (v17:Int) (Wj:(Int×Int×Int×Bool×Int ->Option (YA×Int))):Int×Int×Bool×Int ->Option (YA×Int):=fun(v29,v34,v35,v36)=>
 Wj (v29,Y2 (v17 + 1),v34,v35,v36)
def ZgA (v58:Int) (ZcN:(Int×Int×Int×Bool×Int ->Option (YA×Int))):Int×Int×Bool×Int ->Option (YA×Int):=fun(v69,v74,v75,v76)=>
 ZcN (v69,Y2 (v58 + 1),v74,v75,v76)
def ZjP (Zb7:Int) (Zdu:(Int×Int×Int×Bool×Int ->Option (YA×Int))):Int×Int×Bool×Int ->Option (YA×Int):=fun(ZeS,ZDm,ZiJ,Zk9)=>
 Zdu (ZeS,Y2 (Zb7 + 1),ZDm,ZiJ,Zk9)
def ZnV (p1:Int) (v58:Int) (ZcN:(Int×Int×Int×Bool×Int ->Option (YA×Int))) (x77:Zf):Int×Int×Int×Bool×Int ->(Int×Int×Int×Bool×Int ->Option (YA×Int)) ->Option (YA×Int):=fun(v92,Zb7,ZdM,Zpj,WI) Zdu=>
 (bif decide (Zb7 < (x77.qV.length:Int)) then(ZL x77.qV Zb7).bind fun Zo7=>(bif(Zo7==p1) then(ZL x77.Yd Zb7).bind fun ZxA=>(ZjP Zb7 Zdu) (Y2 (v92 + 1),x77.ZX,false,ZxA) else(ZjP Zb7 Zdu) (v92,ZdM,Zpj,WI)) else(ZgA v58 ZcN) (v92,ZdM,Zpj,WI))
def ZjR (F:Nat) (p0:Zb) (p1:Int):Int×Int×Int×Bool×Int ->(Int×Int×Int×Bool×Int ->Option (YA×Int)) ->Option (YA×Int):=fun(v54,v58,v60,v61,v62) ZcN=>
 (bif decide (v58 < (p0.qG.length:Int)) then(ZL p0.qG v58).bind fun x77=>(bif(x77.kind !=2) then(ZgA v58 ZcN) (v54,v60,v61,v62) else loop F (ZnV p1 v58 ZcN x77) (v54,0,v60,v61,v62)) else some ((YA.mk v60 v61 v62),v54))
def ZnW (F:Nat) (p0:Zb) (p1:Int):Int×Int×Int×Bool×Int ->(Int×Int×Int×Bool×Int ->Option (YA×Int)) ->Option (YA×Int):=fun(v13,v17,v19,v20,v21) Wj=>
 (bif decide (v17 < (p0.qQ.length:Int)) then(ZL p0.qQ v17).bind fun x37=>(ZL x37 p1).bind fun x42=>(bif x42.here then(ZL x37 p1).bind fun WB=>(ZjQ v17 Wj) (Y2 (v13 + 1),v17,true,WB.age) else(ZjQ v17 Wj) (v13,v19,v20,v21)) else loop F (ZjR F p0 p1) (v13,0,v19,v20,v21))
def Zeq (F:Nat) (p0:Zb) (p1:Int):Option (YA×Int):=
 loop F (ZnW F p0 p1) (0,0,0,false,0)
def Zgy (p0:Zb) (v23:Int) (K4:(Int ->Option Bool)):Int×Int ->(Int×Int ->Option Bool) ->Option Bool:=fun(v33,v35) Zi9=>
 (bif decide (v35 >=0) then(bif decide ((Y2 (v33 + 1)) > (p0.Zx.length:Int)) then some false else(ZL p0.Zx v35).bind fun x41=>(gd (!(decide (x41 < (-1)))) (ZL p0.Zx v35) default).bind fun x44=>(bif((decide (x41 < (-1))) || (decide (x44 >= (p0.Zx.length:Int)))) then some false else(ZL p0.Zx v35).bind fun x47=>Zi9 (Y2 (v33 + 1),x47))) else K4 (Y2 (v23 + 1)))
def Zgz (F:Nat) (p0:Zb):Int ->(Int ->Option Bool) ->Option Bool:=fun v23 K4=>
 (bif decide (v23 < (p0.Zx.length:Int)) then(ZL p0.Zx v23).bind fun KL=>(bif((decide (KL < (-1))) || (decide (KL >= (p0.Zx.length:Int)))) then some false else loop F (Zgy p0 v23 K4) (0,v23)) else some true)
def ZjO (F:Nat) (p0:Zb):Int ->(Int ->Option Bool) ->Option Bool:=fun v9 Zy1=>
 (bif decide (v9 < (p0.qQ.length:Int)) then(ZL p0.qQ v9).bind fun x12=>(bif((x12.length:Int) != (p0.Zx.length:Int)) then some false else Zy1 (Y2 (v9 + 1))) else loop F (Zgz F p0) 0)
def ZBF (F:Nat) (p0:Zb):Option Bool:=
 (bif((((((decide ((p0.qQ.length:Int) < 1)) || (decide ((p0.qQ.length:Int) > 5))) || (decide ((p0.Zx.length:Int) < 1))) || (decide ((p0.Zx.length:Int) > 8))) || ((p0.qK.length:Int) != (p0.Zx.length:Int))) || ((p0.qJ.length:Int) != (p0.qQ.length:Int))) then some false else loop F (ZjO F p0) 0)
def ZbJ (v8:Int) (Ul:(Int ->Option Bool)):Unit ->Option Bool:=fun _=>
 Ul (Y2 (v8 + 1))
def Zep (p0:Zb) (v8:Int) (Ul:(Int ->Option Bool)) (Ud:Zf):Int ->(Int ->Option Bool) ->Option Bool:=fun v46 Zi8=>
 (bif decide (v46 < (Ud.qV.length:Int)) then(ZL Ud.qV v46).bind fun x49=>(gd ((!((decide (x49 < 0)) || (decide (x49 >= (p0.Zx.length:Int))))) && (decide (v46 > 0))) (ZL Ud.qV (Y2 (v46 - 1))) default).bind fun x52=>(gd (!(((decide (x49 < 0)) || (decide (x49 >= (p0.Zx.length:Int)))) || ((decide (v46 > 0)) && (decide (x49 <=x52))))) (ZL Ud.Yd v46) default).bind fun x55=>(gd (!((((decide (x49 < 0)) || (decide (x49 >= (p0.Zx.length:Int)))) || ((decide (v46 > 0)) && (decide (x49 <=x52)))) || (decide (x55 < 1)))) (ZL Ud.Yd v46) default).bind fun x58=>(bif(((((decide (x49 < 0)) || (decide (x49 >= (p0.Zx.length:Int)))) || ((decide (v46 > 0)) && (decide (x49 <=x52)))) || (decide (x55 < 1))) || (decide (x58 > 30))) then some false else Zi8 (Y2 (v46 + 1))) else(ZbJ v8 Ul) ())
def Zeo (F:Nat) (p0:Zb) (v8:Int) (Ul:(Int ->Option Bool)) (Ud:Zf):Bool ->Option Bool:=fun v35=>
 (bif v35 then(ZbJ v8 Ul) () else(bif(Ud.kind==2) then(bif((decide ((Ud.qV.length:Int) < 1)) || ((Ud.Yd.length:Int) != (Ud.qV.length:Int))) then some false else loop F (Zep p0 v8 Ul Ud) 0) else some false))
def ZaN (F:Nat) (p0:Zb):Int ->(Int ->Option Bool) ->Option Bool:=fun v8 Ul=>
 (bif decide (v8 < (p0.qG.length:Int)) then(ZL p0.qG v8).bind fun Ud=>(bif(Ud.kind==1) then(Zeo F p0 v8 Ul Ud) (Ud.kind==1) else(Zeo F p0 v8 Ul Ud) (Ud.kind==3)) else some true)
def ZwD (F:Nat) (p0:Zb):Option Bool:=
 loop F (ZaN F p0) 0
def ZnU (v33:Int) (ZmX:((List Int)×Int ->Option Bool)) (x36:(List Zq)):(List Int)×Int ->((List Int)×Int ->Option Bool) ->Option Bool:=fun(v44,v54) ZyS=>
 (bif decide (v54 < (x36.length:Int)) then(ZL x36 v54).bind fun x57=>(app 8 v44 [x57.msg]).bind fun z65=>ZyS (z65,Y2 (v54 + 1)) else ZmX (v44,Y2 (v33 + 1)))
def ZjJ (v79:Int) (Zgl:((List Int)×Int ->Option Bool)):(List Int) ->Option Bool:=fun v85=>
 Zgl (v85,Y2 (v79 + 1))
def ZbI (p0:ZY) (Zb6:(List Int)):Int ->(Int ->Option Bool) ->Option Bool:=fun ZhU Zuj=>
 (bif decide (ZhU < (Zb6.length:Int)) then(ZL Zb6 ZhU).bind fun Zcl=>(bif(Zcl !=ZhU) then some false else Zuj (Y2 (ZhU + 1))) else some ((Zb6.length:Int)==p0.Za.said))
def ZjK (F:Nat) (p0:ZY):(List Int)×Int ->((List Int)×Int ->Option Bool) ->Option Bool:=fun(v72,v79) Zgl=>
 (bif decide (v79 < (p0.Za.qG.length:Int)) then(ZL p0.Za.qG v79).bind fun x93=>(bif(x93.kind==1) then(app 8 v72 [x93.ZV.msg]).bind fun z105=>(ZjJ v79 Zgl) z105 else(ZjJ v79 Zgl) v72) else(ZsW v72).bind fun Zb6=>loop F (ZbI p0 Zb6) 0)
def ZjL (F:Nat) (p0:ZY):(List Int)×Int ->((List Int)×Int ->Option Bool) ->Option Bool:=fun(v26,v33) ZmX=>
 (bif decide (v33 < (p0.Za.qJ.length:Int)) then(ZL p0.Za.qJ v33).bind fun x36=>loop F (ZnU v33 ZmX x36) (v26,0) else loop F (ZjK F p0) (v26,0))
def ZjM (F:Nat) (p0:ZY):(List Int)×Int ->((List Int)×Int ->Option Bool) ->Option Bool:=fun(v4,v11) Qc=>
 (bif decide (v11 < (p0.Za.qK.length:Int)) then(ZL p0.Za.qK v11).bind fun x14=>(app 8 v4 x14).bind fun z19=>Qc (z19,Y2 (v11 + 1)) else loop F (ZjL F p0) (v4,0))
def ZwB (F:Nat) (p0:ZY):Option Bool:=
 (bif((decide (p0.Za.said < 0)) || (decide (p0.Za.said > 40))) then some false else loop F (ZjM F p0) ([],0))
end Go.Proofs.YtbmbbcaaimehkaaGreat
end
section
set_option maxRecDepth 20000
noncomputable section
namespace Go.Proofs.YtbmbbcaaimehkaaGreat
open Go.YT Go.Lf
theorem Zc3 {F wm h} {p0:Zb} {p1:Int} {Zi Zh Zn Zm Zl Zk Zp Zo Zu Zt} {r} (Z0:wm <=h.size) (ZB:Sl (Zr .i64) wm h Zi Zh p0.Zx) (ZN:Sl (ZJ (Zr .i64)) wm h Zn Zm p0.qK) (ZI:Sl (ZJ Zc) wm h Zl Zk p0.qQ) (ZM:Sl (ZJ Ze) wm h Zp Zo p0.qJ) (ZK:Sl Zd wm h Zu Zt p0.qG) (hL:Zeq F p0 p1=some r):
 WR XX 67 #[.agg [.slice Zi p0.Zx.length Zh,.slice Zn p0.qK.length Zm,.slice Zl p0.qQ.length Zk,.slice Zp p0.qJ.length Zo,.slice Zu p0.qG.length Zt,.int .i64 p0.said].toArray,.int .i64 p1] wm h (CP (fun(v:Value) (Gb:List (Ast wm))=>v= .tuple [.agg [.int .i64 r.1.machine,.bool r.1.here,.int .i64 r.1.age].toArray,.int .i64 r.2].toArray∧Gb= []) [] h):=by
 refine bg Tryz.ntmps67 Z0 Yc.nil ?_;intro T hT hS;unfold Zeq at hL;refine r3 ?_;rintro _ h2 ⟨b1,eb1,rfl,hS⟩;refine r1 ?_;rintro _ h4 ⟨b3,eb3,rfl,hS⟩;refine r6 ?_;rintro _ h6 ⟨b5,eb5,rfl,hS⟩;refine r16 ?_;refine r1 ?_;refine WC.loop (WL.lift hL (fun p s=>match p with | (v13,v17,v19,v20,v21)=>∃ fr8 h7,s= ⟨fr8,[],h7,none⟩∧Sp wm T h [bx wm b1 (cW p0 Zi Zh Zn Zm Zl Zk Zp Zo Zu Zt),bx wm b3 [.int .i64 0,.bool false,.int .i64 0],bx wm b5 [.int .i64 v19,.bool v20,.int .i64 v21]] h7∧fr8.at 1= .int .i64 p1∧fr8.at 2= .pointer (some ⟨b1,0,none⟩)∧fr8.at 4= .pointer (some ⟨b3,0,none⟩)∧fr8.at 6= .pointer (some ⟨b5,0,none⟩)∧fr8.at 7= .int .i64 v13∧fr8.at 15= .slice Zl p0.qQ.length Zk∧fr8.at 16= .int .i64 (p0.qQ.length:Int)∧fr8.at 17= .int .i64 v17) ⟨_,_,rfl,hS.only sl,Yv⟩ ?_);clear hL hS;rintro Wj ⟨v13,v17,v19,v20,v21⟩ s Znw hL ⟨fr8,h7,rfl,hS,e9,e10,e11,e12,e14,e15,e16,e18⟩;dsimp only [ZnW] at hL;refine r6 ?_;refine cn hL ?_ ?_
 ·intro hc hL;refine r2 ?_;refine WC.Kw (r:=r) (fun(p:Int×Int×Bool×Int) s=>match p with | (v29,v34,v35,v36)=>∃ UX h23,s= ⟨UX,[],h23,none⟩∧Sp wm T h [bx wm b1 (cW p0 Zi Zh Zn Zm Zl Zk Zp Zo Zu Zt),bx wm b3 [.int .i64 0,.bool false,.int .i64 0],bx wm b5 [.int .i64 v34,.bool v35,.int .i64 v36]] h23∧UX.at 1= .int .i64 p1∧UX.at 2= .pointer (some ⟨b1,0,none⟩)∧UX.at 4= .pointer (some ⟨b3,0,none⟩)∧UX.at 6= .pointer (some ⟨b5,0,none⟩)∧UX.at 7= .int .i64 v29∧UX.at 15= .slice Zl p0.qQ.length Zk∧UX.at 16= .int .i64 (p0.qQ.length:Int)∧UX.at 17= .int .i64 v17) (ZjQ v17 Wj) ?_ ?_
  ·clear hL hS;rintro⟨v29,v34,v35,v36⟩ s hL ⟨UX,h23,rfl,hS,e25,e26,e27,e28,e30,e31,e32,e33⟩;dsimp only [ZjQ] at hL;refine r4 ?_;exact Ya.YQ (Znw _ _ hL ⟨_,_,rfl,hS.only sl,Yv⟩)
  ·skip;refine r4 ?_;obtain⟨x37,Znb,hL⟩:=qZ hL;obtain⟨b38,o39,⟨a40,c41⟩,ZAp,ZAX,ZAO,Zmd⟩:=Sl.at_ ZI Znb;refine r1 ?_;have Zqe:Sl Zc wm h a40 c41 x37:=Zmd;refine r9 ?_;obtain⟨x42,Zzl,hL⟩:=qZ hL;obtain⟨b43,o44,_,ZPD,ZQA,ZQj,ZPX⟩:=Sl.at_ Zqe Zzl;refine r5 ?_;refine cn hL ?_ ?_
   ·intro hc hL;refine r5 ?_;obtain⟨WB,Zzk,hL⟩:=qZ hL;obtain⟨b46,o47,_,ZGP,ZAW,ZAM,Zqn⟩:=Sl.at_ Zqe Zzk;refine r3 ?_;refine WO.w gN rfl (YX Ztt (Zv lk (Zv lk (Zv lk ZR))) rfl (cs':= [.int .i64 v17,.bool true,.int .i64 WB.age]) rfl) ?_;refine r1 ?_;rintro h48 hS;refine r8 ?_;exact YO.YQ _ hL ⟨_,_,rfl,hS.only sl,Yv⟩
   ·intro hc hL;refine r2 ?_;exact YO.YQ _ hL ⟨_,_,rfl,hS.only sl,Yv⟩
 ·intro hc hL;refine r15 ?_;refine WC.loop (WL.lift hL (fun p s=>match p with | (v54,v58,v60,v61,v62)=>∃ ZnG h49,s= ⟨ZnG,[],h49,none⟩∧Sp wm T h [bx wm b3 [.int .i64 0,.bool false,.int .i64 0],bx wm b5 [.int .i64 v60,.bool v61,.int .i64 v62]] h49∧ZnG.at 1= .int .i64 p1∧ZnG.at 4= .pointer (some ⟨b3,0,none⟩)∧ZnG.at 6= .pointer (some ⟨b5,0,none⟩)∧ZnG.at 7= .int .i64 v54∧ZnG.at 38= .slice Zu p0.qG.length Zt∧ZnG.at 39= .int .i64 (p0.qG.length:Int)∧ZnG.at 40= .int .i64 v58) ⟨_,_,rfl,hS.only sl,Yv⟩ ?_);clear hL hS;rintro ZcN ⟨v54,v58,v60,v61,v62⟩ s ZEh hL ⟨ZnG,h49,rfl,hS,e51,e52,e53,e55,e56,e57,e59⟩;dsimp only [ZjR] at hL;refine r6 ?_;refine cn hL ?_ ?_
  ·intro hc hL;refine r2 ?_;refine WC.Kw (r:=r) (fun(p:Int×Int×Bool×Int) s=>match p with | (v69,v74,v75,v76)=>∃ ZnF h64,s= ⟨ZnF,[],h64,none⟩∧Sp wm T h [bx wm b3 [.int .i64 0,.bool false,.int .i64 0],bx wm b5 [.int .i64 v74,.bool v75,.int .i64 v76]] h64∧ZnF.at 1= .int .i64 p1∧ZnF.at 4= .pointer (some ⟨b3,0,none⟩)∧ZnF.at 6= .pointer (some ⟨b5,0,none⟩)∧ZnF.at 7= .int .i64 v69∧ZnF.at 38= .slice Zu p0.qG.length Zt∧ZnF.at 39= .int .i64 (p0.qG.length:Int)∧ZnF.at 40= .int .i64 v58) (ZgA v58 ZcN) ?_ ?_
   ·clear hL hS;rintro⟨v69,v74,v75,v76⟩ s hL ⟨ZnF,h64,rfl,hS,e66,e67,e68,e70,e71,e72,e73⟩;dsimp only [ZgA] at hL;refine r4 ?_;exact Ya.YQ (ZEh _ _ hL ⟨_,_,rfl,hS.only sl,Yv⟩)
   ·skip;refine r3 ?_;obtain⟨x77,ZUc,hL⟩:=qZ hL;obtain⟨b78,o79,⟨⟨a80,c81⟩,⟨a82,c83⟩⟩,ZZF,ZQr,ZP9,ZGS⟩:=Sl.at_ ZK ZUc;refine r1 ?_;have ZOu:Sl (Zr .i64) wm h a80 c81 x77.qV:=ZGS.1;have ZOt:Sl (Zr .i64) wm h a82 c83 x77.Yd:=ZGS.2;refine WO.w gN rfl (YJ WZ Xj (YG fh rfl) (At.fz hS.fz ZP9 ZQr) (j:=0) rfl rfl (ws:= (cL x77 a80 c81 a82 c83)) rfl) ?_;refine r1 ?_;rintro _ h85 ⟨b84,Z5B,rfl,hS⟩;refine r1 ?_;rintro h86 hS;refine r10 ?_;refine cn hL ?_ ?_
    ·intro hc hL;refine r3 ?_;exact YO.YQ _ hL ⟨_,_,rfl,hS.only sl,Yv⟩
    ·intro hc hL;refine Jv ?_;refine WC.loop (WL.lift hL (fun p s=>match p with | (v92,Zb7,ZdM,Zpj,WI)=>∃ Zgs h87,s= ⟨Zgs,[],h87,none⟩∧Sp wm T h [bx wm b3 [.int .i64 0,.bool false,.int .i64 0],bx wm b5 [.int .i64 ZdM,.bool Zpj,.int .i64 WI],bx wm b84 (cL x77 a80 c81 a82 c83)] h87∧Zgs.at 1= .int .i64 p1∧Zgs.at 4= .pointer (some ⟨b3,0,none⟩)∧Zgs.at 6= .pointer (some ⟨b5,0,none⟩)∧Zgs.at 7= .int .i64 v92∧Zgs.at 11= .pointer (some ⟨b84,0,none⟩)∧Zgs.at 38= .slice Zu p0.qG.length Zt∧Zgs.at 39= .int .i64 (p0.qG.length:Int)∧Zgs.at 40= .int .i64 v58∧Zgs.at 48= .slice a80 x77.qV.length c81∧Zgs.at 49= .int .i64 (x77.qV.length:Int)∧Zgs.at 50= .int .i64 Zb7) ⟨_,_,rfl,hS.only sl,Yv⟩ ?_);clear hL hS;rintro Zdu ⟨v92,Zb7,ZdM,Zpj,WI⟩ s Zz2 hL ⟨Zgs,h87,rfl,hS,e89,e90,e91,e93,e94,e95,e96,e97,e98,e99,ZLD⟩;dsimp only [ZnV] at hL;refine r6 ?_;refine cn hL ?_ ?_
     ·intro hc hL;refine r2 ?_;refine WC.Kw (r:=r) (fun(p:Int×Int×Bool×Int) s=>match p with | (ZeS,ZDm,ZiJ,Zk9)=>∃ Zbb ZA9,s= ⟨Zbb,[],ZA9,none⟩∧Sp wm T h [bx wm b3 [.int .i64 0,.bool false,.int .i64 0],bx wm b5 [.int .i64 ZDm,.bool ZiJ,.int .i64 Zk9],bx wm b84 (cL x77 a80 c81 a82 c83)] ZA9∧Zbb.at 1= .int .i64 p1∧Zbb.at 4= .pointer (some ⟨b3,0,none⟩)∧Zbb.at 6= .pointer (some ⟨b5,0,none⟩)∧Zbb.at 7= .int .i64 ZeS∧Zbb.at 11= .pointer (some ⟨b84,0,none⟩)∧Zbb.at 38= .slice Zu p0.qG.length Zt∧Zbb.at 39= .int .i64 (p0.qG.length:Int)∧Zbb.at 40= .int .i64 v58∧Zbb.at 48= .slice a80 x77.qV.length c81∧Zbb.at 49= .int .i64 (x77.qV.length:Int)∧Zbb.at 50= .int .i64 Zb7) (ZjP Zb7 Zdu) ?_ ?_
      ·clear hL hS;rintro⟨ZeS,ZDm,ZiJ,Zk9⟩ s hL ⟨Zbb,ZA9,rfl,hS,e108,e109,ZRh,ZXg,ZXf,ZLz,e115,e116,e117,e118,e119⟩;dsimp only [ZjP] at hL;refine r4 ?_;exact Ya.YQ (Zz2 _ _ hL ⟨_,_,rfl,hS.only sl,Yv⟩)
      ·skip;refine r4 ?_;obtain⟨Zo7,Zzx,hL⟩:=qZ hL;obtain⟨ZRW,ZTL,_,ZJF,ZKi,ZJS,ZJK⟩:=Sl.at_ ZOu Zzx;refine r13 ?_;refine cn hL ?_ ?_
       ·intro hc hL;refine r1 ?_;refine WC.YC mixed Kq0 ?_;refine r5 ?_;obtain⟨ZxA,ZOl,hL⟩:=qZ hL;obtain⟨ZXY,Z3p,_,ZU6,ZWa,ZVO,ZVC⟩:=Sl.at_ ZOt ZOl;refine r2 ?_;refine WX.w gN rfl (YX Ztt (Zv lk (Zv lk (Zv lk ZR))) rfl (cs':= [.int .i64 x77.ZX,.bool false,.int .i64 ZxA]) rfl) ?_ rfl;refine WX.hu gN (Ui hS k1 Zas lk lk (vs:= [.int .i64 x77.ZX,.bool false,.int .i64 ZxA]) rfl rfl rfl rfl (cs':= [.int .i64 x77.ZX,.bool false,.int .i64 ZxA]) rfl) ?_ rfl rfl [] Kq0 Yh.e;rintro ZWz hS;refine r8 ?_;exact YO.YQ _ hL ⟨_,_,rfl,hS.only sl,Yv⟩
       ·intro hc hL;refine r2 ?_;exact YO.YQ _ hL ⟨_,_,rfl,hS.only sl,Yv⟩
     ·intro hc hL;refine r5 ?_;exact YO.YQ _ hL ⟨_,_,rfl,hS.only sl,Yv⟩
  ·intro hc hL;refine r10 ?_;rintro ZEK hS;refine r4 ?_;have hr:=Oi0 hL;subst hr;exact Yk.gen (vs:= [.agg [.int .i64 v60,.bool v61,.int .i64 v62].toArray,.int .i64 v54]) rfl (Y9 (Y7 rfl e52) (Jl ZoP Zas (hS.KI k0) (j:=0) rfl rfl (ws:= [.int .i64 v60,.bool v61,.int .i64 v62]) rfl) (ZU lk ZE)) rfl ⟨_,⟨rfl,rfl⟩,hT ▸ hS.only .n⟩
theorem ZKY {F wm h} {p0:Zb} {Zi Zh Zn Zm Zl Zk Zp Zo Zu Zt} {r} (Z0:wm <=h.size) (ZB:Sl (Zr .i64) wm h Zi Zh p0.Zx) (ZN:Sl (ZJ (Zr .i64)) wm h Zn Zm p0.qK) (ZI:Sl (ZJ Zc) wm h Zl Zk p0.qQ) (ZM:Sl (ZJ Ze) wm h Zp Zo p0.qJ) (ZK:Sl Zd wm h Zu Zt p0.qG) (hL:ZBF F p0=some r):
 WR XX 68 #[.agg [.slice Zi p0.Zx.length Zh,.slice Zn p0.qK.length Zm,.slice Zl p0.qQ.length Zk,.slice Zp p0.qJ.length Zo,.slice Zu p0.qG.length Zt,.int .i64 p0.said].toArray] wm h (CP (fun(v:Value) (Gb:List (Ast wm))=>v= .bool r∧Gb= []) [] h):=by
 refine bg Tryz.ntmps68 Z0 Yc.nil ?_;intro T hT hS;unfold ZBF at hL;refine r3 ?_;rintro _ h2 ⟨b1,eb1,rfl,hS⟩;refine r4 ?_;refine WC.YC mixed Kq0 ?_;refine r16 ?_;refine r16 ?_;refine Jv ?_;refine cn hL ?_ ?_
 ·intro hc hL;refine r7 ?_;exact rt hL hT hS
 ·intro hc hL;refine WN ?_;refine WC.loop (WL.lift hL (fun v9 s=>∃ fr4 h3,s= ⟨fr4,[],h3,none⟩∧Sp wm T h [bx wm b1 (cW p0 Zi Zh Zn Zm Zl Zk Zp Zo Zu Zt)] h3∧fr4.at 1= .pointer (some ⟨b1,0,none⟩)∧fr4.at 4= .int .i64 (p0.Zx.length:Int)∧fr4.at 46= .slice Zl p0.qQ.length Zk∧fr4.at 47= .int .i64 (p0.qQ.length:Int)∧fr4.at 48= .int .i64 v9) ⟨_,_,rfl,hS.only sl,Yv⟩ ?_);clear hL hS;rintro Zy1 v9 s ZEx hL ⟨fr4,h3,rfl,hS,e5,e6,e7,e8,e10⟩;dsimp only [ZjO] at hL;refine r6 ?_;refine cn hL ?_ ?_
  ·intro hc hL;refine r6 ?_;obtain⟨x12,Zzy,hL⟩:=qZ hL;obtain⟨b13,o14,⟨a15,c16⟩,ZGR,ZA2,ZAQ,ZAF⟩:=Sl.at_ ZI Zzy;refine r1 ?_;have ZY9:Sl Zc wm h a15 c16 x12:=ZAF;refine WN ?_;refine cn hL ?_ ?_
   ·intro hc hL;refine Jv ?_;exact rt hL hT hS
   ·intro hc hL;refine r7 ?_;exact Ya.YQ (ZEx _ _ hL ⟨_,_,rfl,hS.only sl,Yv⟩)
  ·intro hc hL;refine r15 ?_;refine WC.loop (WL.lift hL (fun v23 s=>∃ ZsR h17,s= ⟨ZsR,[],h17,none⟩∧Sp wm T h [bx wm b1 (cW p0 Zi Zh Zn Zm Zl Zk Zp Zo Zu Zt)] h17∧ZsR.at 1= .pointer (some ⟨b1,0,none⟩)∧ZsR.at 4= .int .i64 (p0.Zx.length:Int)∧ZsR.at 58= .slice Zi p0.Zx.length Zh∧ZsR.at 59= .int .i64 (p0.Zx.length:Int)∧ZsR.at 60= .int .i64 v23) ⟨_,_,rfl,hS.only sl,Yv⟩ ?_);clear hL hS;rintro K4 v23 s Znv hL ⟨ZsR,h17,rfl,hS,e19,e20,e21,e22,e24⟩;dsimp only [Zgz] at hL;refine r6 ?_;refine cn hL ?_ ?_
   ·intro hc hL;refine r7 ?_;obtain⟨KL,Znc,hL⟩:=qZ hL;obtain⟨b27,o28,_,ZZN,Z0I,Z0r,Z0c⟩:=Sl.at_ ZB Znc;refine r16 ?_;refine r2 ?_;refine cn hL ?_ ?_
    ·intro hc hL;refine WN ?_;exact rt hL hT hS
    ·intro hc hL;refine r14 ?_;refine WC.loop (WL.lift hL (fun p s=>match p with | (v33,v35)=>∃ WV h29,s= ⟨WV,[],h29,none⟩∧Sp wm T h [bx wm b1 (cW p0 Zi Zh Zn Zm Zl Zk Zp Zo Zu Zt)] h29∧WV.at 1= .pointer (some ⟨b1,0,none⟩)∧WV.at 4= .int .i64 (p0.Zx.length:Int)∧WV.at 9= .int .i64 v33∧WV.at 10= .int .i64 v35∧WV.at 58= .slice Zi p0.Zx.length Zh∧WV.at 59= .int .i64 (p0.Zx.length:Int)∧WV.at 60= .int .i64 v23) ⟨_,_,rfl,hS.only sl,Yv⟩ ?_);clear hL hS;rintro Zi9 ⟨v33,v35⟩ s Zns hL ⟨WV,h29,rfl,hS,e31,e32,e34,e36,e37,e38,e39⟩;dsimp only [Zgy] at hL;refine r7 ?_;refine cn hL ?_ ?_
     ·intro hc hL;refine r16 ?_;refine r3 ?_;refine cn hL ?_ ?_
      ·intro hc hL;refine r16 ?_;exact rt hL hT hS
      ·intro hc hL;refine r7 ?_;obtain⟨x41,ZIN,hL⟩:=qZ hL;obtain⟨b42,o43,_,ZPE,ZQB,ZQk,ZPY⟩:=Sl.at_ ZB ZIN;refine r7 ?_;obtain⟨x44,ZDZ,hL⟩:=Yj hL;obtain⟨b45,o46,_,hQ⟩:=Sl.atG (fun hg=>ZB) ZDZ;have ZPC:=fun hg=>(hQ hg).1
       have ZQz:=fun hg=>(hQ hg).2.1
       have ZQi:=fun hg=>(hQ hg).2.2.1
       have Z0a:=fun hg=>(hQ hg).2.2.2
       refine WO.gv (Zw.no rfl rfl rfl (YE rfl (ZC rfl fh))) rfl (fun hg=>(Yn XL XA (YU (ZC rfl fh) rfl hg) (YU fh rfl hg) rfl (ZPC hg) (ZDZ hg))) ?_;refine WO.gv (Zw.no rfl rfl rfl (Y7 rfl fh)) rfl (fun hg=>(Y8 W9 (YU fh rfl hg) (At.fz hS.fz (ZQi hg) (ZQz hg)) (j:=0) rfl (v:= .int .i64 x44) rfl)) ?_;refine r5 ?_;refine cn hL ?_ ?_
       ·intro hc hL;refine r15 ?_;exact rt hL hT hS
       ·intro hc hL;refine r7 ?_;obtain⟨x47,ZUl,hL⟩:=qZ hL;obtain⟨b48,o49,_,ZZK,Z0F,Z0o,ZZ9⟩:=Sl.at_ ZB ZUl;refine r4 ?_;exact Ya.YQ (Zns _ _ hL ⟨_,_,rfl,hS.only sl,Yv⟩)
     ·intro hc hL;refine r10 ?_;exact Ya.YQ (Znv _ _ hL ⟨_,_,rfl,hS.only sl,Yv⟩)
   ·intro hc hL;refine Jv ?_;exact rt hL hT hS
theorem ZKW {F wm h} {p0:Zb} {Zi Zh Zn Zm Zl Zk Zp Zo Zu Zt} {r} (Z0:wm <=h.size) (ZB:Sl (Zr .i64) wm h Zi Zh p0.Zx) (ZN:Sl (ZJ (Zr .i64)) wm h Zn Zm p0.qK) (ZI:Sl (ZJ Zc) wm h Zl Zk p0.qQ) (ZM:Sl (ZJ Ze) wm h Zp Zo p0.qJ) (ZK:Sl Zd wm h Zu Zt p0.qG) (hL:ZwD F p0=some r):
 WR XX 69 #[.agg [.slice Zi p0.Zx.length Zh,.slice Zn p0.qK.length Zm,.slice Zl p0.qQ.length Zk,.slice Zp p0.qJ.length Zo,.slice Zu p0.qG.length Zt,.int .i64 p0.said].toArray] wm h (CP (fun(v:Value) (Gb:List (Ast wm))=>v= .bool r∧Gb= []) [] h):=by
 refine bg Tryz.ntmps69 Z0 Yc.nil ?_;intro T hT hS;unfold ZwD at hL;refine r3 ?_;rintro _ h2 ⟨b1,eb1,rfl,hS⟩;refine r13 ?_;refine WC.loop (WL.lift hL (fun v8 s=>∃ fr4 h3,s= ⟨fr4,[],h3,none⟩∧Sp wm T h [bx wm b1 (cW p0 Zi Zh Zn Zm Zl Zk Zp Zo Zu Zt)] h3∧fr4.at 1= .pointer (some ⟨b1,0,none⟩)∧fr4.at 8= .slice Zu p0.qG.length Zt∧fr4.at 9= .int .i64 (p0.qG.length:Int)∧fr4.at 10= .int .i64 v8) ⟨_,_,rfl,hS.only sl,Yv⟩ ?_);clear hL hS;rintro Ul v8 s Znz hL ⟨fr4,h3,rfl,hS,e5,e6,e7,e9⟩;dsimp only [ZaN] at hL;refine r6 ?_;refine cn hL ?_ ?_
 ·intro hc hL;refine r2 ?_;refine WC.Kw (r:=r) (fun(_:Unit) s=>∃ Zwx h11,s= ⟨Zwx,[],h11,none⟩∧Sp wm T h [bx wm b1 (cW p0 Zi Zh Zn Zm Zl Zk Zp Zo Zu Zt)] h11∧Zwx.at 1= .pointer (some ⟨b1,0,none⟩)∧Zwx.at 8= .slice Zu p0.qG.length Zt∧Zwx.at 9= .int .i64 (p0.qG.length:Int)∧Zwx.at 10= .int .i64 v8) (ZbJ v8 Ul) ?_ ?_
  ·clear hL hS;rintro _ s hL ⟨Zwx,h11,rfl,hS,e13,e14,e15,e16⟩;dsimp only [ZbJ] at hL;refine r4 ?_;exact Ya.YQ (Znz _ _ hL ⟨_,_,rfl,hS.only sl,Yv⟩)
  ·skip;refine r3 ?_;obtain⟨Ud,Zso,hL⟩:=qZ hL;obtain⟨b18,o19,⟨⟨a20,c21⟩,⟨a22,c23⟩⟩,ZZS,ZQE,ZQm,ZGX⟩:=Sl.at_ ZK Zso;refine r1 ?_;have ZGz:Sl (Zr .i64) wm h a20 c21 Ud.qV:=ZGX.1;have ZuH:Sl (Zr .i64) wm h a22 c23 Ud.Yd:=ZGX.2;refine WO.w gN rfl (YJ WZ Xj (YG fh rfl) (At.fz hS.fz ZQm ZQE) (j:=0) rfl rfl (ws:= (cL Ud a20 c21 a22 c23)) rfl) ?_;refine r1 ?_;rintro _ h25 ⟨b24,ZQ9,rfl,hS⟩;refine r1 ?_;rintro h26 hS;refine r10 ?_;refine WC.Kw (r:=r) (fun(v35:Bool) s=>∃ Zb9 h27,s= ⟨Zb9,[],h27,none⟩∧Sp wm T h [bx wm b1 (cW p0 Zi Zh Zn Zm Zl Zk Zp Zo Zu Zt),bx wm b24 (cL Ud a20 c21 a22 c23)] h27∧Zb9.at 1= .pointer (some ⟨b1,0,none⟩)∧Zb9.at 4= .pointer (some ⟨b24,0,none⟩)∧Zb9.at 8= .slice Zu p0.qG.length Zt∧Zb9.at 9= .int .i64 (p0.qG.length:Int)∧Zb9.at 10= .int .i64 v8∧Zb9.at 15= .int .i64 Ud.kind∧Zb9.at 16= .bool v35) (Zeo F p0 v8 Ul Ud) ?_ ?_
   ·clear hL hS;rintro v35 s hL ⟨Zb9,h27,rfl,hS,e29,e30,e31,e32,e33,e34,e36⟩;dsimp only [Zeo] at hL;refine cn hL ?_ ?_
    ·intro hc hL;refine r1 ?_;refine UU.other rfl ?_;refine r2 ?_;exact YO.YQ _ hL ⟨_,_,rfl,hS.only sl,Yv⟩
    ·intro hc hL;refine r6 ?_;refine cn hL ?_ ?_
     ·intro hc hL;refine r16 ?_;refine r1 ?_;refine cn hL ?_ ?_
      ·intro hc hL;refine r9 ?_;refine YO.ret ?_;refine r3 ?_;exact rt hL hT hS
      ·intro hc hL;refine WN ?_;refine WC.loop (WL.lift hL (fun v46 s=>∃ Za9 h37,s= ⟨Za9,[],h37,none⟩∧Sp wm T h [bx wm b1 (cW p0 Zi Zh Zn Zm Zl Zk Zp Zo Zu Zt),bx wm b24 (cL Ud a20 c21 a22 c23)] h37∧Za9.at 1= .pointer (some ⟨b1,0,none⟩)∧Za9.at 4= .pointer (some ⟨b24,0,none⟩)∧Za9.at 8= .slice Zu p0.qG.length Zt∧Za9.at 9= .int .i64 (p0.qG.length:Int)∧Za9.at 10= .int .i64 v8∧Za9.at 35= .slice a20 Ud.qV.length c21∧Za9.at 36= .int .i64 (Ud.qV.length:Int)∧Za9.at 37= .int .i64 v46) ⟨_,_,rfl,hS.only sl,Yv⟩ ?_);clear hL hS;rintro Zi8 v46 s Znr hL ⟨Za9,h37,rfl,hS,e39,e40,e41,e42,e43,e44,e45,e47⟩;dsimp only [Zep] at hL;refine r6 ?_;refine cn hL ?_ ?_
       ·intro hc hL;refine r7 ?_;obtain⟨x49,Zwm,hL⟩:=qZ hL;obtain⟨b50,o51,_,ZAn,Zu1,ZG1,ZuV⟩:=Sl.at_ ZGz Zwm;refine r16 ?_;refine r10 ?_;obtain⟨x52,Zp3,hL⟩:=Yj hL;obtain⟨b53,o54,_,hQ⟩:=Sl.atG (fun hg=>ZGz) Zp3;have Zql:=fun hg=>(hQ hg).1
        have Zqp:=fun hg=>(hQ hg).2.1
        have ZAL:=fun hg=>(hQ hg).2.2.1
        have ZGV:=fun hg=>(hQ hg).2.2.2
        refine WO.gv (Zw.Zk5 rfl rfl rfl (Y7 rfl (ZC rfl fh))) rfl (fun hg=>(Yn XL XA (YU (YE rfl fh) rfl hg) (YU fh rfl hg) rfl (Zql hg) (Zp3 hg))) ?_;refine WO.gv (Zw.Zk5 rfl rfl rfl (Y7 rfl (YE rfl fh))) rfl (fun hg=>(Y8 W9 (YU fh rfl hg) (At.fz hS.fz (ZAL hg) (Zqp hg)) (j:=0) rfl (v:= .int .i64 x52) rfl)) ?_;refine r1 ?_;refine WO.gv (Zw.no rfl rfl rfl (Xf rfl (YE rfl (ZC rfl fh)))) rfl (fun hg=>(ZkH (YU (Xf rfl fh) rfl hg) (ZhI fh hg) lk)) ?_;refine r5 ?_;obtain⟨x55,Zna,hL⟩:=Yj hL;obtain⟨b56,o57,_,hQ⟩:=Sl.atG (fun hg=>ZuH) Zna;have ZAl:=fun hg=>(hQ hg).1
        have ZAU:=fun hg=>(hQ hg).2.1
        have ZQh:=fun hg=>(hQ hg).2.2.1
        have ZPU:=fun hg=>(hQ hg).2.2.2
        refine WO.gv (Zw.no rfl rfl rfl (YE rfl (ZC rfl fh))) rfl (fun hg=>(Yn XL XA (YU (ZC rfl fh) rfl hg) (YU fh rfl hg) rfl (ZAl hg) (Zna hg))) ?_;refine WO.gv (Zw.no rfl rfl rfl (Y7 rfl fh)) rfl (fun hg=>(Y8 W9 (YU fh rfl hg) (At.fz hS.fz (ZQh hg) (ZAU hg)) (j:=0) rfl (v:= .int .i64 x55) rfl)) ?_;refine r6 ?_;obtain⟨x58,Zzi,hL⟩:=Yj hL;obtain⟨b59,o60,_,hQ⟩:=Sl.atG (fun hg=>ZuH) Zzi;have ZAk:=fun hg=>(hQ hg).1
        have ZG9:=fun hg=>(hQ hg).2.1
        have ZQf:=fun hg=>(hQ hg).2.2.1
        have ZPT:=fun hg=>(hQ hg).2.2.2
        refine WO.gv (Zw.no rfl rfl rfl (YE rfl (ZC rfl fh))) rfl (fun hg=>(Yn XL XA (YU (ZC rfl fh) rfl hg) (YU fh rfl hg) rfl (ZAk hg) (Zzi hg))) ?_;refine WO.gv (Zw.no rfl rfl rfl (Y7 rfl fh)) rfl (fun hg=>(Y8 W9 (YU fh rfl hg) (At.fz hS.fz (ZQf hg) (ZG9 hg)) (j:=0) rfl (v:= .int .i64 x58) rfl)) ?_;refine r4 ?_;refine cn hL ?_ ?_
        ·intro hc hL;refine Jv ?_;refine YO.ret ?_;refine r3 ?_;exact rt hL hT hS
        ·intro hc hL;refine r7 ?_;exact Ya.YQ (Znr _ _ hL ⟨_,_,rfl,hS.only sl,Yv⟩)
       ·intro hc hL;refine r5 ?_;exact YO.YQ _ hL ⟨_,_,rfl,hS.only sl,Yv⟩
     ·intro hc hL;refine r9 ?_;refine YO.ret ?_;refine r3 ?_;exact rt hL hT hS
   ·skip;refine r6 ?_;refine cn hL ?_ ?_
    ·intro hc hL;refine r1 ?_;exact YO.YQ _ hL ⟨_,_,rfl,hS.only sl,Yv⟩
    ·intro hc hL;refine r4 ?_;exact YO.YQ _ hL ⟨_,_,rfl,hS.only sl,Yv⟩
 ·intro hc hL;refine Jv ?_;exact rt hL hT hS
theorem ZKX {F h} {p0:Zb} {Zi Zh Zn Zm Zl Zk Zp Zo Zu Zt} {r} (ZB:Sl (Zr .i64) h.size h Zi Zh p0.Zx) (ZN:Sl (ZJ (Zr .i64)) h.size h Zn Zm p0.qK) (ZI:Sl (ZJ Zc) h.size h Zl Zk p0.qQ) (ZM:Sl (ZJ Ze) h.size h Zp Zo p0.qJ) (ZK:Sl Zd h.size h Zu Zt p0.qG) (hL:ZwD F p0=some r):Pure XX 69 #[.agg [.slice Zi p0.Zx.length Zh,.slice Zn p0.qK.length Zm,.slice Zl p0.qQ.length Zk,.slice Zp p0.qJ.length Zo,.slice Zu p0.qG.length Zt,.int .i64 p0.said].toArray] h (.bool r):=
 WR.Qb rfl (ZKW (Nat.le_refl _) ZB ZN ZI ZM ZK hL)
theorem ZKR {F wm h} {p0:ZY} {Zi Zh Zn Zm Zl Zk Zp Zo Zu Zt Z8 Z7 YS Kk} {r} (Z0:wm <=h.size) (X6:At h YS Kk [.slice Zi p0.Za.Zx.length Zh,.slice Zn p0.Za.qK.length Zm,.slice Zl p0.Za.qQ.length Zk,.slice Zp p0.Za.qJ.length Zo,.slice Zu p0.Za.qG.length Zt,.int .i64 p0.Za.said,.slice Z8 p0.Xg.length Z7]) (X5:Stb wm h YS) (ZB:Sl (Zr .i64) wm h Zi Zh p0.Za.Zx) (ZN:Sl (ZJ (Zr .i64)) wm h Zn Zm p0.Za.qK) (ZI:Sl (ZJ Zc) wm h Zl Zk p0.Za.qQ) (ZM:Sl (ZJ Ze) wm h Zp Zo p0.Za.qJ) (ZK:Sl Zd wm h Zu Zt p0.Za.qG) (XB:Sl XO wm h Z8 Z7 p0.Xg) (hL:ZwB F p0=some r):
 WR XX 72 #[.pointer (some ⟨YS,Kk,none⟩)] wm h (CP (fun(v:Value) (Gb:List (Ast wm))=>v= .bool r∧Gb= []) [] h):=by
 refine bg Tryz.ntmps72 Z0 Yc.nil ?_;intro T hT hS;unfold ZwB at hL;refine WN ?_;refine WO.w gN rfl (Y8 W9 (YG fh rfl) (At.fz hS.fz X5 X6) (j:=5) rfl (v:= .int .i64 p0.Za.said) rfl) ?_;refine r6 ?_;refine WO.gv (Zw.no rfl rfl rfl (Y7 rfl fh)) rfl (fun hg=>(Y8 W9 (YU fh rfl hg) (At.fz hS.fz X5 X6) (j:=5) rfl (v:= .int .i64 p0.Za.said) rfl)) ?_;refine r4 ?_;refine cn hL ?_ ?_
 ·intro hc hL;refine r7 ?_;exact rt hL hT hS
 ·intro hc hL;refine r14 ?_;refine WO.w gN rfl (Y8 ZkK (YG fh rfl) (At.fz hS.fz X5 X6) (j:=1) rfl (v:= .slice Zn p0.Za.qK.length Zm) rfl) ?_;refine r5 ?_;have hS:=hS.nil (e:= (Zr .i64));refine WC.loop (WL.lift hL (fun p s=>match p with | (v4,v11)=>∃ XV h1 a5 c6 n7,s= ⟨XV,[],h1,none⟩∧Sp wm T h [ow wm (Zr .i64) a5 n7 c6 v4] h1∧XV.at 0= .pointer (some ⟨YS,Kk,none⟩)∧XV.at 3= .slice a5 n7 c6∧XV.at 32= .slice Zn p0.Za.qK.length Zm∧XV.at 33= .int .i64 (p0.Za.qK.length:Int)∧XV.at 34= .int .i64 v11) ⟨_,_,none,0,0,rfl,hS.only sl,Yv⟩ ?_);clear hL hS;rintro Qc ⟨v4,v11⟩ s UH hL ⟨XV,h1,a5,c6,n7,rfl,hS,e3,e8,e9,e10,e12⟩;obtain rfl:=hS.on k0;dsimp only [ZjM] at hL;refine r6 ?_;refine cn hL ?_ ?_
  ·intro hc hL;refine r6 ?_;obtain⟨x14,Znf,hL⟩:=qZ hL;obtain⟨b15,o16,⟨a17,c18⟩,ZuR,Zu2,ZuY,Zfn⟩:=Sl.at_ ZN Znf;refine r1 ?_;have Zfm:Sl (Zr .i64) wm h a17 c18 x14:=Zfn;refine r7 ?_;obtain⟨z19,ZIC,hL⟩:=qZ hL;refine WO.hv gN rfl (XT (e:= (Zr .i64)) hS k0 Xe lk lk (Sl.src (hS.sl Zfm)) rfl ZIC) ?_;rintro _ h22 ⟨a20,c21,rfl,hS⟩;refine r8 ?_;exact Ya.YQ (UH _ _ hL ⟨_,_,a20,c21,z19.length,rfl,hS.only sl,Yv⟩)
  ·intro hc hL;refine WN ?_;refine WO.w gN rfl (Y8 ZkJ (YG fh rfl) (At.fz hS.fz X5 X6) (j:=3) rfl (v:= .slice Zp p0.Za.qJ.length Zo) rfl) ?_;refine r5 ?_;refine WC.loop (WL.lift hL (fun p s=>match p with | (v26,v33)=>∃ UX h23 a27 c28 n29,s= ⟨UX,[],h23,none⟩∧Sp wm T h [ow wm (Zr .i64) a27 n29 c28 v26] h23∧UX.at 0= .pointer (some ⟨YS,Kk,none⟩)∧UX.at 3= .slice a27 n29 c28∧UX.at 46= .slice Zp p0.Za.qJ.length Zo∧UX.at 47= .int .i64 (p0.Za.qJ.length:Int)∧UX.at 48= .int .i64 v33) ⟨_,_,a5,c6,v4.length,rfl,hS.only sl,Yv⟩ ?_);clear hL hS;rintro ZmX ⟨v26,v33⟩ s ZEq hL ⟨UX,h23,a27,c28,n29,rfl,hS,e25,e30,e31,e32,e34⟩;obtain rfl:=hS.on k0;dsimp only [ZjL] at hL;refine r6 ?_;refine cn hL ?_ ?_
   ·intro hc hL;refine r6 ?_;obtain⟨x36,ZIO,hL⟩:=qZ hL;obtain⟨b37,o38,⟨a39,c40⟩,ZPG,ZHc,ZG2,ZGW⟩:=Sl.at_ ZM ZIO;refine r1 ?_;have ZOA:Sl Ze wm h a39 c40 x36:=ZGW;refine WN ?_;refine WC.loop (WL.lift hL (fun p s=>match p with | (v44,v54)=>∃ Zlo h41 a45 c46 n47,s= ⟨Zlo,[],h41,none⟩∧Sp wm T h [ow wm (Zr .i64) a45 n47 c46 v44] h41∧Zlo.at 0= .pointer (some ⟨YS,Kk,none⟩)∧Zlo.at 3= .slice a45 n47 c46∧Zlo.at 46= .slice Zp p0.Za.qJ.length Zo∧Zlo.at 47= .int .i64 (p0.Za.qJ.length:Int)∧Zlo.at 48= .int .i64 v33∧Zlo.at 52= .slice a39 x36.length c40∧Zlo.at 53= .int .i64 (x36.length:Int)∧Zlo.at 54= .int .i64 v54) ⟨_,_,a27,c28,v26.length,rfl,hS.only sl,Yv⟩ ?_);clear hL hS;rintro ZyS ⟨v44,v54⟩ s ZEk hL ⟨Zlo,h41,a45,c46,n47,rfl,hS,e43,e48,e49,e50,e51,e52,e53,e55⟩;obtain rfl:=hS.on k0;dsimp only [ZnU] at hL;refine r6 ?_;refine cn hL ?_ ?_
    ·intro hc hL;refine r6 ?_;obtain⟨x57,Zzj,hL⟩:=qZ hL;obtain⟨b58,o59,_,ZPA,ZHa,ZQg,ZZ5⟩:=Sl.at_ ZOA Zzj;refine r1 ?_;refine WO.w gN rfl (YJ ZfL JA (YG fh rfl) (At.fz hS.fz ZQg ZHa) (j:=0) rfl rfl (ws:= (cM x57)) rfl) ?_;refine r1 ?_;rintro _ h61 ⟨b60,ZWP,rfl,hS⟩;refine r1 ?_;rintro h62 hS;refine r6 ?_;refine WO.hn gN rfl (QF (e:= (Zr .i64)) hS XL XA UY rfl rfl rfl (Zv lk ZR) rfl [((),x57.msg)] rfl (xs:= [x57.msg]) rfl (by intro q hq;simp only [List.mem_cons,List.not_mem_nil,or_false] at hq;subst hq;exact trivial) rfl) ?_;rintro _ h64 ⟨b63,Z5J,rfl,hS⟩;obtain⟨z65,ZTV,hL⟩:=qZ hL;refine WO.hv gN rfl (XT (e:= (Zr .i64)) hS k2 Xe lk lk (hS.Xk k0) (hS.on k0) ZTV) ?_;rintro _ h68 ⟨a66,c67,rfl,hS⟩;refine r8 ?_;exact Ya.YQ (ZEk _ _ hL ⟨_,_,a66,c67,z65.length,rfl,hS.only sl,Yv⟩)
    ·intro hc hL;refine r10 ?_;exact Ya.YQ (ZEq _ _ hL ⟨_,_,a45,c46,v44.length,rfl,hS.only sl,Yv⟩)
   ·intro hc hL;refine WN ?_;refine WO.w gN rfl (Y8 ZCu (YG fh rfl) (At.fz hS.fz X5 X6) (j:=4) rfl (v:= .slice Zu p0.Za.qG.length Zt) rfl) ?_;refine r5 ?_;refine WC.loop (WL.lift hL (fun p s=>match p with | (v72,v79)=>∃ ZdN h69 a73 c74 n75,s= ⟨ZdN,[],h69,none⟩∧Sp wm T h [ow wm (Zr .i64) a73 n75 c74 v72] h69∧ZdN.at 0= .pointer (some ⟨YS,Kk,none⟩)∧ZdN.at 3= .slice a73 n75 c74∧ZdN.at 69= .slice Zu p0.Za.qG.length Zt∧ZdN.at 70= .int .i64 (p0.Za.qG.length:Int)∧ZdN.at 71= .int .i64 v79) ⟨_,_,a27,c28,v26.length,rfl,hS.only sl,Yv⟩ ?_);clear hL hS;rintro Zgl ⟨v72,v79⟩ s ZEb hL ⟨ZdN,h69,a73,c74,n75,rfl,hS,e71,e76,e77,e78,e80⟩;obtain rfl:=hS.on k0;dsimp only [ZjK] at hL;refine r6 ?_;refine cn hL ?_ ?_
    ·intro hc hL;refine r2 ?_;refine WC.Kw (r:=r) (fun(v85:(List Int)) s=>∃ ZsJ h82 a86 c87 n88,s= ⟨ZsJ,[],h82,none⟩∧Sp wm T h [ow wm (Zr .i64) a86 n88 c87 v85] h82∧ZsJ.at 0= .pointer (some ⟨YS,Kk,none⟩)∧ZsJ.at 3= .slice a86 n88 c87∧ZsJ.at 69= .slice Zu p0.Za.qG.length Zt∧ZsJ.at 70= .int .i64 (p0.Za.qG.length:Int)∧ZsJ.at 71= .int .i64 v79) (ZjJ v79 Zgl) ?_ ?_
     ·clear hL hS;rintro v85 s hL ⟨ZsJ,h82,a86,c87,n88,rfl,hS,e84,e89,e90,e91,e92⟩;obtain rfl:=hS.on k0;dsimp only [ZjJ] at hL;refine r4 ?_;exact Ya.YQ (ZEb _ _ hL ⟨_,_,a86,c87,v85.length,rfl,hS.only sl,Yv⟩)
     ·skip;refine r3 ?_;obtain⟨x93,hx93,hL⟩:=qZ hL;obtain⟨b94,o95,⟨⟨a96,c97⟩,⟨a98,c99⟩⟩,ZGM,Zu0,ZuX,Zjw⟩:=Sl.at_ ZK hx93;refine r1 ?_;have ZGw:Sl (Zr .i64) wm h a96 c97 x93.qV:=Zjw.1;have ZOs:Sl (Zr .i64) wm h a98 c99 x93.Yd:=Zjw.2;refine WO.w gN rfl (YJ WZ Xj (YG fh rfl) (At.fz hS.fz ZuX Zu0) (j:=0) rfl rfl (ws:= (cL x93 a96 c97 a98 c99)) rfl) ?_;refine r1 ?_;rintro _ ZnD ⟨Zcd,ZBV,rfl,hS⟩;refine r1 ?_;rintro ZWF hS;refine r9 ?_;refine cn hL ?_ ?_
      ·intro hc hL;refine r5 ?_;refine WO.hn gN rfl (QF (e:= (Zr .i64)) hS XL XA UY rfl rfl rfl (Zv lk ZR) rfl [((),x93.ZV.msg)] rfl (xs:= [x93.ZV.msg]) rfl (by intro q hq;simp only [List.mem_cons,List.not_mem_nil,or_false] at hq;subst hq;exact trivial) rfl) ?_;rintro _ ZQZ ⟨ZX1,ZRe,rfl,hS⟩;obtain⟨z105,Zzg,hL⟩:=qZ hL;refine WO.hv gN rfl (XT (e:= (Zr .i64)) hS k2 Xe lk lk (hS.Xk k0) (hS.on k0) Zzg) ?_;rintro _ ZKy ⟨Zrn,c107,rfl,hS⟩;refine r3 ?_;exact YO.YQ _ hL ⟨_,_,Zrn,c107,z105.length,rfl,hS.only sl,Yv⟩
      ·intro hc hL;refine r2 ?_;exact YO.YQ _ hL ⟨_,_,a73,c74,v72.length,rfl,hS.only sl,Yv⟩
    ·intro hc hL;refine r8 ?_;obtain⟨Zb6,Zqb,hL⟩:=qZ hL;refine WO.cl gN rfl (Xb.fn ZGE (Zg lk ZA)) hS (.c k0 .n) (fun g' hz hf hO=>ZBv (by rw [hz];exact hS.hw) hO Zqb) ?_;rintro _ Z5q _ ⟨rfl,rfl⟩ hS;refine r6 ?_;refine WO.w gN rfl (ZbR XL lk (congrArg Nat.cast (hS.on k0))) ?_;refine r4 ?_;refine WC.loop (WL.lift hL (fun ZhU s=>∃ UJ h112,s= ⟨UJ,[],h112,none⟩∧Sp wm T h [ow wm (Zr .i64) a73 v72.length c74 Zb6] h112∧UJ.at 0= .pointer (some ⟨YS,Kk,none⟩)∧UJ.at 3= .slice a73 v72.length c74∧UJ.at 87= .slice a73 v72.length c74∧UJ.at 88= .int .i64 (Zb6.length:Int)∧UJ.at 89= .int .i64 ZhU) ⟨_,_,rfl,hS.only sl,Yv⟩ ?_);clear hL hS;rintro Zuj ZhU s ZzW hL ⟨UJ,h112,rfl,hS,ZLz,e115,e116,e117,e119⟩;dsimp only [ZbI] at hL;refine r6 ?_;refine cn hL ?_ ?_
     ·intro hc hL;refine r7 ?_;obtain⟨Zcl,Zb0,hL⟩:=qZ hL;obtain⟨ZLS,ZNv,_,Zgq,ZsC,ZJL⟩:=Src.at_ (hS.Xk k0) Zb0;refine WO.w gN rfl (Yn XL XA lk lk (hS.on k0) Zgq Zb0) ?_;refine WN ?_;refine cn hL ?_ ?_
      ·intro hc hL;refine Jv ?_;exact rt hL hT hS
      ·intro hc hL;refine r7 ?_;exact Ya.YQ (ZzW _ _ hL ⟨_,_,rfl,hS.only sl,Yv⟩)
     ·intro hc hL;refine r8 ?_;refine WO.w gN rfl (ZbR XL lk (congrArg Nat.cast (hS.on k0))) ?_;refine r4 ?_;refine WO.w gN rfl (Y8 W9 (YG fh rfl) (At.fz hS.fz X5 X6) (j:=5) rfl (v:= .int .i64 p0.Za.said) rfl) ?_;refine r5 ?_;exact rt hL hT hS
theorem ZKS {F h} {p0:ZY} {Zi Zh Zn Zm Zl Zk Zp Zo Zu Zt Z8 Z7 YS Kk} {r} (X6:At h YS Kk [.slice Zi p0.Za.Zx.length Zh,.slice Zn p0.Za.qK.length Zm,.slice Zl p0.Za.qQ.length Zk,.slice Zp p0.Za.qJ.length Zo,.slice Zu p0.Za.qG.length Zt,.int .i64 p0.Za.said,.slice Z8 p0.Xg.length Z7]) (X5:Stb h.size h YS) (ZB:Sl (Zr .i64) h.size h Zi Zh p0.Za.Zx) (ZN:Sl (ZJ (Zr .i64)) h.size h Zn Zm p0.Za.qK) (ZI:Sl (ZJ Zc) h.size h Zl Zk p0.Za.qQ) (ZM:Sl (ZJ Ze) h.size h Zp Zo p0.Za.qJ) (ZK:Sl Zd h.size h Zu Zt p0.Za.qG) (XB:Sl XO h.size h Z8 Z7 p0.Xg) (hL:ZwB F p0=some r):Pure XX 72 #[.pointer (some ⟨YS,Kk,none⟩)] h (.bool r):=
 WR.Qb rfl (ZKR (Nat.le_refl _) X6 X5 ZB ZN ZI ZM ZK XB hL)
end Go.Proofs.YtbmbbcaaimehkaaGreat
end
end
section
namespace Go.Proofs.YtbmbbcaaimehkaaGreat
open Go.Lf
def ZnT (p0:(List Int)):Option (List Int):=
 (app 8 ([]:List Int) p0).bind fun z3=>some z3
def ZnR (p0:(List (List Int))):(List (List Int))×Int ->((List (List Int))×Int ->Option (List (List Int))) ->Option (List (List Int)):=fun(v3,v11) Qc=>
 (bif decide (v11 < (p0.length:Int)) then(ZL p0 v11).bind fun x14=>(ZnT x14).bind fun x19=>(app 24 v3 [x19]).bind fun z27=>Qc (z27,Y2 (v11 + 1)) else some v3)
def ZBB (F:Nat) (p0:(List (List Int))):Option (List (List Int)):=
 loop F (ZnR p0) ([],0)
def ZjI (p0:Yb) (p1:Int) (p2:Int) (x1:(YA×Int)) (x31:(List Int)):Int×(List Zj)×(List Int)×(List (List Zz)) ->(Int×(List Zj)×(List Int)×(List (List Zz)) ->Option Yb) ->Option Yb:=fun(v45,v47,v51,v55) ZyR=>
 (bif decide (v45 < (x31.length:Int)) then(ZL x31 v45).bind fun x58=>(ZL v55 x1.1.machine).bind fun x61=>(ZL x61 x58).bind fun x67=>(app 8 v51 [Y2 (x67.age + 1)]).bind fun z76=>(app 40 v47 [(Zj.mk 2 x58 x1.1.machine p2 0)]).bind fun z83=>ZyR (Y2 (v45 + 1),z83,z76,Yl v55 x1.1.machine (Yl x61 x58 (Zz.mk false p2 (Y2 (x67.age + 1))))) else(app 128 p0.Za.qG [(Zf.mk 2 p2 (Zq.mk 0 0 0 0 0) x31 v51 0 0 0)]).bind fun z95=>some (Yb.mk (Zb.mk (Yl p0.Za.Zx p1 (-1)) p0.Za.qK v55 p0.Za.qJ z95 p0.Za.said) v47))
def ZnO (F:Nat) (p0:Yb) (p1:Int) (p2:Int) (x1:(YA×Int)):(List Int) ->Option Yb:=fun v25=>
 (ZsW v25).bind fun x31=>loop F (ZjI p0 p1 p2 x1 x31) (0,p0.qX,[],p0.Za.qQ)
def ZsZ (p0:Yb) (p1:Int) (v107:Int) (Zij:(Int×(List Int) ->Option (Bool×(List Int)))):Int×(List Int) ->(Int×(List Int) ->Option (Bool×(List Int))) ->Option (Bool×(List Int)):=fun(Zph,v138) Zm1=>
 (bif decide (Zph < ((Yl p0.Za.Zx p1 (-1)).length:Int)) then(ZL (Yl p0.Za.Zx p1 (-1)) Zph).bind fun U7=>(bif(U7==v107) then(Zij (Zph,v138)).bind fun(Zpg,ZxL)=>(bif(!Zpg) then some (false,ZxL) else Zm1 (Y2 (Zph + 1),ZxL)) else Zm1 (Y2 (Zph + 1),v138)) else some (true,v138))
def ZjH (F:Nat) (p0:Yb) (p1:Int):Int×(List Int) ->(Int×(List Int) ->Option (Bool×(List Int))) ->Option (Bool×(List Int)):=fun(v107,ZrU) Zij=>
 (app 8 ZrU [v107]).bind fun z124=>(bif(!true) then some (false,z124) else loop F (ZsZ p0 p1 v107 Zij) (0,z124))
def ZBx (F:Nat) (p0:Yb) (p1:Int) (p2:Int):Option Yb:=
 (Zeq F p0.Za p1).bind fun x1=>(ZL p0.Za.Zx p1).bind fun x7=>(loop F (ZjH F p0 p1) (p1,[])).bind fun(ZiI,v159)=>(ZnO F p0 p1 p2 x1) v159
def Zwz (p0:Zf):Option Bool:=
 (bif(p0.kind==1) then some ((!(((p0.place !=0) || (p0.at_ !=0)) || (p0.age !=0))) && (!((decide ((p0.qV.length:Int) > 0)) || (decide ((p0.Yd.length:Int) > 0))))) else(bif(p0.kind==2) then some ((((!(((p0.place !=0) || (p0.at_ !=0)) || (p0.age !=0))) && (!(!(Xw p0.ZV (Zq.mk 0 0 0 0 0))))) && (decide ((p0.qV.length:Int) > 0))) && ((p0.qV.length:Int)== (p0.Yd.length:Int))) else(bif(p0.kind==3) then some ((!(!(Xw p0.ZV (Zq.mk 0 0 0 0 0)))) && (!((decide ((p0.qV.length:Int) > 0)) || (decide ((p0.Yd.length:Int) > 0))))) else some false)))
def ZBw (p0:(List Zf)) (p1:Int) (p2:Int):Option (List Zf):=
 (slL p0 p1 p2).bind fun z1=>(bif(p1==p2) then some p0 else(slL p0 0 p1).bind fun z4=>(slL p0 p2 (p0.length:Int)).bind fun z13=>(app 128 z4 z13).bind fun z17=>some z17)
end Go.Proofs.YtbmbbcaaimehkaaGreat
end
section
set_option maxRecDepth 20000
noncomputable section
namespace Go.Proofs.YtbmbbcaaimehkaaGreat
open Go.YT Go.Lf
theorem ZnS {wm h} {p0:(List Int)} {Zi Zh} {r} (Z0:wm <=h.size) (ZB:Sl (Zr .i64) wm h Zi Zh p0) (hL:ZnT p0=some r):
 WR XX 80 #[.slice Zi p0.length Zh] wm h (CP (fun(v:Value) (Gb:List (Ast wm))=>∃ Xo Xu Xn,v= .slice Xo Xu Xn∧Gb= [ow wm (Zr .i64) Xo Xu Xn r]) [] h):=by
 refine bg Tryz.ntmps80 Z0 Yc.nil ?_;intro T hT hS;unfold ZnT at hL;refine r8 ?_;rcases Sl.cases ZB with⟨rfl,rfl,rfl⟩ | ⟨qa,rfl⟩
 ·
  refine r1 ?_;refine WO.w gN rfl (Qg (YG fh rfl) (evC rfl) (Zhd XL)) ?_;refine r2 ?_;refine WC.ZoA lk rfl ?_;rw [Ztz _ (by decide)] at hL;replace hL:some []=some r:=hL;refine r7 ?_;have hS:=hS.nil (e:= (Zr .i64));have hr:=Oi0 hL;subst hr;exact Yk.XI rfl (ZU lk ZE) ⟨_,⟨none,0,0,rfl,rfl⟩,hT ▸ hS.only sl⟩
 ·
  refine r1 ?_;refine WO.w gN rfl (Qg (YG fh rfl) (evC rfl) (Zhe XL)) ?_;refine r2 ?_;refine WC.Zey lk rfl ?_;refine r4 ?_;refine WO.hn gN rfl (QF (e:= (Zr .i64)) hS XL XA UY rfl rfl rfl ZR rfl [] rfl (xs:= ([]:List Int)) rfl (by intro q hq;cases hq) rfl) ?_;rintro _ h2 ⟨b1,eb1,rfl,hS⟩;refine r1 ?_;obtain⟨z3,hz3,hL⟩:=qZ hL;refine WO.hv gN rfl (XT (e:= (Zr .i64)) hS k0 Xe lk lk (Sl.src (hS.sl ZB)) rfl hz3) ?_;rintro _ h6 ⟨a4,c5,rfl,hS⟩;refine r4 ?_;have hr:=Oi0 hL;subst hr;exact Yk.XI rfl (ZU lk ZE) ⟨_,⟨a4,z3.length,c5,rfl,rfl⟩,hT ▸ hS.only sl⟩
theorem ZKO {F wm h} {p0:(List (List Int))} {Zi Zh} {r} (Z0:wm <=h.size) (ZB:Sl (ZJ (Zr .i64)) wm h Zi Zh p0) (hL:ZBB F p0=some r):
 WR XX 81 #[.slice Zi p0.length Zh] wm h (CP (fun(v:Value) (Gb:List (Ast wm))=>∃ Xo Xu Xn Ze5,v= .slice Xo Xu Xn∧Gb= [YD wm (ZO (Zr .i64)) Xo Xu Xn Ze5 r]) [] h):=by
 refine bg Tryz.ntmps81 Z0 Yc.nil ?_;intro T hT hS;unfold ZBB at hL;refine r16 ?_;refine r3 ?_;have hS:=hS.Zeg (e:= (ZO (Zr .i64))) (ps:=fun _=>(ZO (Zr .i64)).dflt);refine WC.loop (WL.lift hL (fun p s=>match p with | (v3,v11)=>∃ XV h1 a4 c5 n6 ps7,s= ⟨XV,[],h1,none⟩∧Sp wm T h [YD wm (ZO (Zr .i64)) a4 n6 c5 ps7 v3] h1∧XV.at 3= .slice a4 n6 c5∧XV.at 6= .slice Zi p0.length Zh∧XV.at 7= .int .i64 (p0.length:Int)∧XV.at 8= .int .i64 v11) ⟨_,_,none,0,0,(fun _=>(ZO (Zr .i64)).dflt),rfl,hS.only sl,Yv⟩ ?_);clear hL hS;rintro Qc ⟨v3,v11⟩ s UH hL ⟨XV,h1,a4,c5,n6,ps7,rfl,hS,e8,e9,e10,e12⟩;obtain rfl:=hS.YL k0;dsimp only [ZnR] at hL;refine r6 ?_;refine cn hL ?_ ?_
 ·intro hc hL;refine r6 ?_;obtain⟨x14,Znf,hL⟩:=qZ hL;obtain⟨b15,o16,⟨a17,c18⟩,ZuR,Zu2,ZuY,Zfn⟩:=Sl.at_ ZB Znf;refine r1 ?_;have Zfm:Sl (Zr .i64) wm h a17 c18 x14:=Zfn;refine r7 ?_;obtain⟨x19,Zne,hL⟩:=qZ hL;refine WO.cl gN rfl (Xb.fn ZuN (Zg lk ZA)) hS .n (fun g' hz hf hO=>ZnS (by rw [hz];exact hS.hw) ((hS.sl Zfm).mono hf) Zne) ?_;rintro _ h23 _ ⟨a20,n21,c22,rfl,rfl⟩ hS;obtain rfl:=hS.on k0;refine WO.hn gN rfl (ZlV (e:= (Zr .i64)) (x:=x19) hS k0 Zhf Uh ZrF rfl rfl (Zv lk ZR) rfl rfl) ?_;rintro _ h26 ⟨b25,ZLy,rfl,hS⟩;obtain⟨z27,Zzf,hL⟩:=qZ hL;refine WO.hv gN rfl (ZlW (e:= (ZO (Zr .i64))) hS (.c k1 (.c k0 .n)) Zrd lk lk Zzf) ?_;rintro _ h31 ⟨a28,c29,Zyt,rfl,hS⟩;refine r8 ?_;exact Ya.YQ (UH _ _ hL ⟨_,_,a28,c29,z27.length,Zyt,rfl,hS.only sl,Yv⟩)
 ·intro hc hL;refine WN ?_;have hr:=Oi0 hL;subst hr;exact Yk.XI rfl (ZU lk ZE) ⟨_,⟨a4,v3.length,c5,ps7,rfl,rfl⟩,hT ▸ hS.only sl⟩
theorem ZKL {F wm h} {p0:Yb} {p1 p2:Int} {Zi Zh XF Zn Zm Qw Yr Zl Zk Qv Yx Zp Zo Qu Yq Zu Zt Qt Z8 Z7 Qs YS} {r} (Z0:wm <=h.size) (hO:Yc (wm:=wm) [bx wm YS (cG Zi XF Zh Zn Qw Zm Zl Qv Zk Zp Qu Zo Zu Qt Zt p0.Za.said Z8 Qs Z7),ow wm (Zr .i64) Zi XF Zh p0.Za.Zx,YD wm (ZO (Zr .i64)) Zn Qw Zm Yr p0.Za.qK,YD wm (ZO Zc) Zl Qv Zk Yx p0.Za.qQ,YD wm (ZO Ze) Zp Qu Zo Yq p0.Za.qJ,ow wm Zd Zu Qt Zt p0.Za.qG,ow wm Zy Z8 Qs Z7 p0.qX] h) (hL:ZBx F p0 p1 p2=some r):
 WR XX 85 #[.pointer (some ⟨YS,0,none⟩),.int .i64 p1,.int .i64 p2] wm h (CP (fun(v:Value) (Gb:List (Ast wm))=>∃ QV JG QO QU JF QN JL QT JE QM JK QS JD QL JJ QR JC QK JI JB JH,v= .tuple [].toArray∧Gb= [bx wm YS (cG QV JG QO QU JF QN QT JE QM QS JD QL QR JC QK r.Za.said JI JB JH),ow wm (Zr .i64) QV JG QO r.Za.Zx,YD wm (ZO (Zr .i64)) QU JF QN JL r.Za.qK,YD wm (ZO Zc) QT JE QM JK r.Za.qQ,YD wm (ZO Ze) QS JD QL JJ r.Za.qJ,ow wm Zd QR JC QK r.Za.qG,ow wm Zy JI JB JH r.qX]) [bx wm YS (cG Zi XF Zh Zn Qw Zm Zl Qv Zk Zp Qu Zo Zu Qt Zt p0.Za.said Z8 Qs Z7),ow wm (Zr .i64) Zi XF Zh p0.Za.Zx,YD wm (ZO (Zr .i64)) Zn Qw Zm Yr p0.Za.qK,YD wm (ZO Zc) Zl Qv Zk Yx p0.Za.qQ,YD wm (ZO Ze) Zp Qu Zo Yq p0.Za.qJ,ow wm Zd Zu Qt Zt p0.Za.qG,ow wm Zy Z8 Qs Z7 p0.qX] h):=by
 refine bg Tryz.ntmps85 Z0 hO ?_;intro T hT hS;unfold ZBx at hL;obtain rfl:=hS.on k1;obtain rfl:=hS.YL k2;obtain rfl:=hS.YL k3;obtain rfl:=hS.YL k4;obtain rfl:=hS.on k5;obtain rfl:=hS.on k6;refine r7 ?_;obtain⟨x1,hx1,hL⟩:=qZ hL;refine WO.clR gN rfl (Xb.fn ZhB (Zg lk (Zg lk ZA))) hS.hw (Zc3 (Nat.le_refl _) (hS.ord k1) (hS.nrd k2 Jo) (hS.nrd k3 Jo) (hS.nrd k4 Jo) (hS.ord k5) hx1) ?_;rintro _ h2 _ ⟨rfl,rfl⟩ hR3;have hS:=hS.clR hR3 .n;refine r4 ?_;rintro _ h5 ⟨b4,eb4,rfl,hS⟩;refine r1 ?_;rintro h6 hS;refine Jv ?_;obtain⟨x7,hx7,hL⟩:=qZ hL;obtain⟨b8,o9,_,ZED,ZQq,Z30⟩:=Src.at_ (hS.Xk k2) hx7;refine r1 ?_;refine WO.hu gN (KV (e:= (Zr .i64)) (-1) () hS k2 XA (YG fh rfl) (evC rfl) ZED hx7 ZQq (j:=0) rfl (vs:= [.int .i64 (-1)]) rfl rfl rfl rfl rfl (cs':= [.int .i64 (-1)]) rfl rfl trivial) ?_;rintro h10 ⟨hS,Z4a⟩;refine r10 ?_;refine WO.inl gN rfl (Xb.fn ZAc (Zg lk (Zg lk ZA))) (WF.begin (args:= [_,_]) (fn:=Tryz.f77) Kq0 (by exact rfl) Tryz.ntmps77 (by simp) ?_);simp only [Z4,Z9,Nat.reduceAdd];refine r3 ?_;rintro _ h13 ⟨b12,ZWU,rfl,hS⟩;refine r1 ?_;rintro _ h15 ⟨b14,ZWT,rfl,hS⟩;refine r5 ?_;refine WO.w gN rfl (ZbQ (Zg lk (Zg lk ZA))) ?_;refine r4 ?_;refine Yk.XI rfl (ZU lk ZE) ?_;refine WO.inl gN rfl (Xb.fn ZJj (Zg lk ZA)) (WF.begin (args:= [_]) (fn:=Tryz.f104) Kq0 (by exact rfl) Tryz.ntmps104 (by simp) ?_);simp only [Z4,Z9,Nat.reduceAdd];refine r8 ?_;refine WO.inl gN rfl (Xb.fn ZGG (Zg lk ZA)) (WF.begin (args:= [_]) (fn:=Tryz.f79) Kq0 (by exact rfl) Tryz.ntmps79 (by simp) ?_);simp only [Z4,Z9,Nat.reduceAdd];refine r8 ?_;refine WO.inl gN rfl (Xb.fn ZAi (Zg lk (Zg lk ZA))) (WF.Ztu (args:= [_,_]) (fn:=Tryz.f100) Kq0 (by exact rfl) Tryz.ntmps100 (by simp) ?_);simp only [Z4,Z9,Nat.reduceAdd];refine r3 ?_;rintro _ h17 ⟨b16,Z51,rfl,hS⟩;refine r10 ?_;refine WC.Zyj (first:= []) (cap:= [.pointer (some ⟨b12,0,none⟩),.pointer (some ⟨b14,0,none⟩)]) hS lk Zz8 ?_;intro h18 l19 Ztf ZtO ZuS hS;refine WR.Zm8 (r:=r) (fun(v25:(List Int)) (v:Value) (h23:H)=>∃ a26 c27 n28,v= .tuple [].toArray∧Sp wm T h [bx wm b12 (cW p0.Za Zi Zh Zn Zm Zl Zk Zp Zo Zu Zt),bx wm b14 [.int .i64 p1],ow wm (Zr .i64) a26 n28 c27 v25,bx wm b16 [.slice a26 n28 c27],bx wm YS (cH p0 Zi Zh Zn Zm Zl Zk Zp Zo Zu Zt Z8 Z7),bx wm b4 [.int .i64 x1.1.machine,.bool x1.1.here,.int .i64 x1.1.age],ow wm (Zr .i64) Zi p0.Za.Zx.length Zh (Yl p0.Za.Zx p1 (-1)),YD wm (ZO (Zr .i64)) Zn p0.Za.qK.length Zm Yr p0.Za.qK,YD wm (ZO Zc) Zl p0.Za.qQ.length Zk Yx p0.Za.qQ,YD wm (ZO Ze) Zp p0.Za.qJ.length Zo Yq p0.Za.qJ,ow wm Zd Zu p0.Za.qG.length Zt p0.Za.qG,ow wm Zy Z8 p0.qX.length Z7 p0.qX,ob wm l19 ZtO,ob wm Ztf .deferred] h23) (ZnO F p0 p1 p2 x1) ?_ (WF.begin (args:= [_,_,_]) (fn:=Tryz.f97) Kq0 (by exact rfl) Tryz.ntmps97 (by simp) ?_)
 ·clear hL hS;rintro v25 v h23 hL ⟨a26,c27,n28,rfl,hS⟩;obtain rfl:=hS.on k2;dsimp only [ZnO] at hL;refine RgE.sp ZuS hS k12 ?_;rintro h29 hS;refine r9 ?_;refine UO.ZB1 hS k12 ?_;rintro h30 hS;refine UO.gen rfl (ZU lk ZE) rfl ?_;refine r4 ?_;refine Yk.XI rfl (ZU lk ZE) ?_;refine r6 ?_;obtain⟨x31,hx31,hL⟩:=qZ hL;refine WO.cl gN rfl (Xb.fn ZGE (Zg lk ZA)) hS (.c k2 .n) (fun g' hz hf hO=>ZBv (by rw [hz];exact hS.hw) hO hx31) ?_;rintro _ h32 _ ⟨rfl,rfl⟩ hS;refine r9 ?_;refine Yk.XI rfl (ZU lk ZE) ?_;refine WO.w gN rfl (YX ZfG (Zv lk (Zv lk (Zv lk ZR))) rfl (cs':= [.int .i64 2,.int .i64 p2,.int .i64 0,.int .i64 0,.int .i64 0,.int .i64 0,.int .i64 0,.slice a26 v25.length c27,.slice none 0 0,.int .i64 0,.int .i64 0,.int .i64 0]) rfl) ?_;refine r1 ?_;rintro _ h35 ⟨b34,Z5X,rfl,hS⟩;refine r1 ?_;rintro h36 hS;refine r7 ?_;refine WO.w gN rfl (ZbR XL lk (congrArg Nat.cast (hS.on k1))) ?_;refine r4 ?_;have hS:=hS.nil (e:= (Zr .i64));refine WC.loop (WL.lift hL (fun p s=>match p with | (v45,v47,v51,v55)=>∃ Za9 h37 a48 c49 n50 a52 c53 n54 ZIh,s= ⟨Za9,[],h37,none⟩∧Sp wm T h [ow wm Zy a48 n50 c49 v47,bx wm YS (cG Zi p0.Za.Zx.length Zh Zn p0.Za.qK.length Zm Zl p0.Za.qQ.length Zk Zp p0.Za.qJ.length Zo Zu p0.Za.qG.length Zt p0.Za.said a48 n50 c49),bx wm b4 [.int .i64 x1.1.machine,.bool x1.1.here,.int .i64 x1.1.age],ow wm (Zr .i64) a52 n54 c53 v51,bx wm b34 [.int .i64 2,.int .i64 p2,.int .i64 0,.int .i64 0,.int .i64 0,.int .i64 0,.int .i64 0,.slice a26 v25.length c27,.slice a52 n54 c53,.int .i64 0,.int .i64 0,.int .i64 0],ow wm (Zr .i64) a26 v25.length c27 x31,ow wm (Zr .i64) Zi p0.Za.Zx.length Zh (Yl p0.Za.Zx p1 (-1)),YD wm (ZO (Zr .i64)) Zn p0.Za.qK.length Zm Yr p0.Za.qK,YD wm (ZO Zc) Zl p0.Za.qQ.length Zk ZIh v55,YD wm (ZO Ze) Zp p0.Za.qJ.length Zo Yq p0.Za.qJ,ow wm Zd Zu p0.Za.qG.length Zt p0.Za.qG] h37∧Za9.at 0= .pointer (some ⟨YS,0,none⟩)∧Za9.at 2= .int .i64 p2∧Za9.at 6= .pointer (some ⟨b4,0,none⟩)∧Za9.at 8= .pointer (some ⟨b34,0,none⟩)∧Za9.at 38= .slice a26 v25.length c27∧Za9.at 39= .int .i64 (x31.length:Int)∧Za9.at 40= .int .i64 v45) ⟨_,_,Z8,Z7,p0.qX.length,none,0,0,Yx,rfl,hS.only sl,Yv⟩ ?_);clear hL hS;rintro ZyR ⟨v45,v47,v51,v55⟩ s ZEj hL ⟨Za9,h37,a48,c49,n50,a52,c53,n54,ZIh,rfl,hS,e39,e40,e41,e42,e43,e44,e46⟩;obtain rfl:=hS.on k0;obtain rfl:=hS.on k3;dsimp only [ZjI] at hL;refine r6 ?_;refine cn hL ?_ ?_
  ·intro hc hL;refine r6 ?_;obtain⟨x58,Zzi,hL⟩:=qZ hL;obtain⟨b59,o60,_,ZAk,ZG9,ZPT⟩:=Src.at_ (hS.Xk k5) Zzi;refine WO.w gN rfl (Yn XL XA lk lk (hS.on k5) ZAk Zzi) ?_;refine r5 ?_;refine WC.YC mixed Kq0 ?_;refine r7 ?_;obtain⟨x61,Zlj,hL⟩:=qZ hL;obtain⟨b62,o63,a64,n65,c66,ZzJ,ZGO,ZQv⟩:=hS.atS k8 Zlj;refine WX.w gN rfl (Yn ZeW Zbu lk lk (hS.YL k8) ZGO Zlj) ?_ rfl;refine r2 ?_;obtain⟨x67,Zsm,hL⟩:=qZ hL;obtain⟨b68,o69,_,ZuP,ZAT,ZuU⟩:=Src.at_ (hS.inS k8 Zlj ZzJ).2.1 Zsm;refine WX.w gN rfl (Yn WJ Y3 lk lk (hS.inS k8 Zlj ZzJ).1 ZuP Zsm) ?_ rfl;refine WN ?_;refine WO.w gN rfl (YX ZkE (Zv lk (Zv lk ZR)) rfl (cs':= [.bool false,.int .i64 p2,.int .i64 (Y2 (x67.age + 1))]) rfl) ?_;refine r1 ?_;have hS:=hS.Kj k8 Zlj ZzJ;refine WO.hu gN (KV (e:=Zc) (Zz.mk false p2 (Y2 (x67.age + 1))) () hS k1 Y3 (YG fh rfl) (YG (ZC rfl fh) rfl) ZuP Zsm ZAT (j:=0) rfl (vs:= [.bool false,.int .i64 p2,.int .i64 (Y2 (x67.age + 1))]) rfl rfl rfl rfl rfl (cs':= [.bool false,.int .i64 p2,.int .i64 (Y2 (x67.age + 1))]) rfl rfl trivial) ?_;rintro h70 ⟨hS,ZWf⟩;obtain⟨ZTy,Z3M,hS⟩:=hS.Ko (.c k1 (.c k0 .n)) Zlj;refine r3 ?_;refine WC.YC mixed Kq0 ?_;refine r5 ?_;refine WX.w gN rfl (Y8 W9 (YG fh rfl) ZWf (j:=2) rfl (v:= .int .i64 (Y2 (x67.age + 1))) rfl) ?_ rfl;refine WX.hn gN rfl (QF (e:= (Zr .i64)) hS XL XA UY rfl rfl rfl (Zv lk ZR) rfl [((),Y2 (x67.age + 1))] rfl (xs:= [Y2 (x67.age + 1)]) rfl (by intro q hq;simp only [List.mem_cons,List.not_mem_nil,or_false] at hq;subst hq;exact trivial) rfl) ?_ rfl;rintro _ h75 ⟨b74,Z5F,rfl,hS⟩;obtain⟨z76,ZTS,hL⟩:=qZ hL;refine WX.hv gN rfl (XT (e:= (Zr .i64)) hS k5 Xe lk lk (hS.Xk k0) (hS.on k0) ZTS) ?_ rfl rfl [] Kq0 Yh.e;rintro _ h79 ⟨a77,c78,rfl,hS⟩;refine WX.w gN rfl (Qf ZnJ lk) ?_ Kq0;refine WX.hu gN (Ui hS k6 Uh lk lk (vs:= [.slice a77 z76.length c78]) rfl rfl rfl rfl (cs':= [.int .i64 2,.int .i64 p2,.int .i64 0,.int .i64 0,.int .i64 0,.int .i64 0,.int .i64 0,.slice a26 v25.length c27,.slice a77 z76.length c78,.int .i64 0,.int .i64 0,.int .i64 0]) rfl) ?_ rfl Kq0 [] Kq0 Yh.e;rintro h80 hS;refine r2 ?_;refine WC.YC mixed Kq0 ?_;refine r9 ?_;refine WX.w gN rfl (YX ZhQ (Zv lk (Zv lk (Zv lk (Zv lk ZR)))) rfl (cs':= [.int .i64 2,.int .i64 x58,.int .i64 x1.1.machine,.int .i64 p2,.int .i64 0]) rfl) ?_ rfl;refine WX.hn gN rfl (QF (e:=Zy) hS ZeU KS ZaF rfl rfl rfl (Zv lk ZR) rfl [((),(Zj.mk 2 x58 x1.1.machine p2 0))] rfl (xs:= [(Zj.mk 2 x58 x1.1.machine p2 0)]) rfl (by intro q hq;simp only [List.mem_cons,List.not_mem_nil,or_false] at hq;subst hq;exact trivial) rfl) ?_ rfl;rintro _ h82 ⟨b81,Z5C,rfl,hS⟩;obtain⟨z83,ZTQ,hL⟩:=qZ hL;refine WX.hv gN rfl (XT (e:=Zy) hS k5 Zag lk lk (hS.Xk k0) (hS.on k0) ZTQ) ?_ rfl rfl [] Kq0 Yh.e;rintro _ h86 ⟨a84,c85,rfl,hS⟩;refine WX.w gN rfl (Ki lk) ?_ Kq0;refine WX.w gN rfl (Qf Zft lk) ?_ Kq0;refine WX.hu gN (Ui hS k6 ZmM lk lk (vs:= [.slice a84 z83.length c85]) rfl rfl rfl rfl (cs':= (cG Zi p0.Za.Zx.length Zh Zn p0.Za.qK.length Zm Zl p0.Za.qQ.length Zk Zp p0.Za.qJ.length Zo Zu p0.Za.qG.length Zt p0.Za.said a84 z83.length c85)) rfl) ?_ rfl Kq0 [] Kq0 Yh.e;rintro h87 hS;refine r7 ?_;exact Ya.YQ (ZEj _ _ hL ⟨_,_,a84,c85,z83.length,a77,c78,z76.length,ZTy,rfl,hS.only sl,Yv⟩)
  ·intro hc hL;refine r5 ?_;have ZI2:=hS.on k5;rw [ZI2] at hS;rw [ZI2] at e43
   try rw [ZI2]
   refine WC.fzn hS k5 ?_;rintro h89 ⟨Z3Q,hS⟩;refine WC.fzn hS k4 ?_;rintro h91 ⟨Z3P,hS⟩;refine WC.YC mixed Kq0 ?_;refine r7 ?_;refine WX.hn gN rfl (QF (e:=Zd) hS UZ Xj U5 rfl rfl rfl (Zv lk ZR) rfl [(((a26,c27),(a52,c53)),(Zf.mk 2 p2 (Zq.mk 0 0 0 0 0) x31 v51 0 0 0))] rfl (xs:= [(Zf.mk 2 p2 (Zq.mk 0 0 0 0 0) x31 v51 0 0 0)]) rfl (by intro q hq;simp only [List.mem_cons,List.not_mem_nil,or_false] at hq;subst hq;exact⟨(hS.fsl k1),(hS.fsl k0)⟩) rfl) ?_ rfl;rintro _ h94 ⟨b93,ZWK,rfl,hS⟩;obtain⟨z95,ZTP,hL⟩:=qZ hL;refine WX.hv gN rfl (XT (e:=Zd) hS k11 Q5 lk lk (hS.Xk k0) (hS.on k0) ZTP) ?_ rfl rfl [] Kq0 Yh.e;rintro _ h98 ⟨a96,c97,rfl,hS⟩;refine WX.w gN rfl (Ki lk) ?_ Kq0;refine WX.w gN rfl (Qf Zfu lk) ?_ Kq0;refine WX.w gN rfl (Qf KC lk) ?_ Kq0;refine WX.hu gN (Ui hS k5 Zbv lk lk (vs:= [.slice a96 z95.length c97]) rfl rfl rfl rfl (cs':= (cG Zi p0.Za.Zx.length Zh Zn p0.Za.qK.length Zm Zl p0.Za.qQ.length Zk Zp p0.Za.qJ.length Zo a96 z95.length c97 p0.Za.said a48 v47.length c49)) rfl) ?_ rfl Kq0 [] Kq0 Yh.e;rintro h99 hS;refine r1 ?_;refine Yk.YQ ?_;have hr:=Oi0 hL;subst hr;exact Yk.gen (vs:= []) rfl ZE rfl ⟨_,⟨Zi,p0.Za.Zx.length,Zh,Zn,p0.Za.qK.length,Zm,Yr,Zl,p0.Za.qQ.length,Zk,ZIh,Zp,p0.Za.qJ.length,Zo,Yq,a96,z95.length,c97,a48,v47.length,c49,rfl,rfl⟩,hT ▸ hS.only sl⟩
 ·skip;simp only [Z4,Z9,Nat.reduceAdd];refine r3 ?_;rintro _ ZnD ⟨Zcd,ZBV,rfl,hS⟩;refine r5 ?_;rintro _ ZWE ⟨ZdR,Z1L,rfl,hS⟩;refine r4 ?_;refine WO.w gN rfl (ZbQ (Zg lk (Zg lk (Zg lk ZA)))) ?_;refine r1 ?_;rintro ZQZ hS;refine r5 ?_
  have ZD7:∀ (Fr:Nat) (x:Int×(List Int)) (r:Bool×(List Int)),loop Fr (ZjH F p0 p1) x=some r ->match x with | (v107,ZrU)=>∀ {h:H} (a109:Option Addr) (Zh6:Nat) (n111:Nat),wm <=h.size ->Yc (wm:=wm) [bx wm YS (cH p0 Zi Zh Zn Zm Zl Zk Zp Zo Zu Zt Z8 Z7),bx wm b4 [.int .i64 x1.1.machine,.bool x1.1.here,.int .i64 x1.1.age],bx wm b12 (cW p0.Za Zi Zh Zn Zm Zl Zk Zp Zo Zu Zt),bx wm b14 [.int .i64 p1],ow wm (Zr .i64) a109 n111 Zh6 ZrU,bx wm b16 [.slice a109 n111 Zh6],bx wm Zcd [.func (.yield l19) #[] #[]],bx wm ZdR [.func (.func 98) #[] [.pointer (some ⟨Zcd,0,none⟩),.pointer (some ⟨b12,0,none⟩),.pointer (some ⟨ZdR,0,none⟩)].toArray],ow wm (Zr .i64) Zi p0.Za.Zx.length Zh (Yl p0.Za.Zx p1 (-1)),YD wm (ZO (Zr .i64)) Zn p0.Za.qK.length Zm Yr p0.Za.qK,YD wm (ZO Zc) Zl p0.Za.qQ.length Zk Yx p0.Za.qQ,YD wm (ZO Ze) Zp p0.Za.qJ.length Zo Yq p0.Za.qJ,ow wm Zd Zu p0.Za.qG.length Zt p0.Za.qG,ow wm Zy Z8 p0.qX.length Z7 p0.qX,ob wm l19 ZtO,ob wm Ztf .deferred] h ->WR XX 98 #[.int .i64 v107,.pointer (some ⟨Zcd,0,none⟩),.pointer (some ⟨b12,0,none⟩),.pointer (some ⟨ZdR,0,none⟩)] wm h (CP (fun(v:Value) (Gb:List (Ast wm))=>match r with | (ZvL,v117)=>∃ Zw9 c119 n120,v= .bool ZvL∧Gb= [bx wm YS (cH p0 Zi Zh Zn Zm Zl Zk Zp Zo Zu Zt Z8 Z7),bx wm b4 [.int .i64 x1.1.machine,.bool x1.1.here,.int .i64 x1.1.age],bx wm b12 (cW p0.Za Zi Zh Zn Zm Zl Zk Zp Zo Zu Zt),bx wm b14 [.int .i64 p1],ow wm (Zr .i64) Zw9 n120 c119 v117,bx wm b16 [.slice Zw9 n120 c119],bx wm Zcd [.func (.yield l19) #[] #[]],bx wm ZdR [.func (.func 98) #[] [.pointer (some ⟨Zcd,0,none⟩),.pointer (some ⟨b12,0,none⟩),.pointer (some ⟨ZdR,0,none⟩)].toArray],ow wm (Zr .i64) Zi p0.Za.Zx.length Zh (Yl p0.Za.Zx p1 (-1)),YD wm (ZO (Zr .i64)) Zn p0.Za.qK.length Zm Yr p0.Za.qK,YD wm (ZO Zc) Zl p0.Za.qQ.length Zk Yx p0.Za.qQ,YD wm (ZO Ze) Zp p0.Za.qJ.length Zo Yq p0.Za.qJ,ow wm Zd Zu p0.Za.qG.length Zt p0.Za.qG,ow wm Zy Z8 p0.qX.length Z7 p0.qX,ob wm l19 ZtO,ob wm Ztf .deferred]) [bx wm YS (cH p0 Zi Zh Zn Zm Zl Zk Zp Zo Zu Zt Z8 Z7),bx wm b4 [.int .i64 x1.1.machine,.bool x1.1.here,.int .i64 x1.1.age],bx wm b12 (cW p0.Za Zi Zh Zn Zm Zl Zk Zp Zo Zu Zt),bx wm b14 [.int .i64 p1],ow wm (Zr .i64) a109 n111 Zh6 ZrU,bx wm b16 [.slice a109 n111 Zh6],bx wm Zcd [.func (.yield l19) #[] #[]],bx wm ZdR [.func (.func 98) #[] [.pointer (some ⟨Zcd,0,none⟩),.pointer (some ⟨b12,0,none⟩),.pointer (some ⟨ZdR,0,none⟩)].toArray],ow wm (Zr .i64) Zi p0.Za.Zx.length Zh (Yl p0.Za.Zx p1 (-1)),YD wm (ZO (Zr .i64)) Zn p0.Za.qK.length Zm Yr p0.Za.qK,YD wm (ZO Zc) Zl p0.Za.qQ.length Zk Yx p0.Za.qQ,YD wm (ZO Ze) Zp p0.Za.qJ.length Zo Yq p0.Za.qJ,ow wm Zd Zu p0.Za.qG.length Zt p0.Za.qG,ow wm Zy Z8 p0.qX.length Z7 p0.qX,ob wm l19 ZtO,ob wm Ztf .deferred] h):=by
   clear hL hS;refine ZiU _ ?_;rintro Zij ZzY ⟨v107,ZrU⟩ r hL h a109 Zh6 n111 Z0 hO;dsimp only [ZjH] at hL;obtain⟨T,hT,hS⟩:∃ T,T=Qk (wm:=wm) [bx wm YS (cH p0 Zi Zh Zn Zm Zl Zk Zp Zo Zu Zt Z8 Z7),bx wm b4 [.int .i64 x1.1.machine,.bool x1.1.here,.int .i64 x1.1.age],bx wm b12 (cW p0.Za Zi Zh Zn Zm Zl Zk Zp Zo Zu Zt),bx wm b14 [.int .i64 p1],ow wm (Zr .i64) a109 n111 Zh6 ZrU,bx wm b16 [.slice a109 n111 Zh6],bx wm Zcd [.func (.yield l19) #[] #[]],bx wm ZdR [.func (.func 98) #[] [.pointer (some ⟨Zcd,0,none⟩),.pointer (some ⟨b12,0,none⟩),.pointer (some ⟨ZdR,0,none⟩)].toArray],ow wm (Zr .i64) Zi p0.Za.Zx.length Zh (Yl p0.Za.Zx p1 (-1)),YD wm (ZO (Zr .i64)) Zn p0.Za.qK.length Zm Yr p0.Za.qK,YD wm (ZO Zc) Zl p0.Za.qQ.length Zk Yx p0.Za.qQ,YD wm (ZO Ze) Zp p0.Za.qJ.length Zo Yq p0.Za.qJ,ow wm Zd Zu p0.Za.qG.length Zt p0.Za.qG,ow wm Zy Z8 p0.qX.length Z7 p0.qX,ob wm l19 ZtO,ob wm Ztf .deferred]∧Sp wm T h [bx wm YS (cH p0 Zi Zh Zn Zm Zl Zk Zp Zo Zu Zt Z8 Z7),bx wm b4 [.int .i64 x1.1.machine,.bool x1.1.here,.int .i64 x1.1.age],bx wm b12 (cW p0.Za Zi Zh Zn Zm Zl Zk Zp Zo Zu Zt),bx wm b14 [.int .i64 p1],ow wm (Zr .i64) a109 n111 Zh6 ZrU,bx wm b16 [.slice a109 n111 Zh6],bx wm Zcd [.func (.yield l19) #[] #[]],bx wm ZdR [.func (.func 98) #[] [.pointer (some ⟨Zcd,0,none⟩),.pointer (some ⟨b12,0,none⟩),.pointer (some ⟨ZdR,0,none⟩)].toArray],ow wm (Zr .i64) Zi p0.Za.Zx.length Zh (Yl p0.Za.Zx p1 (-1)),YD wm (ZO (Zr .i64)) Zn p0.Za.qK.length Zm Yr p0.Za.qK,YD wm (ZO Zc) Zl p0.Za.qQ.length Zk Yx p0.Za.qQ,YD wm (ZO Ze) Zp p0.Za.qJ.length Zo Yq p0.Za.qJ,ow wm Zd Zu p0.Za.qG.length Zt p0.Za.qG,ow wm Zy Z8 p0.qX.length Z7 p0.qX,ob wm l19 ZtO,ob wm Ztf .deferred] h:= ⟨_,rfl,Sp.start Z0 hO⟩
   obtain rfl:=hS.on k4;refine WF.begin (args:= [_,_,_,_]) (fn:=Tryz.f98) Kq0 (by exact rfl) Tryz.ntmps98 (by simp) ?_;simp only [Z4,Z9,Nat.reduceAdd];refine r10 ?_;refine WO.ZMx gN rfl lk lks hS k14 ZuS rfl rfl ?_;refine r3 ?_;refine AsK.sp ZuS hS k14 ?_;rintro ZWA hS;refine r4 ?_;refine WO.hn gN rfl (QF (e:= (Zr .i64)) hS XL XA UY rfl rfl rfl (Zv lk ZR) rfl [((),v107)] rfl (xs:= [v107]) rfl (by intro q hq;simp only [List.mem_cons,List.not_mem_nil,or_false] at hq;subst hq;exact trivial) rfl) ?_;rintro _ Z5p ⟨ZLS,Z1D,rfl,hS⟩;obtain⟨z124,ZNU,hL⟩:=qZ hL;refine WO.hv gN rfl (XT (e:= (Zr .i64)) hS k6 Xe lk lk (hS.Xk k0) (hS.on k0) ZNU) ?_;rintro _ h127 ⟨ZSa,ZCb,rfl,hS⟩;refine r1 ?_;rintro h128 hS;refine r2 ?_;refine BdK.sp ZuS hS k3 ?_;rintro ZWz hS;refine r3 ?_;refine cn hL ?_ ?_
   ·intro hc hL;refine r7 ?_;have hr:=Oi0 hL;subst hr;exact Yk.XI rfl (ZU lk ZE) ⟨_,⟨ZSa,ZCb,z124.length,rfl,rfl⟩,hT ▸ hS.only sl⟩
   ·intro hc hL;refine r7 ?_;refine WO.w gN rfl (ZbR XL lk (congrArg Nat.cast (hS.on k10))) ?_;refine r4 ?_;refine WC.loop (WL.lift hL (fun p s=>match p with | (Zph,v138)=>∃ ZjB ZEK a139 Zq0 n141,s= ⟨ZjB,[],ZEK,none⟩∧Sp wm T h [bx wm ZdR [.func (.func 98) #[] [.pointer (some ⟨Zcd,0,none⟩),.pointer (some ⟨b12,0,none⟩),.pointer (some ⟨ZdR,0,none⟩)].toArray],bx wm Zcd [.func (.yield l19) #[] #[]],bx wm b12 (cW p0.Za Zi Zh Zn Zm Zl Zk Zp Zo Zu Zt),bx wm YS (cH p0 Zi Zh Zn Zm Zl Zk Zp Zo Zu Zt Z8 Z7),bx wm b4 [.int .i64 x1.1.machine,.bool x1.1.here,.int .i64 x1.1.age],bx wm b14 [.int .i64 p1],ow wm (Zr .i64) a139 n141 Zq0 v138,bx wm b16 [.slice a139 n141 Zq0],ow wm (Zr .i64) Zi p0.Za.Zx.length Zh (Yl p0.Za.Zx p1 (-1)),YD wm (ZO (Zr .i64)) Zn p0.Za.qK.length Zm Yr p0.Za.qK,YD wm (ZO Zc) Zl p0.Za.qQ.length Zk Yx p0.Za.qQ,YD wm (ZO Ze) Zp p0.Za.qJ.length Zo Yq p0.Za.qJ,ow wm Zd Zu p0.Za.qG.length Zt p0.Za.qG,ow wm Zy Z8 p0.qX.length Z7 p0.qX,ob wm l19 ZtO,ob wm Ztf .deferred] ZEK∧ZjB.at 0= .int .i64 v107∧ZjB.at 3= .pointer (some ⟨ZdR,0,none⟩)∧ZjB.at 13= .slice Zi p0.Za.Zx.length Zh∧ZjB.at 14= .int .i64 ((Yl p0.Za.Zx p1 (-1)).length:Int)∧ZjB.at 15= .int .i64 Zph) ⟨_,_,ZSa,ZCb,z124.length,rfl,hS.only sl,Yv⟩ ?_);clear hL hS;rintro Zm1 ⟨Zph,v138⟩ s Zqg hL ⟨ZjB,ZEK,a139,Zq0,n141,rfl,hS,Z6D,Z6C,Z6B,ZXd,e137⟩;obtain rfl:=hS.on k6;dsimp only [ZsZ] at hL;refine r6 ?_;refine cn hL ?_ ?_
    ·intro hc hL;refine r7 ?_;obtain⟨U7,ZuD,hL⟩:=qZ hL;obtain⟨ZXU,ZTI,_,ZAy,ZA0,ZsB⟩:=Src.at_ (hS.Xk k8) ZuD;refine WO.w gN rfl (Yn XL XA lk lk (hS.on k8) ZAy ZuD) ?_;refine r13 ?_;refine WO.ZcW (Zw.yes rfl rfl rfl (YE rfl fh)) (fun ZcS=>?_) (fun ZcS=>?_)
     ·replace hL:=Ua ZcS hL;obtain⟨⟨Zpg,ZxL⟩,Zzt,hL⟩:=qZ hL;dsimp only at hL;refine WO.cl (Zw.on (Zw.yes rfl rfl rfl (YE rfl fh)) ZcS) rfl (Xb.clo (first:= []) (cap:= [.pointer (some ⟨Zcd,0,none⟩),.pointer (some ⟨b12,0,none⟩),.pointer (some ⟨ZdR,0,none⟩)]) (YU (ZC rfl fh) rfl ZcS) Zjs (Zg (YU fh rfl ZcS) ZA) rfl) hS (.c k3 (.c k3 (.c k2 (.c k2 (.c k2 (.c k2 (.c k1 (.c k0 (.c k0 (.c k0 (.c k0 (.c k0 (.c k0 (.c k0 (.c k0 (.c k0 .n)))))))))))))))) (fun g' hz hf hO=>ZzY _ _ Zzt a139 Zq0 v138.length (by rw [hz];exact hS.hw) hO) ?_;rintro _ ZKv _ ⟨ZL3,c152,n153,rfl,rfl⟩ hS;simp only [List.cons_append,List.nil_append] at hS;obtain rfl:=hS.on k4;refine WO.w (Zw.on (Zw.yes rfl rfl rfl (YE rfl (ZC rfl fh))) ZcS) rfl (ZkG lk) ?_;refine WO.w gN rfl (ZeA lk ZcS lk) ?_;refine r2 ?_;refine cn hL ?_ ?_
      ·intro hc hL;refine Jv ?_;have hr:=Oi0 hL;subst hr;exact Yk.XI rfl (ZU lk ZE) ⟨_,⟨ZL3,c152,ZxL.length,rfl,rfl⟩,hT ▸ hS.only sl⟩
      ·intro hc hL;refine r7 ?_;exact Ya.YQ (Zqg _ _ hL ⟨_,_,ZL3,c152,ZxL.length,rfl,hS.only sl,Yv⟩)
     ·replace hL:=Ub ZcS hL;refine WO.ZcM (Zw.yes rfl rfl rfl (YE rfl fh)) ZcS rfl ?_;refine WO.ZcM (Zw.yes rfl rfl rfl (YE rfl (ZC rfl fh))) ZcS rfl ?_;refine WO.w gN rfl (ZeB lk ZcS lk) ?_;refine r2 ?_;refine WC.Zey lk rfl ?_;refine r7 ?_;exact Ya.YQ (Zqg _ _ hL ⟨_,_,a139,Zq0,v138.length,rfl,hS.only sl,Yv⟩)
    ·intro hc hL;refine Jv ?_;have hr:=Oi0 hL;subst hr;exact Yk.XI rfl (ZU lk ZE) ⟨_,⟨a139,Zq0,v138.length,rfl,rfl⟩,hT ▸ hS.only sl⟩
  have hS:=hS.nil (e:= (Zr .i64));obtain⟨⟨ZiI,v159⟩,ZOh,hL⟩:=qZ hL;dsimp only at hL;refine WO.cl gN rfl (Xb.clo (first:= []) (cap:= [.pointer (some ⟨Zcd,0,none⟩),.pointer (some ⟨b12,0,none⟩),.pointer (some ⟨ZdR,0,none⟩)]) lk Zjs lks rfl) hS (.c k10 (.c k9 (.c k7 (.c k6 (.c k0 (.c k4 (.c k1 (.c k0 (.c k2 (.c k2 (.c k2 (.c k2 (.c k2 (.c k2 (.c k0 (.c k0 .n)))))))))))))))) (fun g' hz hf hO=>ZD7 _ _ _ ZOh none 0 0 (by rw [hz];exact hS.hw) hO) ?_;rintro _ Z5a _ ⟨a160,ZXz,n162,rfl,rfl⟩ hS;simp only [List.cons_append,List.nil_append] at hS;obtain rfl:=hS.on k4;refine r1 ?_;refine Yk.YQ ?_;exact Yk.gen (vs:= []) rfl ZE rfl ⟨_,hL,⟨a160,ZXz,v159.length,rfl,hS.only sl⟩⟩
theorem ZKJ {wm h} {p0:Zf} {Zi Zh Zn Zm} {r} (Z0:wm <=h.size) (ZB:Sl (Zr .i64) wm h Zi Zh p0.qV) (ZN:Sl (Zr .i64) wm h Zn Zm p0.Yd) (hL:Zwz p0=some r):
 WR XX 86 #[.agg [.int .i64 p0.kind,.int .i64 p0.ZX,.int .i64 p0.ZV.msg,.int .i64 p0.ZV.place,.int .i64 p0.ZV.from_,.int .i64 p0.ZV.age,.int .i64 p0.ZV.hops,.slice Zi p0.qV.length Zh,.slice Zn p0.Yd.length Zm,.int .i64 p0.place,.int .i64 p0.at_,.int .i64 p0.age].toArray] wm h (CP (fun(v:Value) (Gb:List (Ast wm))=>v= .bool r∧Gb= []) [] h):=by
 refine bg Tryz.ntmps86 Z0 Yc.nil ?_;intro T hT hS;unfold Zwz at hL;refine r3 ?_;rintro _ h2 ⟨b1,eb1,rfl,hS⟩;refine r16 ?_;refine r16 ?_;refine r8 ?_;refine WO.w gN rfl (YX ZCc ZR rfl (cs':= [.int .i64 0,.int .i64 0,.int .i64 0,.int .i64 0,.int .i64 0]) rfl) ?_;refine WO.w gN rfl (Qg (YG (ZC rfl fh) rfl) (YG fh rfl) (Zbj (xs:= [.int .i64 p0.ZV.msg,.int .i64 p0.ZV.place,.int .i64 p0.ZV.from_,.int .i64 p0.ZV.age,.int .i64 p0.ZV.hops]) (ys:= [.int .i64 0,.int .i64 0,.int .i64 0,.int .i64 0,.int .i64 0]) (Zvh p0.ZV (Zq.mk 0 0 0 0 0)) rfl rfl)) ?_;refine r16 ?_;refine r1 ?_;refine cn hL ?_ ?_
 ·intro hc hL;refine r14 ?_;exact rt hL hT hS
 ·intro hc hL;refine r6 ?_;refine cn hL ?_ ?_
  ·intro hc hL;refine r16 ?_;refine r13 ?_;exact rt hL hT hS
  ·intro hc hL;refine r6 ?_;refine cn hL ?_ ?_
   ·intro hc hL;refine r14 ?_;exact rt hL hT hS
   ·intro hc hL;refine r9 ?_;exact rt hL hT hS
theorem ZKK {h} {p0:Zf} {Zi Zh Zn Zm} {r} (ZB:Sl (Zr .i64) h.size h Zi Zh p0.qV) (ZN:Sl (Zr .i64) h.size h Zn Zm p0.Yd) (hL:Zwz p0=some r):Pure XX 86 #[.agg [.int .i64 p0.kind,.int .i64 p0.ZX,.int .i64 p0.ZV.msg,.int .i64 p0.ZV.place,.int .i64 p0.ZV.from_,.int .i64 p0.ZV.age,.int .i64 p0.ZV.hops,.slice Zi p0.qV.length Zh,.slice Zn p0.Yd.length Zm,.int .i64 p0.place,.int .i64 p0.at_,.int .i64 p0.age].toArray] h (.bool r):=
 WR.Qb rfl (ZKJ (Nat.le_refl _) ZB ZN hL)
theorem ZKI {wm h} {p0:(List Zf)} {p1 p2:Int} {Zi Zh XF} {r} (Z0:wm <=h.size) (hO:Yc (wm:=wm) [ow wm Zd Zi XF Zh p0] h) (hL:ZBw p0 p1 p2=some r):
 WR XX 88 #[.slice Zi XF Zh,.int .i64 p1,.int .i64 p2] wm h (CP (fun(v:Value) (Gb:List (Ast wm))=>∃ Xo Xu Xn,v= .slice Xo Xu Xn∧Gb= [ow wm Zd Xo Xu Xn r]) [ow wm Zd Zi XF Zh p0] h):=by
 refine bg Tryz.ntmps88 Z0 hO ?_;intro T hT hS;unfold ZBw at hL;obtain rfl:=hS.on k0;refine WN ?_;obtain⟨z1,hz1,hL⟩:=qZ hL;refine WO.he gN rfl (ZHZ (hS.get k0).2 rfl UZ Xj (YG (Y7 rfl fh) rfl) (YG (YE rfl (ZC rfl fh)) rfl) (YG (YE rfl fh) rfl) (YG fh rfl) hz1) ?_;rintro v2 hv3;refine r10 ?_;refine cn hL ?_ ?_
 ·intro hc hL;refine r8 ?_;have hr:=Oi0 hL;subst hr;exact Yk.XI rfl (ZU lk ZE) ⟨_,⟨Zi,p0.length,Zh,rfl,rfl⟩,hT ▸ hS.only sl⟩
 ·intro hc hL;refine r10 ?_;refine WC.YC mixed Kq0 ?_;refine r2 ?_;obtain⟨z4,hz4,hL⟩:=qZ hL;have Zz6:= (hS.get k0).2.cap;refine WX.he gN rfl (ZHY (hS.get k0).2 rfl UZ Xj (YG (ZC rfl fh) rfl) (YG fh rfl) hz4) ?_ rfl;rintro _ ⟨a5,c6,ea7,ec8,rfl,ZUv⟩;have ZQ7:=ec8.symm;refine r2 ?_;obtain⟨z13,ZIF,hL⟩:=qZ hL;refine WX.he gN rfl (Zya (hS.get k0).2 rfl UZ Xj (YG (ZC rfl fh) rfl) (.inr ⟨_,XD (YG fh rfl)⟩) (.inl ⟨rfl,rfl⟩) ZIF) ?_ rfl;rintro _ ⟨a14,c15,rfl,ZUt⟩;obtain⟨z17,ZID,hL⟩:=qZ hL;have ZT6:= (ZUt.own (hS.get k0).2).src;have hS:=hS.sub k0 ZUv;refine WX.hv gN rfl (ZMZ (e:=Zd) hS k0 Q5 lk lk ZT6 rfl ZID (ZQ7 ▸ Nat.le_trans (Zvn hz1 hz4 ZIF ZID) Zz6)) ?_ rfl rfl [] Kq0 Yh.e;rintro _ h19 ⟨rfl,hS⟩;refine WX.w gN rfl (Zbh lk) ?_ Kq0;refine r8 ?_;refine WO.he gN rfl (ZHX (hS.get k0).2 UZ Xj (YG (YE rfl (ZC rfl fh)) rfl) (YG (ZC rfl fh) rfl) (YG fh rfl) (Zvn hz1 hz4 ZIF ZID) (ZQ7 ▸ Zz6)) ?_;rintro _ ⟨a20,c21,rfl,ZUx⟩;refine WO.hw gN (ZMX hS k0 ZUx rfl UZ U5 rfl (YG fh rfl)) ?_;rintro h24 hS;refine r9 ?_;have hr:=Oi0 hL;subst hr;exact Yk.XI rfl (ZU lk ZE) ⟨_,⟨a5,z17.length,c6,rfl,rfl⟩,hT ▸ hS.only sl⟩
end Go.Proofs.YtbmbbcaaimehkaaGreat
end
end
section
namespace Go.Proofs.YtbmbbcaaimehkaaGreat
open Go.Lf
def ZnM (p0:ZY) (p1:Int):Option Bool:=
 some ((decide (p1 >=0)) && (decide (p1 < (p0.Za.qQ.length:Int))))
def ZsU (p0:ZY) (p1:Int):Option Bool:=
 some ((decide (p1 >=0)) && (decide (p1 < (p0.Za.Zx.length:Int))))
def ZjE (p0:(List Int)) (p1:Int):Int ->(Int ->Option Int) ->Option Int:=fun v6 Za3=>
 (bif decide (v6 < (p0.length:Int)) then(ZL p0 v6).bind fun x9=>(bif(p1==x9) then some v6 else Za3 (Y2 (v6 + 1))) else some (-1))
def ZBt (F:Nat) (p0:(List Int)) (p1:Int):Option Int:=
 loop F (ZjE p0 p1) 0
def Zvc (p0:(List Zz)):Option (List Zz):=
 (app 24 ([]:List Zz) p0).bind fun z3=>some z3
end Go.Proofs.YtbmbbcaaimehkaaGreat
end
section
set_option maxRecDepth 20000
noncomputable section
namespace Go.Proofs.YtbmbbcaaimehkaaGreat
open Go.YT Go.Lf
theorem ZKE {wm h} {p0:ZY} {p1:Int} {Zi Zh Zn Zm Zl Zk Zp Zo Zu Zt Z8 Z7 YS Kk} {r} (Z0:wm <=h.size) (X6:At h YS Kk [.slice Zi p0.Za.Zx.length Zh,.slice Zn p0.Za.qK.length Zm,.slice Zl p0.Za.qQ.length Zk,.slice Zp p0.Za.qJ.length Zo,.slice Zu p0.Za.qG.length Zt,.int .i64 p0.Za.said,.slice Z8 p0.Xg.length Z7]) (X5:Stb wm h YS) (ZB:Sl (Zr .i64) wm h Zi Zh p0.Za.Zx) (ZN:Sl (ZJ (Zr .i64)) wm h Zn Zm p0.Za.qK) (ZI:Sl (ZJ Zc) wm h Zl Zk p0.Za.qQ) (ZM:Sl (ZJ Ze) wm h Zp Zo p0.Za.qJ) (ZK:Sl Zd wm h Zu Zt p0.Za.qG) (XB:Sl XO wm h Z8 Z7 p0.Xg) (hL:ZnM p0 p1=some r):
 WR XX 95 #[.pointer (some ⟨YS,Kk,none⟩),.int .i64 p1] wm h (CP (fun(v:Value) (Gb:List (Ast wm))=>v= .bool r∧Gb= []) [] h):=by
 refine bg Tryz.ntmps95 Z0 Yc.nil ?_;intro T hT hS;unfold ZnM at hL;refine r15 ?_;refine WO.gv (Zw.yes rfl rfl rfl (Y7 rfl (ZC rfl fh))) rfl (fun hg=>(Y8 Zri (YU fh rfl hg) (At.fz hS.fz X5 X6) (j:=2) rfl (v:= .slice Zl p0.Za.qQ.length Zk) rfl)) ?_;refine r7 ?_;exact rt hL hT hS
theorem ZsV {h} {p0:ZY} {p1:Int} {Zi Zh Zn Zm Zl Zk Zp Zo Zu Zt Z8 Z7 YS Kk} {r} (X6:At h YS Kk [.slice Zi p0.Za.Zx.length Zh,.slice Zn p0.Za.qK.length Zm,.slice Zl p0.Za.qQ.length Zk,.slice Zp p0.Za.qJ.length Zo,.slice Zu p0.Za.qG.length Zt,.int .i64 p0.Za.said,.slice Z8 p0.Xg.length Z7]) (X5:Stb h.size h YS) (ZB:Sl (Zr .i64) h.size h Zi Zh p0.Za.Zx) (ZN:Sl (ZJ (Zr .i64)) h.size h Zn Zm p0.Za.qK) (ZI:Sl (ZJ Zc) h.size h Zl Zk p0.Za.qQ) (ZM:Sl (ZJ Ze) h.size h Zp Zo p0.Za.qJ) (ZK:Sl Zd h.size h Zu Zt p0.Za.qG) (XB:Sl XO h.size h Z8 Z7 p0.Xg) (hL:ZnM p0 p1=some r):Pure XX 95 #[.pointer (some ⟨YS,Kk,none⟩),.int .i64 p1] h (.bool r):=
 WR.Qb rfl (ZKE (Nat.le_refl _) X6 X5 ZB ZN ZI ZM ZK XB hL)
theorem ZKD {wm h} {p0:ZY} {p1:Int} {Zi Zh Zn Zm Zl Zk Zp Zo Zu Zt Z8 Z7 YS Kk} {r} (Z0:wm <=h.size) (X6:At h YS Kk [.slice Zi p0.Za.Zx.length Zh,.slice Zn p0.Za.qK.length Zm,.slice Zl p0.Za.qQ.length Zk,.slice Zp p0.Za.qJ.length Zo,.slice Zu p0.Za.qG.length Zt,.int .i64 p0.Za.said,.slice Z8 p0.Xg.length Z7]) (X5:Stb wm h YS) (ZB:Sl (Zr .i64) wm h Zi Zh p0.Za.Zx) (ZN:Sl (ZJ (Zr .i64)) wm h Zn Zm p0.Za.qK) (ZI:Sl (ZJ Zc) wm h Zl Zk p0.Za.qQ) (ZM:Sl (ZJ Ze) wm h Zp Zo p0.Za.qJ) (ZK:Sl Zd wm h Zu Zt p0.Za.qG) (XB:Sl XO wm h Z8 Z7 p0.Xg) (hL:ZsU p0 p1=some r):
 WR XX 96 #[.pointer (some ⟨YS,Kk,none⟩),.int .i64 p1] wm h (CP (fun(v:Value) (Gb:List (Ast wm))=>v= .bool r∧Gb= []) [] h):=by
 refine bg Tryz.ntmps96 Z0 Yc.nil ?_;intro T hT hS;unfold ZsU at hL;refine r15 ?_;refine WO.gv (Zw.yes rfl rfl rfl (Y7 rfl (ZC rfl fh))) rfl (fun hg=>(Y8 ZHq (YU fh rfl hg) (At.fz hS.fz X5 X6) (j:=0) rfl (v:= .slice Zi p0.Za.Zx.length Zh) rfl)) ?_;refine r7 ?_;exact rt hL hT hS
theorem ZBu {h} {p0:ZY} {p1:Int} {Zi Zh Zn Zm Zl Zk Zp Zo Zu Zt Z8 Z7 YS Kk} {r} (X6:At h YS Kk [.slice Zi p0.Za.Zx.length Zh,.slice Zn p0.Za.qK.length Zm,.slice Zl p0.Za.qQ.length Zk,.slice Zp p0.Za.qJ.length Zo,.slice Zu p0.Za.qG.length Zt,.int .i64 p0.Za.said,.slice Z8 p0.Xg.length Z7]) (X5:Stb h.size h YS) (ZB:Sl (Zr .i64) h.size h Zi Zh p0.Za.Zx) (ZN:Sl (ZJ (Zr .i64)) h.size h Zn Zm p0.Za.qK) (ZI:Sl (ZJ Zc) h.size h Zl Zk p0.Za.qQ) (ZM:Sl (ZJ Ze) h.size h Zp Zo p0.Za.qJ) (ZK:Sl Zd h.size h Zu Zt p0.Za.qG) (XB:Sl XO h.size h Z8 Z7 p0.Xg) (hL:ZsU p0 p1=some r):Pure XX 96 #[.pointer (some ⟨YS,Kk,none⟩),.int .i64 p1] h (.bool r):=
 WR.Qb rfl (ZKD (Nat.le_refl _) X6 X5 ZB ZN ZI ZM ZK XB hL)
theorem ZKC {F wm h} {p0:(List Int)} {p1:Int} {Zi Zh} {r} (Z0:wm <=h.size) (ZB:Sl (Zr .i64) wm h Zi Zh p0) (hL:ZBt F p0 p1=some r):
 WR XX 99 #[.slice Zi p0.length Zh,.int .i64 p1] wm h (CP (fun(v:Value) (Gb:List (Ast wm))=>v= .int .i64 r∧Gb= []) [] h):=by
 refine bg Tryz.ntmps99 Z0 Yc.nil ?_;intro T hT hS;unfold ZBt at hL;refine r14 ?_;refine WC.loop (WL.lift hL (fun v6 s=>∃ XV h1,s= ⟨XV,[],h1,none⟩∧Sp wm T h [] h1∧XV.at 0= .slice Zi p0.length Zh∧XV.at 1= .int .i64 p1∧XV.at 7= .int .i64 (p0.length:Int)∧XV.at 8= .int .i64 v6) ⟨_,_,rfl,hS.only .n,Yv⟩ ?_);clear hL hS;rintro Za3 v6 s Zek hL ⟨XV,h1,rfl,hS,e3,e4,e5,e7⟩;dsimp only [ZjE] at hL;refine r6 ?_;refine cn hL ?_ ?_
 ·intro hc hL;refine r15 ?_;obtain⟨x9,hx9,hL⟩:=qZ hL;obtain⟨b10,o11,_,Zqm,Zmf,ZuZ,Zqo⟩:=Sl.at_ ZB hx9;refine r5 ?_;refine cn hL ?_ ?_
  ·intro hc hL;refine WN ?_;exact rt hL hT hS
  ·intro hc hL;refine r7 ?_;exact Ya.YQ (Zek _ _ hL ⟨_,_,rfl,hS.only .n,Yv⟩)
 ·intro hc hL;refine Jv ?_;exact rt hL hT hS
theorem ZFd {wm h} {p0:(List Zz)} {Zi Zh} {r} (Z0:wm <=h.size) (ZB:Sl Zc wm h Zi Zh p0) (hL:Zvc p0=some r):
 WR XX 101 #[.slice Zi p0.length Zh] wm h (CP (fun(v:Value) (Gb:List (Ast wm))=>∃ Xo Xu Xn,v= .slice Xo Xu Xn∧Gb= [ow wm Zc Xo Xu Xn r]) [] h):=by
 refine bg Tryz.ntmps101 Z0 Yc.nil ?_;intro T hT hS;unfold Zvc at hL;refine r8 ?_;rcases Sl.cases ZB with⟨rfl,rfl,rfl⟩ | ⟨qa,rfl⟩
 ·
  refine r1 ?_;refine WO.w gN rfl (Qg (YG fh rfl) (evC rfl) (Zhd WJ)) ?_;refine r2 ?_;refine WC.ZoA lk rfl ?_;rw [Ztz _ (by decide)] at hL;replace hL:some []=some r:=hL;refine r7 ?_;have hS:=hS.nil (e:=Zc);have hr:=Oi0 hL;subst hr;exact Yk.XI rfl (ZU lk ZE) ⟨_,⟨none,0,0,rfl,rfl⟩,hT ▸ hS.only sl⟩
 ·
  refine r1 ?_;refine WO.w gN rfl (Qg (YG fh rfl) (evC rfl) (Zhe WJ)) ?_;refine r2 ?_;refine WC.Zey lk rfl ?_;refine r4 ?_;refine WO.hn gN rfl (QF (e:=Zc) hS WJ Y3 Zbo rfl rfl rfl ZR rfl [] rfl (xs:= ([]:List Zz)) rfl (by intro q hq;cases hq) rfl) ?_;rintro _ h2 ⟨b1,eb1,rfl,hS⟩;refine r1 ?_;obtain⟨z3,hz3,hL⟩:=qZ hL;refine WO.hv gN rfl (XT (e:=Zc) hS k0 Zra lk lk (Sl.src (hS.sl ZB)) rfl hz3) ?_;rintro _ h6 ⟨a4,c5,rfl,hS⟩;refine r4 ?_;have hr:=Oi0 hL;subst hr;exact Yk.XI rfl (ZU lk ZE) ⟨_,⟨a4,z3.length,c5,rfl,rfl⟩,hT ▸ hS.only sl⟩
end Go.Proofs.YtbmbbcaaimehkaaGreat
end
end
section
namespace Go.Proofs.YtbmbbcaaimehkaaGreat
open Go.Lf
def Zvb (p0:(List Zq)):Option (List Zq):=
 (app 40 ([]:List Zq) p0).bind fun z3=>some z3
def ZhG (p0:Yb) (p1:Int) (p2:Zq):Option Yb:=
 (ZL p0.Za.qK p2.place).bind fun x7=>(app 8 x7 [p2.msg]).bind fun z15=>(ZL p0.Za.qK p2.place).bind fun x19=>(app 40 p0.qX [(Zj.mk 1 p2.place p1 p2.msg p2.hops)]).bind fun z26=>some (Yb.mk (Zb.mk p0.Za.Zx (Yl p0.Za.qK p2.place z15) p0.Za.qQ p0.Za.qJ p0.Za.qG p0.Za.said) z26)
end Go.Proofs.YtbmbbcaaimehkaaGreat
end
section
set_option maxRecDepth 20000
noncomputable section
namespace Go.Proofs.YtbmbbcaaimehkaaGreat
open Go.YT Go.Lf
theorem ZFc {wm h} {p0:(List Zq)} {Zi Zh} {r} (Z0:wm <=h.size) (ZB:Sl Ze wm h Zi Zh p0) (hL:Zvb p0=some r):
 WR XX 102 #[.slice Zi p0.length Zh] wm h (CP (fun(v:Value) (Gb:List (Ast wm))=>∃ Xo Xu Xn,v= .slice Xo Xu Xn∧Gb= [ow wm Ze Xo Xu Xn r]) [] h):=by
 refine bg Tryz.ntmps102 Z0 Yc.nil ?_;intro T hT hS;unfold Zvb at hL;refine r8 ?_;rcases Sl.cases ZB with⟨rfl,rfl,rfl⟩ | ⟨qa,rfl⟩
 ·
  refine r1 ?_;refine WO.w gN rfl (Qg (YG fh rfl) (evC rfl) (Zhd ZaY)) ?_;refine r2 ?_;refine WC.ZoA lk rfl ?_;rw [Ztz _ (by decide)] at hL;replace hL:some []=some r:=hL;refine r7 ?_;have hS:=hS.nil (e:=Ze);have hr:=Oi0 hL;subst hr;exact Yk.XI rfl (ZU lk ZE) ⟨_,⟨none,0,0,rfl,rfl⟩,hT ▸ hS.only sl⟩
 ·
  refine r1 ?_;refine WO.w gN rfl (Qg (YG fh rfl) (evC rfl) (Zhe ZaY)) ?_;refine r2 ?_;refine WC.Zey lk rfl ?_;refine r4 ?_;refine WO.hn gN rfl (QF (e:=Ze) hS ZaY JA Zcj rfl rfl rfl ZR rfl [] rfl (xs:= ([]:List Zq)) rfl (by intro q hq;cases hq) rfl) ?_;rintro _ h2 ⟨b1,eb1,rfl,hS⟩;refine r1 ?_;obtain⟨z3,hz3,hL⟩:=qZ hL;refine WO.hv gN rfl (XT (e:=Ze) hS k0 Zaf lk lk (Sl.src (hS.sl ZB)) rfl hz3) ?_;rintro _ h6 ⟨a4,c5,rfl,hS⟩;refine r4 ?_;have hr:=Oi0 hL;subst hr;exact Yk.XI rfl (ZU lk ZE) ⟨_,⟨a4,z3.length,c5,rfl,rfl⟩,hT ▸ hS.only sl⟩
theorem Zva {wm h} {p0:Yb} {p1:Int} {p2:Zq} {Zi Zh XF Zn Zm Qw Yr Zl Zk Qv Yx Zp Zo Qu Yq Zu Zt Qt Z8 Z7 Qs YS} {r} (Z0:wm <=h.size) (hO:Yc (wm:=wm) [bx wm YS (cG Zi XF Zh Zn Qw Zm Zl Qv Zk Zp Qu Zo Zu Qt Zt p0.Za.said Z8 Qs Z7),ow wm (Zr .i64) Zi XF Zh p0.Za.Zx,YD wm (ZO (Zr .i64)) Zn Qw Zm Yr p0.Za.qK,YD wm (ZO Zc) Zl Qv Zk Yx p0.Za.qQ,YD wm (ZO Ze) Zp Qu Zo Yq p0.Za.qJ,ow wm Zd Zu Qt Zt p0.Za.qG,ow wm Zy Z8 Qs Z7 p0.qX] h) (hL:ZhG p0 p1 p2=some r):
 WR XX 103 #[.pointer (some ⟨YS,0,none⟩),.int .i64 p1,.agg [.int .i64 p2.msg,.int .i64 p2.place,.int .i64 p2.from_,.int .i64 p2.age,.int .i64 p2.hops].toArray] wm h (CP (fun(v:Value) (Gb:List (Ast wm))=>∃ QV JG QO QU JF QN JL QT JE QM JK QS JD QL JJ QR JC QK JI JB JH,v= .tuple [].toArray∧Gb= [bx wm YS (cG QV JG QO QU JF QN QT JE QM QS JD QL QR JC QK r.Za.said JI JB JH),ow wm (Zr .i64) QV JG QO r.Za.Zx,YD wm (ZO (Zr .i64)) QU JF QN JL r.Za.qK,YD wm (ZO Zc) QT JE QM JK r.Za.qQ,YD wm (ZO Ze) QS JD QL JJ r.Za.qJ,ow wm Zd QR JC QK r.Za.qG,ow wm Zy JI JB JH r.qX]) [bx wm YS (cG Zi XF Zh Zn Qw Zm Zl Qv Zk Zp Qu Zo Zu Qt Zt p0.Za.said Z8 Qs Z7),ow wm (Zr .i64) Zi XF Zh p0.Za.Zx,YD wm (ZO (Zr .i64)) Zn Qw Zm Yr p0.Za.qK,YD wm (ZO Zc) Zl Qv Zk Yx p0.Za.qQ,YD wm (ZO Ze) Zp Qu Zo Yq p0.Za.qJ,ow wm Zd Zu Qt Zt p0.Za.qG,ow wm Zy Z8 Qs Z7 p0.qX] h):=by
 refine bg Tryz.ntmps103 Z0 hO ?_;intro T hT hS;unfold ZhG at hL;obtain rfl:=hS.on k1;obtain rfl:=hS.YL k2;obtain rfl:=hS.YL k3;obtain rfl:=hS.YL k4;obtain rfl:=hS.on k5;obtain rfl:=hS.on k6;refine r3 ?_;rintro _ h2 ⟨b1,eb1,rfl,hS⟩;refine r3 ?_;refine WC.YC mixed Kq0 ?_;refine r4 ?_;refine WX.wr (fun x=>x=YS) hS gN rfl (fun _ _ hR=>Y8 ZkK (YG fh rfl) (At.eqv (hR YS rfl) (hS.KI k1)) (j:=1) rfl (v:= .slice Zn p0.Za.qK.length Zm) rfl) ?_ rfl rfl;rintro h3 e4 hS;refine r1 ?_;refine WX.wr (fun x=>x=b1) hS gN rfl (fun _ _ hR=>Y8 W9 (YG fh rfl) (At.eqv (hR b1 rfl) (hS.KI k0)) (j:=1) rfl (v:= .int .i64 p2.place) rfl) ?_ rfl rfl;rintro h5 e6 hS;refine r7 ?_;obtain⟨x7,hx7,hL⟩:=qZ hL;obtain⟨b8,o9,a10,n11,c12,ZUB,ZED,ZQq⟩:=hS.atS k3 hx7;refine r4 ?_;refine WX.hn gN rfl (QF (e:= (Zr .i64)) hS XL XA UY rfl rfl rfl (Zv lk ZR) rfl [((),p2.msg)] rfl (xs:= [p2.msg]) rfl (by intro q hq;simp only [List.mem_cons,List.not_mem_nil,or_false] at hq;subst hq;exact trivial) rfl) ?_ rfl;rintro _ h14 ⟨b13,Z52,rfl,hS⟩;obtain⟨z15,ZIE,hL⟩:=qZ hL;have hS:=hS.Kj k4 hx7 ZUB;refine WX.hv gN rfl (XT (e:= (Zr .i64)) hS k1 Xe lk lk (hS.Xk k2) (hS.on k2) ZIE) ?_ rfl rfl [4,6] Kq0 (.c (.s (.s .z)) (hS.dj (.c k1 (.c k3 .n))) (.c (.s .z) (hS.dj (.c k1 (.c k2 .n))) Yh.e));rintro _ h18 ⟨a16,c17,rfl,hS⟩;obtain⟨x19,Zne,hL⟩:=qZ hL;refine WX.w gN rfl (Yn Zhf Uh lk lk rfl ZED Zne) ?_ Kq0;refine WX.hu gN (ZdW hS k1 Uh (YG fh rfl) (YG (ZC rfl fh) rfl) ZED hx7 (j:=0) rfl (vs:= [.slice a16 z15.length c17]) rfl rfl rfl rfl rfl (cs':= [.slice a16 z15.length c17]) rfl rfl rfl) ?_ rfl Kq0 [] Kq0 Yh.e;rintro h21 hS;obtain⟨ZTB,Z3O,hS⟩:=hS.Ko (.c k0 (.c k0 .n)) hx7;refine r2 ?_;refine WC.YC mixed Kq0 ?_;refine WN ?_;refine WX.w gN rfl (YX ZhQ (Zv lk (Zv lk (Zv lk (Zv lk (Zv lk ZR))))) rfl (cs':= [.int .i64 1,.int .i64 p2.place,.int .i64 p1,.int .i64 p2.msg,.int .i64 p2.hops]) rfl) ?_ rfl;refine WX.hn gN rfl (QF (e:=Zy) hS ZeU KS ZaF rfl rfl rfl (Zv lk ZR) rfl [((),(Zj.mk 1 p2.place p1 p2.msg p2.hops))] rfl (xs:= [(Zj.mk 1 p2.place p1 p2.msg p2.hops)]) rfl (by intro q hq;simp only [List.mem_cons,List.not_mem_nil,or_false] at hq;subst hq;exact trivial) rfl) ?_ rfl;rintro _ h25 ⟨b24,ZQ9,rfl,hS⟩;obtain⟨z26,ZT2,hL⟩:=qZ hL;refine WX.hv gN rfl (XT (e:=Zy) hS k9 Zag lk lk (hS.Xk k0) (hS.on k0) ZT2) ?_ rfl rfl [] Kq0 Yh.e;rintro _ h29 ⟨a27,c28,rfl,hS⟩;refine WX.w gN rfl (Ki lk) ?_ Kq0;refine WX.w gN rfl (Qf Zft lk) ?_ Kq0;refine WX.hu gN (Ui hS k5 ZmM lk lk (vs:= [.slice a27 z26.length c28]) rfl rfl rfl rfl (cs':= (cG Zi p0.Za.Zx.length Zh Zn p0.Za.qK.length Zm Zl p0.Za.qQ.length Zk Zp p0.Za.qJ.length Zo Zu p0.Za.qG.length Zt p0.Za.said a27 z26.length c28)) rfl) ?_ rfl Kq0 [] Kq0 Yh.e;rintro h30 hS;refine r1 ?_;refine Yk.YQ ?_;have hr:=Oi0 hL;subst hr;exact Yk.gen (vs:= []) rfl ZE rfl ⟨_,⟨Zi,p0.Za.Zx.length,Zh,Zn,p0.Za.qK.length,Zm,ZTB,Zl,p0.Za.qQ.length,Zk,Yx,Zp,p0.Za.qJ.length,Zo,Yq,Zu,p0.Za.qG.length,Zt,a27,z26.length,c28,rfl,rfl⟩,hT ▸ hS.only sl⟩
end Go.Proofs.YtbmbbcaaimehkaaGreat
end
end
section
namespace Go.Proofs.YtbmbbcaaimehkaaGreat
open Go.Lf
def Zoj (p0:Zb) (p1:Zb) (v30:Int) (ZmY:(Int ->Option Bool)) (x43:(List Zz)):Int ->(Int ->Option Bool) ->Option Bool:=fun v56 Zi7=>
 (bif decide (v56 < (x43.length:Int)) then(ZL p0.qQ v30).bind fun x59=>(ZL x59 v56).bind fun x64=>(ZL p1.qQ v30).bind fun x67=>(ZL x67 v56).bind fun x72=>(bif(!(QA x64 x72)) then some false else Zi7 (Y2 (v56 + 1))) else ZmY (Y2 (v30 + 1)))
def Zoi (p0:Zb) (p1:Zb) (v80:Int) (K3:(Int ->Option Bool)) (x93:(List Zq)):Int ->(Int ->Option Bool) ->Option Bool:=fun ZhV Zul=>
 (bif decide (ZhV < (x93.length:Int)) then(ZL p0.qJ v80).bind fun Zb6=>(ZL Zb6 ZhV).bind fun x114=>(ZL p1.qJ v80).bind fun Jm=>(ZL Jm ZhV).bind fun Zmz=>(bif(!(Xw x114 Zmz)) then some false else Zul (Y2 (ZhV + 1))) else K3 (Y2 (v80 + 1)))
def Zkl (F:Nat) (p0:Zb) (p1:Zb):Int ->(Int ->Option Bool) ->Option Bool:=fun v130 Zug=>
 (bif decide (v130 < (p0.qG.length:Int)) then(ZL p0.qG v130).bind fun Ju=>(ZL p1.qG v130).bind fun U7=>(gd (!(((Ju.kind !=U7.kind) || (Ju.ZX !=U7.ZX)) || (!(Xw Ju.ZV U7.ZV)))) (Zls F Ju.qV U7.qV) default).bind fun x153=>(gd (!((((Ju.kind !=U7.kind) || (Ju.ZX !=U7.ZX)) || (!(Xw Ju.ZV U7.ZV))) || (!x153))) (Zls F Ju.Yd U7.Yd) default).bind fun Zmx=>(bif((((((((Ju.kind !=U7.kind) || (Ju.ZX !=U7.ZX)) || (!(Xw Ju.ZV U7.ZV))) || (!x153)) || (!Zmx)) || (Ju.place !=U7.place)) || (Ju.at_ !=U7.at_)) || (Ju.age !=U7.age)) then some false else Zug (Y2 (v130 + 1))) else some true)
def Zkm (F:Nat) (p0:Zb) (p1:Zb):Int ->(Int ->Option Bool) ->Option Bool:=fun v80 K3=>
 (bif decide (v80 < (p0.qJ.length:Int)) then(ZL p0.qJ v80).bind fun x83=>(ZL p1.qJ v80).bind fun x88=>(bif((x83.length:Int) != (x88.length:Int)) then some false else(ZL p0.qJ v80).bind fun x93=>loop F (Zoi p0 p1 v80 K3 x93) 0) else loop F (Zkl F p0 p1) 0)
def Zkn (F:Nat) (p0:Zb) (p1:Zb):Int ->(Int ->Option Bool) ->Option Bool:=fun v30 ZmY=>
 (bif decide (v30 < (p0.qQ.length:Int)) then(ZL p0.qQ v30).bind fun x33=>(ZL p1.qQ v30).bind fun x38=>(bif((x33.length:Int) != (x38.length:Int)) then some false else(ZL p0.qQ v30).bind fun x43=>loop F (Zoj p0 p1 v30 ZmY x43) 0) else loop F (Zkm F p0 p1) 0)
def Zok (F:Nat) (p0:Zb) (p1:Zb):Int ->(Int ->Option Bool) ->Option Bool:=fun v11 Qc=>
 (bif decide (v11 < (p0.qK.length:Int)) then(ZL p0.qK v11).bind fun x14=>(ZL p1.qK v11).bind fun x19=>(Zls F x14 x19).bind fun x24=>(bif(!x24) then some false else Qc (Y2 (v11 + 1))) else loop F (Zkn F p0 p1) 0)
def Zs8 (F:Nat) (p0:Zb) (p1:Zb):Option Bool:=
 (Zls F p0.Zx p1.Zx).bind fun x5=>(bif((((((!x5) || ((p0.qK.length:Int) != (p1.qK.length:Int))) || ((p0.qQ.length:Int) != (p1.qQ.length:Int))) || ((p0.qJ.length:Int) != (p1.qJ.length:Int))) || ((p0.qG.length:Int) != (p1.qG.length:Int))) || (p0.said !=p1.said)) then some false else loop F (Zok F p0 p1) 0)
def Zs7 (p0:Zb) (p1:ZF):Option Bool:=
 (bif(p1.act==1) then(Zh2 p1.a (p0.qQ.length:Int)).bind fun x5=>(gd x5 (Zh2 p1.b (p0.Zx.length:Int)) default).bind fun x6=>some (x5 && x6) else(bif(p1.act==2) then(Zh2 p1.a (p0.Zx.length:Int)).bind fun x7=>(gd x7 (Zh2 p1.b (p0.qQ.length:Int)) default).bind fun x8=>some (x7 && x8) else(bif(p1.act==3) then(Zh2 p1.a (p0.Zx.length:Int)).bind fun x9=>(gd x9 (Zh2 p1.b (p0.Zx.length:Int)) default).bind fun x10=>some (x9 && x10) else(bif(p1.act==4) then(Zh2 p1.a (p0.Zx.length:Int)).bind fun Yf=>some Yf else(bif(p1.act==5) then some ((decide (p1.a >=0)) && (decide (p1.a < (p0.qG.length:Int)))) else some false)))))
end Go.Proofs.YtbmbbcaaimehkaaGreat
end
section
set_option maxRecDepth 20000
noncomputable section
namespace Go.Proofs.YtbmbbcaaimehkaaGreat
open Go.YT Go.Lf
theorem ZLr {F wm h} {p0 p1:Zb} {Zi Zh Zn Zm Zl Zk Zp Zo Zu Zt Y6 Y4 KX KW ZcK ZcG ZcJ ZcF ZcI ZcE} {r} (Z0:wm <=h.size) (ZB:Sl (Zr .i64) wm h Zi Zh p0.Zx) (ZN:Sl (ZJ (Zr .i64)) wm h Zn Zm p0.qK) (ZI:Sl (ZJ Zc) wm h Zl Zk p0.qQ) (ZM:Sl (ZJ Ze) wm h Zp Zo p0.qJ) (ZK:Sl Zd wm h Zu Zt p0.qG) (XZ:Sl (Zr .i64) wm h Y6 Y4 p1.Zx) (Zni:Sl (ZJ (Zr .i64)) wm h KX KW p1.qK) (Znh:Sl (ZJ Zc) wm h ZcK ZcG p1.qQ) (Zng:Sl (ZJ Ze) wm h ZcJ ZcF p1.qJ) (Zsr:Sl Zd wm h ZcI ZcE p1.qG) (hL:Zs8 F p0 p1=some r):
 WR XX 18 #[.agg [.slice Zi p0.Zx.length Zh,.slice Zn p0.qK.length Zm,.slice Zl p0.qQ.length Zk,.slice Zp p0.qJ.length Zo,.slice Zu p0.qG.length Zt,.int .i64 p0.said].toArray,.agg [.slice Y6 p1.Zx.length Y4,.slice KX p1.qK.length KW,.slice ZcK p1.qQ.length ZcG,.slice ZcJ p1.qJ.length ZcF,.slice ZcI p1.qG.length ZcE,.int .i64 p1.said].toArray] wm h (CP (fun(v:Value) (Gb:List (Ast wm))=>v= .bool r∧Gb= []) [] h):=by
 refine bg Tryz.ntmps18 Z0 Yc.nil ?_;intro T hT hS;unfold Zs8 at hL;refine r3 ?_;rintro _ h2 ⟨b1,eb1,rfl,hS⟩;refine r1 ?_;rintro _ h4 ⟨b3,eb3,rfl,hS⟩;refine r10 ?_;obtain⟨x5,hx5,hL⟩:=qZ hL;refine WO.cp gN rfl (Xb.fn Zqk (Zg lk (Zg lk ZA))) (Zkg (hS.Xc ZB) (hS.Xc XZ) hx5) ?_;refine r16 ?_;refine r16 ?_;refine r14 ?_;refine cn hL ?_ ?_
 ·intro hc hL;refine r7 ?_;exact rt hL hT hS
 ·intro hc hL;refine WN ?_;refine WC.loop (WL.lift hL (fun v11 s=>∃ fr7 h6,s= ⟨fr7,[],h6,none⟩∧Sp wm T h [bx wm b1 (cW p0 Zi Zh Zn Zm Zl Zk Zp Zo Zu Zt),bx wm b3 (cW p1 Y6 Y4 KX KW ZcK ZcG ZcJ ZcF ZcI ZcE)] h6∧fr7.at 2= .pointer (some ⟨b1,0,none⟩)∧fr7.at 3= .pointer (some ⟨b3,0,none⟩)∧fr7.at 64= .int .i64 (p0.qK.length:Int)∧fr7.at 65= .int .i64 v11) ⟨_,_,rfl,hS.only sl,Yv⟩ ?_);clear hL hS;rintro Qc v11 s UH hL ⟨fr7,h6,rfl,hS,e8,e9,e10,e12⟩;dsimp only [Zok] at hL;refine r6 ?_;refine cn hL ?_ ?_
  ·intro hc hL;refine Jv ?_;refine WC.YC mixed Kq0 ?_;refine r3 ?_;obtain⟨x14,Znf,hL⟩:=qZ hL;obtain⟨b15,o16,⟨a17,c18⟩,ZuR,Zu2,ZuY,Zfn⟩:=Sl.at_ ZN Znf;refine r1 ?_;have Zfm:Sl (Zr .i64) wm h a17 c18 x14:=Zfn;refine r4 ?_;obtain⟨x19,Zne,hL⟩:=qZ hL;obtain⟨b20,o21,⟨a22,c23⟩,ZZR,Z0M,Z0v,ZP4⟩:=Sl.at_ Zni Zne;refine r1 ?_;have ZuH:Sl (Zr .i64) wm h a22 c23 x19:=ZP4;refine r1 ?_;obtain⟨x24,hx24,hL⟩:=qZ hL;refine WX.cp gN rfl (Xb.fn Zqk (Zg lk (Zg lk ZA))) (Zkg (hS.Xc Zfm) (hS.Xc ZuH) hx24) ?_ rfl rfl;refine r3 ?_;refine cn hL ?_ ?_
   ·intro hc hL;refine Jv ?_;exact rt hL hT hS
   ·intro hc hL;refine r7 ?_;exact Ya.YQ (UH _ _ hL ⟨_,_,rfl,hS.only sl,Yv⟩)
  ·intro hc hL;refine r15 ?_;refine WC.loop (WL.lift hL (fun v30 s=>∃ Ke h25,s= ⟨Ke,[],h25,none⟩∧Sp wm T h [bx wm b1 (cW p0 Zi Zh Zn Zm Zl Zk Zp Zo Zu Zt),bx wm b3 (cW p1 Y6 Y4 KX KW ZcK ZcG ZcJ ZcF ZcI ZcE)] h25∧Ke.at 2= .pointer (some ⟨b1,0,none⟩)∧Ke.at 3= .pointer (some ⟨b3,0,none⟩)∧Ke.at 83= .int .i64 (p0.qQ.length:Int)∧Ke.at 84= .int .i64 v30) ⟨_,_,rfl,hS.only sl,Yv⟩ ?_);clear hL hS;rintro ZmY v30 s ZEr hL ⟨Ke,h25,rfl,hS,e27,e28,e29,e31⟩;dsimp only [Zkn] at hL;refine r6 ?_;refine cn hL ?_ ?_
   ·intro hc hL;refine WN ?_;refine WC.YC mixed Kq0 ?_;refine r3 ?_;obtain⟨x33,Zzn,hL⟩:=qZ hL;obtain⟨b34,o35,⟨a36,c37⟩,ZZL,Z0G,Z0p,ZP0⟩:=Sl.at_ ZI Zzn;refine r1 ?_;have ZY6:Sl Zc wm h a36 c37 x33:=ZP0;refine r5 ?_;obtain⟨x38,hx38,hL⟩:=qZ hL;obtain⟨b39,o40,⟨a41,c42⟩,ZPF,ZQC,ZQl,ZAD⟩:=Sl.at_ Znh hx38;refine r1 ?_;have ZGy:Sl Zc wm h a41 c42 x38:=ZAD;refine r5 ?_;refine cn hL ?_ ?_
    ·intro hc hL;refine WN ?_;exact rt hL hT hS
    ·intro hc hL;refine r7 ?_;obtain⟨x43,Zp4,hL⟩:=qZ hL;obtain⟨b44,o45,⟨a46,c47⟩,ZuQ,Zqq,ZAN,Zmc⟩:=Sl.at_ ZI Zp4;refine r1 ?_;have ZGx:Sl Zc wm h a46 c47 x43:=Zmc;refine r6 ?_;refine WC.loop (WL.lift hL (fun v56 s=>∃ ZnH h48,s= ⟨ZnH,[],h48,none⟩∧Sp wm T h [bx wm b1 (cW p0 Zi Zh Zn Zm Zl Zk Zp Zo Zu Zt),bx wm b3 (cW p1 Y6 Y4 KX KW ZcK ZcG ZcJ ZcF ZcI ZcE)] h48∧ZnH.at 2= .pointer (some ⟨b1,0,none⟩)∧ZnH.at 3= .pointer (some ⟨b3,0,none⟩)∧ZnH.at 6= .int .i64 v30∧ZnH.at 83= .int .i64 (p0.qQ.length:Int)∧ZnH.at 84= .int .i64 v30∧ZnH.at 105= .int .i64 (x43.length:Int)∧ZnH.at 106= .int .i64 v56) ⟨_,_,rfl,hS.only sl,Yv⟩ ?_);clear hL hS;rintro Zi7 v56 s Znq hL ⟨ZnH,h48,rfl,hS,e50,e51,e52,e53,e54,e55,e57⟩;dsimp only [Zoj] at hL;refine r6 ?_;refine cn hL ?_ ?_
     ·intro hc hL;refine Jv ?_;refine WC.YC mixed Kq0 ?_;refine r3 ?_;obtain⟨x59,ZIM,hL⟩:=qZ hL;obtain⟨b60,o61,⟨a62,c63⟩,ZPz,ZG8,ZG0,ZGU⟩:=Sl.at_ ZI ZIM;refine r1 ?_;have ZOx:Sl Zc wm h a62 c63 x59:=ZGU;refine r2 ?_;obtain⟨x64,Zli,hL⟩:=qZ hL;obtain⟨b65,o66,_,ZGN,ZG7,ZQc,ZZ2⟩:=Sl.at_ ZOx Zli;refine r1 ?_;refine WX.w gN rfl (YJ Zb4 Y3 (YG fh rfl) (At.fz hS.fz ZQc ZG7) (j:=0) rfl rfl (ws:= (cE x64)) rfl) ?_ rfl;refine r3 ?_;obtain⟨x67,Zsm,hL⟩:=qZ hL;obtain⟨b68,o69,⟨a70,c71⟩,ZuP,ZAT,ZQb,ZuU⟩:=Sl.at_ Znh Zsm;refine r1 ?_;have ZzE:Sl Zc wm h a70 c71 x67:=ZuU;refine r2 ?_;obtain⟨x72,ZUe,hL⟩:=qZ hL;obtain⟨b73,o74,_,ZZH,ZQs,ZQa,ZZ1⟩:=Sl.at_ ZzE ZUe;refine r1 ?_;refine WX.w gN rfl (YJ Zb4 Y3 (YG fh rfl) (At.fz hS.fz ZQa ZQs) (j:=0) rfl rfl (ws:= (cE x72)) rfl) ?_ rfl;refine WX.w gN rfl (Qg (YG (Xf rfl fh) rfl) (YG fh rfl) (Zbj (xs:= [.bool x64.here,.int .i64 x64.ZX,.int .i64 x64.age]) (ys:= [.bool x72.here,.int .i64 x72.ZX,.int .i64 x72.age]) (ZHk x64 x72) rfl rfl)) ?_ rfl;refine r2 ?_;refine cn hL ?_ ?_
      ·intro hc hL;refine r15 ?_;exact rt hL hT hS
      ·intro hc hL;refine r7 ?_;exact Ya.YQ (Znq _ _ hL ⟨_,_,rfl,hS.only sl,Yv⟩)
     ·intro hc hL;refine r10 ?_;exact Ya.YQ (ZEr _ _ hL ⟨_,_,rfl,hS.only sl,Yv⟩)
   ·intro hc hL;refine r15 ?_;refine WC.loop (WL.lift hL (fun v80 s=>∃ Zwv h75,s= ⟨Zwv,[],h75,none⟩∧Sp wm T h [bx wm b1 (cW p0 Zi Zh Zn Zm Zl Zk Zp Zo Zu Zt),bx wm b3 (cW p1 Y6 Y4 KX KW ZcK ZcG ZcJ ZcF ZcI ZcE)] h75∧Zwv.at 2= .pointer (some ⟨b1,0,none⟩)∧Zwv.at 3= .pointer (some ⟨b3,0,none⟩)∧Zwv.at 130= .int .i64 (p0.qJ.length:Int)∧Zwv.at 131= .int .i64 v80) ⟨_,_,rfl,hS.only sl,Yv⟩ ?_);clear hL hS;rintro K3 v80 s Zno hL ⟨Zwv,h75,rfl,hS,e77,e78,e79,e81⟩;dsimp only [Zkm] at hL;refine r6 ?_;refine cn hL ?_ ?_
    ·intro hc hL;refine WN ?_;refine WC.YC mixed Kq0 ?_;refine r3 ?_;obtain⟨x83,ZT9,hL⟩:=qZ hL;obtain⟨b84,o85,⟨a86,c87⟩,ZZD,Z0B,Z0i,ZPR⟩:=Sl.at_ ZM ZT9;refine r1 ?_;have ZY3:Sl Ze wm h a86 c87 x83:=ZPR;refine r5 ?_;obtain⟨x88,ZII,hL⟩:=qZ hL;obtain⟨b89,o90,⟨a91,c92⟩,ZPt,ZG4,ZGY,ZuT⟩:=Sl.at_ Zng ZII;refine r1 ?_;have ZuG:Sl Ze wm h a91 c92 x88:=ZuT;refine r5 ?_;refine cn hL ?_ ?_
     ·intro hc hL;refine WN ?_;exact rt hL hT hS
     ·intro hc hL;refine r7 ?_;obtain⟨x93,hx93,hL⟩:=qZ hL;obtain⟨b94,o95,⟨a96,c97⟩,ZGM,Zu0,ZuX,Zjw⟩:=Sl.at_ ZM hx93;refine r1 ?_;have ZGw:Sl Ze wm h a96 c97 x93:=Zjw;refine r6 ?_;refine WC.loop (WL.lift hL (fun ZhV s=>∃ ZnE h98,s= ⟨ZnE,[],h98,none⟩∧Sp wm T h [bx wm b1 (cW p0 Zi Zh Zn Zm Zl Zk Zp Zo Zu Zt),bx wm b3 (cW p1 Y6 Y4 KX KW ZcK ZcG ZcJ ZcF ZcI ZcE)] h98∧ZnE.at 2= .pointer (some ⟨b1,0,none⟩)∧ZnE.at 3= .pointer (some ⟨b3,0,none⟩)∧ZnE.at 8= .int .i64 v80∧ZnE.at 130= .int .i64 (p0.qJ.length:Int)∧ZnE.at 131= .int .i64 v80∧ZnE.at 152= .int .i64 (x93.length:Int)∧ZnE.at 153= .int .i64 ZhV) ⟨_,_,rfl,hS.only sl,Yv⟩ ?_);clear hL hS;rintro Zul ZhV s Zz0 hL ⟨ZnE,h98,rfl,hS,e100,ZLD,ZLC,ZLB,ZRj,ZLA,ZRi⟩;dsimp only [Zoi] at hL;refine r6 ?_;refine cn hL ?_ ?_
      ·intro hc hL;refine Jv ?_;refine WC.YC mixed Kq0 ?_;refine r3 ?_;obtain⟨Zb6,Zqb,hL⟩:=qZ hL;obtain⟨b110,o111,⟨ZYr,ZXG⟩,ZJJ,ZA3,ZAR,ZAJ⟩:=Sl.at_ ZM Zqb;refine r1 ?_;have ZIZ:Sl Ze wm h ZYr ZXG Zb6:=ZAJ;refine r2 ?_;obtain⟨x114,hx114,hL⟩:=qZ hL;obtain⟨Z79,Z3u,_,ZU9,ZKn,ZJY,ZVH⟩:=Sl.at_ ZIZ hx114;refine r1 ?_;refine WX.w gN rfl (YJ ZfL JA (YG fh rfl) (At.fz hS.fz ZJY ZKn) (j:=0) rfl rfl (ws:= (cM x114)) rfl) ?_ rfl;refine r3 ?_;obtain⟨Jm,Zqa,hL⟩:=qZ hL;obtain⟨ZRX,ZTM,⟨ZYq,ZXE⟩,ZJH,ZKl,ZJW,ZAI⟩:=Sl.at_ Zng Zqa;refine r1 ?_;have ZIY:Sl Ze wm h ZYq ZXE Jm:=ZAI;refine r2 ?_;obtain⟨Zmz,ZOm,hL⟩:=qZ hL;obtain⟨Z75,Z3q,_,ZU7,ZKj,ZJT,ZVD⟩:=Sl.at_ ZIY ZOm;refine r1 ?_;refine WX.w gN rfl (YJ ZfL JA (YG fh rfl) (At.fz hS.fz ZJT ZKj) (j:=0) rfl rfl (ws:= (cM Zmz)) rfl) ?_ rfl;refine WX.w gN rfl (Qg (YG (Xf rfl fh) rfl) (YG fh rfl) (Zbj (xs:= [.int .i64 x114.msg,.int .i64 x114.place,.int .i64 x114.from_,.int .i64 x114.age,.int .i64 x114.hops]) (ys:= [.int .i64 Zmz.msg,.int .i64 Zmz.place,.int .i64 Zmz.from_,.int .i64 Zmz.age,.int .i64 Zmz.hops]) (Zvh x114 Zmz) rfl rfl)) ?_ rfl;refine r2 ?_;refine cn hL ?_ ?_
       ·intro hc hL;refine r15 ?_;exact rt hL hT hS
       ·intro hc hL;refine r7 ?_;exact Ya.YQ (Zz0 _ _ hL ⟨_,_,rfl,hS.only sl,Yv⟩)
      ·intro hc hL;refine r10 ?_;exact Ya.YQ (Zno _ _ hL ⟨_,_,rfl,hS.only sl,Yv⟩)
    ·intro hc hL;refine r15 ?_;refine WC.loop (WL.lift hL (fun v130 s=>∃ Zmh ZA7,s= ⟨Zmh,[],ZA7,none⟩∧Sp wm T h [bx wm b3 (cW p1 Y6 Y4 KX KW ZcK ZcG ZcJ ZcF ZcI ZcE)] ZA7∧Zmh.at 3= .pointer (some ⟨b3,0,none⟩)∧Zmh.at 176= .slice Zu p0.qG.length Zt∧Zmh.at 177= .int .i64 (p0.qG.length:Int)∧Zmh.at 178= .int .i64 v130) ⟨_,_,rfl,hS.only sl,Yv⟩ ?_);clear hL hS;rintro Zug v130 s ZzT hL ⟨Zmh,ZA7,rfl,hS,e127,e128,e129,Z6E⟩;dsimp only [Zkl] at hL;refine r6 ?_;refine cn hL ?_ ?_
     ·intro hc hL;refine r7 ?_;obtain⟨Ju,ZhA,hL⟩:=qZ hL;obtain⟨ZXW,ZTJ,⟨⟨ZFW,ZRF⟩,⟨a138,c139⟩⟩,ZAz,ZA1,ZJP,ZAE⟩:=Sl.at_ ZK ZhA;refine r1 ?_;have ZIV:Sl (Zr .i64) wm h ZFW ZRF Ju.qV:=ZAE.1;have ZIU:Sl (Zr .i64) wm h a138 c139 Ju.Yd:=ZAE.2;refine WO.w gN rfl (YJ WZ Xj (YG fh rfl) (At.fz hS.fz ZJP ZA1) (j:=0) rfl rfl (ws:= (cL Ju ZFW ZRF a138 c139)) rfl) ?_;refine r1 ?_;rintro _ ZQW ⟨ZXV,ZRb,rfl,hS⟩;refine r2 ?_;rintro ZA6 hS;refine r7 ?_;obtain⟨U7,ZuD,hL⟩:=qZ hL;obtain⟨ZXU,ZTI,⟨⟨a146,ZRE⟩,⟨a148,ZCa⟩⟩,ZAy,ZA0,ZJO,ZsB⟩:=Sl.at_ Zsr ZuD;refine r1 ?_;have ZIT:Sl (Zr .i64) wm h a146 ZRE U7.qV:=ZsB.1;have ZzG:Sl (Zr .i64) wm h a148 ZCa U7.Yd:=ZsB.2;refine WO.w gN rfl (YJ WZ Xj (YG fh rfl) (At.fz hS.fz ZJO ZA0) (j:=0) rfl rfl (ws:= (cL U7 a146 ZRE a148 ZCa)) rfl) ?_;refine r1 ?_;rintro _ Z5f ⟨Z7Y,Z1w,rfl,hS⟩;refine r1 ?_;rintro Z5e hS;refine r16 ?_;refine r5 ?_;refine WO.gv (Zw.no rfl rfl rfl (Y7 rfl fh)) rfl (fun hg=>(Qg (YU (YE rfl fh) rfl hg) (YU fh rfl hg) (Zbj (xs:= [.int .i64 Ju.ZV.msg,.int .i64 Ju.ZV.place,.int .i64 Ju.ZV.from_,.int .i64 Ju.ZV.age,.int .i64 Ju.ZV.hops]) (ys:= [.int .i64 U7.ZV.msg,.int .i64 U7.ZV.place,.int .i64 U7.ZV.from_,.int .i64 U7.ZV.age,.int .i64 U7.ZV.hops]) (Zvh Ju.ZV U7.ZV) rfl rfl))) ?_;refine r6 ?_;obtain⟨x153,hx153,hL⟩:=Yj hL;refine WO.gcp (Zw.no rfl rfl rfl (Y7 rfl fh)) rfl (fun hg=>(Xb.fn Zqk (Zg (YU (YE rfl fh) rfl hg) (Zg (YU fh rfl hg) ZA)))) (fun hg=>Zkg (hS.Xc ZIV) (hS.Xc ZIT) (hx153 hg)) ?_;refine r7 ?_;obtain⟨Zmx,Zzu,hL⟩:=Yj hL;refine WO.gcp (Zw.no rfl rfl rfl (Y7 rfl fh)) rfl (fun hg=>(Xb.fn Zqk (Zg (YU (YE rfl fh) rfl hg) (Zg (YU fh rfl hg) ZA)))) (fun hg=>Zkg (hS.Xc ZIU) (hS.Xc ZzG) (Zzu hg)) ?_;refine r16 ?_;refine r9 ?_;refine cn hL ?_ ?_
      ·intro hc hL;refine Jv ?_;exact rt hL hT hS
      ·intro hc hL;refine r7 ?_;exact Ya.YQ (ZzT _ _ hL ⟨_,_,rfl,hS.only sl,Yv⟩)
     ·intro hc hL;refine Jv ?_;exact rt hL hT hS
theorem ZBS {F h} {p0 p1:Zb} {Zi Zh Zn Zm Zl Zk Zp Zo Zu Zt Y6 Y4 KX KW ZcK ZcG ZcJ ZcF ZcI ZcE} {r} (ZB:Sl (Zr .i64) h.size h Zi Zh p0.Zx) (ZN:Sl (ZJ (Zr .i64)) h.size h Zn Zm p0.qK) (ZI:Sl (ZJ Zc) h.size h Zl Zk p0.qQ) (ZM:Sl (ZJ Ze) h.size h Zp Zo p0.qJ) (ZK:Sl Zd h.size h Zu Zt p0.qG) (XZ:Sl (Zr .i64) h.size h Y6 Y4 p1.Zx) (Zni:Sl (ZJ (Zr .i64)) h.size h KX KW p1.qK) (Znh:Sl (ZJ Zc) h.size h ZcK ZcG p1.qQ) (Zng:Sl (ZJ Ze) h.size h ZcJ ZcF p1.qJ) (Zsr:Sl Zd h.size h ZcI ZcE p1.qG) (hL:Zs8 F p0 p1=some r):Pure XX 18 #[.agg [.slice Zi p0.Zx.length Zh,.slice Zn p0.qK.length Zm,.slice Zl p0.qQ.length Zk,.slice Zp p0.qJ.length Zo,.slice Zu p0.qG.length Zt,.int .i64 p0.said].toArray,.agg [.slice Y6 p1.Zx.length Y4,.slice KX p1.qK.length KW,.slice ZcK p1.qQ.length ZcG,.slice ZcJ p1.qJ.length ZcF,.slice ZcI p1.qG.length ZcE,.int .i64 p1.said].toArray] h (.bool r):=
 WR.Qb rfl (ZLr (Nat.le_refl _) ZB ZN ZI ZM ZK XZ Zni Znh Zng Zsr hL)
theorem ZLm {wm h} {p0:Zb} {p1:ZF} {Zi Zh Zn Zm Zl Zk Zp Zo Zu Zt} {r} (Z0:wm <=h.size) (ZB:Sl (Zr .i64) wm h Zi Zh p0.Zx) (ZN:Sl (ZJ (Zr .i64)) wm h Zn Zm p0.qK) (ZI:Sl (ZJ Zc) wm h Zl Zk p0.qQ) (ZM:Sl (ZJ Ze) wm h Zp Zo p0.qJ) (ZK:Sl Zd wm h Zu Zt p0.qG) (hL:Zs7 p0 p1=some r):
 WR XX 22 #[.agg [.slice Zi p0.Zx.length Zh,.slice Zn p0.qK.length Zm,.slice Zl p0.qQ.length Zk,.slice Zp p0.qJ.length Zo,.slice Zu p0.qG.length Zt,.int .i64 p0.said].toArray,.agg [.int .i64 p1.act,.int .i64 p1.a,.int .i64 p1.b].toArray] wm h (CP (fun(v:Value) (Gb:List (Ast wm))=>v= .bool r∧Gb= []) [] h):=by
 refine bg Tryz.ntmps22 Z0 Yc.nil ?_;intro T hT hS;unfold Zs7 at hL;refine r3 ?_;rintro _ h2 ⟨b1,eb1,rfl,hS⟩;refine r1 ?_;rintro _ h4 ⟨b3,eb3,rfl,hS⟩;refine r16 ?_;refine r1 ?_;refine cn hL ?_ ?_
 ·intro hc hL;refine r7 ?_;obtain⟨x5,hx5,hL⟩:=qZ hL;refine WO.cp gN rfl (Xb.fn Zjt (Zg lk (Zg lk ZA))) (Zer hx5) ?_;refine r6 ?_;obtain⟨x6,hx6,hL⟩:=Yj hL;refine WO.gcp (Zw.yes rfl rfl rfl (Y7 rfl (ZC rfl fh))) rfl (fun hg=>(Xb.fn Zjt (Zg (YU (YE rfl (ZC rfl fh)) rfl hg) (Zg (YU fh rfl hg) ZA)))) (fun hg=>Zer (hx6 hg)) ?_;refine r7 ?_;exact rt hL hT hS
 ·intro hc hL;refine r6 ?_;refine cn hL ?_ ?_
  ·intro hc hL;refine r7 ?_;obtain⟨x7,hx7,hL⟩:=qZ hL;refine WO.cp gN rfl (Xb.fn Zjt (Zg lk (Zg lk ZA))) (Zer hx7) ?_;refine r6 ?_;obtain⟨x8,hx8,hL⟩:=Yj hL;refine WO.gcp (Zw.yes rfl rfl rfl (Y7 rfl (ZC rfl fh))) rfl (fun hg=>(Xb.fn Zjt (Zg (YU (YE rfl (ZC rfl fh)) rfl hg) (Zg (YU fh rfl hg) ZA)))) (fun hg=>Zer (hx8 hg)) ?_;refine r7 ?_;exact rt hL hT hS
  ·intro hc hL;refine r6 ?_;refine cn hL ?_ ?_
   ·intro hc hL;refine r7 ?_;obtain⟨x9,hx9,hL⟩:=qZ hL;refine WO.cp gN rfl (Xb.fn Zjt (Zg lk (Zg lk ZA))) (Zer hx9) ?_;refine r6 ?_;obtain⟨x10,ZIQ,hL⟩:=Yj hL;refine WO.gcp (Zw.yes rfl rfl rfl (Y7 rfl (ZC rfl fh))) rfl (fun hg=>(Xb.fn Zjt (Zg (YU (YE rfl (ZC rfl fh)) rfl hg) (Zg (YU fh rfl hg) ZA)))) (fun hg=>Zer (ZIQ hg)) ?_;refine r7 ?_;exact rt hL hT hS
   ·intro hc hL;refine r6 ?_;refine cn hL ?_ ?_
    ·intro hc hL;refine r7 ?_;obtain⟨Yf,Zej,hL⟩:=qZ hL;refine WO.cp gN rfl (Xb.fn Zjt (Zg lk (Zg lk ZA))) (Zer Zej) ?_;refine r6 ?_;exact rt hL hT hS
    ·intro hc hL;refine r6 ?_;refine cn hL ?_ ?_
     ·intro hc hL;refine r16 ?_;refine r3 ?_;exact rt hL hT hS
     ·intro hc hL;refine r9 ?_;exact rt hL hT hS
theorem ZLn {h} {p0:Zb} {p1:ZF} {Zi Zh Zn Zm Zl Zk Zp Zo Zu Zt} {r} (ZB:Sl (Zr .i64) h.size h Zi Zh p0.Zx) (ZN:Sl (ZJ (Zr .i64)) h.size h Zn Zm p0.qK) (ZI:Sl (ZJ Zc) h.size h Zl Zk p0.qQ) (ZM:Sl (ZJ Ze) h.size h Zp Zo p0.qJ) (ZK:Sl Zd h.size h Zu Zt p0.qG) (hL:Zs7 p0 p1=some r):Pure XX 22 #[.agg [.slice Zi p0.Zx.length Zh,.slice Zn p0.qK.length Zm,.slice Zl p0.qQ.length Zk,.slice Zp p0.qJ.length Zo,.slice Zu p0.qG.length Zt,.int .i64 p0.said].toArray,.agg [.int .i64 p1.act,.int .i64 p1.a,.int .i64 p1.b].toArray] h (.bool r):=
 WR.Qb rfl (ZLm (Nat.le_refl _) ZB ZN ZI ZM ZK hL)
end Go.Proofs.YtbmbbcaaimehkaaGreat
end
end
section
namespace Go.Proofs.YtbmbbcaaimehkaaGreat
open Go.Lf
def Zkb (p0:Zb) (v22:Int) (ZmZ:(Int ->Option Bool)):Int×Int ->(Int×Int ->Option Bool) ->Option Bool:=fun(v34,v36) Zi9=>
 (bif((decide (v36 <= (p0.Zx.length:Int))) && (decide (v34 >=0))) then(bif(v34==v22) then some false else(ZL p0.Zx v34).bind fun x41=>Zi9 (x41,Y2 (v36 + 1))) else ZmZ (Y2 (v22 + 1)))
def ZgI (p0:Zb) (v51:Int) (ZmV:(Int ->Option Bool)) (x54:(List Zz)):Int ->(Int ->Option Bool) ->Option Bool:=fun v70 ZyP=>
 (bif decide (v70 < (x54.length:Int)) then(ZL x54 v70).bind fun x73=>(bif(((((decide (x73.age < 0)) || (decide (x73.age > 30))) || (decide (x73.ZX < 0))) || (decide (x73.ZX >= (p0.qQ.length:Int)))) || (x73.here != (x73.ZX==v51))) then some false else ZyP (Y2 (v70 + 1))) else ZmV (Y2 (v51 + 1)))
def ZgH (p0:Zb) (v85:Int) (ZmS:(Int ->Option Bool)) (x88:Zf):Int ->(Int ->Option Bool) ->Option Bool:=fun v109 Zuk=>
 (bif decide (v109 < (x88.qV.length:Int)) then(ZL x88.qV v109).bind fun x112=>(gd ((!((decide (x112 < 0)) || (decide (x112 >= (p0.Zx.length:Int))))) && (decide (v109 > 0))) (ZL x88.qV (Y2 (v109 - 1))) default).bind fun x115=>(gd (!(((decide (x112 < 0)) || (decide (x112 >= (p0.Zx.length:Int)))) || ((decide (v109 > 0)) && (decide (x112 <=x115))))) (ZL x88.Yd v109) default).bind fun Zk7=>(gd (!((((decide (x112 < 0)) || (decide (x112 >= (p0.Zx.length:Int)))) || ((decide (v109 > 0)) && (decide (x112 <=x115)))) || (decide (Zk7 < 1)))) (ZL x88.Yd v109) default).bind fun Zcl=>(bif(((((decide (x112 < 0)) || (decide (x112 >= (p0.Zx.length:Int)))) || ((decide (v109 > 0)) && (decide (x112 <=x115)))) || (decide (Zk7 < 1))) || (decide (Zcl > 30))) then some false else Zuk (Y2 (v109 + 1))) else(bif((x88.kind==3) && (((decide (x88.place < 0)) || (decide (x88.place >= (p0.Zx.length:Int)))) || (x88.at_==x88.ZX))) then some false else ZmS (Y2 (v85 + 1))))
def K8 (F:Nat) (p0:Zb):Int ->(Int ->Option Bool) ->Option Bool:=fun v85 ZmS=>
 (bif decide (v85 < (p0.qG.length:Int)) then(ZL p0.qG v85).bind fun x88=>(gd (!((decide (x88.ZX < 0)) || (decide (x88.ZX >= (p0.qQ.length:Int))))) (Zwz x88) default).bind fun x98=>(bif(((decide (x88.ZX < 0)) || (decide (x88.ZX >= (p0.qQ.length:Int)))) || (!x98)) then some false else loop F (ZgH p0 v85 ZmS x88) 0) else some true)
def Zet (F:Nat) (p0:Zb):Int ->(Int ->Option Bool) ->Option Bool:=fun v51 ZmV=>
 (bif decide (v51 < (p0.qQ.length:Int)) then(ZL p0.qQ v51).bind fun x54=>(bif((x54.length:Int) != (p0.Zx.length:Int)) then some false else loop F (ZgI p0 v51 ZmV x54) 0) else loop F (K8 F p0) 0)
def ZgJ (F:Nat) (p0:Zb):Int ->(Int ->Option Bool) ->Option Bool:=fun v22 ZmZ=>
 (bif decide (v22 < (p0.Zx.length:Int)) then(ZL p0.Zx v22).bind fun x25=>loop F (Zkb p0 v22 ZmZ) (x25,0) else loop F (Zet F p0) 0)
def Zkc (F:Nat) (p0:Zb):Int ->(Int ->Option Bool) ->Option Bool:=fun v10 ZbF=>
 (bif decide (v10 < (p0.Zx.length:Int)) then(ZL p0.Zx v10).bind fun x13=>(bif((decide (x13 < (-1))) || (decide (x13 >= (p0.Zx.length:Int)))) then some false else ZbF (Y2 (v10 + 1))) else loop F (ZgJ F p0) 0)
def ZBN (F:Nat) (p0:Zb):Option Bool:=
 (bif((((((((decide ((p0.Zx.length:Int) < 1)) || (decide ((p0.Zx.length:Int) > 8))) || (decide ((p0.qQ.length:Int) < 1))) || (decide ((p0.qQ.length:Int) > 5))) || ((p0.qK.length:Int) != (p0.Zx.length:Int))) || ((p0.qJ.length:Int) != (p0.qQ.length:Int))) || (decide (p0.said < 0))) || (decide (p0.said > 40))) then some false else loop F (Zkc F p0) 0)
def ZgF:Unit ->Option Bool:=fun _=>
 some false
def Zj4 (F:Nat) (p0:Zb) (x7:(List Int)):Int ->(Int ->Option Bool) ->Option Bool:=fun v18 ZyY=>
 (bif decide (v18 < (x7.length:Int)) then(ZL x7 v18).bind fun x21=>(ZgG F p0 x21).bind fun x24=>(bif decide (x24.1.age >=30) then some true else ZyY (Y2 (v18 + 1))) else(ZgF) ())
def ZBK (F:Nat) (p0:Zb) (p1:ZF):Option Bool:=
 (bif(p1.act==1) then some (decide (p0.said >=40)) else(bif(p1.act==2) then(ZqF F p0.Zx p1.a).bind fun x7=>loop F (Zj4 F p0 x7) 0 else(ZgF) ()))
def ZgE (p0:Zb) (p1:ZF) (Yf:(XR×Bool)) (Ud:(XR×Bool)) (x23:(List Int)):Int ->(Int ->Option Bool) ->Option Bool:=fun v37 ZaK=>
 (bif decide (v37 < (x23.length:Int)) then(ZL x23 v37).bind fun x40=>(bif(x40==p1.b) then some false else ZaK (Y2 (v37 + 1))) else(ZL p0.Zx p1.a).bind fun x43=>some ((((x43== (-1)) && Yf.1.is) && Ud.1.is) && (Yf.1.at_==Ud.1.at_)))
def ZBJ (F:Nat) (p0:Zb) (p1:ZF):Option Bool:=
 (bif(p1.act==2) then(ZgG F p0 p1.a).bind fun x5=>some (x5.1.is && (x5.1.at_ !=p1.b)) else(bif(p1.act==3) then(ZgG F p0 p1.a).bind fun Yf=>(ZgG F p0 p1.b).bind fun Ud=>(ZqF F p0.Zx p1.a).bind fun x23=>loop F (ZgE p0 p1 Yf Ud x23) 0 else(bif(p1.act==4) then(ZgG F p0 p1.a).bind fun x46=>(gd x46.1.is (ZL p0.Zx p1.a) default).bind fun x52=>some (x46.1.is && (decide (x52 >=0))) else some true)))
def ZqE (F:Nat) (p0:(List Int)) (p1:Int):Option Bool:=
 (ZBt F p0 p1).bind fun x1=>some (decide (x1 >=0))
end Go.Proofs.YtbmbbcaaimehkaaGreat
end
section
set_option maxRecDepth 20000
noncomputable section
namespace Go.Proofs.YtbmbbcaaimehkaaGreat
open Go.YT Go.Lf
theorem ZK8 {F wm h} {p0:Zb} {Zi Zh Zn Zm Zl Zk Zp Zo Zu Zt} {r} (Z0:wm <=h.size) (ZB:Sl (Zr .i64) wm h Zi Zh p0.Zx) (ZN:Sl (ZJ (Zr .i64)) wm h Zn Zm p0.qK) (ZI:Sl (ZJ Zc) wm h Zl Zk p0.qQ) (ZM:Sl (ZJ Ze) wm h Zp Zo p0.qJ) (ZK:Sl Zd wm h Zu Zt p0.qG) (hL:ZBN F p0=some r):
 WR XX 51 #[.agg [.slice Zi p0.Zx.length Zh,.slice Zn p0.qK.length Zm,.slice Zl p0.qQ.length Zk,.slice Zp p0.qJ.length Zo,.slice Zu p0.qG.length Zt,.int .i64 p0.said].toArray] wm h (CP (fun(v:Value) (Gb:List (Ast wm))=>v= .bool r∧Gb= []) [] h):=by
 refine bg Tryz.ntmps51 Z0 Yc.nil ?_;intro T hT hS;unfold ZBN at hL;refine r3 ?_;rintro _ h2 ⟨b1,eb1,rfl,hS⟩;refine r4 ?_;refine WC.YC mixed Kq0 ?_;refine r16 ?_;refine r16 ?_;refine r16 ?_;refine r5 ?_;refine cn hL ?_ ?_
 ·intro hc hL;refine r7 ?_;exact rt hL hT hS
 ·intro hc hL;refine WN ?_;refine WC.loop (WL.lift hL (fun v10 s=>∃ fr4 h3,s= ⟨fr4,[],h3,none⟩∧Sp wm T h [bx wm b1 (cW p0 Zi Zh Zn Zm Zl Zk Zp Zo Zu Zt)] h3∧fr4.at 1= .pointer (some ⟨b1,0,none⟩)∧fr4.at 3= .int .i64 (p0.Zx.length:Int)∧fr4.at 4= .int .i64 (p0.qQ.length:Int)∧fr4.at 63= .slice Zi p0.Zx.length Zh∧fr4.at 64= .int .i64 (p0.Zx.length:Int)∧fr4.at 65= .int .i64 v10) ⟨_,_,rfl,hS.only sl,Yv⟩ ?_);clear hL hS;rintro ZbF v10 s Zny hL ⟨fr4,h3,rfl,hS,e5,e6,e7,e8,e9,e11⟩;dsimp only [Zkc] at hL;refine r6 ?_;refine cn hL ?_ ?_
  ·intro hc hL;refine r6 ?_;obtain⟨x13,ZIP,hL⟩:=qZ hL;obtain⟨b14,o15,_,ZPK,ZQF,ZQn,ZP5⟩:=Sl.at_ ZB ZIP;refine r16 ?_;refine cn hL ?_ ?_
   ·intro hc hL;refine Jv ?_;exact rt hL hT hS
   ·intro hc hL;refine r7 ?_;exact Ya.YQ (Zny _ _ hL ⟨_,_,rfl,hS.only sl,Yv⟩)
  ·intro hc hL;refine r15 ?_;refine WC.loop (WL.lift hL (fun v22 s=>∃ Zfs h16,s= ⟨Zfs,[],h16,none⟩∧Sp wm T h [bx wm b1 (cW p0 Zi Zh Zn Zm Zl Zk Zp Zo Zu Zt)] h16∧Zfs.at 1= .pointer (some ⟨b1,0,none⟩)∧Zfs.at 3= .int .i64 (p0.Zx.length:Int)∧Zfs.at 4= .int .i64 (p0.qQ.length:Int)∧Zfs.at 79= .int .i64 (p0.Zx.length:Int)∧Zfs.at 80= .int .i64 v22) ⟨_,_,rfl,hS.only sl,Yv⟩ ?_);clear hL hS;rintro ZmZ v22 s ZEt hL ⟨Zfs,h16,rfl,hS,e18,e19,e20,e21,e23⟩;dsimp only [ZgJ] at hL;refine r6 ?_;refine cn hL ?_ ?_
   ·intro hc hL;refine r15 ?_;obtain⟨x25,hx25,hL⟩:=qZ hL;obtain⟨b26,o27,_,ZZO,Z0J,Z0s,Z0d⟩:=Sl.at_ ZB hx25;refine Jv ?_;refine WC.loop (WL.lift hL (fun p s=>match p with | (v34,v36)=>∃ Zap h28,s= ⟨Zap,[],h28,none⟩∧Sp wm T h [bx wm b1 (cW p0 Zi Zh Zn Zm Zl Zk Zp Zo Zu Zt)] h28∧Zap.at 1= .pointer (some ⟨b1,0,none⟩)∧Zap.at 3= .int .i64 (p0.Zx.length:Int)∧Zap.at 4= .int .i64 (p0.qQ.length:Int)∧Zap.at 7= .int .i64 v22∧Zap.at 8= .int .i64 v34∧Zap.at 9= .int .i64 v36∧Zap.at 79= .int .i64 (p0.Zx.length:Int)∧Zap.at 80= .int .i64 v22) ⟨_,_,rfl,hS.only sl,Yv⟩ ?_);clear hL hS;rintro Zi9 ⟨v34,v36⟩ s Zns hL ⟨Zap,h28,rfl,hS,e30,e31,e32,e33,e35,e37,e38,e39⟩;dsimp only [Zkb] at hL;refine WN ?_;refine cn hL ?_ ?_
    ·intro hc hL;refine WN ?_;refine cn hL ?_ ?_
     ·intro hc hL;refine r16 ?_;exact rt hL hT hS
     ·intro hc hL;refine r6 ?_;obtain⟨x41,ZIN,hL⟩:=qZ hL;obtain⟨b42,o43,_,ZPE,ZQB,ZQk,ZPY⟩:=Sl.at_ ZB ZIN;refine Jv ?_;exact Ya.YQ (Zns _ _ hL ⟨_,_,rfl,hS.only sl,Yv⟩)
    ·intro hc hL;refine r10 ?_;exact Ya.YQ (ZEt _ _ hL ⟨_,_,rfl,hS.only sl,Yv⟩)
   ·intro hc hL;refine r15 ?_;refine WC.loop (WL.lift hL (fun v51 s=>∃ Zqy h44,s= ⟨Zqy,[],h44,none⟩∧Sp wm T h [bx wm b1 (cW p0 Zi Zh Zn Zm Zl Zk Zp Zo Zu Zt)] h44∧Zqy.at 1= .pointer (some ⟨b1,0,none⟩)∧Zqy.at 3= .int .i64 (p0.Zx.length:Int)∧Zqy.at 4= .int .i64 (p0.qQ.length:Int)∧Zqy.at 107= .slice Zl p0.qQ.length Zk∧Zqy.at 108= .int .i64 (p0.qQ.length:Int)∧Zqy.at 109= .int .i64 v51) ⟨_,_,rfl,hS.only sl,Yv⟩ ?_);clear hL hS;rintro ZmV v51 s ZEl hL ⟨Zqy,h44,rfl,hS,e46,e47,e48,e49,e50,e52⟩;dsimp only [Zet] at hL;refine r6 ?_;refine cn hL ?_ ?_
    ·intro hc hL;refine r7 ?_;obtain⟨x54,Zwl,hL⟩:=qZ hL;obtain⟨b55,o56,⟨a57,c58⟩,ZAm,ZQx,Z0l,ZPV⟩:=Sl.at_ ZI Zwl;refine r1 ?_;have ZOy:Sl Zc wm h a57 c58 x54:=ZPV;refine r14 ?_;refine cn hL ?_ ?_
     ·intro hc hL;refine WN ?_;exact rt hL hT hS
     ·intro hc hL;refine r10 ?_;refine WC.loop (WL.lift hL (fun v70 s=>∃ Zh1 h59,s= ⟨Zh1,[],h59,none⟩∧Sp wm T h [bx wm b1 (cW p0 Zi Zh Zn Zm Zl Zk Zp Zo Zu Zt)] h59∧Zh1.at 1= .pointer (some ⟨b1,0,none⟩)∧Zh1.at 3= .int .i64 (p0.Zx.length:Int)∧Zh1.at 4= .int .i64 (p0.qQ.length:Int)∧Zh1.at 10= .int .i64 v51∧Zh1.at 107= .slice Zl p0.qQ.length Zk∧Zh1.at 108= .int .i64 (p0.qQ.length:Int)∧Zh1.at 109= .int .i64 v51∧Zh1.at 118= .slice a57 x54.length c58∧Zh1.at 119= .int .i64 (x54.length:Int)∧Zh1.at 120= .int .i64 v70) ⟨_,_,rfl,hS.only sl,Yv⟩ ?_);clear hL hS;rintro ZyP v70 s ZEd hL ⟨Zh1,h59,rfl,hS,e61,e62,e63,e64,e65,e66,e67,e68,e69,e71⟩;dsimp only [ZgI] at hL;refine r6 ?_;refine cn hL ?_ ?_
      ·intro hc hL;refine r6 ?_;obtain⟨x73,ZhZ,hL⟩:=qZ hL;obtain⟨b74,o75,_,Zjv,Zme,ZAK,ZGT⟩:=Sl.at_ ZOy ZhZ;refine r1 ?_;refine WO.w gN rfl (YJ Zb4 Y3 (YG fh rfl) (At.fz hS.fz ZAK Zme) (j:=0) rfl rfl (ws:= (cE x73)) rfl) ?_;refine r1 ?_;rintro _ h77 ⟨b76,ZWN,rfl,hS⟩;refine r1 ?_;rintro h78 hS;refine r16 ?_;refine r14 ?_;refine WO.gv (Zw.no rfl rfl rfl (Y7 rfl (YE rfl fh))) rfl (fun hg=>(Qg (YU (Y7 rfl fh) rfl hg) (YU fh rfl hg) (ZdL ZDo))) ?_;refine r3 ?_;refine cn hL ?_ ?_
       ·intro hc hL;refine r15 ?_;exact rt hL hT hS
       ·intro hc hL;refine r7 ?_;exact Ya.YQ (ZEd _ _ hL ⟨_,_,rfl,hS.only sl,Yv⟩)
      ·intro hc hL;refine r10 ?_;exact Ya.YQ (ZEl _ _ hL ⟨_,_,rfl,hS.only sl,Yv⟩)
    ·intro hc hL;refine r15 ?_;refine WC.loop (WL.lift hL (fun v85 s=>∃ ZsK h79,s= ⟨ZsK,[],h79,none⟩∧Sp wm T h [] h79∧ZsK.at 3= .int .i64 (p0.Zx.length:Int)∧ZsK.at 4= .int .i64 (p0.qQ.length:Int)∧ZsK.at 155= .slice Zu p0.qG.length Zt∧ZsK.at 156= .int .i64 (p0.qG.length:Int)∧ZsK.at 157= .int .i64 v85) ⟨_,_,rfl,hS.only .n,Yv⟩ ?_);clear hL hS;rintro ZmS v85 s ZD9 hL ⟨ZsK,h79,rfl,hS,e81,e82,e83,e84,e86⟩;dsimp only [K8] at hL;refine r6 ?_;refine cn hL ?_ ?_
     ·intro hc hL;refine r6 ?_;obtain⟨x88,ZII,hL⟩:=qZ hL;obtain⟨b89,o90,⟨⟨a91,c92⟩,⟨a93,c94⟩⟩,ZPt,ZG4,ZGY,ZuT⟩:=Sl.at_ ZK ZII;refine r1 ?_;have ZuG:Sl (Zr .i64) wm h a91 c92 x88.qV:=ZuT.1;have ZzD:Sl (Zr .i64) wm h a93 c94 x88.Yd:=ZuT.2;refine WO.w gN rfl (YJ WZ Xj (YG fh rfl) (At.fz hS.fz ZGY ZG4) (j:=0) rfl rfl (ws:= (cL x88 a91 c92 a93 c94)) rfl) ?_;refine r1 ?_;rintro _ h96 ⟨b95,Z5x,rfl,hS⟩;refine r1 ?_;rintro h97 hS;refine r16 ?_;obtain⟨x98,hx98,hL⟩:=Yj hL;refine WO.gcp (Zw.no rfl rfl rfl (ZC rfl fh)) rfl (fun hg=>(Xb.fn ZOX (Zg (YU fh rfl hg) ZA))) (fun hg=>ZKK (hS.Xc ZuG) (hS.Xc ZzD) (hx98 hg)) ?_;refine r4 ?_;refine cn hL ?_ ?_
      ·intro hc hL;refine WN ?_;exact rt hL hT hS
      ·intro hc hL;refine WN ?_;refine WC.loop (WL.lift hL (fun v109 s=>∃ Zc0 h99,s= ⟨Zc0,[],h99,none⟩∧Sp wm T h [bx wm b95 (cL x88 a91 c92 a93 c94)] h99∧Zc0.at 3= .int .i64 (p0.Zx.length:Int)∧Zc0.at 4= .int .i64 (p0.qQ.length:Int)∧Zc0.at 15= .pointer (some ⟨b95,0,none⟩)∧Zc0.at 155= .slice Zu p0.qG.length Zt∧Zc0.at 156= .int .i64 (p0.qG.length:Int)∧Zc0.at 157= .int .i64 v85∧Zc0.at 176= .slice a91 x88.qV.length c92∧Zc0.at 177= .int .i64 (x88.qV.length:Int)∧Zc0.at 178= .int .i64 v109) ⟨_,_,rfl,hS.only sl,Yv⟩ ?_);clear hL hS;rintro Zuk v109 s ZzZ hL ⟨Zc0,h99,rfl,hS,ZLD,ZLC,ZLB,ZRj,ZLA,Z6J,ZRi,e108,ZRh⟩;dsimp only [ZgH] at hL;refine r6 ?_;refine cn hL ?_ ?_
       ·intro hc hL;refine r7 ?_;obtain⟨x112,hx112,hL⟩:=qZ hL;obtain⟨ZRY,Z3v,_,ZVa,ZWc,ZVQ,ZVI⟩:=Sl.at_ ZuG hx112;refine r16 ?_;refine r8 ?_;obtain⟨x115,hx115,hL⟩:=Yj hL;obtain⟨Z78,Z3t,_,hQ⟩:=Sl.atG (fun hg=>ZuG) hx115;have ZJI:=fun hg=>(hQ hg).1
        have ZKm:=fun hg=>(hQ hg).2.1
        have ZJX:=fun hg=>(hQ hg).2.2.1
        have ZVG:=fun hg=>(hQ hg).2.2.2
        refine WO.gv (Zw.Zk5 rfl rfl rfl (Y7 rfl (ZC rfl fh))) rfl (fun hg=>(Yn XL XA (YU (YE rfl fh) rfl hg) (YU fh rfl hg) rfl (ZJI hg) (hx115 hg))) ?_;refine WO.gv (Zw.Zk5 rfl rfl rfl (Y7 rfl (YE rfl fh))) rfl (fun hg=>(Y8 W9 (YU fh rfl hg) (At.fz hS.fz (ZJX hg) (ZKm hg)) (j:=0) rfl (v:= .int .i64 x115) rfl)) ?_;refine r1 ?_;refine WO.gv (Zw.no rfl rfl rfl (Xf rfl (YE rfl (ZC rfl fh)))) rfl (fun hg=>(ZkH (YU (Xf rfl fh) rfl hg) (ZhI fh hg) lk)) ?_;refine r5 ?_;obtain⟨Zk7,ZGv,hL⟩:=Yj hL;obtain⟨Z77,Z3s,_,hQ⟩:=Sl.atG (fun hg=>ZzD) ZGv;have ZJG:=fun hg=>(hQ hg).1
        have ZKk:=fun hg=>(hQ hg).2.1
        have ZJV:=fun hg=>(hQ hg).2.2.1
        have ZVF:=fun hg=>(hQ hg).2.2.2
        refine WO.gv (Zw.no rfl rfl rfl (YE rfl (ZC rfl fh))) rfl (fun hg=>(Yn XL XA (YU (ZC rfl fh) rfl hg) (YU fh rfl hg) rfl (ZJG hg) (ZGv hg))) ?_;refine WO.gv (Zw.no rfl rfl rfl (Y7 rfl fh)) rfl (fun hg=>(Y8 W9 (YU fh rfl hg) (At.fz hS.fz (ZJV hg) (ZKk hg)) (j:=0) rfl (v:= .int .i64 Zk7) rfl)) ?_;refine r6 ?_;obtain⟨Zcl,Zb0,hL⟩:=Yj hL;obtain⟨ZLS,ZNv,_,hQ⟩:=Sl.atG (fun hg=>ZzD) Zb0;have Zgq:=fun hg=>(hQ hg).1
        have ZsC:=fun hg=>(hQ hg).2.1
        have ZJU:=fun hg=>(hQ hg).2.2.1
        have ZJL:=fun hg=>(hQ hg).2.2.2
        refine WO.gv (Zw.no rfl rfl rfl (YE rfl (ZC rfl fh))) rfl (fun hg=>(Yn XL XA (YU (ZC rfl fh) rfl hg) (YU fh rfl hg) rfl (Zgq hg) (Zb0 hg))) ?_;refine WO.gv (Zw.no rfl rfl rfl (Y7 rfl fh)) rfl (fun hg=>(Y8 W9 (YU fh rfl hg) (At.fz hS.fz (ZJU hg) (ZsC hg)) (j:=0) rfl (v:= .int .i64 Zcl) rfl)) ?_;refine r4 ?_;refine cn hL ?_ ?_
        ·intro hc hL;refine r16 ?_;exact rt hL hT hS
        ·intro hc hL;refine r7 ?_;exact Ya.YQ (ZzZ _ _ hL ⟨_,_,rfl,hS.only sl,Yv⟩)
       ·intro hc hL;refine r16 ?_;refine r3 ?_;refine WO.gv (Zw.yes rfl rfl rfl (Xf rfl fh)) rfl (fun hg=>(Zq5 (YU (Y7 rfl fh) rfl hg) lk (ZhI fh hg))) ?_;refine r6 ?_;refine WO.gv (Zw.yes rfl rfl rfl (Xf rfl (Y7 rfl (YE rfl (ZC rfl fh))))) rfl (fun hg=>(Zq5 (YU (Y7 rfl (ZC rfl fh)) rfl hg) lk (ZhI fh hg))) ?_;refine r3 ?_;refine cn hL ?_ ?_
        ·intro hc hL;refine Jv ?_;exact rt hL hT hS
        ·intro hc hL;refine r7 ?_;exact Ya.YQ (ZD9 _ _ hL ⟨_,_,rfl,hS.only .n,Yv⟩)
     ·intro hc hL;refine Jv ?_;exact rt hL hT hS
theorem ZK3 {F wm h} {p0:Zb} {p1:ZF} {Zi Zh Zn Zm Zl Zk Zp Zo Zu Zt} {r} (Z0:wm <=h.size) (ZB:Sl (Zr .i64) wm h Zi Zh p0.Zx) (ZN:Sl (ZJ (Zr .i64)) wm h Zn Zm p0.qK) (ZI:Sl (ZJ Zc) wm h Zl Zk p0.qQ) (ZM:Sl (ZJ Ze) wm h Zp Zo p0.qJ) (ZK:Sl Zd wm h Zu Zt p0.qG) (hL:ZBK F p0 p1=some r):
 WR XX 57 #[.agg [.slice Zi p0.Zx.length Zh,.slice Zn p0.qK.length Zm,.slice Zl p0.qQ.length Zk,.slice Zp p0.qJ.length Zo,.slice Zu p0.qG.length Zt,.int .i64 p0.said].toArray,.agg [.int .i64 p1.act,.int .i64 p1.a,.int .i64 p1.b].toArray] wm h (CP (fun(v:Value) (Gb:List (Ast wm))=>v= .bool r∧Gb= []) [] h):=by
 refine bg Tryz.ntmps57 Z0 Yc.nil ?_;intro T hT hS;unfold ZBK at hL;refine r3 ?_;rintro _ h2 ⟨b1,eb1,rfl,hS⟩;refine r1 ?_;rintro _ h4 ⟨b3,eb3,rfl,hS⟩;refine r3 ?_;refine WC.Kw (r:=r) (fun(_:Unit) s=>∃ fr6 h5,s= ⟨fr6,[],h5,none⟩∧Sp wm T h [] h5) (ZgF) ?_ ?_
 ·clear hL hS;rintro _ s hL ⟨fr6,h5,rfl,hS⟩;dsimp only [ZgF] at hL;refine r6 ?_;exact rt hL hT hS
 ·skip;refine r13 ?_;refine cn hL ?_ ?_
  ·intro hc hL;refine r10 ?_;refine YO.ret ?_;exact rt hL hT hS
  ·intro hc hL;refine r6 ?_;refine cn hL ?_ ?_
   ·intro hc hL;refine r6 ?_;obtain⟨x7,hx7,hL⟩:=qZ hL;refine WO.cl gN rfl (Xb.fn ZAd (Zg lk (Zg lk ZA))) hS .n (fun g' hz hf hO=>Zs1 (by rw [hz];exact hS.hw) ((hS.sl ZB).mono hf) hx7) ?_;rintro _ h11 _ ⟨a8,n9,c10,rfl,rfl⟩ hS;obtain rfl:=hS.on k0;refine r5 ?_;refine WC.loop (WL.lift hL (fun v18 s=>∃ Zaq h13,s= ⟨Zaq,[],h13,none⟩∧Sp wm T h [bx wm b1 (cW p0 Zi Zh Zn Zm Zl Zk Zp Zo Zu Zt),ow wm (Zr .i64) a8 x7.length c10 x7] h13∧Zaq.at 2= .pointer (some ⟨b1,0,none⟩)∧Zaq.at 22= .slice a8 x7.length c10∧Zaq.at 23= .int .i64 (x7.length:Int)∧Zaq.at 24= .int .i64 v18) ⟨_,_,rfl,hS.only sl,Yv⟩ ?_);clear hL hS;rintro ZyY v18 s ZEv hL ⟨Zaq,h13,rfl,hS,e15,e16,e17,e19⟩;dsimp only [Zj4] at hL;refine r6 ?_;refine cn hL ?_ ?_
    ·intro hc hL;refine r6 ?_;obtain⟨x21,ZUn,hL⟩:=qZ hL;obtain⟨b22,o23,_,ZZQ,Z0L,Z0e⟩:=Src.at_ (hS.Xk k1) ZUn;refine r9 ?_;obtain⟨x24,hx24,hL⟩:=qZ hL;refine WO.cl gN rfl (Xb.fn Zju (Zg lk (Zg lk ZA))) hS .n (fun g' hz hf hO=>Zes (by rw [hz];exact hS.hw) ((hS.sl ZB).mono hf) ((hS.sl ZN).mono hf) ((hS.sl ZI).mono hf) ((hS.sl ZM).mono hf) ((hS.sl ZK).mono hf) hx24) ?_;rintro _ h25 _ ⟨rfl,rfl⟩ hS;refine r4 ?_;rintro _ h28 ⟨b27,Z5Y,rfl,hS⟩;refine r1 ?_;rintro h29 hS;refine r10 ?_;refine cn hL ?_ ?_
     ·intro hc hL;refine Jv ?_;refine YO.ret ?_;exact rt hL hT hS
     ·intro hc hL;refine r7 ?_;exact Ya.YQ (ZEv _ _ hL ⟨_,_,rfl,hS.only sl,Yv⟩)
    ·intro hc hL;refine r5 ?_;exact YO.YQ _ hL ⟨_,_,rfl,hS.only .n⟩
   ·intro hc hL;refine r2 ?_;exact YO.YQ _ hL ⟨_,_,rfl,hS.only .n⟩
theorem ZK2 {F wm h} {p0:Zb} {p1:ZF} {Zi Zh Zn Zm Zl Zk Zp Zo Zu Zt} {r} (Z0:wm <=h.size) (ZB:Sl (Zr .i64) wm h Zi Zh p0.Zx) (ZN:Sl (ZJ (Zr .i64)) wm h Zn Zm p0.qK) (ZI:Sl (ZJ Zc) wm h Zl Zk p0.qQ) (ZM:Sl (ZJ Ze) wm h Zp Zo p0.qJ) (ZK:Sl Zd wm h Zu Zt p0.qG) (hL:ZBJ F p0 p1=some r):
 WR XX 58 #[.agg [.slice Zi p0.Zx.length Zh,.slice Zn p0.qK.length Zm,.slice Zl p0.qQ.length Zk,.slice Zp p0.qJ.length Zo,.slice Zu p0.qG.length Zt,.int .i64 p0.said].toArray,.agg [.int .i64 p1.act,.int .i64 p1.a,.int .i64 p1.b].toArray] wm h (CP (fun(v:Value) (Gb:List (Ast wm))=>v= .bool r∧Gb= []) [] h):=by
 refine bg Tryz.ntmps58 Z0 Yc.nil ?_;intro T hT hS;unfold ZBJ at hL;refine r3 ?_;rintro _ h2 ⟨b1,eb1,rfl,hS⟩;refine r1 ?_;rintro _ h4 ⟨b3,eb3,rfl,hS⟩;refine r16 ?_;refine r1 ?_;refine cn hL ?_ ?_
 ·intro hc hL;refine r5 ?_;obtain⟨x5,hx5,hL⟩:=qZ hL;refine WO.cl gN rfl (Xb.fn Zju (Zg lk (Zg lk ZA))) hS .n (fun g' hz hf hO=>Zes (by rw [hz];exact hS.hw) ((hS.sl ZB).mono hf) ((hS.sl ZN).mono hf) ((hS.sl ZI).mono hf) ((hS.sl ZM).mono hf) ((hS.sl ZK).mono hf) hx5) ?_;rintro _ h6 _ ⟨rfl,rfl⟩ hS;refine r4 ?_;rintro _ h9 ⟨b8,eb8,rfl,hS⟩;refine r1 ?_;rintro h10 hS;refine r16 ?_;refine r4 ?_;exact rt hL hT hS
 ·intro hc hL;refine r6 ?_;refine cn hL ?_ ?_
  ·intro hc hL;refine r5 ?_;obtain⟨Yf,Zej,hL⟩:=qZ hL;refine WO.cl gN rfl (Xb.fn Zju (Zg lk (Zg lk ZA))) hS .n (fun g' hz hf hO=>Zes (by rw [hz];exact hS.hw) ((hS.sl ZB).mono hf) ((hS.sl ZN).mono hf) ((hS.sl ZI).mono hf) ((hS.sl ZM).mono hf) ((hS.sl ZK).mono hf) Zej) ?_;rintro _ h12 _ ⟨rfl,rfl⟩ hS;refine r4 ?_;rintro _ h15 ⟨b14,ZWT,rfl,hS⟩;refine r1 ?_;rintro h16 hS;refine r8 ?_;obtain⟨Ud,Zso,hL⟩:=qZ hL;refine WO.cl gN rfl (Xb.fn Zju (Zg lk (Zg lk ZA))) hS .n (fun g' hz hf hO=>Zes (by rw [hz];exact hS.hw) ((hS.sl ZB).mono hf) ((hS.sl ZN).mono hf) ((hS.sl ZI).mono hf) ((hS.sl ZM).mono hf) ((hS.sl ZK).mono hf) Zso) ?_;rintro _ h18 _ ⟨rfl,rfl⟩ hS;refine r4 ?_;rintro _ h21 ⟨b20,ZWS,rfl,hS⟩;refine r1 ?_;rintro h22 hS;refine r10 ?_;obtain⟨x23,Znd,hL⟩:=qZ hL;refine WO.cl gN rfl (Xb.fn ZAd (Zg lk (Zg lk ZA))) hS .n (fun g' hz hf hO=>Zs1 (by rw [hz];exact hS.hw) ((hS.sl ZB).mono hf) Znd) ?_;rintro _ h27 _ ⟨a24,n25,c26,rfl,rfl⟩ hS;obtain rfl:=hS.on k0;refine r5 ?_;refine WC.loop (WL.lift hL (fun v37 s=>∃ WV h29,s= ⟨WV,[],h29,none⟩∧Sp wm T h [bx wm b1 (cW p0 Zi Zh Zn Zm Zl Zk Zp Zo Zu Zt),bx wm b3 (cS p1),bx wm b14 [.int .i64 Yf.1.at_,.int .i64 Yf.1.age,.int .i64 Yf.1.letter,.bool Yf.1.is],bx wm b20 [.int .i64 Ud.1.at_,.int .i64 Ud.1.age,.int .i64 Ud.1.letter,.bool Ud.1.is],ow wm (Zr .i64) a24 x23.length c26 x23] h29∧WV.at 2= .pointer (some ⟨b1,0,none⟩)∧WV.at 3= .pointer (some ⟨b3,0,none⟩)∧WV.at 7= .pointer (some ⟨b14,0,none⟩)∧WV.at 9= .pointer (some ⟨b20,0,none⟩)∧WV.at 55= .slice a24 x23.length c26∧WV.at 56= .int .i64 (x23.length:Int)∧WV.at 57= .int .i64 v37) ⟨_,_,rfl,hS.only sl,Yv⟩ ?_);clear hL hS;rintro ZaK v37 s Znt hL ⟨WV,h29,rfl,hS,e31,e32,e33,e34,e35,e36,e38⟩;dsimp only [ZgE] at hL;refine r6 ?_;refine cn hL ?_ ?_
   ·intro hc hL;refine r6 ?_;obtain⟨x40,ZD0,hL⟩:=qZ hL;obtain⟨b41,o42,_,ZGQ,ZHb,ZPZ⟩:=Src.at_ (hS.Xk k4) ZD0;refine r13 ?_;refine cn hL ?_ ?_
    ·intro hc hL;refine r13 ?_;exact rt hL hT hS
    ·intro hc hL;refine r7 ?_;exact Ya.YQ (Znt _ _ hL ⟨_,_,rfl,hS.only sl,Yv⟩)
   ·intro hc hL;refine Jv ?_;obtain⟨x43,Zp4,hL⟩:=qZ hL;obtain⟨b44,o45,_,ZuQ,Zqq,ZAN,Zmc⟩:=Sl.at_ ZB Zp4;refine r16 ?_;refine r8 ?_;exact rt hL hT hS
  ·intro hc hL;refine r6 ?_;refine cn hL ?_ ?_
   ·intro hc hL;refine r5 ?_;obtain⟨x46,Zsn,hL⟩:=qZ hL;refine WO.cl gN rfl (Xb.fn Zju (Zg lk (Zg lk ZA))) hS .n (fun g' hz hf hO=>Zes (by rw [hz];exact hS.hw) ((hS.sl ZB).mono hf) ((hS.sl ZN).mono hf) ((hS.sl ZI).mono hf) ((hS.sl ZM).mono hf) ((hS.sl ZK).mono hf) Zsn) ?_;rintro _ h47 _ ⟨rfl,rfl⟩ hS;refine r4 ?_;rintro _ h50 ⟨b49,Z5R,rfl,hS⟩;refine r1 ?_;rintro h51 hS;refine WN ?_;obtain⟨x52,Zp3,hL⟩:=Yj hL;obtain⟨b53,o54,_,hQ⟩:=Sl.atG (fun hg=>ZB) Zp3;have Zql:=fun hg=>(hQ hg).1
    have Zqp:=fun hg=>(hQ hg).2.1
    have ZAL:=fun hg=>(hQ hg).2.2.1
    have ZGV:=fun hg=>(hQ hg).2.2.2
    refine WO.gv (Zw.yes rfl rfl rfl (Y7 rfl fh)) rfl (fun hg=>(Yn XL XA (YU (YE rfl fh) rfl hg) (YU fh rfl hg) rfl (Zql hg) (Zp3 hg))) ?_;refine WO.gv (Zw.yes rfl rfl rfl (Y7 rfl (ZC rfl fh))) rfl (fun hg=>(Y8 W9 (YU fh rfl hg) (At.fz hS.fz (ZAL hg) (Zqp hg)) (j:=0) rfl (v:= .int .i64 x52) rfl)) ?_;refine r8 ?_;exact rt hL hT hS
   ·intro hc hL;refine r9 ?_;exact rt hL hT hS
theorem ZKP {F wm h} {p0:(List Int)} {p1:Int} {Zi Zh} {r} (Z0:wm <=h.size) (ZB:Sl (Zr .i64) wm h Zi Zh p0) (hL:ZqE F p0 p1=some r):
 WR XX 78 #[.slice Zi p0.length Zh,.int .i64 p1] wm h (CP (fun(v:Value) (Gb:List (Ast wm))=>v= .bool r∧Gb= []) [] h):=by
 refine bg Tryz.ntmps78 Z0 Yc.nil ?_;intro T hT hS;unfold ZqE at hL;refine r9 ?_;obtain⟨x1,hx1,hL⟩:=qZ hL;refine WO.cp gN rfl (Xb.fn ZOR (Zg lk (Zg lk ZA))) (WR.Qb rfl (ZKC (Nat.le_refl _) (hS.Xc ZB) hx1)) ?_;refine r5 ?_;exact rt hL hT hS
theorem Zs0 {F h} {p0:(List Int)} {p1:Int} {Zi Zh} {r} (ZB:Sl (Zr .i64) h.size h Zi Zh p0) (hL:ZqE F p0 p1=some r):Pure XX 78 #[.slice Zi p0.length Zh,.int .i64 p1] h (.bool r):=
 WR.Qb rfl (ZKP (Nat.le_refl _) ZB hL)
end Go.Proofs.YtbmbbcaaimehkaaGreat
end
end
section
namespace Go.Proofs.YtbmbbcaaimehkaaGreat
open Go.Lf
def ZnQ (p0:(List (List Zz))):(List (List Zz))×Int ->((List (List Zz))×Int ->Option (List (List Zz))) ->Option (List (List Zz)):=fun(v3,v11) Qc=>
 (bif decide (v11 < (p0.length:Int)) then(ZL p0 v11).bind fun x14=>(Zvc x14).bind fun x19=>(app 24 v3 [x19]).bind fun z27=>Qc (z27,Y2 (v11 + 1)) else some v3)
def ZBA (F:Nat) (p0:(List (List Zz))):Option (List (List Zz)):=
 loop F (ZnQ p0) ([],0)
def ZnP (p0:(List (List Zq))):(List (List Zq))×Int ->((List (List Zq))×Int ->Option (List (List Zq))) ->Option (List (List Zq)):=fun(v3,v11) Qc=>
 (bif decide (v11 < (p0.length:Int)) then(ZL p0 v11).bind fun x14=>(Zvb x14).bind fun x19=>(app 24 v3 [x19]).bind fun z27=>Qc (z27,Y2 (v11 + 1)) else some v3)
def ZBz (F:Nat) (p0:(List (List Zq))):Option (List (List Zq)):=
 loop F (ZnP p0) ([],0)
def ZqD (p0:Yb) (p1:Int) (p2:Zq) (p3:Bool):Option Yb:=
 (ZL p0.Za.qQ p1).bind fun x3=>(ZL x3 p2.place).bind fun x9=>(bif x9.here then(ZhG p0 p1 p2).bind fun x15=>some x15 else(bif((decide (x9.age > p2.age)) || p3) then(app 128 p0.Za.qG ([(Zf.mk 1 x9.ZX (Zq.mk p2.msg p2.place p2.from_ x9.age (Y2 (p2.hops + 1))) [] [] 0 0 0)])).bind fun z40=>(bif(((!p3) && (p2.from_ !=p1)) && (p2.from_ !=x9.ZX)) then(app 128 z40 ([(Zf.mk 3 p2.from_ (Zq.mk 0 0 0 0 0) [] [] p2.place x9.ZX x9.age)])).bind fun z47=>some (Yb.mk (Zb.mk p0.Za.Zx p0.Za.qK p0.Za.qQ p0.Za.qJ z47 p0.Za.said) p0.qX) else some (Yb.mk (Zb.mk p0.Za.Zx p0.Za.qK p0.Za.qQ p0.Za.qJ z40 p0.Za.said) p0.qX)) else(ZL p0.Za.qJ p1).bind fun x54=>(app 40 x54 [p2]).bind fun z62=>(ZL p0.Za.qJ p1).bind fun x66=>some (Yb.mk (Zb.mk p0.Za.Zx p0.Za.qK p0.Za.qQ (Yl p0.Za.qJ p1 z62) p0.Za.qG p0.Za.said) p0.qX)))
end Go.Proofs.YtbmbbcaaimehkaaGreat
end
section
set_option maxRecDepth 20000
noncomputable section
namespace Go.Proofs.YtbmbbcaaimehkaaGreat
open Go.YT Go.Lf
theorem ZKN {F wm h} {p0:(List (List Zz))} {Zi Zh} {r} (Z0:wm <=h.size) (ZB:Sl (ZJ Zc) wm h Zi Zh p0) (hL:ZBA F p0=some r):
 WR XX 82 #[.slice Zi p0.length Zh] wm h (CP (fun(v:Value) (Gb:List (Ast wm))=>∃ Xo Xu Xn Ze5,v= .slice Xo Xu Xn∧Gb= [YD wm (ZO Zc) Xo Xu Xn Ze5 r]) [] h):=by
 refine bg Tryz.ntmps82 Z0 Yc.nil ?_;intro T hT hS;unfold ZBA at hL;refine r16 ?_;refine r3 ?_;have hS:=hS.Zeg (e:= (ZO Zc)) (ps:=fun _=>(ZO Zc).dflt);refine WC.loop (WL.lift hL (fun p s=>match p with | (v3,v11)=>∃ XV h1 a4 c5 n6 ps7,s= ⟨XV,[],h1,none⟩∧Sp wm T h [YD wm (ZO Zc) a4 n6 c5 ps7 v3] h1∧XV.at 3= .slice a4 n6 c5∧XV.at 6= .slice Zi p0.length Zh∧XV.at 7= .int .i64 (p0.length:Int)∧XV.at 8= .int .i64 v11) ⟨_,_,none,0,0,(fun _=>(ZO Zc).dflt),rfl,hS.only sl,Yv⟩ ?_);clear hL hS;rintro Qc ⟨v3,v11⟩ s UH hL ⟨XV,h1,a4,c5,n6,ps7,rfl,hS,e8,e9,e10,e12⟩;obtain rfl:=hS.YL k0;dsimp only [ZnQ] at hL;refine r6 ?_;refine cn hL ?_ ?_
 ·intro hc hL;refine r6 ?_;obtain⟨x14,Znf,hL⟩:=qZ hL;obtain⟨b15,o16,⟨a17,c18⟩,ZuR,Zu2,ZuY,Zfn⟩:=Sl.at_ ZB Znf;refine r1 ?_;have Zfm:Sl Zc wm h a17 c18 x14:=Zfn;refine r7 ?_;obtain⟨x19,Zne,hL⟩:=qZ hL;refine WO.cl gN rfl (Xb.fn ZJl (Zg lk ZA)) hS .n (fun g' hz hf hO=>ZFd (by rw [hz];exact hS.hw) ((hS.sl Zfm).mono hf) Zne) ?_;rintro _ h23 _ ⟨a20,n21,c22,rfl,rfl⟩ hS;obtain rfl:=hS.on k0;refine WO.hn gN rfl (ZlV (e:=Zc) (x:=x19) hS k0 ZeW Zbu ZrD rfl rfl (Zv lk ZR) rfl rfl) ?_;rintro _ h26 ⟨b25,ZLy,rfl,hS⟩;obtain⟨z27,Zzf,hL⟩:=qZ hL;refine WO.hv gN rfl (ZlW (e:= (ZO Zc)) hS (.c k1 (.c k0 .n)) Zrc lk lk Zzf) ?_;rintro _ h31 ⟨a28,c29,Zyt,rfl,hS⟩;refine r8 ?_;exact Ya.YQ (UH _ _ hL ⟨_,_,a28,c29,z27.length,Zyt,rfl,hS.only sl,Yv⟩)
 ·intro hc hL;refine WN ?_;have hr:=Oi0 hL;subst hr;exact Yk.XI rfl (ZU lk ZE) ⟨_,⟨a4,v3.length,c5,ps7,rfl,rfl⟩,hT ▸ hS.only sl⟩
theorem ZKM {F wm h} {p0:(List (List Zq))} {Zi Zh} {r} (Z0:wm <=h.size) (ZB:Sl (ZJ Ze) wm h Zi Zh p0) (hL:ZBz F p0=some r):
 WR XX 83 #[.slice Zi p0.length Zh] wm h (CP (fun(v:Value) (Gb:List (Ast wm))=>∃ Xo Xu Xn Ze5,v= .slice Xo Xu Xn∧Gb= [YD wm (ZO Ze) Xo Xu Xn Ze5 r]) [] h):=by
 refine bg Tryz.ntmps83 Z0 Yc.nil ?_;intro T hT hS;unfold ZBz at hL;refine r16 ?_;refine r3 ?_;have hS:=hS.Zeg (e:= (ZO Ze)) (ps:=fun _=>(ZO Ze).dflt);refine WC.loop (WL.lift hL (fun p s=>match p with | (v3,v11)=>∃ XV h1 a4 c5 n6 ps7,s= ⟨XV,[],h1,none⟩∧Sp wm T h [YD wm (ZO Ze) a4 n6 c5 ps7 v3] h1∧XV.at 3= .slice a4 n6 c5∧XV.at 6= .slice Zi p0.length Zh∧XV.at 7= .int .i64 (p0.length:Int)∧XV.at 8= .int .i64 v11) ⟨_,_,none,0,0,(fun _=>(ZO Ze).dflt),rfl,hS.only sl,Yv⟩ ?_);clear hL hS;rintro Qc ⟨v3,v11⟩ s UH hL ⟨XV,h1,a4,c5,n6,ps7,rfl,hS,e8,e9,e10,e12⟩;obtain rfl:=hS.YL k0;dsimp only [ZnP] at hL;refine r6 ?_;refine cn hL ?_ ?_
 ·intro hc hL;refine r6 ?_;obtain⟨x14,Znf,hL⟩:=qZ hL;obtain⟨b15,o16,⟨a17,c18⟩,ZuR,Zu2,ZuY,Zfn⟩:=Sl.at_ ZB Znf;refine r1 ?_;have Zfm:Sl Ze wm h a17 c18 x14:=Zfn;refine r7 ?_;obtain⟨x19,Zne,hL⟩:=qZ hL;refine WO.cl gN rfl (Xb.fn ZJk (Zg lk ZA)) hS .n (fun g' hz hf hO=>ZFc (by rw [hz];exact hS.hw) ((hS.sl Zfm).mono hf) Zne) ?_;rintro _ h23 _ ⟨a20,n21,c22,rfl,rfl⟩ hS;obtain rfl:=hS.on k0;refine WO.hn gN rfl (ZlV (e:=Ze) (x:=x19) hS k0 ZeV Ug ZrC rfl rfl (Zv lk ZR) rfl rfl) ?_;rintro _ h26 ⟨b25,ZLy,rfl,hS⟩;obtain⟨z27,Zzf,hL⟩:=qZ hL;refine WO.hv gN rfl (ZlW (e:= (ZO Ze)) hS (.c k1 (.c k0 .n)) Zrb lk lk Zzf) ?_;rintro _ h31 ⟨a28,c29,Zyt,rfl,hS⟩;refine r8 ?_;exact Ya.YQ (UH _ _ hL ⟨_,_,a28,c29,z27.length,Zyt,rfl,hS.only sl,Yv⟩)
 ·intro hc hL;refine WN ?_;have hr:=Oi0 hL;subst hr;exact Yk.XI rfl (ZU lk ZE) ⟨_,⟨a4,v3.length,c5,ps7,rfl,rfl⟩,hT ▸ hS.only sl⟩
theorem ZBy {wm h} {p0:Yb} {p1:Int} {p2:Zq} {p3:Bool} {Zi Zh XF Zn Zm Qw Yr Zl Zk Qv Yx Zp Zo Qu Yq Zu Zt Qt Z8 Z7 Qs YS} {r} (Z0:wm <=h.size) (hO:Yc (wm:=wm) [bx wm YS (cG Zi XF Zh Zn Qw Zm Zl Qv Zk Zp Qu Zo Zu Qt Zt p0.Za.said Z8 Qs Z7),ow wm (Zr .i64) Zi XF Zh p0.Za.Zx,YD wm (ZO (Zr .i64)) Zn Qw Zm Yr p0.Za.qK,YD wm (ZO Zc) Zl Qv Zk Yx p0.Za.qQ,YD wm (ZO Ze) Zp Qu Zo Yq p0.Za.qJ,ow wm Zd Zu Qt Zt p0.Za.qG,ow wm Zy Z8 Qs Z7 p0.qX] h) (hL:ZqD p0 p1 p2 p3=some r):
 WR XX 84 #[.pointer (some ⟨YS,0,none⟩),.int .i64 p1,.agg [.int .i64 p2.msg,.int .i64 p2.place,.int .i64 p2.from_,.int .i64 p2.age,.int .i64 p2.hops].toArray,.bool p3] wm h (CP (fun(v:Value) (Gb:List (Ast wm))=>∃ QV JG QO QU JF QN JL QT JE QM JK QS JD QL JJ QR JC QK JI JB JH,v= .tuple [].toArray∧Gb= [bx wm YS (cG QV JG QO QU JF QN QT JE QM QS JD QL QR JC QK r.Za.said JI JB JH),ow wm (Zr .i64) QV JG QO r.Za.Zx,YD wm (ZO (Zr .i64)) QU JF QN JL r.Za.qK,YD wm (ZO Zc) QT JE QM JK r.Za.qQ,YD wm (ZO Ze) QS JD QL JJ r.Za.qJ,ow wm Zd QR JC QK r.Za.qG,ow wm Zy JI JB JH r.qX]) [bx wm YS (cG Zi XF Zh Zn Qw Zm Zl Qv Zk Zp Qu Zo Zu Qt Zt p0.Za.said Z8 Qs Z7),ow wm (Zr .i64) Zi XF Zh p0.Za.Zx,YD wm (ZO (Zr .i64)) Zn Qw Zm Yr p0.Za.qK,YD wm (ZO Zc) Zl Qv Zk Yx p0.Za.qQ,YD wm (ZO Ze) Zp Qu Zo Yq p0.Za.qJ,ow wm Zd Zu Qt Zt p0.Za.qG,ow wm Zy Z8 Qs Z7 p0.qX] h):=by
 refine bg Tryz.ntmps84 Z0 hO ?_;intro T hT hS;unfold ZqD at hL;obtain rfl:=hS.on k1;obtain rfl:=hS.YL k2;obtain rfl:=hS.YL k3;obtain rfl:=hS.YL k4;obtain rfl:=hS.on k5;obtain rfl:=hS.on k6;refine r3 ?_;rintro _ h2 ⟨b1,eb1,rfl,hS⟩;refine r3 ?_;refine WC.YC mixed Kq0 ?_;refine r6 ?_;obtain⟨x3,hx3,hL⟩:=qZ hL;obtain⟨b4,o5,a6,n7,c8,ZOJ,Z3Y,Z34⟩:=hS.atS k4 hx3;refine r4 ?_;obtain⟨x9,hx9,hL⟩:=qZ hL;obtain⟨b10,o11,_,Zqm,Zmf,Zqo⟩:=Src.at_ (hS.inS k4 hx3 ZOJ).2.1 hx9;refine WX.w gN rfl (Yn WJ Y3 lk lk (hS.inS k4 hx3 ZOJ).1 Zqm hx9) ?_ rfl;refine WX.w gN rfl (YJ Zb4 Y3 (YG fh rfl) Zmf (j:=0) rfl rfl (ws:= (cE x9)) rfl) ?_ rfl;refine WX.hn gN rfl (Zhl hS Zbo (vs:= [.bool false,.int .i64 0,.int .i64 0]) rfl) ?_ rfl;rintro _ h13 ⟨b12,ZWU,rfl,hS⟩;refine WX.hu gN (Ui hS k0 Y3 lk lk (vs:= (cE x9)) rfl rfl rfl rfl (cs':= (cE x9)) rfl) ?_ rfl rfl [] Kq0 Yh.e;rintro h14 hS;refine r10 ?_;refine cn hL ?_ ?_
 ·intro hc hL;refine r4 ?_;obtain⟨x15,ZUp,hL⟩:=qZ hL;refine WO.cl gN rfl (Xb.fn ZAh (Zg lk (Zg lk (Zg lk ZA)))) hS (.c k2 (.c k2 (.c k2 (.c k2 (.c k2 (.c k2 (.c k2 .n))))))) (fun g' hz hf hO=>Zva (by rw [hz];exact hS.hw) hO ZUp) ?_;rintro _ h34 _ ⟨a16,n17,c18,a19,n20,c21,ZNe,a22,n23,c24,ZNd,a25,n26,c27,ZNc,a28,n29,c30,a31,n32,c33,rfl,rfl⟩ hS;obtain rfl:=hS.on k1;obtain rfl:=hS.YL k2;obtain rfl:=hS.YL k3;obtain rfl:=hS.YL k4;obtain rfl:=hS.on k5;obtain rfl:=hS.on k6;refine r2 ?_;refine Yk.YQ ?_;have hr:=Oi0 hL;subst hr;exact Yk.gen (vs:= []) rfl ZE rfl ⟨_,⟨a16,x15.Za.Zx.length,c18,a19,x15.Za.qK.length,c21,ZNe,a22,x15.Za.qQ.length,c24,ZNd,a25,x15.Za.qJ.length,c27,ZNc,a28,x15.Za.qG.length,c30,a31,x15.qX.length,c33,rfl,rfl⟩,hT ▸ hS.only sl⟩
 ·intro hc hL;refine r13 ?_;refine cn hL ?_ ?_
  ·intro hc hL;refine r6 ?_;rintro h36 hS;refine r9 ?_;rintro h37 hS;refine r3 ?_;refine WC.YC mixed Kq0 ?_;refine r9 ?_;refine WX.w gN rfl (YX ZfG (Zv lk (Zv lk (Zv lk ZR))) rfl (cs':= [.int .i64 1,.int .i64 x9.ZX,.int .i64 p2.msg,.int .i64 p2.place,.int .i64 p2.from_,.int .i64 x9.age,.int .i64 (Y2 (p2.hops + 1)),.slice none 0 0,.slice none 0 0,.int .i64 0,.int .i64 0,.int .i64 0]) rfl) ?_ rfl;refine WX.hn gN rfl (QF (e:=Zd) hS UZ Xj U5 rfl rfl rfl (Zv lk ZR) rfl [(((none,0),(none,0)),(Zf.mk 1 x9.ZX (Zq.mk p2.msg p2.place p2.from_ x9.age (Y2 (p2.hops + 1))) [] [] 0 0 0))] rfl (xs:= [(Zf.mk 1 x9.ZX (Zq.mk p2.msg p2.place p2.from_ x9.age (Y2 (p2.hops + 1))) [] [] 0 0 0)]) rfl (by intro q hq;simp only [List.mem_cons,List.not_mem_nil,or_false] at hq;subst hq;exact⟨Sl.nil,Sl.nil⟩) rfl) ?_ rfl;rintro _ h39 ⟨b38,ZWR,rfl,hS⟩;obtain⟨z40,ZT0,hL⟩:=qZ hL;refine WX.hv gN rfl (XT (e:=Zd) hS k8 Q5 lk lk (hS.Xk k0) (hS.on k0) ZT0) ?_ rfl rfl [] Kq0 Yh.e;rintro _ h43 ⟨a41,c42,rfl,hS⟩;refine WX.w gN rfl (Ki lk) ?_ Kq0;refine WX.w gN rfl (Qf Zfu lk) ?_ Kq0;refine WX.w gN rfl (Qf KC lk) ?_ Kq0;refine WX.hu gN (Ui hS k4 Zbv lk lk (vs:= [.slice a41 z40.length c42]) rfl rfl rfl rfl (cs':= (cG Zi p0.Za.Zx.length Zh Zn p0.Za.qK.length Zm Zl p0.Za.qQ.length Zk Zp p0.Za.qJ.length Zo a41 z40.length c42 p0.Za.said Z8 p0.qX.length Z7)) rfl) ?_ rfl Kq0 [] Kq0 Yh.e;rintro h44 hS;refine r16 ?_;refine r5 ?_;refine cn hL ?_ ?_
   ·intro hc hL;refine WC.YC mixed Kq0 ?_;refine r14 ?_;refine WX.w gN rfl (YX ZfG (Zv lk (Zv lk (Zv lk (Zv lk (Zv lk ZR))))) rfl (cs':= [.int .i64 3,.int .i64 p2.from_,.int .i64 0,.int .i64 0,.int .i64 0,.int .i64 0,.int .i64 0,.slice none 0 0,.slice none 0 0,.int .i64 p2.place,.int .i64 x9.ZX,.int .i64 x9.age]) rfl) ?_ rfl;refine WX.hn gN rfl (QF (e:=Zd) hS UZ Xj U5 rfl rfl rfl (Zv lk ZR) rfl [(((none,0),(none,0)),(Zf.mk 3 p2.from_ (Zq.mk 0 0 0 0 0) [] [] p2.place x9.ZX x9.age))] rfl (xs:= [(Zf.mk 3 p2.from_ (Zq.mk 0 0 0 0 0) [] [] p2.place x9.ZX x9.age)]) rfl (by intro q hq;simp only [List.mem_cons,List.not_mem_nil,or_false] at hq;subst hq;exact⟨Sl.nil,Sl.nil⟩) rfl) ?_ rfl;rintro _ h46 ⟨b45,Z5T,rfl,hS⟩;obtain⟨z47,ZTX,hL⟩:=qZ hL;refine WX.hv gN rfl (XT (e:=Zd) hS k2 Q5 lk lk (hS.Xk k0) (hS.on k0) ZTX) ?_ rfl rfl [] Kq0 Yh.e;rintro _ h50 ⟨a48,c49,rfl,hS⟩;refine WX.w gN rfl (Ki lk) ?_ Kq0;refine WX.w gN rfl (Qf Zfu lk) ?_ Kq0;refine WX.w gN rfl (Qf KC lk) ?_ Kq0;refine WX.hu gN (Ui hS k2 Zbv lk lk (vs:= [.slice a48 z47.length c49]) rfl rfl rfl rfl (cs':= (cG Zi p0.Za.Zx.length Zh Zn p0.Za.qK.length Zm Zl p0.Za.qQ.length Zk Zp p0.Za.qJ.length Zo a48 z47.length c49 p0.Za.said Z8 p0.qX.length Z7)) rfl) ?_ rfl Kq0 [] Kq0 Yh.e;rintro h51 hS;refine r2 ?_;refine Yk.YQ ?_;have hr:=Oi0 hL;subst hr;exact Yk.gen (vs:= []) rfl ZE rfl ⟨_,⟨Zi,p0.Za.Zx.length,Zh,Zn,p0.Za.qK.length,Zm,Yr,Zl,p0.Za.qQ.length,Zk,Yx,Zp,p0.Za.qJ.length,Zo,Yq,a48,z47.length,c49,Z8,p0.qX.length,Z7,rfl,rfl⟩,hT ▸ hS.only sl⟩
   ·intro hc hL;refine r2 ?_;refine Yk.YQ ?_;have hr:=Oi0 hL;subst hr;exact Yk.gen (vs:= []) rfl ZE rfl ⟨_,⟨Zi,p0.Za.Zx.length,Zh,Zn,p0.Za.qK.length,Zm,Yr,Zl,p0.Za.qQ.length,Zk,Yx,Zp,p0.Za.qJ.length,Zo,Yq,a41,z40.length,c42,Z8,p0.qX.length,Z7,rfl,rfl⟩,hT ▸ hS.only sl⟩
  ·intro hc hL;refine WC.YC mixed Kq0 ?_;refine r4 ?_;refine WX.wr (fun x=>x=YS) hS gN rfl (fun _ _ hR=>Y8 ZkJ (YG fh rfl) (At.eqv (hR YS rfl) (hS.KI k2)) (j:=3) rfl (v:= .slice Zp p0.Za.qJ.length Zo) rfl) ?_ rfl rfl;rintro h52 e53 hS;refine r7 ?_;obtain⟨x54,Zwl,hL⟩:=qZ hL;obtain⟨b55,o56,a57,n58,c59,ZOI,ZAm,ZQx⟩:=hS.atS k6 Zwl;refine r3 ?_;refine WX.hn gN rfl (QF (e:=Ze) hS ZaY JA Zcj rfl rfl rfl (Zv lk ZR) rfl [((),p2)] rfl (xs:= [p2]) rfl (by intro q hq;simp only [List.mem_cons,List.not_mem_nil,or_false] at hq;subst hq;exact trivial) rfl) ?_ rfl;rintro _ h61 ⟨b60,ZWP,rfl,hS⟩;obtain⟨z62,ZTW,hL⟩:=qZ hL;have hS:=hS.Kj k7 Zwl ZOI;refine WX.hv gN rfl (XT (e:=Ze) hS k1 Zaf lk lk (hS.Xk k2) (hS.on k2) ZTW) ?_ rfl rfl [4] Kq0 (.c (.s .z) (hS.dj (.c k1 (.c k4 .n))) Yh.e);rintro _ h65 ⟨a63,c64,rfl,hS⟩;obtain⟨x66,ZUf,hL⟩:=qZ hL;refine WX.w gN rfl (Yn ZeV Ug lk lk rfl ZAm ZUf) ?_ Kq0;refine WX.hu gN (ZdW hS k1 Ug (YG fh rfl) (YG (ZC rfl fh) rfl) ZAm Zwl (j:=0) rfl (vs:= [.slice a63 z62.length c64]) rfl rfl rfl rfl rfl (cs':= [.slice a63 z62.length c64]) rfl rfl rfl) ?_ rfl Kq0 [] Kq0 Yh.e;rintro h68 hS;obtain⟨ZTz,Z3N,hS⟩:=hS.Ko (.c k0 (.c k0 .n)) Zwl;refine r2 ?_;refine Yk.YQ ?_;have hr:=Oi0 hL;subst hr;exact Yk.gen (vs:= []) rfl ZE rfl ⟨_,⟨Zi,p0.Za.Zx.length,Zh,Zn,p0.Za.qK.length,Zm,Yr,Zl,p0.Za.qQ.length,Zk,Yx,Zp,p0.Za.qJ.length,Zo,ZTz,Zu,p0.Za.qG.length,Zt,Z8,p0.qX.length,Z7,rfl,rfl⟩,hT ▸ hS.only sl⟩
end Go.Proofs.YtbmbbcaaimehkaaGreat
end
end
section
namespace Go.Proofs.YtbmbbcaaimehkaaGreat
open Go.Lf
def ZjF:Int ->Option Bool:=fun v7=>
 some (decide (v7 >=0))
def ZjG (F:Nat) (p0:ZY) (p1:Int) (p2:Int):Int ->(Int ->Option Bool) ->Option Bool:=fun v13 Zjb=>
 (bif decide (v13 < (p0.Za.qG.length:Int)) then(ZL p0.Za.qG v13).bind fun x16=>(gd (x16.kind==2) (ZqE F x16.qV p1) default).bind fun x25=>(gd ((x16.kind==2) && x25) (ZqE F x16.qV p2) default).bind fun KL=>(bif(((x16.kind==2) && x25) && KL) then(ZjF) v13 else Zjb (Y2 (v13 + 1))) else(ZjF) (-1))
def ZsY (F:Nat) (p0:ZY) (p1:Int) (p2:Int):Option Bool:=
 loop F (ZjG F p0 p1 p2) 0
def ZnN (p0:ZY) (p1:Int) (p2:Int) (p3:Int):Option Bool:=
 (ZL p0.Xg p1).bind fun x1=>(gd (!((decide (p3 < 0)) || (decide (p3 > x1.age)))) (ZnM p0 p2) default).bind fun x7=>(bif(((decide (p3 < 0)) || (decide (p3 > x1.age))) || (!x7)) then some false else(bif(p3==x1.age) then some (p2==x1.machine) else(ZL p0.Za.qQ p2).bind fun x8=>(ZL x8 p1).bind fun x13=>some (decide (x13.age > p3))))
end Go.Proofs.YtbmbbcaaimehkaaGreat
end
section
set_option maxRecDepth 20000
noncomputable section
namespace Go.Proofs.YtbmbbcaaimehkaaGreat
open Go.YT Go.Lf
theorem ZKG {F wm h} {p0:ZY} {p1 p2:Int} {Zi Zh Zn Zm Zl Zk Zp Zo Zu Zt Z8 Z7 YS Kk} {r} (Z0:wm <=h.size) (X6:At h YS Kk [.slice Zi p0.Za.Zx.length Zh,.slice Zn p0.Za.qK.length Zm,.slice Zl p0.Za.qQ.length Zk,.slice Zp p0.Za.qJ.length Zo,.slice Zu p0.Za.qG.length Zt,.int .i64 p0.Za.said,.slice Z8 p0.Xg.length Z7]) (X5:Stb wm h YS) (ZB:Sl (Zr .i64) wm h Zi Zh p0.Za.Zx) (ZN:Sl (ZJ (Zr .i64)) wm h Zn Zm p0.Za.qK) (ZI:Sl (ZJ Zc) wm h Zl Zk p0.Za.qQ) (ZM:Sl (ZJ Ze) wm h Zp Zo p0.Za.qJ) (ZK:Sl Zd wm h Zu Zt p0.Za.qG) (XB:Sl XO wm h Z8 Z7 p0.Xg) (hL:ZsY F p0 p1 p2=some r):
 WR XX 92 #[.pointer (some ⟨YS,Kk,none⟩),.int .i64 p1,.int .i64 p2] wm h (CP (fun(v:Value) (Gb:List (Ast wm))=>v= .bool r∧Gb= []) [] h):=by
 refine bg Tryz.ntmps92 Z0 Yc.nil ?_;intro T hT hS;unfold ZsY at hL;refine r3 ?_;rintro _ h2 ⟨b1,eb1,rfl,hS⟩;refine r1 ?_;rintro _ h4 ⟨b3,eb3,rfl,hS⟩;refine r9 ?_;refine WO.w gN rfl (Y8 ZCu (YG fh rfl) (At.fz hS.fz X5 X6) (j:=4) rfl (v:= .slice Zu p0.Za.qG.length Zt) rfl) ?_;refine WO.w gN rfl (ZbQ (Zg lk (Zg lk ZA))) ?_;refine WO.inl gN rfl (Xb.fn ZJi (Zg lk (Zg lk ZA))) (WF.begin (args:= [_,_]) (fn:=Tryz.f105) Kq0 (by exact rfl) Tryz.ntmps105 (by simp) ?_);simp only [Z4,Z9,Nat.reduceAdd];refine r9 ?_;refine WO.Zm8 (r:=r) (fun(v7:Int) (v:Value) (h5:H)=>v= .int .i64 v7∧Sp wm T h [bx wm b1 [.int .i64 p1],bx wm b3 [.int .i64 p2]] h5) (ZjF) gN rfl (Xb.fn ZJg (Zg lk (Zg lk ZA))) ?_ (WF.begin (args:= [_,_]) (fn:=Tryz.f109) Kq0 (by exact rfl) Tryz.ntmps109 (by simp) ?_)
 ·clear hL hS;rintro v7 v h5 hL ⟨rfl,hS⟩;dsimp only [ZjF] at hL;refine r5 ?_;refine Yk.XI rfl (ZU lk ZE) ?_;refine r4 ?_;exact rt hL hT hS
 ·skip;simp only [Z4,Z9,Nat.reduceAdd];refine r14 ?_;refine WC.loop (WL.lift hL (fun v13 s=>∃ fr9 h8,s= ⟨fr9,[],h8,none⟩∧Sp wm T h [bx wm b1 [.int .i64 p1],bx wm b3 [.int .i64 p2]] h8∧fr9.at 0= .slice Zu p0.Za.qG.length Zt∧fr9.at 1= .func (.func 106) #[] [.pointer (some ⟨b1,0,none⟩),.pointer (some ⟨b3,0,none⟩)].toArray∧fr9.at 7= .int .i64 (p0.Za.qG.length:Int)∧fr9.at 8= .int .i64 v13) ⟨_,_,rfl,hS.only sl,Yv⟩ ?_);clear hL hS;rintro Zjb v13 s Znx hL ⟨fr9,h8,rfl,hS,e10,e11,e12,e14⟩;dsimp only [ZjG] at hL;refine r6 ?_;refine cn hL ?_ ?_
  ·intro hc hL;refine r15 ?_;obtain⟨x16,hx16,hL⟩:=qZ hL;obtain⟨b17,o18,⟨⟨a19,c20⟩,⟨a21,c22⟩⟩,ZPJ,ZHe,ZG3,ZuW⟩:=Sl.at_ ZK hx16;refine r1 ?_;have ZuI:Sl (Zr .i64) wm h a19 c20 x16.qV:=ZuW.1;have ZY8:Sl (Zr .i64) wm h a21 c22 x16.Yd:=ZuW.2;refine WO.w gN rfl (YJ WZ Xj (YG fh rfl) (At.fz hS.fz ZG3 ZHe) (j:=0) rfl rfl (ws:= (cL x16 a19 c20 a21 c22)) rfl) ?_;refine WO.inl gN rfl (Xb.clo (first:= []) (cap:= [.pointer (some ⟨b1,0,none⟩),.pointer (some ⟨b3,0,none⟩)]) lk ZJh lks rfl) (WF.begin (args:= [_,_,_]) (fn:=Tryz.f106) Kq0 (by exact rfl) Tryz.ntmps106 (by simp) ?_);simp only [Z4,Z9,Nat.reduceAdd];refine r3 ?_;rintro _ h24 ⟨b23,Z5Z,rfl,hS⟩;refine WN ?_;obtain⟨x25,hx25,hL⟩:=Yj hL;refine WO.gcp (Zw.yes rfl rfl rfl (YE rfl (ZC rfl fh))) rfl (fun hg=>(Xb.fn ZAb (Zg (YU (ZC rfl fh) rfl hg) (Zg (YU fh rfl hg) ZA)))) (fun hg=>Zs0 (hS.Xc ZuI) (hx25 hg)) ?_;refine r5 ?_;obtain⟨KL,Znc,hL⟩:=Yj hL;refine WO.gcp (Zw.yes rfl rfl rfl (YE rfl (ZC rfl fh))) rfl (fun hg=>(Xb.fn ZAb (Zg (YU (ZC rfl fh) rfl hg) (Zg (YU fh rfl hg) ZA)))) (fun hg=>Zs0 (hS.Xc ZuI) (Znc hg)) ?_;refine r5 ?_;refine Yk.XI rfl (ZU lk ZE) ?_;refine r2 ?_;refine cn hL ?_ ?_
   ·intro hc hL;refine WN ?_;exact Yk.XI rfl (ZU lk ZE) ⟨_,hL,⟨rfl,hS.only sl⟩⟩
   ·intro hc hL;refine r7 ?_;exact Ya.YQ (Znx _ _ hL ⟨_,_,rfl,hS.only sl,Yv⟩)
  ·intro hc hL;refine Jv ?_;exact Yk.XI rfl (ZU lk ZE) ⟨_,hL,⟨rfl,hS.only sl⟩⟩
theorem ZKH {F h} {p0:ZY} {p1 p2:Int} {Zi Zh Zn Zm Zl Zk Zp Zo Zu Zt Z8 Z7 YS Kk} {r} (X6:At h YS Kk [.slice Zi p0.Za.Zx.length Zh,.slice Zn p0.Za.qK.length Zm,.slice Zl p0.Za.qQ.length Zk,.slice Zp p0.Za.qJ.length Zo,.slice Zu p0.Za.qG.length Zt,.int .i64 p0.Za.said,.slice Z8 p0.Xg.length Z7]) (X5:Stb h.size h YS) (ZB:Sl (Zr .i64) h.size h Zi Zh p0.Za.Zx) (ZN:Sl (ZJ (Zr .i64)) h.size h Zn Zm p0.Za.qK) (ZI:Sl (ZJ Zc) h.size h Zl Zk p0.Za.qQ) (ZM:Sl (ZJ Ze) h.size h Zp Zo p0.Za.qJ) (ZK:Sl Zd h.size h Zu Zt p0.Za.qG) (XB:Sl XO h.size h Z8 Z7 p0.Xg) (hL:ZsY F p0 p1 p2=some r):Pure XX 92 #[.pointer (some ⟨YS,Kk,none⟩),.int .i64 p1,.int .i64 p2] h (.bool r):=
 WR.Qb rfl (ZKG (Nat.le_refl _) X6 X5 ZB ZN ZI ZM ZK XB hL)
theorem ZKF {wm h} {p0:ZY} {p1 p2 p3:Int} {Zi Zh Zn Zm Zl Zk Zp Zo Zu Zt Z8 Z7 YS Kk} {r} (Z0:wm <=h.size) (X6:At h YS Kk [.slice Zi p0.Za.Zx.length Zh,.slice Zn p0.Za.qK.length Zm,.slice Zl p0.Za.qQ.length Zk,.slice Zp p0.Za.qJ.length Zo,.slice Zu p0.Za.qG.length Zt,.int .i64 p0.Za.said,.slice Z8 p0.Xg.length Z7]) (X5:Stb wm h YS) (ZB:Sl (Zr .i64) wm h Zi Zh p0.Za.Zx) (ZN:Sl (ZJ (Zr .i64)) wm h Zn Zm p0.Za.qK) (ZI:Sl (ZJ Zc) wm h Zl Zk p0.Za.qQ) (ZM:Sl (ZJ Ze) wm h Zp Zo p0.Za.qJ) (ZK:Sl Zd wm h Zu Zt p0.Za.qG) (XB:Sl XO wm h Z8 Z7 p0.Xg) (hL:ZnN p0 p1 p2 p3=some r):
 WR XX 93 #[.pointer (some ⟨YS,Kk,none⟩),.int .i64 p1,.int .i64 p2,.int .i64 p3] wm h (CP (fun(v:Value) (Gb:List (Ast wm))=>v= .bool r∧Gb= []) [] h):=by
 refine bg Tryz.ntmps93 Z0 Yc.nil ?_;intro T hT hS;unfold ZnN at hL;refine r10 ?_;refine WO.w gN rfl (Y8 ZCv (YG fh rfl) (At.fz hS.fz X5 X6) (j:=6) rfl (v:= .slice Z8 p0.Xg.length Z7) rfl) ?_;refine r1 ?_;obtain⟨x1,hx1,hL⟩:=qZ hL;obtain⟨b2,o3,_,ZPI,ZAY,ZVK,Zwq⟩:=Sl.at_ XB hx1;refine r1 ?_;refine WO.w gN rfl (YJ ZoP Zas (YG fh rfl) (At.fz hS.fz ZVK ZAY) (j:=0) rfl rfl (ws:= [.int .i64 x1.machine,.bool x1.here,.int .i64 x1.age]) rfl) ?_;refine r1 ?_;rintro _ h5 ⟨b4,eb4,rfl,hS⟩;refine r1 ?_;rintro h6 hS;refine r16 ?_;obtain⟨x7,hx7,hL⟩:=Yj hL;refine WO.gcp (Zw.no rfl rfl rfl (YE rfl fh)) rfl (fun hg=>(Xb.fn Zz9 (Zg (YU (ZC rfl fh) rfl hg) (Zg (YU fh rfl hg) ZA)))) (fun hg=>ZsV (At.fz hS.fz X5 X6) (Stb.up hS.hw (Stb.fz hS.fz X6 X5)) (hS.Xc ZB) (hS.Xc ZN) (hS.Xc ZI) (hS.Xc ZM) (hS.Xc ZK) (hS.Xc XB) (hx7 hg)) ?_;refine r4 ?_;refine cn hL ?_ ?_
 ·intro hc hL;refine r7 ?_;exact rt hL hT hS
 ·intro hc hL;refine Jv ?_;refine cn hL ?_ ?_
  ·intro hc hL;refine Jv ?_;exact rt hL hT hS
  ·intro hc hL;refine r8 ?_;refine WO.w gN rfl (Y8 Zri (YG fh rfl) (At.fz hS.fz X5 X6) (j:=2) rfl (v:= .slice Zl p0.Za.qQ.length Zk) rfl) ?_;refine r1 ?_;obtain⟨x8,hx8,hL⟩:=qZ hL;obtain⟨b9,o10,⟨a11,c12⟩,Z3X,Z33,Z32,ZVd⟩:=Sl.at_ ZI hx8;refine r1 ?_;have ZOD:Sl Zc wm h a11 c12 x8:=ZVd;refine r2 ?_;obtain⟨x13,ZIP,hL⟩:=qZ hL;obtain⟨b14,o15,_,ZPK,ZQF,ZQn,ZP5⟩:=Sl.at_ ZOD ZIP;refine r9 ?_;exact rt hL hT hS
theorem ZsX {h} {p0:ZY} {p1 p2 p3:Int} {Zi Zh Zn Zm Zl Zk Zp Zo Zu Zt Z8 Z7 YS Kk} {r} (X6:At h YS Kk [.slice Zi p0.Za.Zx.length Zh,.slice Zn p0.Za.qK.length Zm,.slice Zl p0.Za.qQ.length Zk,.slice Zp p0.Za.qJ.length Zo,.slice Zu p0.Za.qG.length Zt,.int .i64 p0.Za.said,.slice Z8 p0.Xg.length Z7]) (X5:Stb h.size h YS) (ZB:Sl (Zr .i64) h.size h Zi Zh p0.Za.Zx) (ZN:Sl (ZJ (Zr .i64)) h.size h Zn Zm p0.Za.qK) (ZI:Sl (ZJ Zc) h.size h Zl Zk p0.Za.qQ) (ZM:Sl (ZJ Ze) h.size h Zp Zo p0.Za.qJ) (ZK:Sl Zd h.size h Zu Zt p0.Za.qG) (XB:Sl XO h.size h Z8 Z7 p0.Xg) (hL:ZnN p0 p1 p2 p3=some r):Pure XX 93 #[.pointer (some ⟨YS,Kk,none⟩),.int .i64 p1,.int .i64 p2,.int .i64 p3] h (.bool r):=
 WR.Qb rfl (ZKF (Nat.le_refl _) X6 X5 ZB ZN ZI ZM ZK XB hL)
end Go.Proofs.YtbmbbcaaimehkaaGreat
end
end
section
namespace Go.Proofs.YtbmbbcaaimehkaaGreat
open Go.Lf
def ZwH (F:Nat) (p0:Zb):Option Bool:=
 (Zs8 F p0 (Zb.mk [] [] [] [] [] 0)).bind fun x3=>some x3
def Zog (p0:Zb) (v15:(List XR)) (v64:Int) (ZmU:(Int ->Option Bool)) (x67:(List Zz)):Int ->(Int ->Option Bool) ->Option Bool:=fun v81 ZyN=>
 (bif decide (v81 < (x67.length:Int)) then(ZL x67 v81).bind fun x84=>(gd (!x84.here) (ZL v15 v81) default).bind fun x90=>(gd (!x84.here) (Zn3 p0 v81 x90 x84.ZX x84.age) default).bind fun x93=>(bif((!x84.here) && (!x93)) then some false else ZyN (Y2 (v81 + 1))) else ZmU (Y2 (v64 + 1)))
def Zki (p0:Zb) (WI:Int) (Zik:((List XR)×Int ->Option Bool)) (x107:(List Zq)):(List XR)×Int ->((List XR)×Int ->Option Bool) ->Option Bool:=fun(Zpi,ZvK) Zuh=>
 (bif decide (ZvK < (x107.length:Int)) then(ZL x107 ZvK).bind fun ZHN=>(ZqG p0 Zpi ZHN WI true).bind fun ZMG=>(bif(!ZMG) then some false else Zuh (Zpi,Y2 (ZvK + 1))) else Zik (Zpi,Y2 (WI + 1)))
def Zew (p0:Zb) (x160:(List Int)):Int×(List Bool) ->(Int×(List Bool) ->Option Bool) ->Option Bool:=fun(ZaX,Zbr) Zuf=>
 (bif decide (ZaX < (x160.length:Int)) then(ZL x160 ZaX).bind fun Zo4=>(gd (!((decide (Zo4 < 0)) || (decide (Zo4 >=p0.said)))) (ZL Zbr Zo4) default).bind fun ZHL=>(bif(((decide (Zo4 < 0)) || (decide (Zo4 >=p0.said))) || ZHL) then some false else(ZL Zbr Zo4).bind fun ZS8=>Zuf (Y2 (ZaX + 1),Yl Zbr Zo4 true)) else some ((x160.length:Int)==p0.said))
def ZgN (F:Nat) (p0:Zb) (v97:(List XR)):Int ->(Int ->Option Bool) ->Option Bool:=fun Zal Zfc=>
 (bif decide (Zal < (p0.qG.length:Int)) then(ZL p0.qG Zal).bind fun ZaG=>(gd (ZaG.kind==1) (ZqG p0 v97 ZaG.ZV ZaG.ZX false) default).bind fun Zo6=>(gd ((!((ZaG.kind==1) && (!Zo6))) && (ZaG.kind==3)) (ZL v97 ZaG.place) default).bind fun Zo5=>(gd ((!((ZaG.kind==1) && (!Zo6))) && (ZaG.kind==3)) (Zn3 p0 ZaG.place Zo5 ZaG.at_ ZaG.age) default).bind fun x159=>(bif(((ZaG.kind==1) && (!Zo6)) || ((ZaG.kind==3) && (!x159))) then some false else Zfc (Y2 (Zal + 1))) else(ZBL F p0).bind fun x160=>(mkL false 1 p0.said p0.said).bind fun ZC8=>loop F (Zew p0 x160) (0,ZC8))
def ZgO (F:Nat) (p0:Zb):(List XR)×Int ->((List XR)×Int ->Option Bool) ->Option Bool:=fun(v97,WI) Zik=>
 (bif decide (WI < (p0.qJ.length:Int)) then(ZL p0.qJ WI).bind fun x107=>loop F (Zki p0 WI Zik x107) (v97,0) else loop F (ZgN F p0 v97) 0)
def ZgP (F:Nat) (p0:Zb) (v15:(List XR)):Int ->(Int ->Option Bool) ->Option Bool:=fun v64 ZmU=>
 (bif decide (v64 < (p0.qQ.length:Int)) then(ZL p0.qQ v64).bind fun x67=>loop F (Zog p0 v15 v64 ZmU x67) 0 else loop F (ZgO F p0) (v15,0))
def ZgQ (F:Nat) (p0:Zb) (v15:(List XR)):Int ->(Int ->Option Bool) ->Option Bool:=fun v34 Zja=>
 (bif decide (v34 < (p0.Zx.length:Int)) then(ZL p0.Zx v34).bind fun x37=>(gd (decide (x37 >=0)) (ZL v15 v34) default).bind fun x40=>(gd (decide (x37 >=0)) (ZL v15 x37) default).bind fun x43=>(gd ((decide (x37 >=0)) && (!(x40.is !=x43.is))) (ZL v15 v34) default).bind fun x46=>(gd ((decide (x37 >=0)) && (!(x40.is !=x43.is))) (ZL v15 x37) default).bind fun x49=>(gd ((decide (x37 >=0)) && (!((x40.is !=x43.is) || (x46.at_ !=x49.at_)))) (ZL v15 v34) default).bind fun x52=>(gd ((decide (x37 >=0)) && (!((x40.is !=x43.is) || (x46.at_ !=x49.at_)))) (ZL v15 x37) default).bind fun x55=>(bif((decide (x37 >=0)) && (((x40.is !=x43.is) || (x46.at_ !=x49.at_)) || (x52.letter !=x55.letter))) then some false else Zja (Y2 (v34 + 1))) else loop F (ZgP F p0 v15) 0)
def Zkj (F:Nat) (p0:Zb):Int×(List XR) ->(Int×(List XR) ->Option Bool) ->Option Bool:=fun(v13,v15) Zy0=>
 (bif decide (v13 < (p0.Zx.length:Int)) then(ZgG F p0 v13).bind fun Ud=>(bif(!Ud.2) then some false else(ZL v15 v13).bind fun x23=>Zy0 (Y2 (v13 + 1),Yl v15 v13 Ud.1)) else loop F (ZgQ F p0 v15) 0)
def Zoh (F:Nat) (p0:Zb):Option Bool:=
 (ZBN F p0).bind fun x3=>(bif(!x3) then some false else(mkL (XR.mk 0 0 0 false) 32 (p0.Zx.length:Int) (p0.Zx.length:Int)).bind fun z4=>loop F (Zkj F p0) (0,z4))
def Zaa:(List Zj)×(List Int)×(List (List Int))×(List (List Zz))×(List (List Zq))×(List Zf)×Int ->Option (Zb×(List Zj)×Int):=fun(v34,v39,v43,v48,v53,v58,v62)=>
 some ((Zb.mk v39 v43 v48 v53 v58 v62),v34,0)
def Zev (Yf:Zb):(List Zj)×(List Zf)×(List (List Int))×(List (List Zq)) ->Option (Zb×(List Zj)×Int):=fun(v70,v74,v78,v80)=>
 (Zaa) (v70,Yf.Zx,v78,Yf.qQ,v80,v74,Y2 (Yf.said + 1))
def Zkh (Yf:Zb):(List Zf) ->Option (Zb×(List Zj)×Int):=fun Zpg=>
 (Zev Yf) ([],Zpg,Yf.qK,Yf.qJ)
def ZgM (p1:ZF) (Yf:Zb) (x160:(XR×Bool)) (ZiF:(List Int)):(List Zj)×Int×(List Int)×(List Int)×(List (List Zz)) ->((List Zj)×Int×(List Int)×(List Int)×(List (List Zz)) ->Option (Zb×(List Zj)×Int)) ->Option (Zb×(List Zj)×Int):=fun(ZvJ,ZvI,ZrR,ZrQ,ZrP) Zue=>
 (bif decide (ZvI < (ZiF.length:Int)) then(ZL ZiF ZvI).bind fun ZiE=>(ZL ZrP x160.1.at_).bind fun ZMF=>(ZL ZMF ZiE).bind fun Zmw=>(ZL ZrP x160.1.at_).bind fun ZHK=>(ZL ZHK ZiE).bind fun ZS7=>(app 8 ZrR [ZiE]).bind fun z229=>(app 8 ZrQ [Y2 (Zmw.age + 1)]).bind fun z236=>(app 40 ZvJ [(Zj.mk 2 ZiE x160.1.at_ p1.b 0)]).bind fun ZHC=>Zue (ZHC,Y2 (ZvI + 1),z229,z236,Yl ZrP x160.1.at_ (Yl ZHK ZiE (Zz.mk false p1.b (Y2 (Zmw.age + 1))))) else(ZL Yf.Zx p1.a).bind fun Zxz=>(app 128 Yf.qG [(Zf.mk 2 p1.b (Zq.mk 0 0 0 0 0) ZrR ZrQ 0 0 0)]).bind fun ZHB=>(Zaa) (ZvJ,Yl Yf.Zx p1.a (-1),Yf.qK,ZrP,Yf.qJ,ZHB,Yf.said))
def ZwG (F:Nat) (p0:Zb) (p1:ZF):Option (Zb×(List Zj)×Int):=
 (ZBK F p0 p1).bind fun x7=>(bif x7 then some ((Zb.mk [] [] [] [] [] 0),[],3) else(ZBJ F p0 p1).bind fun x9=>(bif(!x9) then some ((Zb.mk [] [] [] [] [] 0),[],7) else(ZBI F p0).bind fun Yf=>(bif(p1.act==1) then(ZL Yf.qQ p1.a).bind fun x84=>(ZL x84 p1.b).bind fun x90=>(bif x90.here then(ZL Yf.qK p1.b).bind fun x100=>(app 8 x100 [Yf.said]).bind fun ZDa=>(ZL Yf.qK p1.b).bind fun x112=>(Zev Yf) ([(Zj.mk 1 p1.b p1.a Yf.said 0)],Yf.qG,Yl Yf.qK p1.b ZDa,Yf.qJ) else(bif((!true) && (decide (x90.age <=0))) then(ZL Yf.qJ p1.a).bind fun Zcl=>(app 40 Zcl [(Zq.mk Yf.said p1.b p1.a 0 0)]).bind fun ZC9=>(ZL Yf.qJ p1.a).bind fun Ju=>(Zev Yf) ([],Yf.qG,Yf.qK,Yl Yf.qJ p1.a ZC9) else(app 128 Yf.qG ([(Zf.mk 1 x90.ZX (Zq.mk Yf.said p1.b p1.a x90.age (Y2 (0 + 1))) [] [] 0 0 0)])).bind fun Zvx=>(bif(((!true) && (p1.a !=p1.a)) && (p1.a !=x90.ZX)) then(app 128 Zvx ([(Zf.mk 3 p1.a (Zq.mk 0 0 0 0 0) [] [] p1.b x90.ZX x90.age)])).bind fun Zxr=>(Zkh Yf) Zxr else(Zkh Yf) Zvx))) else(bif(p1.act==2) then(ZgG F Yf p1.a).bind fun x160=>(ZqF F Yf.Zx p1.a).bind fun ZiF=>loop F (ZgM p1 Yf x160 ZiF) ([],0,[],[],Yf.qQ) else(bif(p1.act==3) then(ZL Yf.Zx p1.a).bind fun ZS5=>(Zaa) ([],Yl Yf.Zx p1.a p1.b,Yf.qK,Yf.qQ,Yf.qJ,Yf.qG,Yf.said) else(bif(p1.act==4) then(ZL Yf.Zx p1.a).bind fun ZS4=>(Zaa) ([],Yl Yf.Zx p1.a (-1),Yf.qK,Yf.qQ,Yf.qJ,Yf.qG,Yf.said) else(bif(p1.act==5) then(ZBH F Yf p1.a).bind fun ZeM=>(Zaa) (ZeM.2,ZeM.1.Zx,ZeM.1.qK,ZeM.1.qQ,ZeM.1.qJ,ZeM.1.qG,ZeM.1.said) else(Zaa) ([],Yf.Zx,Yf.qK,Yf.qQ,Yf.qJ,Yf.qG,Yf.said))))))))
def K9 (v21:Int) (ZaK:((List Zj)×(List Int)×Int×(List Int)×(List (List Int))×(List (List Zz))×(List (List Zq))×(List Zf)×Int ->Option (Zb×(List Zj)×(List Int)))):(List Zj)×(List Int)×(List Int)×(List (List Int))×(List (List Zz))×(List (List Zq))×(List Zf)×Int ->Option (Zb×(List Zj)×(List Int)):=fun(v44,v49,v57,v60,v63,v66,v69,v72)=>
 ZaK (v44,v49,Y2 (v21 + 1),v57,v60,v63,v66,v69,v72)
def Zod (F:Nat) (p1:(List ZF)):(List Zj)×(List Int)×Int×(List Int)×(List (List Int))×(List (List Zz))×(List (List Zq))×(List Zf)×Int ->((List Zj)×(List Int)×Int×(List Int)×(List (List Int))×(List (List Zz))×(List (List Zq))×(List Zf)×Int ->Option (Zb×(List Zj)×(List Int))) ->Option (Zb×(List Zj)×(List Int)):=fun(v9,v14,v21,v23,v26,v29,v32,v35,v38) ZaK=>
 (bif decide (v21 < (p1.length:Int)) then(ZL p1 v21).bind fun x73=>(Zs7 (Zb.mk v23 v26 v29 v32 v35 v38) x73).bind fun x79=>(bif(!x79) then(K9 v21 ZaK) (v9,v14,v23,v26,v29,v32,v35,v38) else(ZwG F (Zb.mk v23 v26 v29 v32 v35 v38) x73).bind fun x80=>(bif(x80.2.2==0) then(app 40 v9 x80.2.1).bind fun z117=>(app 8 v14 [v21]).bind fun Zxu=>(K9 v21 ZaK) (z117,Zxu,x80.1.Zx,x80.1.qK,x80.1.qQ,x80.1.qJ,x80.1.qG,x80.1.said) else(K9 v21 ZaK) (v9,v14,v23,v26,v29,v32,v35,v38))) else some ((Zb.mk v23 v26 v29 v32 v35 v38),v9,v14))
def ZBQ (F:Nat) (p0:Zb) (p1:(List ZF)):Option (Zb×(List Zj)×(List Int)):=
 loop F (Zod F p1) ([],[],0,p0.Zx,p0.qK,p0.qQ,p0.qJ,p0.qG,p0.said)
end Go.Proofs.YtbmbbcaaimehkaaGreat
end
