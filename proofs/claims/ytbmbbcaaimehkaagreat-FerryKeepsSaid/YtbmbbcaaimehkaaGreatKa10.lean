/- Keeps Part 10 of the proof. -/
import Derived.Shelf.Sort.Plain
import Derived.Test.YtbmbbcaaimehkaaGreatKa9
set_option linter.all false
set_option maxHeartbeats 2000000
section
noncomputable section
namespace Go.YL
open Go.Lf
def ZBC (P:Program) (f:FuncId):Prop:=∀ (blk off cap:Nat) (zs:List Int) (w:World),Go.Sort.Holds (Value.int .i64) w blk off zs.toArray ->blk < w.heap.size ->zs.length < 4611686018427387904 ->
 Calls P f #[.slice (some ⟨blk,off,none⟩) zs.length cap] w fun e w'=>e= .returned (.tuple #[])∧∃ n os,w'=Go.Sort.grow (Go.Sort.putRow (Value.int .i64) (Go.Sort.ahead w n) blk off (zs.mergeSort fun x y=>decide (x <=y)).toArray) os
def Zao (cs:List Value) (o:Nat) (ys:List Int):List Value:=cs.mapIdx fun k x=>if o <=k∧k < o + ys.length then .int .i64 (ys.getD (k - o) 0) else x
theorem ZdK (cs:List Value) (o:Nat) (ys:List Int):(Zao cs o ys).length=cs.length:=by simp [Zao]
theorem Zir (cs:List Value) (o:Nat) (ys:List Int) (k:Nat):(Zao cs o ys)[k]? =cs[k]?.map fun x=>if o <=k∧k < o + ys.length then .int .i64 (ys.getD (k - o) 0) else x:=by simp [Zao]
variable {X:Ctx} {f:FuncId} {wm wm0:Nat} {h:H} {i o c:Nat} {cs:List Value} {xs:List Int}
theorem Zxm (he:QM (Zu .i64) wm0 h cs o xs) {j:Nat} (hj:j < xs.length):cs[o + j]? =some (.int .i64 xs[j]):=by
 obtain⟨q,h1,_⟩:=he.get j xs[j] (List.getElem?_eq_getElem hj);have h1:(cs.drop (o + j * 1)).take 1= [.int .i64 xs[j]]:=h1;rw [Nat.mul_one] at h1;have:=congrArg (fun l=>l[0]?) h1
 simpa [List.getElem?_take,List.getElem?_drop] using this
theorem Zw0 (SC:ZBC X.P f) (hat:h.at i= .row cs true 1) (hw:wm <=i) (he:QM (Zu .i64) wm0 h cs o xs) (hne:0 < xs.length) (hlen:xs.length < 4611686018427387904):
 YN X (.call f #[.slice (some ⟨i,o,none⟩) xs.length c] wm h) (.fin (.ret (.tuple #[])) (h.put i (.row (Zao cs o (xs.mergeSort fun x y=>decide (x <=y))) true 1))):=by
 intro ρ args' w Z0 rel hv;obtain⟨hsz,hvv⟩:=hv;have hsz:args'.size=1:=hsz.symm
 obtain⟨v',rfl⟩:∃ v',args'=#[v']:= ⟨args'[0],by
  apply Array.ext
  ·simpa using hsz
  ·intro k h1 h2;have:k=0:=by omega
   subst this;rfl⟩
 have hvr:=hvv 0 _ _ rfl rfl;generalize hn:xs.length=n at hvr;cases hvr with
 | XK=>omega
 | @slice _ b d _ _ _ c' hρ hc=>
   subst hn;have hb:= (rel.dom i b d hρ).2;have hil:= (rel.dom i b d hρ).1;have hob:=rel.obj i b d hρ;rw [hat] at hob;obtain⟨cc,el,fz,hcc,hfz,hdl,hcv⟩:=hob;obtain⟨ZRP,ZRO⟩:=hfz rfl;subst ZRP;have ZUv:o + xs.length * 1 <=cs.length:=he.len
   have hcell:∀ j (hj:j < xs.length),cc[d + (o + j)]? =some (.int .i64 xs[j]):=fun j hj=>by
    have hk:d + (o + j) < cc.size:=by omega
    have:=hcv (o + j) _ cc[d + (o + j)] (Zxm he hj) (Array.getElem?_eq_getElem hk);rw [Array.getElem?_eq_getElem hk];cases hx:cc[d + (o + j)] <;> rw [hx] at this <;> cases this
    rfl
   have hH:Go.Sort.Holds (Value.int .i64) w b (d + o) xs.toArray:=by
    intro j hj;have hj':j < xs.length:=by simpa using hj
    refine⟨?_,by simp [World.frozen?,hcc]⟩;have h1:=hcell j hj';simp only [World.cell?,hcc];simp only [Option.isSome_none,Bool.false_eq_true,if_false];rw [show d + o + j=d + (o + j) by omega,h1];simp [hj']
   refine callsIn_wide.2 ((SC b (d + o) c' xs w hH hb hlen).mono ?_);rintro e w' ⟨rfl,n,os,rfl⟩;generalize hys:(xs.mergeSort fun x y=>decide (x <=y))=ys;have hyl:ys.length=xs.length:=by rw [← hys,List.length_mergeSort]
   have hheap:∀ b',b' < w.heap.size ->(Go.Sort.grow (Go.Sort.putRow (Value.int .i64) (Go.Sort.ahead w n) b (d + o) ys.toArray) os).heap[b']? =if b=b' then(w.heap[b']?).map (Go.Sort.onCells (Go.Sort.putCells (Value.int .i64) (d + o) ys.toArray)) else w.heap[b']?:=fun b' hb'=>by
    have hs:b' < (w.heap.modify b (Go.Sort.onCells (Go.Sort.putCells (Value.int .i64) (d + o) ys.toArray))).size:=by simpa using hb'
    simp only [Go.Sort.grow,Go.Sort.putRow,Go.Sort.mapBlock,Go.Sort.ahead];rw [Array.getElem?_append_left hs,Array.getElem?_modify]
   have hsame:∀ b',b' < w.heap.size ->b' ≠ b ->(Go.Sort.grow (Go.Sort.putRow (Value.int .i64) (Go.Sort.ahead w n) b (d + o) ys.toArray) os).heap[b']? =w.heap[b']?:=fun b' hb' hne'=>by rw [hheap b' hb',if_neg (fun q=>hne' q.symm)]
   have hsize:w.heap.size <= (Go.Sort.grow (Go.Sort.putRow (Value.int .i64) (Go.Sort.ahead w n) b (d + o) ys.toArray) os).heap.size:=by simp [Go.Sort.grow,Go.Sort.putRow,Go.Sort.mapBlock,Go.Sort.ahead]
   have hat':∀ j,(h.put i (.row (Zao cs o ys) true 1)).at j=if j=i then .row (Zao cs o ys) true 1 else h.at j:=fun j=>by
    rw [H.XQ];by_cases e:j=i
    ·subst e;rw [if_pos ⟨rfl,hil⟩,if_pos rfl]
    ·rw [if_neg (fun q=>e q.1),if_neg e]
   have ZMf:∀ j d',ρ j=some (b,d') ->j ≠ i ->(h.at j).live=false:=fun j d' hj hji=>by
    cases hl:(h.at j).live with
    | false=>rfl
    | true=>exact absurd (rel.inj i j b d d' hρ hj (by rw [hat];rfl) hl).symm hji
   refine⟨ρ,.ret (.tuple _ _ rfl fun k v v' e=>by simp at e),⟨fun j b' d' hj=>⟨(rel.dom j b' d' hj).1,Nat.lt_of_lt_of_le (rel.dom j b' d' hj).2 hsize⟩,fun j b' d' hj=>?_,fun j k b' d1 d2 h1 h2 h3 h4=>?_⟩,?_⟩
   ·rw [hat'];by_cases e:j=i
    ·subst e;rw [hρ] at hj;cases hj;rw [if_pos rfl];refine⟨Go.Sort.putCells (Value.int .i64) (d + o) ys.toArray cc,el,(0,0),?_,fun _=>⟨rfl,fun hz=>?_⟩,?_,fun k v v' e1 e2=>?_⟩
     ·rw [hheap b hb,if_pos rfl,hcc];rfl
     ·rw [ZRO hz];simp [Go.Sort.putCells]
     ·rw [ZdK];simpa [Go.Sort.putCells] using hdl
     ·rw [Zir] at e1;obtain⟨v0,e0,rfl⟩:=Option.map_eq_some_iff.1 e1;have hkl:k < cs.length:= (Li0 e0).1;have hkc:d + k < cc.size:=by omega
      have e3:(Go.Sort.putCells (Value.int .i64) (d + o) ys.toArray cc)[d + k]? =some (if d + o <=d + k∧d + k < d + o + ys.length then .int .i64 ys.toArray[d + k - (d + o)]! else cc[d + k]):=by
       simp [Go.Sort.putCells,Array.getElem?_eq_getElem hkc]
      rw [e3] at e2;cases e2;by_cases hin:o <=k∧k < o + ys.length
      ·rw [if_pos hin,if_pos (by omega)]
       have:ys.toArray[d + k - (d + o)]! =ys.getD (k - o) 0:=by
        rw [show d + k - (d + o)=k - o by omega];have hlt:k - o < ys.length:=by omega
        simp [hlt]
       rw [this];exact .int _ _
      ·rw [if_neg hin,if_neg (by omega)];exact hcv k v0 _ e0 (Array.getElem?_eq_getElem hkc)
    ·rw [if_neg e];by_cases eb:b'=b
     ·subst eb;have:=ZMf j d' hj e;cases hh:h.at j with
      | dead=>trivial
      | row _ _ _=>rw [hh] at this;cases this
      | map _ _=>rw [hh] at this;cases this
      | loop _ _ _ _ _ _ _ _=>rw [hh] at this;cases this
      | deferred=>rw [hh] at this;cases this
      | ZcR _ _=>rw [hh] at this;cases this
      | iter _ _ _ _=>rw [hh] at this;cases this
      | ZeQ=>rw [hh] at this;cases this
     ·exact(rel.obj j b' d' hj).world (hsame b' (rel.dom j b' d' hj).2 eb)
   ·rw [hat'] at h3 h4;refine rel.inj j k b' d1 d2 h1 h2 ?_ ?_
    ·by_cases e:j=i
     ·subst e;rw [hat];rfl
     ·rwa [if_neg e] at h3
    ·by_cases e:k=i
     ·subst e;rw [hat];rfl
     ·rwa [if_neg e] at h4
   ·refine⟨Ren.le_refl ρ,Nat.le_refl _,fun j hj=>?_,fun j hj hx=>?_,fun j hj hx=>?_,rfl,rfl,rfl,hsize,fun b' hb' hno=>?_,fun j b' d' e e'=>by rw [e] at e';cases e'⟩
    ·rw [hat',if_neg (by omega)]
    ·rw [hat'] at hx;by_cases e:j=i
     ·subst e;rw [hat];rfl
     ·rwa [if_neg e] at hx
    ·rw [hat'] at hx;by_cases e:j=i
     ·subst e;rw [hat];rfl
     ·rwa [if_neg e] at hx
    ·exact hsame b' hb' fun q=>hno i d hw (by rw [q];exact hρ) (by rw [hat];rfl)
theorem ZCv (SC:ZBC X.P f) (H0:∀ (wm:Nat) (h:H) (a:Option Addr) (c:Nat),YN X (.call f #[.slice a 0 c] wm h) (.fin (.ret (.tuple #[])) h)) {a:Option Addr} {n:Nat} (hlen:xs.length < 4611686018427387904)
 (Z0:wm <=h.size) (hO:Yh (wm:=wm) [ow wm (Zu .i64) a n c xs] h):
 WR X f #[.slice a n c] wm h (CP (fun(v:Value) (Gb:List (Ast wm))=>v= .tuple [].toArray∧Gb= [ow wm (Zu .i64) a n c (xs.mergeSort fun x y=>decide (x <=y))]) [ow wm (Zu .i64) a n c xs] h):=by
 have hP:(ow wm (Zu .i64) a n c xs).P h:=hO.all _ (by simp);obtain⟨hn,so⟩:=hP;have s0:Sp wm (Qg [ow wm (Zu .i64) a n c xs]) h [ow wm (Zu .i64) a n c xs] h:=Sp.start Z0 hO
 have empty:xs= [] ->WR X f #[.slice a n c] wm h (CP (fun(v:Value) (Gb:List (Ast wm))=>v= .tuple [].toArray∧Gb= [ow wm (Zu .i64) a n c (xs.mergeSort fun x y=>decide (x <=y))]) [ow wm (Zu .i64) a n c xs] h):=fun e=>by
  subst e;have hn:n=0:=hn;subst hn;exact⟨_,h,⟨_,rfl,_,⟨rfl,rfl⟩,by simpa using s0⟩,H0 wm h a c⟩
 rcases so.mem with⟨_,_,h3⟩ | ⟨i,o,cs,rfl,h2,h3,h4,h5,h6⟩
 ·exact empty h3
 ·rcases Nat.eq_zero_or_pos xs.length with z | z
  ·exact empty (List.length_eq_zero_iff.1 z)
  ·subst hn;have h3:h.at i= .row cs true 1:=h3;have hj:=Zw0 (c:=c) SC h3 h2 h6 z hlen;refine⟨_,_,⟨_,rfl,_,⟨rfl,rfl⟩,?_⟩,hj⟩;have hil:i < h.size:=XB h3 rfl
   have hu:Up wm (Xv (some ⟨i,o,none⟩)) h (h.put i (.row (Zao cs o (xs.mergeSort fun x y=>decide (x <=y))) true 1)):=
    let u:=Up.put (lo:=wm) (A:= .row (Zao cs o (xs.mergeSort fun x y=>decide (x <=y))) true 1) h2 (show(h.at i).own=true by rw [h3];rfl)
    ⟨u.size,fun j hj hn=>u.keep j hj fun e=>hn ⟨o,by rw [e]⟩,fun j ⟨o',e⟩=>by cases e;exact⟨h2,by rw [h3];rfl⟩⟩
   refine s0.one .z hu (fun j q=>q) ⟨?_,?_,.inr ⟨i,o,_,rfl,h2,Yy hil _,?_,?_,?_⟩⟩ fun j q=>.inl q
   ·rw [List.length_mergeSort]
   ·rw [List.length_mergeSort];exact so.max
   ·rw [List.length_mergeSort];exact h4
   ·rw [ZdK];exact h5
   ·refine⟨?_,fun k x hk=>⟨(),?_,trivial⟩⟩
    ·rw [ZdK,List.length_mergeSort];exact h6.len
    ·have hkl:k < (xs.mergeSort fun x y=>decide (x <=y)).length:= (Li0 hk).1;have hl:o + xs.length * 1 <=cs.length:=h6.len;have ZXk:k < xs.length:=by rwa [List.length_mergeSort] at hkl
     show((Zao cs o _).drop (o + k * 1)).take 1= [.int .i64 x];rw [Nat.mul_one];apply List.ext_getElem?;intro j;cases j with
     | zero=>
       rw [List.getElem?_take_of_lt (by omega),List.getElem?_drop,Nat.add_zero,Zir,List.getElem?_eq_getElem (show o + k < cs.length by omega)];simp only [Option.map_some,List.getElem?_cons_zero];rw [if_pos (by omega),show o + k - o=k by omega,List.getD_eq_getElem?_getD,hk];rfl
     | succ j=>rw [List.getElem?_take_eq_none (by omega)];simp
end Go.YL
end
end
section
set_option maxRecDepth 100000
noncomputable section
namespace Go.Proofs.YtbmbbcaaimehkaaGreat
open Go.YL Go.Lf
def ZG0:Go.Shelf.Ren:= ⟨fun | 189=>94 | 125=>108 | 257=>107 | 128=>119 | 129=>120 | 294=>110 | 295=>111 | 296=>112 | 297=>113 | 298=>114 | 299=>115 | 216=>116 | 300=>117 | 301=>118 | 328=>121 | 329=>122 | 330=>123 | 331=>124 | 332=>125 | 215=>126 | 343=>127 | n=>n,fun | 28=>22 | 3=>3 | 46=>155 | 0=>0 | 51=>165 | 53=>167 | 4=>4 | 183=>159 | 182=>158 | 131=>69 | 5=>5 | 9=>9 | 218=>168 | 222=>172 | 228=>174 | 229=>175 | n=>n,fun n=>n⟩
theorem ZLh:Lays.n189 Tryz.prog ZG0:= {
 mixed:=by kernel_rfl,
 f125:=Tryz.func108.trans (congrArg some Kq0),
 f128:=Tryz.func119.trans (congrArg some Kq0),
 f129:=Tryz.func120.trans (congrArg some Kq0),
 f189:=Tryz.func94.trans (congrArg some Kq0),
 f215:=Tryz.func126.trans (congrArg some Kq0),
 f216:=Tryz.func116.trans (congrArg some Kq0),
 f257:=Tryz.func107.trans (congrArg some Kq0),
 f294:=Tryz.func110.trans (congrArg some Kq0),
 f295:=Tryz.func111.trans (congrArg some Kq0),
 f296:=Tryz.func112.trans (congrArg some Kq0),
 f297:=Tryz.func113.trans (congrArg some Kq0),
 f298:=Tryz.func114.trans (congrArg some Kq0),
 f299:=Tryz.func115.trans (congrArg some Kq0),
 f300:=Tryz.func117.trans (congrArg some Kq0),
 f301:=Tryz.func118.trans (congrArg some Kq0),
 f328:=Tryz.func121.trans (congrArg some Kq0),
 f329:=Tryz.func122.trans (congrArg some Kq0),
 f330:=Tryz.func123.trans (congrArg some Kq0),
 f331:=Tryz.func124.trans (congrArg some Kq0),
 f332:=Tryz.func125.trans (congrArg some Kq0),
 f343:=Tryz.func127.trans (congrArg some Kq0),
 t0:=Tryz.underlying0,
 a0:=Tryz.isAgg0,
 z0:=Tryz.sizeOf0,
 v0:=Tryz.zeroValue0,
 t3:=Tryz.underlying3,
 a3:=Tryz.isAgg3,
 z3:=Tryz.sizeOf3,
 v3:=Tryz.zeroValue3,
 t4:=Tryz.underlying4,
 a4:=Tryz.isAgg4,
 z4:=Tryz.sizeOf4,
 v4:=Tryz.zeroValue4,
 t5:=Tryz.underlying5,
 a5:=Tryz.isAgg5,
 z5:=Tryz.sizeOf5,
 v5:=Tryz.zeroValue5,
 t9:=Tryz.underlying9,
 a9:=Tryz.isAgg9,
 z9:=Tryz.sizeOf9,
 v9:=Tryz.zeroValue9,
 t28:=Tryz.underlying22,
 a28:=Tryz.isAgg22,
 z28:=Tryz.sizeOf22,
 v28:=Tryz.zeroValue22,
 t46:=Tryz.underlying155,
 a46:=Tryz.isAgg155,
 z46:=Tryz.sizeOf155,
 v46:=Tryz.zeroValue155,
 t51:=Tryz.underlying165,
 a51:=Tryz.isAgg165,
 z51:=Tryz.sizeOf165,
 v51:=Tryz.zeroValue165,
 t53:=Tryz.underlying167,
 a53:=Tryz.isAgg167,
 z53:=Tryz.sizeOf167,
 v53:=Tryz.zeroValue167,
 t131:=Tryz.underlying69,
 a131:=Tryz.isAgg69,
 z131:=Tryz.sizeOf69,
 v131:=Tryz.zeroValue69,
 t182:=Tryz.underlying158,
 a182:=Tryz.isAgg158,
 z182:=Tryz.sizeOf158,
 v182:=Tryz.zeroValue158,
 t183:=Tryz.underlying159,
 a183:=Tryz.isAgg159,
 z183:=Tryz.sizeOf159,
 v183:=Tryz.zeroValue159,
 t218:=Tryz.underlying168,
 a218:=Tryz.isAgg168,
 z218:=Tryz.sizeOf168,
 v218:=Tryz.zeroValue168,
 t222:=Tryz.underlying172,
 a222:=Tryz.isAgg172,
 z222:=Tryz.sizeOf172,
 v222:=Tryz.zeroValue172,
 t228:=Tryz.underlying174,
 a228:=Tryz.isAgg174,
 z228:=Tryz.sizeOf174,
 v228:=Tryz.zeroValue174,
 t229:=Tryz.underlying175,
 a229:=Tryz.isAgg175,
 z229:=Tryz.sizeOf175,
 v229:=Tryz.zeroValue175}
theorem ZKK:ZBC XX.P 94:=fun blk off cap zs w h1 h2 h3=>Any.slices_Sort_int ZLh blk off cap zs w h1 h2 h3
theorem ZwZ (wm:Nat) (h:H) (a:Option Addr) (c:Nat):YN XX (.call 94 #[.slice a 0 c] wm h) (.fin (.ret (.tuple #[])) h):=by
 have e:ev (cfg XX fun _=>false) 100 (.call 94 #[.slice a 0 c] wm h)=some (.fin (.ret (.tuple #[])) h):=Kq0
 exact ZfI (X:=XX) mixed 100 _ _ e
theorem ZAm {wm:Nat} {h:H} {p0:List Int} {Zi:Option Addr} {Zh XT:Nat} {r:List Int} (Z0:wm <=h.size) (hO:Yh (wm:=wm) [ow wm (Zu .i64) Zi XT Zh p0] h) (hL:Zr8 p0=some r):
 WR XX 94 #[.slice Zi XT Zh] wm h (CP (fun(v:Value) (Gb:List (Ast wm))=>v= .tuple [].toArray∧Gb= [ow wm (Zu .i64) Zi XT Zh r]) [ow wm (Zu .i64) Zi XT Zh p0] h):=by
 unfold Zr8 at hL;cases hb:Nat.ble p0.length 1000000 with
 | false=>rw [hb] at hL;cases hL
 | true=>
   rw [hb] at hL;cases hL;have:=Nl0 hb;exact ZCv ZKK ZwZ (by omega) Z0 hO
end Go.Proofs.YtbmbbcaaimehkaaGreat
end
end
section
namespace Go.Proofs.YtbmbbcaaimehkaaGreat
open Go.Lf
def ZjB (v17:Int) (Wn:(Int×Int×Int×Bool×Int ->Option (Yo×Int))):Int×Int×Bool×Int ->Option (Yo×Int):=fun(v29,v34,v35,v36)=>
 Wn (v29,Xd (v17 + 1),v34,v35,v36)
def Zge (v58:Int) (Zcb:(Int×Int×Int×Bool×Int ->Option (Yo×Int))):Int×Int×Bool×Int ->Option (Yo×Int):=fun(v69,v74,v75,v76)=>
 Zcb (v69,Xd (v58 + 1),v74,v75,v76)
def ZjA (ZbI:Int) (ZcX:(Int×Int×Int×Bool×Int ->Option (Yo×Int))):Int×Int×Bool×Int ->Option (Yo×Int):=fun(Zeq,Zl2,ZCj,ZCi)=>
 ZcX (Zeq,Xd (ZbI + 1),Zl2,ZCj,ZCi)
def Zm9 (p1:Int) (v58:Int) (Zcb:(Int×Int×Int×Bool×Int ->Option (Yo×Int))) (x77:Zd):Int×Int×Int×Bool×Int ->(Int×Int×Int×Bool×Int ->Option (Yo×Int)) ->Option (Yo×Int):=fun(v92,ZbI,Zam,Zoy,WG) ZcX=>
 (bif decide (ZbI < (x77.qV.length:Int)) then(ZT x77.qV ZbI).bind fun ZkD=>(bif(ZkD==p1) then(ZT x77.Yj ZbI).bind fun ZuG=>(ZjA ZbI ZcX) (Xd (v92 + 1),x77.Z9,false,ZuG) else(ZjA ZbI ZcX) (v92,Zam,Zoy,WG)) else(Zge v58 Zcb) (v92,Zam,Zoy,WG))
def ZjC (F:Nat) (p0:Zb) (p1:Int):Int×Int×Int×Bool×Int ->(Int×Int×Int×Bool×Int ->Option (Yo×Int)) ->Option (Yo×Int):=fun(v54,v58,v60,v61,v62) Zcb=>
 (bif decide (v58 < (p0.qG.length:Int)) then(ZT p0.qG v58).bind fun x77=>(bif(x77.kind !=2) then(Zge v58 Zcb) (v54,v60,v61,v62) else loop F (Zm9 p1 v58 Zcb x77) (v54,0,v60,v61,v62)) else some ((Yo.mk v60 v61 v62),v54))
def Zna (F:Nat) (p0:Zb) (p1:Int):Int×Int×Int×Bool×Int ->(Int×Int×Int×Bool×Int ->Option (Yo×Int)) ->Option (Yo×Int):=fun(v13,v17,v19,v20,v21) Wn=>
 (bif decide (v17 < (p0.qQ.length:Int)) then(ZT p0.qQ v17).bind fun x37=>(ZT x37 p1).bind fun x42=>(bif x42.here then(ZT x37 p1).bind fun Wi=>(ZjB v17 Wn) (Xd (v13 + 1),v17,true,Wi.age) else(ZjB v17 Wn) (v13,v19,v20,v21)) else loop F (ZjC F p0 p1) (v13,0,v19,v20,v21))
def Zd1 (F:Nat) (p0:Zb) (p1:Int):Option (Yo×Int):=
 loop F (Zna F p0 p1) (0,0,0,false,0)
def Zgc (p0:Zb) (v23:Int) (KU:(Int ->Option Bool)):Int×Int ->(Int×Int ->Option Bool) ->Option Bool:=fun(v33,v35) ZiI=>
 (bif decide (v35 >=0) then(bif decide ((Xd (v33 + 1)) > (p0.Zv.length:Int)) then some false else(ZT p0.Zv v35).bind fun x41=>(gd (!(decide (x41 < (-1)))) (ZT p0.Zv v35) default).bind fun x44=>(bif((decide (x41 < (-1))) || (decide (x44 >= (p0.Zv.length:Int)))) then some false else(ZT p0.Zv v35).bind fun x47=>ZiI (Xd (v33 + 1),x47))) else KU (Xd (v23 + 1)))
def Zgd (F:Nat) (p0:Zb):Int ->(Int ->Option Bool) ->Option Bool:=fun v23 KU=>
 (bif decide (v23 < (p0.Zv.length:Int)) then(ZT p0.Zv v23).bind fun Kz=>(bif((decide (Kz < (-1))) || (decide (Kz >= (p0.Zv.length:Int)))) then some false else loop F (Zgc p0 v23 KU) (0,v23)) else some true)
def Zjz (F:Nat) (p0:Zb):Int ->(Int ->Option Bool) ->Option Bool:=fun v9 ZiL=>
 (bif decide (v9 < (p0.qQ.length:Int)) then(ZT p0.qQ v9).bind fun x12=>(bif((x12.length:Int) != (p0.Zv.length:Int)) then some false else ZiL (Xd (v9 + 1))) else loop F (Zgd F p0) 0)
def ZAw (F:Nat) (p0:Zb):Option Bool:=
 (bif((((((decide ((p0.qQ.length:Int) < 1)) || (decide ((p0.qQ.length:Int) > 5))) || (decide ((p0.Zv.length:Int) < 1))) || (decide ((p0.Zv.length:Int) > 8))) || ((p0.qK.length:Int) != (p0.Zv.length:Int))) || ((p0.qJ.length:Int) != (p0.qQ.length:Int))) then some false else loop F (Zjz F p0) 0)
def Zbj (v8:Int) (Ue:(Int ->Option Bool)):Unit ->Option Bool:=fun _=>
 Ue (Xd (v8 + 1))
def Zd0 (p0:Zb) (v8:Int) (Ue:(Int ->Option Bool)) (JU:Zd):Int ->(Int ->Option Bool) ->Option Bool:=fun v46 ZiH=>
 (bif decide (v46 < (JU.qV.length:Int)) then(ZT JU.qV v46).bind fun x49=>(gd ((!((decide (x49 < 0)) || (decide (x49 >= (p0.Zv.length:Int))))) && (decide (v46 > 0))) (ZT JU.qV (Xd (v46 - 1))) default).bind fun x52=>(gd (!(((decide (x49 < 0)) || (decide (x49 >= (p0.Zv.length:Int)))) || ((decide (v46 > 0)) && (decide (x49 <=x52))))) (ZT JU.Yj v46) default).bind fun x55=>(gd (!((((decide (x49 < 0)) || (decide (x49 >= (p0.Zv.length:Int)))) || ((decide (v46 > 0)) && (decide (x49 <=x52)))) || (decide (x55 < 1)))) (ZT JU.Yj v46) default).bind fun x58=>(bif(((((decide (x49 < 0)) || (decide (x49 >= (p0.Zv.length:Int)))) || ((decide (v46 > 0)) && (decide (x49 <=x52)))) || (decide (x55 < 1))) || (decide (x58 > 30))) then some false else ZiH (Xd (v46 + 1))) else(Zbj v8 Ue) ())
def ZdZ (F:Nat) (p0:Zb) (v8:Int) (Ue:(Int ->Option Bool)) (JU:Zd):Bool ->Option Bool:=fun v35=>
 (bif v35 then(Zbj v8 Ue) () else(bif(JU.kind==2) then(bif((decide ((JU.qV.length:Int) < 1)) || ((JU.Yj.length:Int) != (JU.qV.length:Int))) then some false else loop F (Zd0 p0 v8 Ue JU) 0) else some false))
def Zaq (F:Nat) (p0:Zb):Int ->(Int ->Option Bool) ->Option Bool:=fun v8 Ue=>
 (bif decide (v8 < (p0.qG.length:Int)) then(ZT p0.qG v8).bind fun JU=>(bif(JU.kind==1) then(ZdZ F p0 v8 Ue JU) (JU.kind==1) else(ZdZ F p0 v8 Ue JU) (JU.kind==3)) else some true)
def ZvJ (F:Nat) (p0:Zb):Option Bool:=
 loop F (Zaq F p0) 0
def Zm8 (v33:Int) (Zmn:((List Int)×Int ->Option Bool)) (x36:(List Zr)):(List Int)×Int ->((List Int)×Int ->Option Bool) ->Option Bool:=fun(v44,v54) ZxS=>
 (bif decide (v54 < (x36.length:Int)) then(ZT x36 v54).bind fun x57=>(app 8 v44 [x57.msg]).bind fun z65=>ZxS (z65,Xd (v54 + 1)) else Zmn (v44,Xd (v33 + 1)))
def Zju (v79:Int) (ZfT:((List Int)×Int ->Option Bool)):(List Int) ->Option Bool:=fun v85=>
 ZfT (v85,Xd (v79 + 1))
def Zbi (p0:ZX) (Zel:(List Int)):Int ->(Int ->Option Bool) ->Option Bool:=fun ZaA Ztz=>
 (bif decide (ZaA < (Zel.length:Int)) then(ZT Zel ZaA).bind fun ZdD=>(bif(ZdD !=ZaA) then some false else Ztz (Xd (ZaA + 1))) else some ((Zel.length:Int)==p0.Za.said))
def Zjv (F:Nat) (p0:ZX):(List Int)×Int ->((List Int)×Int ->Option Bool) ->Option Bool:=fun(v72,v79) ZfT=>
 (bif decide (v79 < (p0.Za.qG.length:Int)) then(ZT p0.Za.qG v79).bind fun x93=>(bif(x93.kind==1) then(app 8 v72 [x93.Ya.msg]).bind fun z105=>(Zju v79 ZfT) z105 else(Zju v79 ZfT) v72) else(Zr8 v72).bind fun Zel=>loop F (Zbi p0 Zel) 0)
def Zjw (F:Nat) (p0:ZX):(List Int)×Int ->((List Int)×Int ->Option Bool) ->Option Bool:=fun(v26,v33) Zmn=>
 (bif decide (v33 < (p0.Za.qJ.length:Int)) then(ZT p0.Za.qJ v33).bind fun x36=>loop F (Zm8 v33 Zmn x36) (v26,0) else loop F (Zjv F p0) (v26,0))
def Zjx (F:Nat) (p0:ZX):(List Int)×Int ->((List Int)×Int ->Option Bool) ->Option Bool:=fun(v4,v11) JS=>
 (bif decide (v11 < (p0.Za.qK.length:Int)) then(ZT p0.Za.qK v11).bind fun x14=>(app 8 v4 x14).bind fun z19=>JS (z19,Xd (v11 + 1)) else loop F (Zjw F p0) (v4,0))
def ZvH (F:Nat) (p0:ZX):Option Bool:=
 (bif((decide (p0.Za.said < 0)) || (decide (p0.Za.said > 40))) then some false else loop F (Zjx F p0) ([],0))
end Go.Proofs.YtbmbbcaaimehkaaGreat
end
section
set_option maxRecDepth 20000
noncomputable section
namespace Go.Proofs.YtbmbbcaaimehkaaGreat
open Go.YL Go.Lf
theorem Zcr {F wm:Nat} {h:H} {p0:Zb} {p1:Int} {Zi:Option Addr} {Zh:Nat} {Zk:Option Addr} {Zj:Nat} {Zq:Option Addr} {Zn:Nat} {Zp:Option Addr} {Zm:Nat} {Zo:Option Addr} {Zl:Nat} {r:(Yo×Int)} (Z0:wm <=h.size) (ZB:Sl (Zu .i64) wm h Zi Zh p0.Zv) (ZN:Sl (ZM (Zu .i64)) wm h Zk Zj p0.qK) (ZL:Sl (ZM Zc) wm h Zq Zn p0.qQ) (ZO:Sl (ZM Zg) wm h Zp Zm p0.qJ) (ZJ:Sl Ze wm h Zo Zl p0.qG) (hL:Zd1 F p0 p1=some r):
 WR XX 67 #[.agg [.slice Zi p0.Zv.length Zh,.slice Zk p0.qK.length Zj,.slice Zq p0.qQ.length Zn,.slice Zp p0.qJ.length Zm,.slice Zo p0.qG.length Zl,.int .i64 p0.said].toArray,.int .i64 p1] wm h (CP (fun(v:Value) (Gb:List (Ast wm))=>v= .tuple [.agg [.int .i64 r.1.machine,.bool r.1.here,.int .i64 r.1.age].toArray,.int .i64 r.2].toArray∧Gb= []) [] h):=by
 refine bg Tryz.ntmps67 Z0 Yh.nil ?_;intro T hT hS;unfold Zd1 at hL;refine r3 ?_;rintro _ h2 ⟨b1,eb1,rfl,hS⟩;refine r1 ?_;rintro _ h4 ⟨b3,eb3,rfl,hS⟩;refine r6 ?_;rintro _ h6 ⟨b5,eb5,rfl,hS⟩;refine r16 ?_;refine r1 ?_;refine WC.loop (WL.lift hL (fun(p:Int×Int×Int×Bool×Int) (s:Fs)=>match p with | (v13,v17,v19,v20,v21)=>∃ (fr8:Fr) (h7:H),s= ⟨fr8,[],h7,none⟩∧Sp wm T h [bx wm b1 (cW p0 Zi Zh Zk Zj Zq Zn Zp Zm Zo Zl),bx wm b3 [.int .i64 0,.bool false,.int .i64 0],bx wm b5 [.int .i64 v19,.bool v20,.int .i64 v21]] h7∧fr8.at 1= .int .i64 p1∧fr8.at 2= .pointer (some ⟨b1,0,none⟩)∧fr8.at 4= .pointer (some ⟨b3,0,none⟩)∧fr8.at 6= .pointer (some ⟨b5,0,none⟩)∧fr8.at 7= .int .i64 v13∧fr8.at 15= .slice Zq p0.qQ.length Zn∧fr8.at 16= .int .i64 (p0.qQ.length:Int)∧fr8.at 17= .int .i64 v17) ⟨_,_,rfl,hS.only (.c k2 (.c k1 (.c k0 .n))),YA⟩ ?_);clear hL hS;rintro Wn ⟨v13,v17,v19,v20,v21⟩ s ZmI hL ⟨fr8,h7,rfl,hS,e9,e10,e11,e12,e14,e15,e16,e18⟩;dsimp only [Zna] at hL;refine r6 ?_;refine cn hL ?_ ?_
 ·intro hc hL;refine r2 ?_;refine WC.Za5 (r:=r) (fun(p:Int×Int×Bool×Int) (s:Fs)=>match p with | (v29,v34,v35,v36)=>∃ (U2:Fr) (h23:H),s= ⟨U2,[],h23,none⟩∧Sp wm T h [bx wm b1 (cW p0 Zi Zh Zk Zj Zq Zn Zp Zm Zo Zl),bx wm b3 [.int .i64 0,.bool false,.int .i64 0],bx wm b5 [.int .i64 v34,.bool v35,.int .i64 v36]] h23∧U2.at 1= .int .i64 p1∧U2.at 2= .pointer (some ⟨b1,0,none⟩)∧U2.at 4= .pointer (some ⟨b3,0,none⟩)∧U2.at 6= .pointer (some ⟨b5,0,none⟩)∧U2.at 7= .int .i64 v29∧U2.at 15= .slice Zq p0.qQ.length Zn∧U2.at 16= .int .i64 (p0.qQ.length:Int)∧U2.at 17= .int .i64 v17) (ZjB v17 Wn) ?_ ?_
  ·clear hL hS;rintro⟨v29,v34,v35,v36⟩ s hL ⟨U2,h23,rfl,hS,e25,e26,e27,e28,e30,e31,e32,e33⟩;dsimp only [ZjB] at hL;refine r4 ?_;exact Yc.YZ (ZmI _ _ hL ⟨_,_,rfl,hS.only (.c k0 (.c k0 (.c k0 .n))),YA⟩)
  ·skip;refine r4 ?_;obtain⟨x37,ZdV,hL⟩:=bind_some hL;obtain⟨b38,o39,⟨a40,c41⟩,Zjc,Zjf,Zje,ZlG⟩:=Sl.at_ ZL ZdV;refine WO.w gN rfl (ZE U6 Q5 lk lk rfl Zjc ZdV) ?_;have ZpB:Sl Zc wm h a40 c41 x37:=ZlG;refine WO.w gN rfl (ZW WS (Yi fh rfl) (At.fz hS.fz Zje Zjf) (j:=0) rfl (v:= .slice a40 x37.length c41) rfl) ?_;refine r8 ?_;obtain⟨x42,Zrx,hL⟩:=bind_some hL;obtain⟨b43,o44,_,Zzd,ZzP,Zzx,ZNr⟩:=Sl.at_ ZpB Zrx;refine WO.w gN rfl (ZE U5 XD lk lk rfl Zzd Zrx) ?_;refine r1 ?_;refine WO.w gN rfl (ZW Zwb (Yi fh rfl) (At.fz hS.fz Zzx ZzP) (j:=0) rfl (v:= .bool x42.here) rfl) ?_;refine r2 ?_;refine cn hL ?_ ?_
   ·intro hc hL;refine r4 ?_;refine r1 ?_;obtain⟨Wi,Zps,hL⟩:=bind_some hL;obtain⟨b46,o47,_,ZpL,ZpS,ZpO,ZpN⟩:=Sl.at_ ZpB Zps;refine WO.w gN rfl (ZE U5 XD lk lk rfl ZpL Zps) ?_;refine r1 ?_;refine WO.w gN rfl (ZW Xn (Yi fh rfl) (At.fz hS.fz ZpO ZpS) (j:=2) rfl (v:= .int .i64 Wi.age) rfl) ?_;refine WO.w gN rfl (XP Zsz (ZG lk (ZG lk (ZG lk Yf))) rfl (cs':= [.int .i64 v17,.bool true,.int .i64 Wi.age]) rfl) ?_;refine r1 ?_;rintro h48 hS;refine r8 ?_;exact Y9.YZ _ hL ⟨_,_,rfl,hS.only (.c k1 (.c k1 (.c k0 .n))),YA⟩
   ·intro hc hL;refine r2 ?_;exact Y9.YZ _ hL ⟨_,_,rfl,hS.only (.c k0 (.c k0 (.c k0 .n))),YA⟩
 ·intro hc hL;refine XA ?_;refine r3 ?_;refine WC.loop (WL.lift hL (fun(p:Int×Int×Int×Bool×Int) (s:Fs)=>match p with | (v54,v58,v60,v61,v62)=>∃ (ZmW:Fr) (h49:H),s= ⟨ZmW,[],h49,none⟩∧Sp wm T h [bx wm b3 [.int .i64 0,.bool false,.int .i64 0],bx wm b5 [.int .i64 v60,.bool v61,.int .i64 v62]] h49∧ZmW.at 1= .int .i64 p1∧ZmW.at 4= .pointer (some ⟨b3,0,none⟩)∧ZmW.at 6= .pointer (some ⟨b5,0,none⟩)∧ZmW.at 7= .int .i64 v54∧ZmW.at 38= .slice Zo p0.qG.length Zl∧ZmW.at 39= .int .i64 (p0.qG.length:Int)∧ZmW.at 40= .int .i64 v58) ⟨_,_,rfl,hS.only (.c k1 (.c k1 .n)),YA⟩ ?_);clear hL hS;rintro Zcb ⟨v54,v58,v60,v61,v62⟩ s ZDf hL ⟨ZmW,h49,rfl,hS,e51,e52,e53,e55,e56,e57,e59⟩;dsimp only [ZjC] at hL;refine r6 ?_;refine cn hL ?_ ?_
  ·intro hc hL;refine r2 ?_;refine WC.Za5 (r:=r) (fun(p:Int×Int×Bool×Int) (s:Fs)=>match p with | (v69,v74,v75,v76)=>∃ (ZmV:Fr) (h64:H),s= ⟨ZmV,[],h64,none⟩∧Sp wm T h [bx wm b3 [.int .i64 0,.bool false,.int .i64 0],bx wm b5 [.int .i64 v74,.bool v75,.int .i64 v76]] h64∧ZmV.at 1= .int .i64 p1∧ZmV.at 4= .pointer (some ⟨b3,0,none⟩)∧ZmV.at 6= .pointer (some ⟨b5,0,none⟩)∧ZmV.at 7= .int .i64 v69∧ZmV.at 38= .slice Zo p0.qG.length Zl∧ZmV.at 39= .int .i64 (p0.qG.length:Int)∧ZmV.at 40= .int .i64 v58) (Zge v58 Zcb) ?_ ?_
   ·clear hL hS;rintro⟨v69,v74,v75,v76⟩ s hL ⟨ZmV,h64,rfl,hS,e66,e67,e68,e70,e71,e72,e73⟩;dsimp only [Zge] at hL;refine r4 ?_;exact Yc.YZ (ZDf _ _ hL ⟨_,_,rfl,hS.only (.c k0 (.c k0 .n)),YA⟩)
   ·skip;refine r3 ?_;obtain⟨x77,ZLx,hL⟩:=bind_some hL;obtain⟨b78,o79,⟨⟨a80,c81⟩,⟨a82,c83⟩⟩,ZM0,ZN3,ZNB,ZFP⟩:=Sl.at_ ZJ ZLx;refine WO.w gN rfl (ZE Jj Y2 lk lk rfl ZM0 ZLx) ?_;have ZLT:Sl (Zu .i64) wm h a80 c81 x77.qV:=ZFP.1;have ZLS:Sl (Zu .i64) wm h a82 c83 x77.Yj:=ZFP.2;refine WO.w gN rfl (Xf Zak Y2 (Yi fh rfl) (At.fz hS.fz ZNB ZN3) (j:=0) rfl rfl (ws:= (cL x77 a80 c81 a82 c83)) rfl) ?_;refine r1 ?_;rintro _ h85 ⟨b84,ZYy,rfl,hS⟩;refine r1 ?_;rintro h86 hS;refine r8 ?_;refine r2 ?_;refine cn hL ?_ ?_
    ·intro hc hL;refine r3 ?_;exact Y9.YZ _ hL ⟨_,_,rfl,hS.only (.c k1 (.c k1 .n)),YA⟩
    ·intro hc hL;refine r8 ?_;refine r3 ?_;refine WC.loop (WL.lift hL (fun(p:Int×Int×Int×Bool×Int) (s:Fs)=>match p with | (v92,ZbI,Zam,Zoy,WG)=>∃ (Zf5:Fr) (h87:H),s= ⟨Zf5,[],h87,none⟩∧Sp wm T h [bx wm b3 [.int .i64 0,.bool false,.int .i64 0],bx wm b5 [.int .i64 Zam,.bool Zoy,.int .i64 WG],bx wm b84 (cL x77 a80 c81 a82 c83)] h87∧Zf5.at 1= .int .i64 p1∧Zf5.at 4= .pointer (some ⟨b3,0,none⟩)∧Zf5.at 6= .pointer (some ⟨b5,0,none⟩)∧Zf5.at 7= .int .i64 v92∧Zf5.at 11= .pointer (some ⟨b84,0,none⟩)∧Zf5.at 38= .slice Zo p0.qG.length Zl∧Zf5.at 39= .int .i64 (p0.qG.length:Int)∧Zf5.at 40= .int .i64 v58∧Zf5.at 48= .slice a80 x77.qV.length c81∧Zf5.at 49= .int .i64 (x77.qV.length:Int)∧Zf5.at 50= .int .i64 ZbI) ⟨_,_,rfl,hS.only (.c k1 (.c k1 (.c k0 .n))),YA⟩ ?_);clear hL hS;rintro ZcX ⟨v92,ZbI,Zam,Zoy,WG⟩ s ZyQ hL ⟨Zf5,h87,rfl,hS,e89,e90,e91,e93,e94,e95,e96,e97,e98,e99,ZD9⟩;dsimp only [Zm9] at hL;refine r6 ?_;refine cn hL ?_ ?_
     ·intro hc hL;refine r2 ?_;refine WC.Za5 (r:=r) (fun(p:Int×Int×Bool×Int) (s:Fs)=>match p with | (Zeq,Zl2,ZCj,ZCi)=>∃ (ZaT:Fr) (ZDz:H),s= ⟨ZaT,[],ZDz,none⟩∧Sp wm T h [bx wm b3 [.int .i64 0,.bool false,.int .i64 0],bx wm b5 [.int .i64 Zl2,.bool ZCj,.int .i64 ZCi],bx wm b84 (cL x77 a80 c81 a82 c83)] ZDz∧ZaT.at 1= .int .i64 p1∧ZaT.at 4= .pointer (some ⟨b3,0,none⟩)∧ZaT.at 6= .pointer (some ⟨b5,0,none⟩)∧ZaT.at 7= .int .i64 Zeq∧ZaT.at 11= .pointer (some ⟨b84,0,none⟩)∧ZaT.at 38= .slice Zo p0.qG.length Zl∧ZaT.at 39= .int .i64 (p0.qG.length:Int)∧ZaT.at 40= .int .i64 v58∧ZaT.at 48= .slice a80 x77.qV.length c81∧ZaT.at 49= .int .i64 (x77.qV.length:Int)∧ZaT.at 50= .int .i64 ZbI) (ZjA ZbI ZcX) ?_ ?_
      ·clear hL hS;rintro⟨Zeq,Zl2,ZCj,ZCi⟩ s hL ⟨ZaT,ZDz,rfl,hS,e108,e109,ZOO,ZTc,ZTb,ZJI,e115,e116,e117,e118,e119⟩;dsimp only [ZjA] at hL;refine r4 ?_;exact Yc.YZ (ZyQ _ _ hL ⟨_,_,rfl,hS.only (.c k0 (.c k0 (.c k0 .n))),YA⟩)
      ·skip;refine r4 ?_;obtain⟨ZkD,Zpy,hL⟩:=bind_some hL;obtain⟨ZPj,ZQW,_,ZrL,ZrQ,ZrN,ZHY⟩:=Sl.at_ ZLT Zpy;refine WO.w gN rfl (ZE YE YF lk lk rfl ZrL Zpy) ?_;refine WO.w gN rfl (ZW Xn (Yi fh rfl) (At.fz hS.fz ZrN ZrQ) (j:=0) rfl (v:= .int .i64 ZkD) rfl) ?_;refine r8 ?_;refine r3 ?_;refine cn hL ?_ ?_
       ·intro hc hL;refine r1 ?_;refine WC.Xx mixed Kq0 ?_;refine r4 ?_;refine r1 ?_;obtain⟨ZuG,ZFp,hL⟩:=bind_some hL;obtain⟨Z0y,ZWM,_,ZHM,ZIC,ZH9,ZSg⟩:=Sl.at_ ZLS ZFp;refine WX.w gN rfl (ZE YE YF lk lk rfl ZHM ZFp) ?_ rfl;refine WX.w gN rfl (ZW Xn (Yi fh rfl) (At.fz hS.fz ZH9 ZIC) (j:=0) rfl (v:= .int .i64 ZuG) rfl) ?_ rfl;refine WX.w gN rfl (XP Zsz (ZG lk (ZG lk (ZG lk Yf))) rfl (cs':= [.int .i64 x77.Z9,.bool false,.int .i64 ZuG]) rfl) ?_ rfl;refine WX.hu gN (ZaI hS k1 Wt lk lk (vs:= [.int .i64 x77.Z9,.bool false,.int .i64 ZuG]) rfl rfl rfl rfl (cs':= [.int .i64 x77.Z9,.bool false,.int .i64 ZuG]) rfl) ?_ rfl rfl [] Kq0 YV.e;rintro ZSF hS;refine r8 ?_;exact Y9.YZ _ hL ⟨_,_,rfl,hS.only (.c k1 (.c k0 (.c k0 .n))),YA⟩
       ·intro hc hL;refine r2 ?_;exact Y9.YZ _ hL ⟨_,_,rfl,hS.only (.c k0 (.c k0 (.c k0 .n))),YA⟩
     ·intro hc hL;refine r4 ?_;refine r1 ?_;exact Y9.YZ _ hL ⟨_,_,rfl,hS.only (.c k0 (.c k0 .n)),YA⟩
  ·intro hc hL;refine r8 ?_;refine r2 ?_;rintro ZDy hS;refine r4 ?_;have hr:=Oi0 hL;subst hr;exact Yl.gen (vs:= [.agg [.int .i64 v60,.bool v61,.int .i64 v62].toArray,.int .i64 v54]) rfl (Y6 (Y5 rfl e52) (UA Zn3 Wt (hS.atB k0) (j:=0) rfl rfl (ws:= [.int .i64 v60,.bool v61,.int .i64 v62]) rfl) (ZP lk ZA)) rfl ⟨_,⟨rfl,rfl⟩,hT ▸ hS.only .n⟩
theorem ZJi {F wm:Nat} {h:H} {p0:Zb} {Zi:Option Addr} {Zh:Nat} {Zk:Option Addr} {Zj:Nat} {Zq:Option Addr} {Zn:Nat} {Zp:Option Addr} {Zm:Nat} {Zo:Option Addr} {Zl:Nat} {r:Bool} (Z0:wm <=h.size) (ZB:Sl (Zu .i64) wm h Zi Zh p0.Zv) (ZN:Sl (ZM (Zu .i64)) wm h Zk Zj p0.qK) (ZL:Sl (ZM Zc) wm h Zq Zn p0.qQ) (ZO:Sl (ZM Zg) wm h Zp Zm p0.qJ) (ZJ:Sl Ze wm h Zo Zl p0.qG) (hL:ZAw F p0=some r):
 WR XX 68 #[.agg [.slice Zi p0.Zv.length Zh,.slice Zk p0.qK.length Zj,.slice Zq p0.qQ.length Zn,.slice Zp p0.qJ.length Zm,.slice Zo p0.qG.length Zl,.int .i64 p0.said].toArray] wm h (CP (fun(v:Value) (Gb:List (Ast wm))=>v= .bool r∧Gb= []) [] h):=by
 refine bg Tryz.ntmps68 Z0 Yh.nil ?_;intro T hT hS;unfold ZAw at hL;refine r3 ?_;rintro _ h2 ⟨b1,eb1,rfl,hS⟩;refine r4 ?_;refine WC.Xx mixed Kq0 ?_;refine r16 ?_;refine r16 ?_;refine r8 ?_;refine r3 ?_;refine cn hL ?_ ?_
 ·intro hc hL;refine r6 ?_;refine r1 ?_;exact rt hL hT hS
 ·intro hc hL;refine XA ?_;refine WC.loop (WL.lift hL (fun(v9:Int) (s:Fs)=>∃ (Wo:Fr) (h3:H),s= ⟨Wo,[],h3,none⟩∧Sp wm T h [bx wm b1 (cW p0 Zi Zh Zk Zj Zq Zn Zp Zm Zo Zl)] h3∧Wo.at 1= .pointer (some ⟨b1,0,none⟩)∧Wo.at 4= .int .i64 (p0.Zv.length:Int)∧Wo.at 46= .slice Zq p0.qQ.length Zn∧Wo.at 47= .int .i64 (p0.qQ.length:Int)∧Wo.at 48= .int .i64 v9) ⟨_,_,rfl,hS.only (.c k0 .n),YA⟩ ?_);clear hL hS;rintro ZiL v9 s ZmM hL ⟨Wo,h3,rfl,hS,e5,e6,e7,e8,e10⟩;dsimp only [Zjz] at hL;refine r6 ?_;refine cn hL ?_ ?_
  ·intro hc hL;refine r6 ?_;obtain⟨x12,Zyt,hL⟩:=bind_some hL;obtain⟨b13,o14,⟨a15,c16⟩,Zzn,ZzX,ZzE,Zzs⟩:=Sl.at_ ZL Zyt;refine WO.w gN rfl (ZE U6 Q5 lk lk rfl Zzn Zyt) ?_;have ZFv:Sl Zc wm h a15 c16 x12:=Zzs;refine WO.w gN rfl (ZW WS (Yi fh rfl) (At.fz hS.fz ZzE ZzX) (j:=0) rfl (v:= .slice a15 x12.length c16) rfl) ?_;refine r8 ?_;refine r3 ?_;refine cn hL ?_ ?_
   ·intro hc hL;refine r8 ?_;refine r3 ?_;exact rt hL hT hS
   ·intro hc hL;refine r6 ?_;refine r1 ?_;exact Yc.YZ (ZmM _ _ hL ⟨_,_,rfl,hS.only (.c k0 .n),YA⟩)
  ·intro hc hL;refine XA ?_;refine r3 ?_;refine WC.loop (WL.lift hL (fun(v23:Int) (s:Fs)=>∃ (Zr3:Fr) (h17:H),s= ⟨Zr3,[],h17,none⟩∧Sp wm T h [bx wm b1 (cW p0 Zi Zh Zk Zj Zq Zn Zp Zm Zo Zl)] h17∧Zr3.at 1= .pointer (some ⟨b1,0,none⟩)∧Zr3.at 4= .int .i64 (p0.Zv.length:Int)∧Zr3.at 58= .slice Zi p0.Zv.length Zh∧Zr3.at 59= .int .i64 (p0.Zv.length:Int)∧Zr3.at 60= .int .i64 v23) ⟨_,_,rfl,hS.only (.c k0 .n),YA⟩ ?_);clear hL hS;rintro KU v23 s ZmH hL ⟨Zr3,h17,rfl,hS,e19,e20,e21,e22,e24⟩;dsimp only [Zgd] at hL;refine r6 ?_;refine cn hL ?_ ?_
   ·intro hc hL;refine r6 ?_;refine r1 ?_;obtain⟨Kz,ZkP,hL⟩:=bind_some hL;obtain⟨b27,o28,_,ZNb,ZOg,ZNQ,ZUP⟩:=Sl.at_ ZB ZkP;refine WO.w gN rfl (ZE YE YF lk lk rfl ZNb ZkP) ?_;refine WO.w gN rfl (ZW Xn (Yi fh rfl) (At.fz hS.fz ZNQ ZOg) (j:=0) rfl (v:= .int .i64 Kz) rfl) ?_;refine r16 ?_;refine cn hL ?_ ?_
    ·intro hc hL;refine XA ?_;exact rt hL hT hS
    ·intro hc hL;refine XA ?_;refine r2 ?_;refine WC.loop (WL.lift hL (fun(p:Int×Int) (s:Fs)=>match p with | (v33,v35)=>∃ (Zdi:Fr) (h29:H),s= ⟨Zdi,[],h29,none⟩∧Sp wm T h [bx wm b1 (cW p0 Zi Zh Zk Zj Zq Zn Zp Zm Zo Zl)] h29∧Zdi.at 1= .pointer (some ⟨b1,0,none⟩)∧Zdi.at 4= .int .i64 (p0.Zv.length:Int)∧Zdi.at 9= .int .i64 v33∧Zdi.at 10= .int .i64 v35∧Zdi.at 58= .slice Zi p0.Zv.length Zh∧Zdi.at 59= .int .i64 (p0.Zv.length:Int)∧Zdi.at 60= .int .i64 v23) ⟨_,_,rfl,hS.only (.c k0 .n),YA⟩ ?_);clear hL hS;rintro ZiI ⟨v33,v35⟩ s ZmE hL ⟨Zdi,h29,rfl,hS,e31,e32,e34,e36,e37,e38,e39⟩;dsimp only [Zgc] at hL;refine r6 ?_;refine r1 ?_;refine cn hL ?_ ?_
     ·intro hc hL;refine r16 ?_;refine r3 ?_;refine cn hL ?_ ?_
      ·intro hc hL;refine r16 ?_;exact rt hL hT hS
      ·intro hc hL;refine r6 ?_;refine r1 ?_;obtain⟨x41,Zyn,hL⟩:=bind_some hL;obtain⟨b42,o43,_,Zze,ZzQ,Zzy,ZNs⟩:=Sl.at_ ZB Zyn;refine WO.w gN rfl (ZE YE YF lk lk rfl Zze Zyn) ?_;refine WO.w gN rfl (ZW Xn (Yi fh rfl) (At.fz hS.fz Zzy ZzQ) (j:=0) rfl (v:= .int .i64 x41) rfl) ?_;refine r4 ?_;refine r1 ?_;obtain⟨x44,ZCX,hL⟩:=Yp hL;obtain⟨b45,o46,_,hQ⟩:=Sl.atG (fun hg=>ZB) ZCX;have ZM8:=fun hg=>(hQ hg).1
       have ZOc:=fun hg=>(hQ hg).2.1
       have ZNN:=fun hg=>(hQ hg).2.2.1
       have ZUL:=fun hg=>(hQ hg).2.2.2
       refine WO.gv (Zt.no rfl rfl rfl (YG rfl (Zy rfl fh))) rfl (fun hg=>(ZE YE YF (Y4 (Zy rfl fh) rfl hg) (Y4 fh rfl hg) rfl (ZM8 hg) (ZCX hg))) ?_;refine WO.gv (Zt.no rfl rfl rfl (Y5 rfl fh)) rfl (fun hg=>(ZW Xn (Y4 fh rfl hg) (At.fz hS.fz (ZNN hg) (ZOc hg)) (j:=0) rfl (v:= .int .i64 x44) rfl)) ?_;refine r4 ?_;refine r1 ?_;refine cn hL ?_ ?_
       ·intro hc hL;refine XA ?_;refine r3 ?_;exact rt hL hT hS
       ·intro hc hL;refine r6 ?_;refine r1 ?_;obtain⟨x47,ZLD,hL⟩:=bind_some hL;obtain⟨b48,o49,_,ZM7,ZOb,ZNM,ZUK⟩:=Sl.at_ ZB ZLD;refine WO.w gN rfl (ZE YE YF lk lk rfl ZM7 ZLD) ?_;refine WO.w gN rfl (ZW Xn (Yi fh rfl) (At.fz hS.fz ZNM ZOb) (j:=0) rfl (v:= .int .i64 x47) rfl) ?_;refine r2 ?_;exact Yc.YZ (ZmE _ _ hL ⟨_,_,rfl,hS.only (.c k0 .n),YA⟩)
     ·intro hc hL;refine r8 ?_;refine r2 ?_;exact Yc.YZ (ZmH _ _ hL ⟨_,_,rfl,hS.only (.c k0 .n),YA⟩)
   ·intro hc hL;refine r8 ?_;refine r3 ?_;exact rt hL hT hS
theorem ZJg {F wm:Nat} {h:H} {p0:Zb} {Zi:Option Addr} {Zh:Nat} {Zk:Option Addr} {Zj:Nat} {Zq:Option Addr} {Zn:Nat} {Zp:Option Addr} {Zm:Nat} {Zo:Option Addr} {Zl:Nat} {r:Bool} (Z0:wm <=h.size) (ZB:Sl (Zu .i64) wm h Zi Zh p0.Zv) (ZN:Sl (ZM (Zu .i64)) wm h Zk Zj p0.qK) (ZL:Sl (ZM Zc) wm h Zq Zn p0.qQ) (ZO:Sl (ZM Zg) wm h Zp Zm p0.qJ) (ZJ:Sl Ze wm h Zo Zl p0.qG) (hL:ZvJ F p0=some r):
 WR XX 69 #[.agg [.slice Zi p0.Zv.length Zh,.slice Zk p0.qK.length Zj,.slice Zq p0.qQ.length Zn,.slice Zp p0.qJ.length Zm,.slice Zo p0.qG.length Zl,.int .i64 p0.said].toArray] wm h (CP (fun(v:Value) (Gb:List (Ast wm))=>v= .bool r∧Gb= []) [] h):=by
 refine bg Tryz.ntmps69 Z0 Yh.nil ?_;intro T hT hS;unfold ZvJ at hL;refine r3 ?_;rintro _ h2 ⟨b1,eb1,rfl,hS⟩;refine XA ?_;refine r1 ?_;refine WC.loop (WL.lift hL (fun(v8:Int) (s:Fs)=>∃ (Wo:Fr) (h3:H),s= ⟨Wo,[],h3,none⟩∧Sp wm T h [bx wm b1 (cW p0 Zi Zh Zk Zj Zq Zn Zp Zm Zo Zl)] h3∧Wo.at 1= .pointer (some ⟨b1,0,none⟩)∧Wo.at 8= .slice Zo p0.qG.length Zl∧Wo.at 9= .int .i64 (p0.qG.length:Int)∧Wo.at 10= .int .i64 v8) ⟨_,_,rfl,hS.only (.c k0 .n),YA⟩ ?_);clear hL hS;rintro Ue v8 s ZmN hL ⟨Wo,h3,rfl,hS,e5,e6,e7,e9⟩;dsimp only [Zaq] at hL;refine r6 ?_;refine cn hL ?_ ?_
 ·intro hc hL;refine r2 ?_;refine WC.Za5 (r:=r) (fun(_:Unit) (s:Fs)=>∃ (ZvD:Fr) (h11:H),s= ⟨ZvD,[],h11,none⟩∧Sp wm T h [bx wm b1 (cW p0 Zi Zh Zk Zj Zq Zn Zp Zm Zo Zl)] h11∧ZvD.at 1= .pointer (some ⟨b1,0,none⟩)∧ZvD.at 8= .slice Zo p0.qG.length Zl∧ZvD.at 9= .int .i64 (p0.qG.length:Int)∧ZvD.at 10= .int .i64 v8) (Zbj v8 Ue) ?_ ?_
  ·clear hL hS;rintro _ s hL ⟨ZvD,h11,rfl,hS,e13,e14,e15,e16⟩;dsimp only [Zbj] at hL;refine r4 ?_;exact Yc.YZ (ZmN _ _ hL ⟨_,_,rfl,hS.only (.c k0 .n),YA⟩)
  ·skip;refine r3 ?_;obtain⟨JU,Zi3,hL⟩:=bind_some hL;obtain⟨b18,o19,⟨⟨a20,c21⟩,⟨a22,c23⟩⟩,Zzj,ZzU,ZzB,Zt6⟩:=Sl.at_ ZJ Zi3;refine WO.w gN rfl (ZE Jj Y2 lk lk rfl Zzj Zi3) ?_;have ZtR:Sl (Zu .i64) wm h a20 c21 JU.qV:=Zt6.1;have ZFu:Sl (Zu .i64) wm h a22 c23 JU.Yj:=Zt6.2;refine WO.w gN rfl (Xf Zak Y2 (Yi fh rfl) (At.fz hS.fz ZzB ZzU) (j:=0) rfl rfl (ws:= (cL JU a20 c21 a22 c23)) rfl) ?_;refine r1 ?_;rintro _ h25 ⟨b24,ZOJ,rfl,hS⟩;refine r1 ?_;rintro h26 hS;refine r8 ?_;refine r2 ?_;refine WC.Za5 (r:=r) (fun(v35:Bool) (s:Fs)=>∃ (ZbN:Fr) (h27:H),s= ⟨ZbN,[],h27,none⟩∧Sp wm T h [bx wm b1 (cW p0 Zi Zh Zk Zj Zq Zn Zp Zm Zo Zl),bx wm b24 (cL JU a20 c21 a22 c23)] h27∧ZbN.at 1= .pointer (some ⟨b1,0,none⟩)∧ZbN.at 4= .pointer (some ⟨b24,0,none⟩)∧ZbN.at 8= .slice Zo p0.qG.length Zl∧ZbN.at 9= .int .i64 (p0.qG.length:Int)∧ZbN.at 10= .int .i64 v8∧ZbN.at 15= .int .i64 JU.kind∧ZbN.at 16= .bool v35) (ZdZ F p0 v8 Ue JU) ?_ ?_
   ·clear hL hS;rintro v35 s hL ⟨ZbN,h27,rfl,hS,e29,e30,e31,e32,e33,e34,e36⟩;dsimp only [ZdZ] at hL;refine cn hL ?_ ?_
    ·intro hc hL;refine r1 ?_;refine U4.other rfl ?_;refine r2 ?_;exact Y9.YZ _ hL ⟨_,_,rfl,hS.only (.c k0 .n),YA⟩
    ·intro hc hL;refine r6 ?_;refine cn hL ?_ ?_
     ·intro hc hL;refine r16 ?_;refine r1 ?_;refine cn hL ?_ ?_
      ·intro hc hL;refine r8 ?_;refine r1 ?_;refine Y9.ret ?_;refine r3 ?_;exact rt hL hT hS
      ·intro hc hL;refine XA ?_;refine WC.loop (WL.lift hL (fun(v46:Int) (s:Fs)=>∃ (ZaS:Fr) (h37:H),s= ⟨ZaS,[],h37,none⟩∧Sp wm T h [bx wm b1 (cW p0 Zi Zh Zk Zj Zq Zn Zp Zm Zo Zl),bx wm b24 (cL JU a20 c21 a22 c23)] h37∧ZaS.at 1= .pointer (some ⟨b1,0,none⟩)∧ZaS.at 4= .pointer (some ⟨b24,0,none⟩)∧ZaS.at 8= .slice Zo p0.qG.length Zl∧ZaS.at 9= .int .i64 (p0.qG.length:Int)∧ZaS.at 10= .int .i64 v8∧ZaS.at 35= .slice a20 JU.qV.length c21∧ZaS.at 36= .int .i64 (JU.qV.length:Int)∧ZaS.at 37= .int .i64 v46) ⟨_,_,rfl,hS.only (.c k0 (.c k0 .n)),YA⟩ ?_);clear hL hS;rintro ZiH v46 s ZmD hL ⟨ZaS,h37,rfl,hS,e39,e40,e41,e42,e43,e44,e45,e47⟩;dsimp only [Zd0] at hL;refine r6 ?_;refine cn hL ?_ ?_
       ·intro hc hL;refine r6 ?_;refine r1 ?_;obtain⟨x49,Zpr,hL⟩:=bind_some hL;obtain⟨b50,o51,_,ZpK,ZpR,Zzw,Zt5⟩:=Sl.at_ ZtR Zpr;refine WO.w gN rfl (ZE YE YF lk lk rfl ZpK Zpr) ?_;refine WO.w gN rfl (ZW Xn (Yi fh rfl) (At.fz hS.fz Zzw ZpR) (j:=0) rfl (v:= .int .i64 x49) rfl) ?_;refine r16 ?_;refine r8 ?_;obtain⟨x52,Zyl,hL⟩:=Yp hL;obtain⟨b53,o54,_,hQ⟩:=Sl.atG (fun hg=>ZtR) Zyl;have Zzb:=fun hg=>(hQ hg).1
        have ZzM:=fun hg=>(hQ hg).2.1
        have ZNJ:=fun hg=>(hQ hg).2.2.1
        have ZNo:=fun hg=>(hQ hg).2.2.2
        refine WO.gv (Zt.ZkB rfl rfl rfl (Y5 rfl (Zy rfl fh))) rfl (fun hg=>(ZE YE YF (Y4 (YG rfl fh) rfl hg) (Y4 fh rfl hg) rfl (Zzb hg) (Zyl hg))) ?_;refine WO.gv (Zt.ZkB rfl rfl rfl (Y5 rfl (YG rfl fh))) rfl (fun hg=>(ZW Xn (Y4 fh rfl hg) (At.fz hS.fz (ZNJ hg) (ZzM hg)) (j:=0) rfl (v:= .int .i64 x52) rfl)) ?_;refine r1 ?_;refine WO.gv (Zt.no rfl rfl rfl (Xa rfl (YG rfl (Zy rfl fh)))) rfl (fun hg=>(Zkh (Y4 (Xa rfl fh) rfl hg) (Zht fh hg) lk)) ?_;refine r4 ?_;refine r1 ?_;obtain⟨x55,Zmz,hL⟩:=Yp hL;obtain⟨b56,o57,_,hQ⟩:=Sl.atG (fun hg=>ZFu) Zmz;have Zza:=fun hg=>(hQ hg).1
        have ZzL:=fun hg=>(hQ hg).2.1
        have ZNI:=fun hg=>(hQ hg).2.2.1
        have ZNn:=fun hg=>(hQ hg).2.2.2
        refine WO.gv (Zt.no rfl rfl rfl (YG rfl (Zy rfl fh))) rfl (fun hg=>(ZE YE YF (Y4 (Zy rfl fh) rfl hg) (Y4 fh rfl hg) rfl (Zza hg) (Zmz hg))) ?_;refine WO.gv (Zt.no rfl rfl rfl (Y5 rfl fh)) rfl (fun hg=>(ZW Xn (Y4 fh rfl hg) (At.fz hS.fz (ZNI hg) (ZzL hg)) (j:=0) rfl (v:= .int .i64 x55) rfl)) ?_;refine r6 ?_;obtain⟨x58,Zyk,hL⟩:=Yp hL;obtain⟨b59,o60,_,hQ⟩:=Sl.atG (fun hg=>ZFu) Zyk;have Zy9:=fun hg=>(hQ hg).1
        have ZzK:=fun hg=>(hQ hg).2.1
        have ZNG:=fun hg=>(hQ hg).2.2.1
        have ZNm:=fun hg=>(hQ hg).2.2.2
        refine WO.gv (Zt.no rfl rfl rfl (YG rfl (Zy rfl fh))) rfl (fun hg=>(ZE YE YF (Y4 (Zy rfl fh) rfl hg) (Y4 fh rfl hg) rfl (Zy9 hg) (Zyk hg))) ?_;refine WO.gv (Zt.no rfl rfl rfl (Y5 rfl fh)) rfl (fun hg=>(ZW Xn (Y4 fh rfl hg) (At.fz hS.fz (ZNG hg) (ZzK hg)) (j:=0) rfl (v:= .int .i64 x58) rfl)) ?_;refine r4 ?_;refine cn hL ?_ ?_
        ·intro hc hL;refine r8 ?_;refine r3 ?_;refine Y9.ret ?_;refine r3 ?_;exact rt hL hT hS
        ·intro hc hL;refine r6 ?_;refine r1 ?_;exact Yc.YZ (ZmD _ _ hL ⟨_,_,rfl,hS.only (.c k0 (.c k0 .n)),YA⟩)
       ·intro hc hL;refine r4 ?_;refine r1 ?_;exact Y9.YZ _ hL ⟨_,_,rfl,hS.only (.c k0 .n),YA⟩
     ·intro hc hL;refine r8 ?_;refine r1 ?_;refine Y9.ret ?_;refine r3 ?_;exact rt hL hT hS
   ·skip;refine r6 ?_;refine cn hL ?_ ?_
    ·intro hc hL;refine r1 ?_;exact Y9.YZ _ hL ⟨_,_,rfl,hS.only (.c k1 (.c k0 .n)),YA⟩
    ·intro hc hL;refine r4 ?_;exact Y9.YZ _ hL ⟨_,_,rfl,hS.only (.c k1 (.c k0 .n)),YA⟩
 ·intro hc hL;refine r8 ?_;refine r3 ?_;exact rt hL hT hS
theorem ZJh {F:Nat} {h:H} {p0:Zb} {Zi:Option Addr} {Zh:Nat} {Zk:Option Addr} {Zj:Nat} {Zq:Option Addr} {Zn:Nat} {Zp:Option Addr} {Zm:Nat} {Zo:Option Addr} {Zl:Nat} {r:Bool} (ZB:Sl (Zu .i64) h.size h Zi Zh p0.Zv) (ZN:Sl (ZM (Zu .i64)) h.size h Zk Zj p0.qK) (ZL:Sl (ZM Zc) h.size h Zq Zn p0.qQ) (ZO:Sl (ZM Zg) h.size h Zp Zm p0.qJ) (ZJ:Sl Ze h.size h Zo Zl p0.qG) (hL:ZvJ F p0=some r):Pure XX 69 #[.agg [.slice Zi p0.Zv.length Zh,.slice Zk p0.qK.length Zj,.slice Zq p0.qQ.length Zn,.slice Zp p0.qJ.length Zm,.slice Zo p0.qG.length Zl,.int .i64 p0.said].toArray] h (.bool r):=
 WR.Qy rfl (ZJg (Nat.le_refl _) ZB ZN ZL ZO ZJ hL)
theorem ZJb {F wm:Nat} {h:H} {p0:ZX} {Zi:Option Addr} {Zh:Nat} {Zk:Option Addr} {Zj:Nat} {Zq:Option Addr} {Zn:Nat} {Zp:Option Addr} {Zm:Nat} {Zo:Option Addr} {Zl:Nat} {Z7:Option Addr} {Z6 YX Ke:Nat} {r:Bool} (Z0:wm <=h.size) (XZ:At h YX Ke [.slice Zi p0.Za.Zv.length Zh,.slice Zk p0.Za.qK.length Zj,.slice Zq p0.Za.qQ.length Zn,.slice Zp p0.Za.qJ.length Zm,.slice Zo p0.Za.qG.length Zl,.int .i64 p0.Za.said,.slice Z7 p0.Y7.length Z6]) (XY:Stb wm h YX) (ZB:Sl (Zu .i64) wm h Zi Zh p0.Za.Zv) (ZN:Sl (ZM (Zu .i64)) wm h Zk Zj p0.Za.qK) (ZL:Sl (ZM Zc) wm h Zq Zn p0.Za.qQ) (ZO:Sl (ZM Zg) wm h Zp Zm p0.Za.qJ) (ZJ:Sl Ze wm h Zo Zl p0.Za.qG) (Xr:Sl XE wm h Z7 Z6 p0.Y7) (hL:ZvH F p0=some r):
 WR XX 72 #[.pointer (some ⟨YX,Ke,none⟩)] wm h (CP (fun(v:Value) (Gb:List (Ast wm))=>v= .bool r∧Gb= []) [] h):=by
 refine bg Tryz.ntmps72 Z0 Yh.nil ?_;intro T hT hS;unfold ZvH at hL;refine XA ?_;refine WO.w gN rfl (ZW Xn (Yi fh rfl) (At.fz hS.fz XY XZ) (j:=5) rfl (v:= .int .i64 p0.Za.said) rfl) ?_;refine r6 ?_;refine WO.gv (Zt.no rfl rfl rfl (Y5 rfl fh)) rfl (fun hg=>(ZW Xn (Y4 fh rfl hg) (At.fz hS.fz XY XZ) (j:=5) rfl (v:= .int .i64 p0.Za.said) rfl)) ?_;refine r4 ?_;refine cn hL ?_ ?_
 ·intro hc hL;refine r6 ?_;refine r1 ?_;exact rt hL hT hS
 ·intro hc hL;refine XA ?_;refine r2 ?_;refine WO.w gN rfl (ZW ZBo (Yi fh rfl) (At.fz hS.fz XY XZ) (j:=1) rfl (v:= .slice Zk p0.Za.qK.length Zj) rfl) ?_;refine r4 ?_;refine r1 ?_;have hS:=hS.nil (e:= (Zu .i64));refine WC.loop (WL.lift hL (fun(p:(List Int)×Int) (s:Fs)=>match p with | (v4,v11)=>∃ (Qr:Fr) (h1:H) (a5:Option Addr) (c6:Nat) (n7:Nat),s= ⟨Qr,[],h1,none⟩∧Sp wm T h [ow wm (Zu .i64) a5 n7 c6 v4] h1∧Qr.at 0= .pointer (some ⟨YX,Ke,none⟩)∧Qr.at 3= .slice a5 n7 c6∧Qr.at 32= .slice Zk p0.Za.qK.length Zj∧Qr.at 33= .int .i64 (p0.Za.qK.length:Int)∧Qr.at 34= .int .i64 v11) ⟨_,_,none,0,0,rfl,hS.only (.c k0 .n),YA⟩ ?_);clear hL hS;rintro JS ⟨v4,v11⟩ s Kt hL ⟨Qr,h1,a5,c6,n7,rfl,hS,e3,e8,e9,e10,e12⟩;obtain rfl:=hS.on k0;dsimp only [Zjx] at hL;refine r6 ?_;refine cn hL ?_ ?_
  ·intro hc hL;refine r6 ?_;obtain⟨x14,ZeT,hL⟩:=bind_some hL;obtain⟨b15,o16,⟨a17,c18⟩,ZeV,ZeY,ZeX,ZeW⟩:=Sl.at_ ZN ZeT;refine WO.w gN rfl (ZE Zbx JR lk lk rfl ZeV ZeT) ?_;have ZeU:Sl (Zu .i64) wm h a17 c18 x14:=ZeW;refine WO.w gN rfl (ZW ZdA (Yi fh rfl) (At.fz hS.fz ZeX ZeY) (j:=0) rfl (v:= .slice a17 x14.length c18) rfl) ?_;refine r6 ?_;obtain⟨z19,ZRd,hL⟩:=bind_some hL;refine WO.hv gN rfl (Ko (e:= (Zu .i64)) hS k0 QX lk lk (Sl.src (hS.sl ZeU)) rfl ZRd) ?_;rintro _ h22 ⟨a20,c21,rfl,hS⟩;refine r8 ?_;exact Yc.YZ (Kt _ _ hL ⟨_,_,a20,c21,z19.length,rfl,hS.only (.c k0 .n),YA⟩)
  ·intro hc hL;refine XA ?_;refine WO.w gN rfl (ZW Zux (Yi fh rfl) (At.fz hS.fz XY XZ) (j:=3) rfl (v:= .slice Zp p0.Za.qJ.length Zm) rfl) ?_;refine r4 ?_;refine r1 ?_;refine WC.loop (WL.lift hL (fun(p:(List Int)×Int) (s:Fs)=>match p with | (v26,v33)=>∃ (U2:Fr) (h23:H) (a27:Option Addr) (c28:Nat) (n29:Nat),s= ⟨U2,[],h23,none⟩∧Sp wm T h [ow wm (Zu .i64) a27 n29 c28 v26] h23∧U2.at 0= .pointer (some ⟨YX,Ke,none⟩)∧U2.at 3= .slice a27 n29 c28∧U2.at 46= .slice Zp p0.Za.qJ.length Zm∧U2.at 47= .int .i64 (p0.Za.qJ.length:Int)∧U2.at 48= .int .i64 v33) ⟨_,_,a5,c6,v4.length,rfl,hS.only (.c k0 .n),YA⟩ ?_);clear hL hS;rintro Zmn ⟨v26,v33⟩ s ZDo hL ⟨U2,h23,a27,c28,n29,rfl,hS,e25,e30,e31,e32,e34⟩;obtain rfl:=hS.on k0;dsimp only [Zjw] at hL;refine r6 ?_;refine cn hL ?_ ?_
   ·intro hc hL;refine r6 ?_;obtain⟨x36,Zyo,hL⟩:=bind_some hL;obtain⟨b37,o38,⟨a39,c40⟩,Zzg,ZzS,ZzA,ZFS⟩:=Sl.at_ ZO Zyo;refine WO.w gN rfl (ZE Kb QR lk lk rfl Zzg Zyo) ?_;have ZL1:Sl Zg wm h a39 c40 x36:=ZFS;refine WO.w gN rfl (ZW ZbF (Yi fh rfl) (At.fz hS.fz ZzA ZzS) (j:=0) rfl (v:= .slice a39 x36.length c40) rfl) ?_;refine r8 ?_;refine r3 ?_;refine WC.loop (WL.lift hL (fun(p:(List Int)×Int) (s:Fs)=>match p with | (v44,v54)=>∃ (ZkV:Fr) (h41:H) (a45:Option Addr) (c46:Nat) (n47:Nat),s= ⟨ZkV,[],h41,none⟩∧Sp wm T h [ow wm (Zu .i64) a45 n47 c46 v44] h41∧ZkV.at 0= .pointer (some ⟨YX,Ke,none⟩)∧ZkV.at 3= .slice a45 n47 c46∧ZkV.at 46= .slice Zp p0.Za.qJ.length Zm∧ZkV.at 47= .int .i64 (p0.Za.qJ.length:Int)∧ZkV.at 48= .int .i64 v33∧ZkV.at 52= .slice a39 x36.length c40∧ZkV.at 53= .int .i64 (x36.length:Int)∧ZkV.at 54= .int .i64 v54) ⟨_,_,a27,c28,v26.length,rfl,hS.only (.c k0 .n),YA⟩ ?_);clear hL hS;rintro ZxS ⟨v44,v54⟩ s ZDk hL ⟨ZkV,h41,a45,c46,n47,rfl,hS,e43,e48,e49,e50,e51,e52,e53,e55⟩;obtain rfl:=hS.on k0;dsimp only [Zm8] at hL;refine r6 ?_;refine cn hL ?_ ?_
    ·intro hc hL;refine r6 ?_;obtain⟨x57,ZLA,hL⟩:=bind_some hL;obtain⟨b58,o59,_,ZM4,ZN7,ZNH,ZUH⟩:=Sl.at_ ZL1 ZLA;refine WO.w gN rfl (ZE ZaB JQ lk lk rfl ZM4 ZLA) ?_;refine WO.w gN rfl (Xf Zkm JQ (Yi fh rfl) (At.fz hS.fz ZNH ZN7) (j:=0) rfl rfl (ws:= (cM x57)) rfl) ?_;refine r1 ?_;rintro _ h61 ⟨b60,ZSR,rfl,hS⟩;refine r1 ?_;rintro h62 hS;refine r6 ?_;refine WO.hn gN rfl (K9 (e:= (Zu .i64)) hS YE YF Zbv rfl rfl rfl (ZG lk Yf) rfl [((),x57.msg)] rfl (xs:= [x57.msg]) rfl (by intro q hq;simp only [List.mem_cons,List.not_mem_nil,or_false] at hq;subst hq;exact trivial) rfl) ?_;rintro _ h64 ⟨b63,ZYH,rfl,hS⟩;obtain⟨z65,ZQ7,hL⟩:=bind_some hL;refine WO.hv gN rfl (Ko (e:= (Zu .i64)) hS k2 QX lk lk (hS.QE k0) (hS.on k0) ZQ7) ?_;rintro _ h68 ⟨a66,c67,rfl,hS⟩;refine r8 ?_;exact Yc.YZ (ZDk _ _ hL ⟨_,_,a66,c67,z65.length,rfl,hS.only (.c k0 .n),YA⟩)
    ·intro hc hL;refine r8 ?_;refine r2 ?_;exact Yc.YZ (ZDo _ _ hL ⟨_,_,a45,c46,v44.length,rfl,hS.only (.c k0 .n),YA⟩)
   ·intro hc hL;refine XA ?_;refine WO.w gN rfl (ZW ZBn (Yi fh rfl) (At.fz hS.fz XY XZ) (j:=4) rfl (v:= .slice Zo p0.Za.qG.length Zl) rfl) ?_;refine r4 ?_;refine r1 ?_;refine WC.loop (WL.lift hL (fun(p:(List Int)×Int) (s:Fs)=>match p with | (v72,v79)=>∃ (Zdg:Fr) (h69:H) (a73:Option Addr) (c74:Nat) (n75:Nat),s= ⟨Zdg,[],h69,none⟩∧Sp wm T h [ow wm (Zu .i64) a73 n75 c74 v72] h69∧Zdg.at 0= .pointer (some ⟨YX,Ke,none⟩)∧Zdg.at 3= .slice a73 n75 c74∧Zdg.at 69= .slice Zo p0.Za.qG.length Zl∧Zdg.at 70= .int .i64 (p0.Za.qG.length:Int)∧Zdg.at 71= .int .i64 v79) ⟨_,_,a27,c28,v26.length,rfl,hS.only (.c k0 .n),YA⟩ ?_);clear hL hS;rintro ZfT ⟨v72,v79⟩ s ZDa hL ⟨Zdg,h69,a73,c74,n75,rfl,hS,e71,e76,e77,e78,e80⟩;obtain rfl:=hS.on k0;dsimp only [Zjv] at hL;refine r6 ?_;refine cn hL ?_ ?_
    ·intro hc hL;refine r2 ?_;refine WC.Za5 (r:=r) (fun(v85:(List Int)) (s:Fs)=>∃ (ZrV:Fr) (h82:H) (a86:Option Addr) (c87:Nat) (n88:Nat),s= ⟨ZrV,[],h82,none⟩∧Sp wm T h [ow wm (Zu .i64) a86 n88 c87 v85] h82∧ZrV.at 0= .pointer (some ⟨YX,Ke,none⟩)∧ZrV.at 3= .slice a86 n88 c87∧ZrV.at 69= .slice Zo p0.Za.qG.length Zl∧ZrV.at 70= .int .i64 (p0.Za.qG.length:Int)∧ZrV.at 71= .int .i64 v79) (Zju v79 ZfT) ?_ ?_
     ·clear hL hS;rintro v85 s hL ⟨ZrV,h82,a86,c87,n88,rfl,hS,e84,e89,e90,e91,e92⟩;obtain rfl:=hS.on k0;dsimp only [Zju] at hL;refine r4 ?_;exact Yc.YZ (ZDa _ _ hL ⟨_,_,a86,c87,v85.length,rfl,hS.only (.c k0 .n),YA⟩)
     ·skip;refine r3 ?_;obtain⟨x93,hx93,hL⟩:=bind_some hL;obtain⟨b94,o95,⟨⟨a96,c97⟩,⟨a98,c99⟩⟩,Zy5,ZzF,Zzu,ZpM⟩:=Sl.at_ ZJ hx93;refine WO.w gN rfl (ZE Jj Y2 lk lk rfl Zy5 hx93) ?_;have ZLR:Sl (Zu .i64) wm h a96 c97 x93.qV:=ZpM.1;have ZLQ:Sl (Zu .i64) wm h a98 c99 x93.Yj:=ZpM.2;refine WO.w gN rfl (Xf Zak Y2 (Yi fh rfl) (At.fz hS.fz Zzu ZzF) (j:=0) rfl rfl (ws:= (cL x93 a96 c97 a98 c99)) rfl) ?_;refine r1 ?_;rintro _ Zvv ⟨Zcz,ZF1,rfl,hS⟩;refine r1 ?_;rintro ZOA hS;refine r8 ?_;refine r1 ?_;refine cn hL ?_ ?_
      ·intro hc hL;refine r4 ?_;refine r1 ?_;refine WO.hn gN rfl (K9 (e:= (Zu .i64)) hS YE YF Zbv rfl rfl rfl (ZG lk Yf) rfl [((),x93.Ya.msg)] rfl (xs:= [x93.Ya.msg]) rfl (by intro q hq;simp only [List.mem_cons,List.not_mem_nil,or_false] at hq;subst hq;exact trivial) rfl) ?_;rintro _ ZOz ⟨ZTE,ZOM,rfl,hS⟩;obtain⟨z105,Zyh,hL⟩:=bind_some hL;refine WO.hv gN rfl (Ko (e:= (Zu .i64)) hS k2 QX lk lk (hS.QE k0) (hS.on k0) Zyh) ?_;rintro _ ZSI ⟨Zks,c107,rfl,hS⟩;refine r3 ?_;exact Y9.YZ _ hL ⟨_,_,Zks,c107,z105.length,rfl,hS.only (.c k0 .n),YA⟩
      ·intro hc hL;refine r2 ?_;exact Y9.YZ _ hL ⟨_,_,a73,c74,v72.length,rfl,hS.only (.c k1 .n),YA⟩
    ·intro hc hL;refine r8 ?_;obtain⟨Zel,ZtO,hL⟩:=bind_some hL;refine WO.cl gN rfl (Xm.fn ZFB (Zf lk Zz)) hS (.c k0 .n) (fun g' hz hf hO=>ZAm (by rw [hz];exact hS.hw) hO ZtO) ?_;rintro _ ZYn _ ⟨rfl,rfl⟩ hS;refine r6 ?_;refine WO.w gN rfl (Zdd YE lk (congrArg Nat.cast (hS.on k0))) ?_;refine r4 ?_;refine WC.loop (WL.lift hL (fun(ZaA:Int) (s:Fs)=>∃ (UR:Fr) (h112:H),s= ⟨UR,[],h112,none⟩∧Sp wm T h [ow wm (Zu .i64) a73 v72.length c74 Zel] h112∧UR.at 0= .pointer (some ⟨YX,Ke,none⟩)∧UR.at 3= .slice a73 v72.length c74∧UR.at 87= .slice a73 v72.length c74∧UR.at 88= .int .i64 (Zel.length:Int)∧UR.at 89= .int .i64 ZaA) ⟨_,_,rfl,hS.only (.c k0 .n),YA⟩ ?_);clear hL hS;rintro Ztz ZaA s ZyK hL ⟨UR,h112,rfl,hS,ZJI,e115,e116,e117,e119⟩;dsimp only [Zbi] at hL;refine r6 ?_;refine cn hL ?_ ?_
     ·intro hc hL;refine r6 ?_;refine r1 ?_;obtain⟨ZdD,Zi4,hL⟩:=bind_some hL;obtain⟨ZPk,ZQX,_,ZrM,ZrR,ZHZ⟩:=Src.at_ (hS.QE k0) Zi4;refine WO.w gN rfl (ZE YE YF lk lk (hS.on k0) ZrM Zi4) ?_;refine WO.w gN rfl (ZW Xn (Yi fh rfl) ZrR (j:=0) rfl (v:= .int .i64 ZdD) rfl) ?_;refine r8 ?_;refine r3 ?_;refine cn hL ?_ ?_
      ·intro hc hL;refine r8 ?_;refine r3 ?_;exact rt hL hT hS
      ·intro hc hL;refine r6 ?_;refine r1 ?_;exact Yc.YZ (ZyK _ _ hL ⟨_,_,rfl,hS.only (.c k0 .n),YA⟩)
     ·intro hc hL;refine r8 ?_;refine WO.w gN rfl (Zdd YE lk (congrArg Nat.cast (hS.on k0))) ?_;refine r4 ?_;refine WO.w gN rfl (ZW Xn (Yi fh rfl) (At.fz hS.fz XY XZ) (j:=5) rfl (v:= .int .i64 p0.Za.said) rfl) ?_;refine r4 ?_;refine r1 ?_;exact rt hL hT hS
theorem ZJc {F:Nat} {h:H} {p0:ZX} {Zi:Option Addr} {Zh:Nat} {Zk:Option Addr} {Zj:Nat} {Zq:Option Addr} {Zn:Nat} {Zp:Option Addr} {Zm:Nat} {Zo:Option Addr} {Zl:Nat} {Z7:Option Addr} {Z6 YX Ke:Nat} {r:Bool} (XZ:At h YX Ke [.slice Zi p0.Za.Zv.length Zh,.slice Zk p0.Za.qK.length Zj,.slice Zq p0.Za.qQ.length Zn,.slice Zp p0.Za.qJ.length Zm,.slice Zo p0.Za.qG.length Zl,.int .i64 p0.Za.said,.slice Z7 p0.Y7.length Z6]) (XY:Stb h.size h YX) (ZB:Sl (Zu .i64) h.size h Zi Zh p0.Za.Zv) (ZN:Sl (ZM (Zu .i64)) h.size h Zk Zj p0.Za.qK) (ZL:Sl (ZM Zc) h.size h Zq Zn p0.Za.qQ) (ZO:Sl (ZM Zg) h.size h Zp Zm p0.Za.qJ) (ZJ:Sl Ze h.size h Zo Zl p0.Za.qG) (Xr:Sl XE h.size h Z7 Z6 p0.Y7) (hL:ZvH F p0=some r):Pure XX 72 #[.pointer (some ⟨YX,Ke,none⟩)] h (.bool r):=
 WR.Qy rfl (ZJb (Nat.le_refl _) XZ XY ZB ZN ZL ZO ZJ Xr hL)
end Go.Proofs.YtbmbbcaaimehkaaGreat
end
end
section
namespace Go.Proofs.YtbmbbcaaimehkaaGreat
open Go.Lf
def Zm7 (p0:(List Int)):Option (List Int):=
 (app 8 ([]:List Int) p0).bind fun z3=>some z3
def Zm5 (p0:(List (List Int))):(List (List Int))×Int ->((List (List Int))×Int ->Option (List (List Int))) ->Option (List (List Int)):=fun(v3,v11) JS=>
 (bif decide (v11 < (p0.length:Int)) then(ZT p0 v11).bind fun x14=>(Zm7 x14).bind fun x19=>(app 24 v3 [x19]).bind fun z27=>JS (z27,Xd (v11 + 1)) else some v3)
def ZAs (F:Nat) (p0:(List (List Int))):Option (List (List Int)):=
 loop F (Zm5 p0) ([],0)
def Zjt (p0:Z4) (p1:Int) (p2:Int) (x1:(Yo×Int)) (x31:(List Int)):Int×(List Zx)×(List Int)×(List (List Zw)) ->(Int×(List Zx)×(List Int)×(List (List Zw)) ->Option Z4) ->Option Z4:=fun(v45,v47,v51,v55) ZxR=>
 (bif decide (v45 < (x31.length:Int)) then(ZT x31 v45).bind fun x58=>(ZT v55 x1.1.machine).bind fun x61=>(ZT x61 x58).bind fun x67=>(app 8 v51 [Xd (x67.age + 1)]).bind fun z76=>(app 40 v47 [(Zx.mk 2 x58 x1.1.machine p2 0)]).bind fun z83=>ZxR (Xd (v45 + 1),z83,z76,Yt v55 x1.1.machine (Yt x61 x58 (Zw.mk false p2 (Xd (x67.age + 1))))) else(app 128 p0.Za.qG [(Zd.mk 2 p2 (Zr.mk 0 0 0 0 0) x31 v51 0 0 0)]).bind fun z95=>some (Z4.mk (Zb.mk (Yt p0.Za.Zv p1 (-1)) p0.Za.qK v55 p0.Za.qJ z95 p0.Za.said) v47))
def Zm2 (F:Nat) (p0:Z4) (p1:Int) (p2:Int) (x1:(Yo×Int)):(List Int) ->Option Z4:=fun v25=>
 (Zr8 v25).bind fun x31=>loop F (Zjt p0 p1 p2 x1 x31) (0,p0.qX,[],p0.Za.qQ)
def Zsb (p0:Z4) (p1:Int) (v107:Int) (ZhR:(Int×(List Int) ->Option (Bool×(List Int)))):Int×(List Int) ->(Int×(List Int) ->Option (Bool×(List Int))) ->Option (Bool×(List Int)):=fun(Zow,v138) Zmq=>
 (bif decide (Zow < ((Yt p0.Za.Zv p1 (-1)).length:Int)) then(ZT (Yt p0.Za.Zv p1 (-1)) Zow).bind fun ZqT=>(bif(ZqT==v107) then(ZhR (Zow,v138)).bind fun(ZKE,ZwO)=>(bif(!ZKE) then some (false,ZwO) else Zmq (Xd (Zow + 1),ZwO)) else Zmq (Xd (Zow + 1),v138)) else some (true,v138))
def Zjs (F:Nat) (p0:Z4) (p1:Int):Int×(List Int) ->(Int×(List Int) ->Option (Bool×(List Int))) ->Option (Bool×(List Int)):=fun(v107,ZdF) ZhR=>
 (app 8 ZdF [v107]).bind fun z124=>(bif(!true) then some (false,z124) else loop F (Zsb p0 p1 v107 ZhR) (0,z124))
def ZAo (F:Nat) (p0:Z4) (p1:Int) (p2:Int):Option Z4:=
 (Zd1 F p0.Za p1).bind fun x1=>(ZT p0.Za.Zv p1).bind fun x7=>(loop F (Zjs F p0 p1) (p1,[])).bind fun(Zig,v159)=>(Zm2 F p0 p1 p2 x1) v159
def ZvF (p0:Zd):Option Bool:=
 (bif(p0.kind==1) then some ((!(((p0.place !=0) || (p0.at_ !=0)) || (p0.age !=0))) && (!((decide ((p0.qV.length:Int) > 0)) || (decide ((p0.Yj.length:Int) > 0))))) else(bif(p0.kind==2) then some ((((!(((p0.place !=0) || (p0.at_ !=0)) || (p0.age !=0))) && (!(!(JE p0.Ya (Zr.mk 0 0 0 0 0))))) && (decide ((p0.qV.length:Int) > 0))) && ((p0.qV.length:Int)== (p0.Yj.length:Int))) else(bif(p0.kind==3) then some ((!(!(JE p0.Ya (Zr.mk 0 0 0 0 0)))) && (!((decide ((p0.qV.length:Int) > 0)) || (decide ((p0.Yj.length:Int) > 0))))) else some false)))
def ZAn (p0:(List Zd)) (p1:Int) (p2:Int):Option (List Zd):=
 (slL p0 p1 p2).bind fun z1=>(bif(p1==p2) then some p0 else(slL p0 0 p1).bind fun z4=>(slL p0 p2 (p0.length:Int)).bind fun z13=>(app 128 z4 z13).bind fun z17=>some z17)
end Go.Proofs.YtbmbbcaaimehkaaGreat
end
section
set_option maxRecDepth 20000
noncomputable section
namespace Go.Proofs.YtbmbbcaaimehkaaGreat
open Go.YL Go.Lf
theorem Zm6 {wm:Nat} {h:H} {p0:(List Int)} {Zi:Option Addr} {Zh:Nat} {r:(List Int)} (Z0:wm <=h.size) (ZB:Sl (Zu .i64) wm h Zi Zh p0) (hL:Zm7 p0=some r):
 WR XX 80 #[.slice Zi p0.length Zh] wm h (CP (fun(v:Value) (Gb:List (Ast wm))=>∃ (X7:Option Addr) (X5:Nat) (X6:Nat),v= .slice X7 X5 X6∧Gb= [ow wm (Zu .i64) X7 X5 X6 r]) [] h):=by
 refine bg Tryz.ntmps80 Z0 Yh.nil ?_;intro T hT hS;unfold Zm7 at hL;refine r8 ?_;rcases Sl.cases ZB with⟨rfl,rfl,rfl⟩ | ⟨qa,rfl⟩
 ·
  refine r1 ?_;refine WO.w gN rfl (Uj (Yi fh rfl) (evC rfl) (ZgR YE)) ?_;refine r2 ?_;refine WC.Zka lk rfl ?_;rw [ZsF _ (by decide)] at hL;replace hL:some []=some r:=hL;refine r6 ?_;refine r1 ?_;have hS:=hS.nil (e:= (Zu .i64));have hr:=Oi0 hL;subst hr;exact Yl.X0 rfl (ZP lk ZA) ⟨_,⟨none,0,0,rfl,rfl⟩,hT ▸ hS.only (.c k0 .n)⟩
 ·
  refine r1 ?_;refine WO.w gN rfl (Uj (Yi fh rfl) (evC rfl) (ZgS YE)) ?_;refine r2 ?_;refine WC.Zd5 lk rfl ?_;refine r4 ?_;refine WO.hn gN rfl (K9 (e:= (Zu .i64)) hS YE YF Zbv rfl rfl rfl Yf rfl [] rfl (xs:= ([]:List Int)) rfl (by intro q hq;cases hq) rfl) ?_;rintro _ h2 ⟨b1,eb1,rfl,hS⟩;refine r1 ?_;obtain⟨z3,hz3,hL⟩:=bind_some hL;refine WO.hv gN rfl (Ko (e:= (Zu .i64)) hS k0 QX lk lk (Sl.src (hS.sl ZB)) rfl hz3) ?_;rintro _ h6 ⟨a4,c5,rfl,hS⟩;refine r4 ?_;have hr:=Oi0 hL;subst hr;exact Yl.X0 rfl (ZP lk ZA) ⟨_,⟨a4,z3.length,c5,rfl,rfl⟩,hT ▸ hS.only (.c k0 .n)⟩
theorem ZI8 {F wm:Nat} {h:H} {p0:(List (List Int))} {Zi:Option Addr} {Zh:Nat} {r:(List (List Int))} (Z0:wm <=h.size) (ZB:Sl (ZM (Zu .i64)) wm h Zi Zh p0) (hL:ZAs F p0=some r):
 WR XX 81 #[.slice Zi p0.length Zh] wm h (CP (fun(v:Value) (Gb:List (Ast wm))=>∃ (X7:Option Addr) (X5:Nat) (X6:Nat) (ZeF:Nat ->Option Addr×Nat×Nat),v= .slice X7 X5 X6∧Gb= [Y3 wm (ZV (Zu .i64)) X7 X5 X6 ZeF r]) [] h):=by
 refine bg Tryz.ntmps81 Z0 Yh.nil ?_;intro T hT hS;unfold ZAs at hL;refine r16 ?_;refine r3 ?_;have hS:=hS.ZhB (e:= (ZV (Zu .i64))) (ps:=fun _=>(ZV (Zu .i64)).dflt);refine WC.loop (WL.lift hL (fun(p:(List (List Int))×Int) (s:Fs)=>match p with | (v3,v11)=>∃ (Qr:Fr) (h1:H) (a4:Option Addr) (c5:Nat) (n6:Nat) (ps7:Nat ->Option Addr×Nat×Nat),s= ⟨Qr,[],h1,none⟩∧Sp wm T h [Y3 wm (ZV (Zu .i64)) a4 n6 c5 ps7 v3] h1∧Qr.at 3= .slice a4 n6 c5∧Qr.at 6= .slice Zi p0.length Zh∧Qr.at 7= .int .i64 (p0.length:Int)∧Qr.at 8= .int .i64 v11) ⟨_,_,none,0,0,(fun _=>(ZV (Zu .i64)).dflt),rfl,hS.only (.c k0 .n),YA⟩ ?_);clear hL hS;rintro JS ⟨v3,v11⟩ s Kt hL ⟨Qr,h1,a4,c5,n6,ps7,rfl,hS,e8,e9,e10,e12⟩;obtain rfl:=hS.YT k0;dsimp only [Zm5] at hL;refine r6 ?_;refine cn hL ?_ ?_
 ·intro hc hL;refine r6 ?_;obtain⟨x14,ZeT,hL⟩:=bind_some hL;obtain⟨b15,o16,⟨a17,c18⟩,ZeV,ZeY,ZeX,ZeW⟩:=Sl.at_ ZB ZeT;refine WO.w gN rfl (ZE Zbx JR lk lk rfl ZeV ZeT) ?_;have ZeU:Sl (Zu .i64) wm h a17 c18 x14:=ZeW;refine WO.w gN rfl (ZW ZdA (Yi fh rfl) (At.fz hS.fz ZeX ZeY) (j:=0) rfl (v:= .slice a17 x14.length c18) rfl) ?_;refine r6 ?_;obtain⟨x19,Zry,hL⟩:=bind_some hL;refine WO.cl gN rfl (Xm.fn ZtY (Zf lk Zz)) hS .n (fun g' hz hf hO=>Zm6 (by rw [hz];exact hS.hw) ((hS.sl ZeU).mono hf) Zry) ?_;rintro _ h23 _ ⟨a20,n21,c22,rfl,rfl⟩ hS;obtain rfl:=hS.on k0;refine WO.hn gN rfl (Zxc (e:= (Zu .i64)) (x:=x19) hS k0 Zbx JR ZqP rfl rfl (ZG lk Yf) rfl rfl) ?_;rintro _ h26 ⟨b25,ZJH,rfl,hS⟩;obtain⟨z27,Zyg,hL⟩:=bind_some hL;refine WO.hv gN rfl (Zxd (e:= (ZV (Zu .i64))) hS (.c k1 (.c k0 .n)) ZBe lk lk Zyg) ?_;rintro _ h31 ⟨a28,c29,Zxr,rfl,hS⟩;refine r8 ?_;exact Yc.YZ (Kt _ _ hL ⟨_,_,a28,c29,z27.length,Zxr,rfl,hS.only (.c k0 .n),YA⟩)
 ·intro hc hL;refine XA ?_;have hr:=Oi0 hL;subst hr;exact Yl.X0 rfl (ZP lk ZA) ⟨_,⟨a4,v3.length,c5,ps7,rfl,rfl⟩,hT ▸ hS.only (.c k0 .n)⟩
theorem ZI5 {F wm:Nat} {h:H} {p0:Z4} {p1 p2:Int} {Zi:Option Addr} {Zh XT:Nat} {Zk:Option Addr} {Zj Jb:Nat} {YJ:Nat ->Option Addr×Nat×Nat} {Zq:Option Addr} {Zn Ja:Nat} {YR:Nat ->Option Addr×Nat×Nat} {Zp:Option Addr} {Zm Q9:Nat} {YI:Nat ->Option Addr×Nat×Nat} {Zo:Option Addr} {Zl Q8:Nat} {Z7:Option Addr} {Z6 Qo YX:Nat} {r:Z4} (Z0:wm <=h.size) (hO:Yh (wm:=wm) [bx wm YX (cG Zi XT Zh Zk Jb Zj Zq Ja Zn Zp Q9 Zm Zo Q8 Zl p0.Za.said Z7 Qo Z6),ow wm (Zu .i64) Zi XT Zh p0.Za.Zv,Y3 wm (ZV (Zu .i64)) Zk Jb Zj YJ p0.Za.qK,Y3 wm (ZV Zc) Zq Ja Zn YR p0.Za.qQ,Y3 wm (ZV Zg) Zp Q9 Zm YI p0.Za.qJ,ow wm Ze Zo Q8 Zl p0.Za.qG,ow wm ZQ Z7 Qo Z6 p0.qX] h) (hL:ZAo F p0 p1 p2=some r):
 WR XX 85 #[.pointer (some ⟨YX,0,none⟩),.int .i64 p1,.int .i64 p2] wm h (CP (fun(v:Value) (Gb:List (Ast wm))=>∃ (Jy:Option Addr) (UJ:Nat) (Jr:Nat) (Jw:Option Addr) (UI:Nat) (Jq:Nat) (UN:Nat ->Option Addr×Nat×Nat) (Jv:Option Addr) (UH:Nat) (Jp:Nat) (UM:Nat ->Option Addr×Nat×Nat) (Ju:Option Addr) (UG:Nat) (Jo:Nat) (UL:Nat ->Option Addr×Nat×Nat) (Jt:Option Addr) (UF:Nat) (Jm:Nat) (Js:Option Addr) (Jk:Nat) (Jl:Nat),v= .tuple [].toArray∧Gb= [bx wm YX (cG Jy UJ Jr Jw UI Jq Jv UH Jp Ju UG Jo Jt UF Jm r.Za.said Js Jk Jl),ow wm (Zu .i64) Jy UJ Jr r.Za.Zv,Y3 wm (ZV (Zu .i64)) Jw UI Jq UN r.Za.qK,Y3 wm (ZV Zc) Jv UH Jp UM r.Za.qQ,Y3 wm (ZV Zg) Ju UG Jo UL r.Za.qJ,ow wm Ze Jt UF Jm r.Za.qG,ow wm ZQ Js Jk Jl r.qX]) [bx wm YX (cG Zi XT Zh Zk Jb Zj Zq Ja Zn Zp Q9 Zm Zo Q8 Zl p0.Za.said Z7 Qo Z6),ow wm (Zu .i64) Zi XT Zh p0.Za.Zv,Y3 wm (ZV (Zu .i64)) Zk Jb Zj YJ p0.Za.qK,Y3 wm (ZV Zc) Zq Ja Zn YR p0.Za.qQ,Y3 wm (ZV Zg) Zp Q9 Zm YI p0.Za.qJ,ow wm Ze Zo Q8 Zl p0.Za.qG,ow wm ZQ Z7 Qo Z6 p0.qX] h):=by
 refine bg Tryz.ntmps85 Z0 hO ?_;intro T hT hS;unfold ZAo at hL;obtain rfl:=hS.on k1;obtain rfl:=hS.YT k2;obtain rfl:=hS.YT k3;obtain rfl:=hS.YT k4;obtain rfl:=hS.on k5;obtain rfl:=hS.on k6;refine r6 ?_;refine r1 ?_;obtain⟨x1,hx1,hL⟩:=bind_some hL;refine WO.clR gN rfl (Xm.fn Zhn (Zf lk (Zf lk Zz))) hS.hw (Zcr (Nat.le_refl _) (hS.ord k1) (hS.nrd k2 Q6) (hS.nrd k3 Q6) (hS.nrd k4 Q6) (hS.ord k5) hx1) ?_;rintro _ h2 _ ⟨rfl,rfl⟩ hR3;have hS:=hS.clR hR3 .n;refine r4 ?_;rintro _ h5 ⟨b4,eb4,rfl,hS⟩;refine r1 ?_;rintro h6 hS;refine r8 ?_;refine r3 ?_;obtain⟨x7,hx7,hL⟩:=bind_some hL;obtain⟨b8,o9,_,Zvu,ZIj,ZXp⟩:=Src.at_ (hS.QE k2) hx7;refine WO.w gN rfl (ZE YE YF lk lk rfl Zvu hx7) ?_;refine WO.hu gN (Zey (e:= (Zu .i64)) (-1) () hS k2 YF (Yi fh rfl) (evC rfl) Zvu hx7 ZIj (j:=0) rfl (vs:= [.int .i64 (-1)]) rfl rfl rfl rfl rfl (cs':= [.int .i64 (-1)]) rfl rfl trivial) ?_;rintro h10 ⟨hS,ZXw⟩;refine r8 ?_;refine r2 ?_;refine WO.inl gN rfl (Xm.fn Zy0 (Zf lk (Zf lk Zz))) (WF.begin (args:= [_,_]) (fn:=Tryz.f77) Kq0 (by exact rfl) Tryz.ntmps77 (by simp) ?_);simp only [ZY,Z8,Nat.reduceAdd];refine r3 ?_;rintro _ h13 ⟨b12,ZSV,rfl,hS⟩;refine r1 ?_;rintro _ h15 ⟨b14,ZYY,rfl,hS⟩;refine r4 ?_;refine r1 ?_;refine WO.w gN rfl (Zbq (Zf lk (Zf lk Zz))) ?_;refine r4 ?_;refine Yl.X0 rfl (ZP lk ZA) ?_;refine WO.inl gN rfl (Xm.fn ZHu (Zf lk Zz)) (WF.begin (args:= [_]) (fn:=Tryz.f104) Kq0 (by exact rfl) Tryz.ntmps104 (by simp) ?_);simp only [ZY,Z8,Nat.reduceAdd];refine r8 ?_;refine WO.inl gN rfl (Xm.fn ZFE (Zf lk Zz)) (WF.begin (args:= [_]) (fn:=Tryz.f79) Kq0 (by exact rfl) Tryz.ntmps79 (by simp) ?_);simp only [ZY,Z8,Nat.reduceAdd];refine r8 ?_;refine WO.inl gN rfl (Xm.fn Zy4 (Zf lk (Zf lk Zz))) (WF.ZsA (args:= [_,_]) (fn:=Tryz.f100) Kq0 (by exact rfl) Tryz.ntmps100 (by simp) ?_);simp only [ZY,Z8,Nat.reduceAdd];refine r3 ?_;rintro _ h17 ⟨b16,ZYX,rfl,hS⟩;refine r8 ?_;refine r2 ?_;refine WC.Zxl (first:= []) (cap:= [.pointer (some ⟨b12,0,none⟩),.pointer (some ⟨b14,0,none⟩)]) hS lk ZyW ?_;intro h18 l19 Zso ZsV Zt4 hS;refine WR.Zrt (r:=r) (fun(v25:(List Int)) (v:Value) (h23:H)=>∃ (a26:Option Addr) (c27:Nat) (n28:Nat),v= .tuple [].toArray∧Sp wm T h [bx wm b12 (cW p0.Za Zi Zh Zk Zj Zq Zn Zp Zm Zo Zl),bx wm b14 [.int .i64 p1],ow wm (Zu .i64) a26 n28 c27 v25,bx wm b16 [.slice a26 n28 c27],bx wm YX (cH p0 Zi Zh Zk Zj Zq Zn Zp Zm Zo Zl Z7 Z6),bx wm b4 [.int .i64 x1.1.machine,.bool x1.1.here,.int .i64 x1.1.age],ow wm (Zu .i64) Zi p0.Za.Zv.length Zh (Yt p0.Za.Zv p1 (-1)),Y3 wm (ZV (Zu .i64)) Zk p0.Za.qK.length Zj YJ p0.Za.qK,Y3 wm (ZV Zc) Zq p0.Za.qQ.length Zn YR p0.Za.qQ,Y3 wm (ZV Zg) Zp p0.Za.qJ.length Zm YI p0.Za.qJ,ow wm Ze Zo p0.Za.qG.length Zl p0.Za.qG,ow wm ZQ Z7 p0.qX.length Z6 p0.qX,ob wm l19 ZsV,ob wm Zso .deferred] h23) (Zm2 F p0 p1 p2 x1) ?_ (WF.begin (args:= [_,_,_]) (fn:=Tryz.f97) Kq0 (by exact rfl) Tryz.ntmps97 (by simp) ?_)
 ·clear hL hS;rintro v25 v h23 hL ⟨a26,c27,n28,rfl,hS⟩;obtain rfl:=hS.on k2;dsimp only [Zm2] at hL;refine RgE.sp Zt4 hS k12 ?_;rintro h29 hS;refine r8 ?_;refine r1 ?_;refine UY.ZAT hS k12 ?_;rintro h30 hS;refine UY.gen rfl (ZP lk ZA) rfl ?_;refine r4 ?_;refine Yl.X0 rfl (ZP lk ZA) ?_;refine r6 ?_;obtain⟨x31,hx31,hL⟩:=bind_some hL;refine WO.cl gN rfl (Xm.fn ZFB (Zf lk Zz)) hS (.c k2 .n) (fun g' hz hf hO=>ZAm (by rw [hz];exact hS.hw) hO hx31) ?_;rintro _ h32 _ ⟨rfl,rfl⟩ hS;refine r8 ?_;refine r1 ?_;refine Yl.X0 rfl (ZP lk ZA) ?_;refine WO.w gN rfl (XP Zur (ZG lk (ZG lk (ZG lk Yf))) rfl (cs':= [.int .i64 2,.int .i64 p2,.int .i64 0,.int .i64 0,.int .i64 0,.int .i64 0,.int .i64 0,.slice a26 v25.length c27,.slice none 0 0,.int .i64 0,.int .i64 0,.int .i64 0]) rfl) ?_;refine r1 ?_;rintro _ h35 ⟨b34,ZYS,rfl,hS⟩;refine r1 ?_;rintro h36 hS;refine r6 ?_;refine r1 ?_;refine WO.w gN rfl (Zdd YE lk (congrArg Nat.cast (hS.on k1))) ?_;refine r4 ?_;have hS:=hS.nil (e:= (Zu .i64));refine WC.loop (WL.lift hL (fun(p:Int×(List Zx)×(List Int)×(List (List Zw))) (s:Fs)=>match p with | (v45,v47,v51,v55)=>∃ (ZaS:Fr) (h37:H) (a48:Option Addr) (c49:Nat) (n50:Nat) (a52:Option Addr) (c53:Nat) (n54:Nat) (Zo4:Nat ->Option Addr×Nat×Nat),s= ⟨ZaS,[],h37,none⟩∧Sp wm T h [ow wm ZQ a48 n50 c49 v47,bx wm YX (cG Zi p0.Za.Zv.length Zh Zk p0.Za.qK.length Zj Zq p0.Za.qQ.length Zn Zp p0.Za.qJ.length Zm Zo p0.Za.qG.length Zl p0.Za.said a48 n50 c49),bx wm b4 [.int .i64 x1.1.machine,.bool x1.1.here,.int .i64 x1.1.age],ow wm (Zu .i64) a52 n54 c53 v51,bx wm b34 [.int .i64 2,.int .i64 p2,.int .i64 0,.int .i64 0,.int .i64 0,.int .i64 0,.int .i64 0,.slice a26 v25.length c27,.slice a52 n54 c53,.int .i64 0,.int .i64 0,.int .i64 0],ow wm (Zu .i64) a26 v25.length c27 x31,ow wm (Zu .i64) Zi p0.Za.Zv.length Zh (Yt p0.Za.Zv p1 (-1)),Y3 wm (ZV (Zu .i64)) Zk p0.Za.qK.length Zj YJ p0.Za.qK,Y3 wm (ZV Zc) Zq p0.Za.qQ.length Zn Zo4 v55,Y3 wm (ZV Zg) Zp p0.Za.qJ.length Zm YI p0.Za.qJ,ow wm Ze Zo p0.Za.qG.length Zl p0.Za.qG] h37∧ZaS.at 0= .pointer (some ⟨YX,0,none⟩)∧ZaS.at 2= .int .i64 p2∧ZaS.at 6= .pointer (some ⟨b4,0,none⟩)∧ZaS.at 8= .pointer (some ⟨b34,0,none⟩)∧ZaS.at 38= .slice a26 v25.length c27∧ZaS.at 39= .int .i64 (x31.length:Int)∧ZaS.at 40= .int .i64 v45) ⟨_,_,Z7,Z6,p0.qX.length,none,0,0,YR,rfl,hS.only (.c k13 (.c k6 (.c k6 (.c k0 (.c k0 (.c k0 (.c k3 (.c k3 (.c k3 (.c k3 (.c k3 .n))))))))))),YA⟩ ?_);clear hL hS;rintro ZxR ⟨v45,v47,v51,v55⟩ s ZDj hL ⟨ZaS,h37,a48,c49,n50,a52,c53,n54,Zo4,rfl,hS,e39,e40,e41,e42,e43,e44,e46⟩;obtain rfl:=hS.on k0;obtain rfl:=hS.on k3;dsimp only [Zjt] at hL;refine r6 ?_;refine cn hL ?_ ?_
  ·intro hc hL;refine r6 ?_;obtain⟨x58,Zyk,hL⟩:=bind_some hL;obtain⟨b59,o60,_,Zy9,ZzK,ZNm⟩:=Src.at_ (hS.QE k5) Zyk;refine WO.w gN rfl (ZE YE YF lk lk (hS.on k5) Zy9 Zyk) ?_;refine WO.w gN rfl (ZW Xn (Yi fh rfl) ZzK (j:=0) rfl (v:= .int .i64 x58) rfl) ?_;refine r4 ?_;refine WC.Xx mixed Kq0 ?_;refine r6 ?_;refine r1 ?_;obtain⟨x61,Zi1,hL⟩:=bind_some hL;obtain⟨b62,o63,a64,n65,c66,ZyB,Zy8,ZzJ⟩:=hS.atS k8 Zi1;refine WX.w gN rfl (ZE U6 Q5 lk lk (hS.YT k8) Zy8 Zi1) ?_ rfl;refine WX.w gN rfl (ZW WS (Yi fh rfl) ZzJ (j:=0) rfl (v:= .slice a64 n65 c66) rfl) ?_ rfl;refine r1 ?_;obtain⟨x67,Zvo,hL⟩:=bind_some hL;obtain⟨b68,o69,_,Zt1,Zt9,ZFQ⟩:=Src.at_ (hS.inS k8 Zi1 ZyB).2.1 Zvo;refine WX.w gN rfl (ZE U5 XD lk lk (hS.inS k8 Zi1 ZyB).1 Zt1 Zvo) ?_ rfl;refine r8 ?_;refine r2 ?_;refine WO.w gN rfl (ZW Xn (Yi fh rfl) Zt9 (j:=2) rfl (v:= .int .i64 x67.age) rfl) ?_;refine r1 ?_;refine WO.w gN rfl (XP Zus (ZG lk (ZG lk Yf)) rfl (cs':= [.bool false,.int .i64 p2,.int .i64 (Xd (x67.age + 1))]) rfl) ?_;refine r1 ?_;have hS:=hS.Zik k8 Zi1 ZyB;refine WO.hu gN (Zey (e:=Zc) (Zw.mk false p2 (Xd (x67.age + 1))) () hS k1 XD (Yi fh rfl) (Yi (Zy rfl fh) rfl) Zt1 Zvo Zt9 (j:=0) rfl (vs:= [.bool false,.int .i64 p2,.int .i64 (Xd (x67.age + 1))]) rfl rfl rfl rfl rfl (cs':= [.bool false,.int .i64 p2,.int .i64 (Xd (x67.age + 1))]) rfl rfl trivial) ?_;rintro h70 ⟨hS,ZSv⟩;obtain⟨ZQO,ZW9,hS⟩:=hS.Zjn (.c k1 (.c k0 .n)) Zi1;refine r3 ?_;refine WC.Xx mixed Kq0 ?_;refine r4 ?_;refine r1 ?_;refine WX.w gN rfl (ZW Xn (Yi fh rfl) ZSv (j:=2) rfl (v:= .int .i64 (Xd (x67.age + 1))) rfl) ?_ rfl;refine WX.hn gN rfl (K9 (e:= (Zu .i64)) hS YE YF Zbv rfl rfl rfl (ZG lk Yf) rfl [((),Xd (x67.age + 1))] rfl (xs:= [Xd (x67.age + 1)]) rfl (by intro q hq;simp only [List.mem_cons,List.not_mem_nil,or_false] at hq;subst hq;exact trivial) rfl) ?_ rfl;rintro _ h75 ⟨b74,ZYD,rfl,hS⟩;obtain⟨z76,ZQ4,hL⟩:=bind_some hL;refine WX.hv gN rfl (Ko (e:= (Zu .i64)) hS k5 QX lk lk (hS.QE k0) (hS.on k0) ZQ4) ?_ rfl rfl [] Kq0 YV.e;rintro _ h79 ⟨a77,c78,rfl,hS⟩;refine WX.w gN rfl (Ui ZmX lk) ?_ Kq0;refine WX.hu gN (ZaI hS k6 JR lk lk (vs:= [.slice a77 z76.length c78]) rfl rfl rfl rfl (cs':= [.int .i64 2,.int .i64 p2,.int .i64 0,.int .i64 0,.int .i64 0,.int .i64 0,.int .i64 0,.slice a26 v25.length c27,.slice a77 z76.length c78,.int .i64 0,.int .i64 0,.int .i64 0]) rfl) ?_ rfl Kq0 [] Kq0 YV.e;rintro h80 hS;refine r2 ?_;refine WC.Xx mixed Kq0 ?_;refine r8 ?_;refine r1 ?_;refine WX.w gN rfl (XP ZA1 (ZG lk (ZG lk (ZG lk (ZG lk Yf)))) rfl (cs':= [.int .i64 2,.int .i64 x58,.int .i64 x1.1.machine,.int .i64 p2,.int .i64 0]) rfl) ?_ rfl;refine WX.hn gN rfl (K9 (e:=ZQ) hS Zs7 Zma Zic rfl rfl rfl (ZG lk Yf) rfl [((),(Zx.mk 2 x58 x1.1.machine p2 0))] rfl (xs:= [(Zx.mk 2 x58 x1.1.machine p2 0)]) rfl (by intro q hq;simp only [List.mem_cons,List.not_mem_nil,or_false] at hq;subst hq;exact trivial) rfl) ?_ rfl;rintro _ h82 ⟨b81,ZYA,rfl,hS⟩;obtain⟨z83,ZQ3,hL⟩:=bind_some hL;refine WX.hv gN rfl (Ko (e:=ZQ) hS k5 Zkl lk lk (hS.QE k0) (hS.on k0) ZQ3) ?_ rfl rfl [] Kq0 YV.e;rintro _ h86 ⟨a84,c85,rfl,hS⟩;refine WX.w gN rfl (Zd7 lk) ?_ Kq0;refine WX.w gN rfl (Ui Ze4 lk) ?_ Kq0;refine WX.hu gN (ZaI hS k6 Zmb lk lk (vs:= [.slice a84 z83.length c85]) rfl rfl rfl rfl (cs':= (cG Zi p0.Za.Zv.length Zh Zk p0.Za.qK.length Zj Zq p0.Za.qQ.length Zn Zp p0.Za.qJ.length Zm Zo p0.Za.qG.length Zl p0.Za.said a84 z83.length c85)) rfl) ?_ rfl Kq0 [] Kq0 YV.e;rintro h87 hS;refine r6 ?_;refine r1 ?_;exact Yc.YZ (ZDj _ _ hL ⟨_,_,a84,c85,z83.length,a77,c78,z76.length,ZQO,rfl,hS.only (.c k1 (.c k0 (.c k5 (.c k2 (.c k1 (.c k3 (.c k3 (.c k3 (.c k2 (.c k2 (.c k2 .n))))))))))),YA⟩)
  ·intro hc hL;refine r4 ?_;refine r1 ?_;have ZHc:=hS.on k5;rw [ZHc] at hS;rw [ZHc] at e43
   try rw [ZHc]
   refine WC.fzn hS k5 ?_;rintro h89 ⟨ZXd,hS⟩;refine WC.fzn hS k4 ?_;rintro h91 ⟨ZXc,hS⟩;refine WC.Xx mixed Kq0 ?_;refine r6 ?_;refine r1 ?_;refine WX.hn gN rfl (K9 (e:=Ze) hS Jj Y2 ZdC rfl rfl rfl (ZG lk Yf) rfl [(((a26,c27),(a52,c53)),(Zd.mk 2 p2 (Zr.mk 0 0 0 0 0) x31 v51 0 0 0))] rfl (xs:= [(Zd.mk 2 p2 (Zr.mk 0 0 0 0 0) x31 v51 0 0 0)]) rfl (by intro q hq;simp only [List.mem_cons,List.not_mem_nil,or_false] at hq;subst hq;exact⟨(hS.fsl k1),(hS.fsl k0)⟩) rfl) ?_ rfl;rintro _ h94 ⟨b93,ZYv,rfl,hS⟩;obtain⟨z95,ZQ2,hL⟩:=bind_some hL;refine WX.hv gN rfl (Ko (e:=Ze) hS k11 ZcG lk lk (hS.QE k0) (hS.on k0) ZQ2) ?_ rfl rfl [] Kq0 YV.e;rintro _ h98 ⟨a96,c97,rfl,hS⟩;refine WX.w gN rfl (Zd7 lk) ?_ Kq0;refine WX.w gN rfl (Ui Ze5 lk) ?_ Kq0;refine WX.w gN rfl (Ui Zh0 lk) ?_ Kq0;refine WX.hu gN (ZaI hS k5 Zmc lk lk (vs:= [.slice a96 z95.length c97]) rfl rfl rfl rfl (cs':= (cG Zi p0.Za.Zv.length Zh Zk p0.Za.qK.length Zj Zq p0.Za.qQ.length Zn Zp p0.Za.qJ.length Zm a96 z95.length c97 p0.Za.said a48 v47.length c49)) rfl) ?_ rfl Kq0 [] Kq0 YV.e;rintro h99 hS;refine r1 ?_;refine Yl.YZ ?_;have hr:=Oi0 hL;subst hr;exact Yl.gen (vs:= []) rfl ZA rfl ⟨_,⟨Zi,p0.Za.Zv.length,Zh,Zk,p0.Za.qK.length,Zj,YJ,Zq,p0.Za.qQ.length,Zn,Zo4,Zp,p0.Za.qJ.length,Zm,YI,a96,z95.length,c97,a48,v47.length,c49,rfl,rfl⟩,hT ▸ hS.only (.c k0 (.c k7 (.c k7 (.c k7 (.c k7 (.c k0 (.c k3 .n)))))))⟩
 ·skip;simp only [ZY,Z8,Nat.reduceAdd];refine r3 ?_;rintro _ Zvv ⟨Zcz,ZF1,rfl,hS⟩;refine r4 ?_;refine r1 ?_;rintro _ ZDA ⟨Zdl,ZVq,rfl,hS⟩;refine r4 ?_;refine WO.w gN rfl (Zbq (Zf lk (Zf lk (Zf lk Zz)))) ?_;refine r1 ?_;rintro ZOz hS;refine r4 ?_;refine r1 ?_
  have ZC5:∀ (Fr:Nat) (x:Int×(List Int)) (r:Bool×(List Int)),loop Fr (Zjs F p0 p1) x=some r ->match x with | (v107,ZdF)=>∀ {h:H} (a109:Option Addr) (ZnR:Nat) (n111:Nat),wm <=h.size ->Yh (wm:=wm) [bx wm YX (cH p0 Zi Zh Zk Zj Zq Zn Zp Zm Zo Zl Z7 Z6),bx wm b4 [.int .i64 x1.1.machine,.bool x1.1.here,.int .i64 x1.1.age],bx wm b12 (cW p0.Za Zi Zh Zk Zj Zq Zn Zp Zm Zo Zl),bx wm b14 [.int .i64 p1],ow wm (Zu .i64) a109 n111 ZnR ZdF,bx wm b16 [.slice a109 n111 ZnR],bx wm Zcz [.func (.yield l19) #[] #[]],bx wm Zdl [.func (.func 98) #[] [.pointer (some ⟨Zcz,0,none⟩),.pointer (some ⟨b12,0,none⟩),.pointer (some ⟨Zdl,0,none⟩)].toArray],ow wm (Zu .i64) Zi p0.Za.Zv.length Zh (Yt p0.Za.Zv p1 (-1)),Y3 wm (ZV (Zu .i64)) Zk p0.Za.qK.length Zj YJ p0.Za.qK,Y3 wm (ZV Zc) Zq p0.Za.qQ.length Zn YR p0.Za.qQ,Y3 wm (ZV Zg) Zp p0.Za.qJ.length Zm YI p0.Za.qJ,ow wm Ze Zo p0.Za.qG.length Zl p0.Za.qG,ow wm ZQ Z7 p0.qX.length Z6 p0.qX,ob wm l19 ZsV,ob wm Zso .deferred] h ->WR XX 98 #[.int .i64 v107,.pointer (some ⟨Zcz,0,none⟩),.pointer (some ⟨b12,0,none⟩),.pointer (some ⟨Zdl,0,none⟩)] wm h (CP (fun(v:Value) (Gb:List (Ast wm))=>match r with | (ZuM,v117)=>∃ (ZEK:Option Addr) (c119:Nat) (n120:Nat),v= .bool ZuM∧Gb= [bx wm YX (cH p0 Zi Zh Zk Zj Zq Zn Zp Zm Zo Zl Z7 Z6),bx wm b4 [.int .i64 x1.1.machine,.bool x1.1.here,.int .i64 x1.1.age],bx wm b12 (cW p0.Za Zi Zh Zk Zj Zq Zn Zp Zm Zo Zl),bx wm b14 [.int .i64 p1],ow wm (Zu .i64) ZEK n120 c119 v117,bx wm b16 [.slice ZEK n120 c119],bx wm Zcz [.func (.yield l19) #[] #[]],bx wm Zdl [.func (.func 98) #[] [.pointer (some ⟨Zcz,0,none⟩),.pointer (some ⟨b12,0,none⟩),.pointer (some ⟨Zdl,0,none⟩)].toArray],ow wm (Zu .i64) Zi p0.Za.Zv.length Zh (Yt p0.Za.Zv p1 (-1)),Y3 wm (ZV (Zu .i64)) Zk p0.Za.qK.length Zj YJ p0.Za.qK,Y3 wm (ZV Zc) Zq p0.Za.qQ.length Zn YR p0.Za.qQ,Y3 wm (ZV Zg) Zp p0.Za.qJ.length Zm YI p0.Za.qJ,ow wm Ze Zo p0.Za.qG.length Zl p0.Za.qG,ow wm ZQ Z7 p0.qX.length Z6 p0.qX,ob wm l19 ZsV,ob wm Zso .deferred]) [bx wm YX (cH p0 Zi Zh Zk Zj Zq Zn Zp Zm Zo Zl Z7 Z6),bx wm b4 [.int .i64 x1.1.machine,.bool x1.1.here,.int .i64 x1.1.age],bx wm b12 (cW p0.Za Zi Zh Zk Zj Zq Zn Zp Zm Zo Zl),bx wm b14 [.int .i64 p1],ow wm (Zu .i64) a109 n111 ZnR ZdF,bx wm b16 [.slice a109 n111 ZnR],bx wm Zcz [.func (.yield l19) #[] #[]],bx wm Zdl [.func (.func 98) #[] [.pointer (some ⟨Zcz,0,none⟩),.pointer (some ⟨b12,0,none⟩),.pointer (some ⟨Zdl,0,none⟩)].toArray],ow wm (Zu .i64) Zi p0.Za.Zv.length Zh (Yt p0.Za.Zv p1 (-1)),Y3 wm (ZV (Zu .i64)) Zk p0.Za.qK.length Zj YJ p0.Za.qK,Y3 wm (ZV Zc) Zq p0.Za.qQ.length Zn YR p0.Za.qQ,Y3 wm (ZV Zg) Zp p0.Za.qJ.length Zm YI p0.Za.qJ,ow wm Ze Zo p0.Za.qG.length Zl p0.Za.qG,ow wm ZQ Z7 p0.qX.length Z6 p0.qX,ob wm l19 ZsV,ob wm Zso .deferred] h):=by
   clear hL hS;refine Ziv _ ?_;rintro ZhR ZyM ⟨v107,ZdF⟩ r hL h a109 ZnR n111 Z0 hO;dsimp only [Zjs] at hL;obtain⟨T,hT,hS⟩:∃ T,T=Qg (wm:=wm) [bx wm YX (cH p0 Zi Zh Zk Zj Zq Zn Zp Zm Zo Zl Z7 Z6),bx wm b4 [.int .i64 x1.1.machine,.bool x1.1.here,.int .i64 x1.1.age],bx wm b12 (cW p0.Za Zi Zh Zk Zj Zq Zn Zp Zm Zo Zl),bx wm b14 [.int .i64 p1],ow wm (Zu .i64) a109 n111 ZnR ZdF,bx wm b16 [.slice a109 n111 ZnR],bx wm Zcz [.func (.yield l19) #[] #[]],bx wm Zdl [.func (.func 98) #[] [.pointer (some ⟨Zcz,0,none⟩),.pointer (some ⟨b12,0,none⟩),.pointer (some ⟨Zdl,0,none⟩)].toArray],ow wm (Zu .i64) Zi p0.Za.Zv.length Zh (Yt p0.Za.Zv p1 (-1)),Y3 wm (ZV (Zu .i64)) Zk p0.Za.qK.length Zj YJ p0.Za.qK,Y3 wm (ZV Zc) Zq p0.Za.qQ.length Zn YR p0.Za.qQ,Y3 wm (ZV Zg) Zp p0.Za.qJ.length Zm YI p0.Za.qJ,ow wm Ze Zo p0.Za.qG.length Zl p0.Za.qG,ow wm ZQ Z7 p0.qX.length Z6 p0.qX,ob wm l19 ZsV,ob wm Zso .deferred]∧Sp wm T h [bx wm YX (cH p0 Zi Zh Zk Zj Zq Zn Zp Zm Zo Zl Z7 Z6),bx wm b4 [.int .i64 x1.1.machine,.bool x1.1.here,.int .i64 x1.1.age],bx wm b12 (cW p0.Za Zi Zh Zk Zj Zq Zn Zp Zm Zo Zl),bx wm b14 [.int .i64 p1],ow wm (Zu .i64) a109 n111 ZnR ZdF,bx wm b16 [.slice a109 n111 ZnR],bx wm Zcz [.func (.yield l19) #[] #[]],bx wm Zdl [.func (.func 98) #[] [.pointer (some ⟨Zcz,0,none⟩),.pointer (some ⟨b12,0,none⟩),.pointer (some ⟨Zdl,0,none⟩)].toArray],ow wm (Zu .i64) Zi p0.Za.Zv.length Zh (Yt p0.Za.Zv p1 (-1)),Y3 wm (ZV (Zu .i64)) Zk p0.Za.qK.length Zj YJ p0.Za.qK,Y3 wm (ZV Zc) Zq p0.Za.qQ.length Zn YR p0.Za.qQ,Y3 wm (ZV Zg) Zp p0.Za.qJ.length Zm YI p0.Za.qJ,ow wm Ze Zo p0.Za.qG.length Zl p0.Za.qG,ow wm ZQ Z7 p0.qX.length Z6 p0.qX,ob wm l19 ZsV,ob wm Zso .deferred] h:= ⟨_,rfl,Sp.start Z0 hO⟩
   obtain rfl:=hS.on k4;refine WF.begin (args:= [_,_,_,_]) (fn:=Tryz.f98) Kq0 (by exact rfl) Tryz.ntmps98 (by simp) ?_;simp only [ZY,Z8,Nat.reduceAdd];refine r8 ?_;refine r2 ?_;refine WO.ZKp gN rfl lk lks hS k14 Zt4 rfl rfl ?_;refine r3 ?_;refine AsK.sp Zt4 hS k14 ?_;rintro ZSH hS;refine r4 ?_;refine WO.hn gN rfl (K9 (e:= (Zu .i64)) hS YE YF Zbv rfl rfl rfl (ZG lk Yf) rfl [((),v107)] rfl (xs:= [v107]) rfl (by intro q hq;simp only [List.mem_cons,List.not_mem_nil,or_false] at hq;subst hq;exact trivial) rfl) ?_;rintro _ ZYk ⟨ZPk,ZVl,rfl,hS⟩;obtain⟨z124,ZLr,hL⟩:=bind_some hL;refine WO.hv gN rfl (Ko (e:= (Zu .i64)) hS k6 QX lk lk (hS.QE k0) (hS.on k0) ZLr) ?_;rintro _ h127 ⟨ZPx,ZEn,rfl,hS⟩;refine r1 ?_;rintro h128 hS;refine r2 ?_;refine BdK.sp Zt4 hS k3 ?_;rintro ZSF hS;refine r3 ?_;refine cn hL ?_ ?_
   ·intro hc hL;refine r6 ?_;refine r1 ?_;have hr:=Oi0 hL;subst hr;exact Yl.X0 rfl (ZP lk ZA) ⟨_,⟨ZPx,ZEn,z124.length,rfl,rfl⟩,hT ▸ hS.only (.c k4 (.c k4 (.c k4 (.c k4 (.c k2 (.c k1 (.c k2 (.c k2 (.c k2 (.c k2 (.c k2 (.c k2 (.c k2 (.c k2 (.c k0 (.c k1 .n))))))))))))))))⟩
   ·intro hc hL;refine r6 ?_;refine r1 ?_;refine WO.w gN rfl (Zdd YE lk (congrArg Nat.cast (hS.on k10))) ?_;refine r4 ?_;refine WC.loop (WL.lift hL (fun(p:Int×(List Int)) (s:Fs)=>match p with | (Zow,v138)=>∃ (Zjm:Fr) (ZDy:H) (a139:Option Addr) (Zv1:Nat) (n141:Nat),s= ⟨Zjm,[],ZDy,none⟩∧Sp wm T h [bx wm Zdl [.func (.func 98) #[] [.pointer (some ⟨Zcz,0,none⟩),.pointer (some ⟨b12,0,none⟩),.pointer (some ⟨Zdl,0,none⟩)].toArray],bx wm Zcz [.func (.yield l19) #[] #[]],bx wm b12 (cW p0.Za Zi Zh Zk Zj Zq Zn Zp Zm Zo Zl),bx wm YX (cH p0 Zi Zh Zk Zj Zq Zn Zp Zm Zo Zl Z7 Z6),bx wm b4 [.int .i64 x1.1.machine,.bool x1.1.here,.int .i64 x1.1.age],bx wm b14 [.int .i64 p1],ow wm (Zu .i64) a139 n141 Zv1 v138,bx wm b16 [.slice a139 n141 Zv1],ow wm (Zu .i64) Zi p0.Za.Zv.length Zh (Yt p0.Za.Zv p1 (-1)),Y3 wm (ZV (Zu .i64)) Zk p0.Za.qK.length Zj YJ p0.Za.qK,Y3 wm (ZV Zc) Zq p0.Za.qQ.length Zn YR p0.Za.qQ,Y3 wm (ZV Zg) Zp p0.Za.qJ.length Zm YI p0.Za.qJ,ow wm Ze Zo p0.Za.qG.length Zl p0.Za.qG,ow wm ZQ Z7 p0.qX.length Z6 p0.qX,ob wm l19 ZsV,ob wm Zso .deferred] ZDy∧Zjm.at 0= .int .i64 v107∧Zjm.at 3= .pointer (some ⟨Zdl,0,none⟩)∧Zjm.at 13= .slice Zi p0.Za.Zv.length Zh∧Zjm.at 14= .int .i64 ((Yt p0.Za.Zv p1 (-1)).length:Int)∧Zjm.at 15= .int .i64 Zow) ⟨_,_,ZPx,ZEn,z124.length,rfl,hS.only (.c k9 (.c k8 (.c k6 (.c k4 (.c k4 (.c k4 (.c k2 (.c k1 (.c k2 (.c k2 (.c k2 (.c k2 (.c k2 (.c k2 (.c k0 (.c k1 .n)))))))))))))))),YA⟩ ?_);clear hL hS;rintro Zmq ⟨Zow,v138⟩ s ZpE hL ⟨Zjm,ZDy,a139,Zv1,n141,rfl,hS,ZZy,ZS7,ZZx,ZS6,e137⟩;obtain rfl:=hS.on k6;dsimp only [Zsb] at hL;refine r6 ?_;refine cn hL ?_ ?_
    ·intro hc hL;refine r6 ?_;refine r1 ?_;obtain⟨ZqT,Zpv,hL⟩:=bind_some hL;obtain⟨ZTA,ZQU,_,ZrJ,ZrO,ZHX⟩:=Src.at_ (hS.QE k8) Zpv;refine WO.w gN rfl (ZE YE YF lk lk (hS.on k8) ZrJ Zpv) ?_;refine WO.w gN rfl (ZW Xn (Yi fh rfl) ZrO (j:=0) rfl (v:= .int .i64 ZqT) rfl) ?_;refine XA ?_;refine WO.Zbh (Zt.yes rfl rfl rfl (YG rfl fh)) (fun Zcj=>?_) (fun Zcj=>?_)
     ·replace hL:=JL Zcj hL;obtain⟨⟨ZKE,ZwO⟩,Zyr,hL⟩:=bind_some hL;dsimp only at hL;refine WO.cl (Zt.on (Zt.yes rfl rfl rfl (YG rfl fh)) Zcj) rfl (Xm.clo (first:= []) (cap:= [.pointer (some ⟨Zcz,0,none⟩),.pointer (some ⟨b12,0,none⟩),.pointer (some ⟨Zdl,0,none⟩)]) (Y4 (Zy rfl fh) rfl Zcj) Zja (Zf (Y4 fh rfl Zcj) Zz) rfl) hS (.c k3 (.c k3 (.c k2 (.c k2 (.c k2 (.c k2 (.c k1 (.c k0 (.c k0 (.c k0 (.c k0 (.c k0 (.c k0 (.c k0 (.c k0 (.c k0 .n)))))))))))))))) (fun g' hz hf hO=>ZyM _ _ Zyr a139 Zv1 v138.length (by rw [hz];exact hS.hw) hO) ?_;rintro _ ZOu _ ⟨ZPu,c152,n153,rfl,rfl⟩ hS;simp only [List.cons_append,List.nil_append] at hS;obtain rfl:=hS.on k4;refine WO.w (Zt.on (Zt.yes rfl rfl rfl (YG rfl (Zy rfl fh))) Zcj) rfl (Zkg lk) ?_;refine WO.w gN rfl (ZcB lk Zcj lk) ?_;refine r2 ?_;refine cn hL ?_ ?_
      ·intro hc hL;refine r8 ?_;refine r3 ?_;have hr:=Oi0 hL;subst hr;exact Yl.X0 rfl (ZP lk ZA) ⟨_,⟨ZPu,c152,ZwO.length,rfl,rfl⟩,hT ▸ hS.only (.c k0 (.c k0 (.c k0 (.c k0 (.c k0 (.c k0 (.c k0 (.c k0 (.c k0 (.c k0 (.c k0 (.c k0 (.c k0 (.c k0 (.c k0 (.c k0 .n))))))))))))))))⟩
      ·intro hc hL;refine r6 ?_;refine r1 ?_;exact Yc.YZ (ZpE _ _ hL ⟨_,_,ZPu,c152,ZwO.length,rfl,hS.only (.c k7 (.c k6 (.c k2 (.c k0 (.c k0 (.c k0 (.c k0 (.c k0 (.c k0 (.c k0 (.c k0 (.c k0 (.c k0 (.c k0 (.c k0 (.c k0 .n)))))))))))))))),YA⟩)
     ·replace hL:=JM Zcj hL;refine WO.ZbK (Zt.yes rfl rfl rfl (YG rfl fh)) Zcj rfl ?_;refine WO.ZbK (Zt.yes rfl rfl rfl (YG rfl (Zy rfl fh))) Zcj rfl ?_;refine WO.w gN rfl (ZcC lk Zcj lk) ?_;refine r2 ?_;refine WC.Zd5 lk rfl ?_;refine r6 ?_;refine r1 ?_;exact Yc.YZ (ZpE _ _ hL ⟨_,_,a139,Zv1,v138.length,rfl,hS.only (.c k0 (.c k0 (.c k0 (.c k0 (.c k0 (.c k0 (.c k0 (.c k0 (.c k0 (.c k0 (.c k0 (.c k0 (.c k0 (.c k0 (.c k0 (.c k0 .n)))))))))))))))),YA⟩)
    ·intro hc hL;refine r8 ?_;refine r3 ?_;have hr:=Oi0 hL;subst hr;exact Yl.X0 rfl (ZP lk ZA) ⟨_,⟨a139,Zv1,v138.length,rfl,rfl⟩,hT ▸ hS.only (.c k3 (.c k3 (.c k2 (.c k2 (.c k2 (.c k2 (.c k1 (.c k0 (.c k0 (.c k0 (.c k0 (.c k0 (.c k0 (.c k0 (.c k0 (.c k0 .n))))))))))))))))⟩
  have hS:=hS.nil (e:= (Zu .i64));obtain⟨⟨Zig,v159⟩,ZLL,hL⟩:=bind_some hL;dsimp only at hL;refine WO.cl gN rfl (Xm.clo (first:= []) (cap:= [.pointer (some ⟨Zcz,0,none⟩),.pointer (some ⟨b12,0,none⟩),.pointer (some ⟨Zdl,0,none⟩)]) lk Zja lks rfl) hS (.c k10 (.c k9 (.c k7 (.c k6 (.c k0 (.c k4 (.c k1 (.c k0 (.c k2 (.c k2 (.c k2 (.c k2 (.c k2 (.c k2 (.c k0 (.c k0 .n)))))))))))))))) (fun g' hz hf hO=>ZC5 _ _ _ ZLL none 0 0 (by rw [hz];exact hS.hw) hO) ?_;rintro _ ZYc _ ⟨a160,ZTr,n162,rfl,rfl⟩ hS;simp only [List.cons_append,List.nil_append] at hS;obtain rfl:=hS.on k4;refine r1 ?_;refine Yl.YZ ?_;exact Yl.gen (vs:= []) rfl ZA rfl ⟨_,hL,⟨a160,ZTr,v159.length,rfl,hS.only (.c k2 (.c k2 (.c k2 (.c k2 (.c k0 (.c k0 (.c k2 (.c k2 (.c k2 (.c k2 (.c k2 (.c k2 (.c k2 (.c k2 .n))))))))))))))⟩⟩
theorem ZI3 {wm:Nat} {h:H} {p0:Zd} {Zi:Option Addr} {Zh:Nat} {Zk:Option Addr} {Zj:Nat} {r:Bool} (Z0:wm <=h.size) (ZB:Sl (Zu .i64) wm h Zi Zh p0.qV) (ZN:Sl (Zu .i64) wm h Zk Zj p0.Yj) (hL:ZvF p0=some r):
 WR XX 86 #[.agg [.int .i64 p0.kind,.int .i64 p0.Z9,.int .i64 p0.Ya.msg,.int .i64 p0.Ya.place,.int .i64 p0.Ya.from_,.int .i64 p0.Ya.age,.int .i64 p0.Ya.hops,.slice Zi p0.qV.length Zh,.slice Zk p0.Yj.length Zj,.int .i64 p0.place,.int .i64 p0.at_,.int .i64 p0.age].toArray] wm h (CP (fun(v:Value) (Gb:List (Ast wm))=>v= .bool r∧Gb= []) [] h):=by
 refine bg Tryz.ntmps86 Z0 Yh.nil ?_;intro T hT hS;unfold ZvF at hL;refine r3 ?_;rintro _ h2 ⟨b1,eb1,rfl,hS⟩;refine r16 ?_;refine r16 ?_;refine r8 ?_;refine WO.w gN rfl (XP ZF6 Yf rfl (cs':= [.int .i64 0,.int .i64 0,.int .i64 0,.int .i64 0,.int .i64 0]) rfl) ?_;refine WO.w gN rfl (Uj (Yi (Zy rfl fh) rfl) (Yi fh rfl) (ZqB (xs:= [.int .i64 p0.Ya.msg,.int .i64 p0.Ya.place,.int .i64 p0.Ya.from_,.int .i64 p0.Ya.age,.int .i64 p0.Ya.hops]) (ys:= [.int .i64 0,.int .i64 0,.int .i64 0,.int .i64 0,.int .i64 0]) (ZF0 p0.Ya (Zr.mk 0 0 0 0 0)) rfl rfl)) ?_;refine r16 ?_;refine r1 ?_;refine cn hL ?_ ?_
 ·intro hc hL;refine XA ?_;refine r2 ?_;exact rt hL hT hS
 ·intro hc hL;refine r6 ?_;refine cn hL ?_ ?_
  ·intro hc hL;refine r16 ?_;refine XA ?_;refine r1 ?_;exact rt hL hT hS
  ·intro hc hL;refine r6 ?_;refine cn hL ?_ ?_
   ·intro hc hL;refine XA ?_;refine r2 ?_;exact rt hL hT hS
   ·intro hc hL;refine r8 ?_;refine r1 ?_;exact rt hL hT hS
theorem ZI4 {h:H} {p0:Zd} {Zi:Option Addr} {Zh:Nat} {Zk:Option Addr} {Zj:Nat} {r:Bool} (ZB:Sl (Zu .i64) h.size h Zi Zh p0.qV) (ZN:Sl (Zu .i64) h.size h Zk Zj p0.Yj) (hL:ZvF p0=some r):Pure XX 86 #[.agg [.int .i64 p0.kind,.int .i64 p0.Z9,.int .i64 p0.Ya.msg,.int .i64 p0.Ya.place,.int .i64 p0.Ya.from_,.int .i64 p0.Ya.age,.int .i64 p0.Ya.hops,.slice Zi p0.qV.length Zh,.slice Zk p0.Yj.length Zj,.int .i64 p0.place,.int .i64 p0.at_,.int .i64 p0.age].toArray] h (.bool r):=
 WR.Qy rfl (ZI3 (Nat.le_refl _) ZB ZN hL)
theorem ZI2 {wm:Nat} {h:H} {p0:(List Zd)} {p1 p2:Int} {Zi:Option Addr} {Zh XT:Nat} {r:(List Zd)} (Z0:wm <=h.size) (hO:Yh (wm:=wm) [ow wm Ze Zi XT Zh p0] h) (hL:ZAn p0 p1 p2=some r):
 WR XX 88 #[.slice Zi XT Zh,.int .i64 p1,.int .i64 p2] wm h (CP (fun(v:Value) (Gb:List (Ast wm))=>∃ (X7:Option Addr) (X5:Nat) (X6:Nat),v= .slice X7 X5 X6∧Gb= [ow wm Ze X7 X5 X6 r]) [ow wm Ze Zi XT Zh p0] h):=by
 refine bg Tryz.ntmps88 Z0 hO ?_;intro T hT hS;unfold ZAn at hL;obtain rfl:=hS.on k0;refine XA ?_;obtain⟨z1,hz1,hL⟩:=bind_some hL;refine WO.he gN rfl (ZGH (hS.get k0).2 rfl Jj Y2 (Yi (Y5 rfl fh) rfl) (Yi (YG rfl (Zy rfl fh)) rfl) (Yi (YG rfl fh) rfl) (Yi fh rfl) hz1) ?_;rintro v2 hv3;refine r8 ?_;refine r2 ?_;refine cn hL ?_ ?_
 ·intro hc hL;refine r8 ?_;have hr:=Oi0 hL;subst hr;exact Yl.X0 rfl (ZP lk ZA) ⟨_,⟨Zi,p0.length,Zh,rfl,rfl⟩,hT ▸ hS.only (.c k0 .n)⟩
 ·intro hc hL;refine r8 ?_;refine r2 ?_;refine WC.Xx mixed Kq0 ?_;refine r2 ?_;obtain⟨z4,hz4,hL⟩:=bind_some hL;have ZyV:= (hS.get k0).2.cap;refine WX.he gN rfl (ZGG (hS.get k0).2 rfl Jj Y2 (Yi (Zy rfl fh) rfl) (Yi fh rfl) hz4) ?_ rfl;rintro _ ⟨a5,c6,ea7,ec8,rfl,ZRt⟩;have ZOI:=ec8.symm;refine r2 ?_;obtain⟨z13,ZG4,hL⟩:=bind_some hL;refine WX.he gN rfl (ZKL (hS.get k0).2 rfl Jj Y2 (Yi (Zy rfl fh) rfl) (.inr ⟨_,XF (Yi fh rfl)⟩) (.inl ⟨rfl,rfl⟩) ZG4) ?_ rfl;rintro _ ⟨a14,c15,rfl,ZRs⟩;obtain⟨z17,ZG3,hL⟩:=bind_some hL;have ZRf:= (ZRs.own (hS.get k0).2).src;have hS:=hS.sub k0 ZRt;refine WX.hv gN rfl (ZKO (e:=Ze) hS k0 ZcG lk lk ZRf rfl ZG3 (ZOI ▸ Nat.le_trans (Zum hz1 hz4 ZG4 ZG3) ZyV)) ?_ rfl rfl [] Kq0 YV.e;rintro _ h19 ⟨rfl,hS⟩;refine WX.w gN rfl (Uv lk) ?_ Kq0;refine r8 ?_;refine WO.he gN rfl (ZGF (hS.get k0).2 Jj Y2 (Yi (YG rfl (Zy rfl fh)) rfl) (Yi (Zy rfl fh) rfl) (Yi fh rfl) (Zum hz1 hz4 ZG4 ZG3) (ZOI ▸ ZyV)) ?_;rintro _ ⟨a20,c21,rfl,ZRv⟩;refine WO.hw gN (ZKM hS k0 ZRv rfl Jj ZdC rfl (Yi fh rfl)) ?_;rintro h24 hS;refine r8 ?_;refine r1 ?_;have hr:=Oi0 hL;subst hr;exact Yl.X0 rfl (ZP lk ZA) ⟨_,⟨a5,z17.length,c6,rfl,rfl⟩,hT ▸ hS.only (.c k0 .n)⟩
end Go.Proofs.YtbmbbcaaimehkaaGreat
end
end
section
namespace Go.Proofs.YtbmbbcaaimehkaaGreat
open Go.Lf
def Zm0 (p0:ZX) (p1:Int):Option Bool:=
 some ((decide (p1 >=0)) && (decide (p1 < (p0.Za.qQ.length:Int))))
def Zr6 (p0:ZX) (p1:Int):Option Bool:=
 some ((decide (p1 >=0)) && (decide (p1 < (p0.Za.Zv.length:Int))))
def Zjp (p0:(List Int)) (p1:Int):Int ->(Int ->Option Int) ->Option Int:=fun v6 Zds=>
 (bif decide (v6 < (p0.length:Int)) then(ZT p0 v6).bind fun x9=>(bif(p1==x9) then some v6 else Zds (Xd (v6 + 1))) else some (-1))
def ZAk (F:Nat) (p0:(List Int)) (p1:Int):Option Int:=
 loop F (Zjp p0 p1) 0
def Zuf (p0:(List Zw)):Option (List Zw):=
 (app 24 ([]:List Zw) p0).bind fun z3=>some z3
end Go.Proofs.YtbmbbcaaimehkaaGreat
end
section
set_option maxRecDepth 20000
noncomputable section
namespace Go.Proofs.YtbmbbcaaimehkaaGreat
open Go.YL Go.Lf
theorem ZIY {wm:Nat} {h:H} {p0:ZX} {p1:Int} {Zi:Option Addr} {Zh:Nat} {Zk:Option Addr} {Zj:Nat} {Zq:Option Addr} {Zn:Nat} {Zp:Option Addr} {Zm:Nat} {Zo:Option Addr} {Zl:Nat} {Z7:Option Addr} {Z6 YX Ke:Nat} {r:Bool} (Z0:wm <=h.size) (XZ:At h YX Ke [.slice Zi p0.Za.Zv.length Zh,.slice Zk p0.Za.qK.length Zj,.slice Zq p0.Za.qQ.length Zn,.slice Zp p0.Za.qJ.length Zm,.slice Zo p0.Za.qG.length Zl,.int .i64 p0.Za.said,.slice Z7 p0.Y7.length Z6]) (XY:Stb wm h YX) (ZB:Sl (Zu .i64) wm h Zi Zh p0.Za.Zv) (ZN:Sl (ZM (Zu .i64)) wm h Zk Zj p0.Za.qK) (ZL:Sl (ZM Zc) wm h Zq Zn p0.Za.qQ) (ZO:Sl (ZM Zg) wm h Zp Zm p0.Za.qJ) (ZJ:Sl Ze wm h Zo Zl p0.Za.qG) (Xr:Sl XE wm h Z7 Z6 p0.Y7) (hL:Zm0 p0 p1=some r):
 WR XX 95 #[.pointer (some ⟨YX,Ke,none⟩),.int .i64 p1] wm h (CP (fun(v:Value) (Gb:List (Ast wm))=>v= .bool r∧Gb= []) [] h):=by
 refine bg Tryz.ntmps95 Z0 Yh.nil ?_;intro T hT hS;unfold Zm0 at hL;refine XA ?_;refine r3 ?_;refine WO.gv (Zt.yes rfl rfl rfl (Y5 rfl (Zy rfl fh))) rfl (fun hg=>(ZW Zuy (Y4 fh rfl hg) (At.fz hS.fz XY XZ) (j:=2) rfl (v:= .slice Zq p0.Za.qQ.length Zn) rfl)) ?_;refine r6 ?_;refine r1 ?_;exact rt hL hT hS
theorem Zr7 {h:H} {p0:ZX} {p1:Int} {Zi:Option Addr} {Zh:Nat} {Zk:Option Addr} {Zj:Nat} {Zq:Option Addr} {Zn:Nat} {Zp:Option Addr} {Zm:Nat} {Zo:Option Addr} {Zl:Nat} {Z7:Option Addr} {Z6 YX Ke:Nat} {r:Bool} (XZ:At h YX Ke [.slice Zi p0.Za.Zv.length Zh,.slice Zk p0.Za.qK.length Zj,.slice Zq p0.Za.qQ.length Zn,.slice Zp p0.Za.qJ.length Zm,.slice Zo p0.Za.qG.length Zl,.int .i64 p0.Za.said,.slice Z7 p0.Y7.length Z6]) (XY:Stb h.size h YX) (ZB:Sl (Zu .i64) h.size h Zi Zh p0.Za.Zv) (ZN:Sl (ZM (Zu .i64)) h.size h Zk Zj p0.Za.qK) (ZL:Sl (ZM Zc) h.size h Zq Zn p0.Za.qQ) (ZO:Sl (ZM Zg) h.size h Zp Zm p0.Za.qJ) (ZJ:Sl Ze h.size h Zo Zl p0.Za.qG) (Xr:Sl XE h.size h Z7 Z6 p0.Y7) (hL:Zm0 p0 p1=some r):Pure XX 95 #[.pointer (some ⟨YX,Ke,none⟩),.int .i64 p1] h (.bool r):=
 WR.Qy rfl (ZIY (Nat.le_refl _) XZ XY ZB ZN ZL ZO ZJ Xr hL)
theorem ZIX {wm:Nat} {h:H} {p0:ZX} {p1:Int} {Zi:Option Addr} {Zh:Nat} {Zk:Option Addr} {Zj:Nat} {Zq:Option Addr} {Zn:Nat} {Zp:Option Addr} {Zm:Nat} {Zo:Option Addr} {Zl:Nat} {Z7:Option Addr} {Z6 YX Ke:Nat} {r:Bool} (Z0:wm <=h.size) (XZ:At h YX Ke [.slice Zi p0.Za.Zv.length Zh,.slice Zk p0.Za.qK.length Zj,.slice Zq p0.Za.qQ.length Zn,.slice Zp p0.Za.qJ.length Zm,.slice Zo p0.Za.qG.length Zl,.int .i64 p0.Za.said,.slice Z7 p0.Y7.length Z6]) (XY:Stb wm h YX) (ZB:Sl (Zu .i64) wm h Zi Zh p0.Za.Zv) (ZN:Sl (ZM (Zu .i64)) wm h Zk Zj p0.Za.qK) (ZL:Sl (ZM Zc) wm h Zq Zn p0.Za.qQ) (ZO:Sl (ZM Zg) wm h Zp Zm p0.Za.qJ) (ZJ:Sl Ze wm h Zo Zl p0.Za.qG) (Xr:Sl XE wm h Z7 Z6 p0.Y7) (hL:Zr6 p0 p1=some r):
 WR XX 96 #[.pointer (some ⟨YX,Ke,none⟩),.int .i64 p1] wm h (CP (fun(v:Value) (Gb:List (Ast wm))=>v= .bool r∧Gb= []) [] h):=by
 refine bg Tryz.ntmps96 Z0 Yh.nil ?_;intro T hT hS;unfold Zr6 at hL;refine XA ?_;refine r3 ?_;refine WO.gv (Zt.yes rfl rfl rfl (Y5 rfl (Zy rfl fh))) rfl (fun hg=>(ZW ZdA (Y4 fh rfl hg) (At.fz hS.fz XY XZ) (j:=0) rfl (v:= .slice Zi p0.Za.Zv.length Zh) rfl)) ?_;refine r6 ?_;refine r1 ?_;exact rt hL hT hS
theorem ZAl {h:H} {p0:ZX} {p1:Int} {Zi:Option Addr} {Zh:Nat} {Zk:Option Addr} {Zj:Nat} {Zq:Option Addr} {Zn:Nat} {Zp:Option Addr} {Zm:Nat} {Zo:Option Addr} {Zl:Nat} {Z7:Option Addr} {Z6 YX Ke:Nat} {r:Bool} (XZ:At h YX Ke [.slice Zi p0.Za.Zv.length Zh,.slice Zk p0.Za.qK.length Zj,.slice Zq p0.Za.qQ.length Zn,.slice Zp p0.Za.qJ.length Zm,.slice Zo p0.Za.qG.length Zl,.int .i64 p0.Za.said,.slice Z7 p0.Y7.length Z6]) (XY:Stb h.size h YX) (ZB:Sl (Zu .i64) h.size h Zi Zh p0.Za.Zv) (ZN:Sl (ZM (Zu .i64)) h.size h Zk Zj p0.Za.qK) (ZL:Sl (ZM Zc) h.size h Zq Zn p0.Za.qQ) (ZO:Sl (ZM Zg) h.size h Zp Zm p0.Za.qJ) (ZJ:Sl Ze h.size h Zo Zl p0.Za.qG) (Xr:Sl XE h.size h Z7 Z6 p0.Y7) (hL:Zr6 p0 p1=some r):Pure XX 96 #[.pointer (some ⟨YX,Ke,none⟩),.int .i64 p1] h (.bool r):=
 WR.Qy rfl (ZIX (Nat.le_refl _) XZ XY ZB ZN ZL ZO ZJ Xr hL)
theorem ZIW {F wm:Nat} {h:H} {p0:(List Int)} {p1:Int} {Zi:Option Addr} {Zh:Nat} {r:Int} (Z0:wm <=h.size) (ZB:Sl (Zu .i64) wm h Zi Zh p0) (hL:ZAk F p0 p1=some r):
 WR XX 99 #[.slice Zi p0.length Zh,.int .i64 p1] wm h (CP (fun(v:Value) (Gb:List (Ast wm))=>v= .int .i64 r∧Gb= []) [] h):=by
 refine bg Tryz.ntmps99 Z0 Yh.nil ?_;intro T hT hS;unfold ZAk at hL;refine XA ?_;refine r2 ?_;refine WC.loop (WL.lift hL (fun(v6:Int) (s:Fs)=>∃ (Qr:Fr) (h1:H),s= ⟨Qr,[],h1,none⟩∧Sp wm T h [] h1∧Qr.at 0= .slice Zi p0.length Zh∧Qr.at 1= .int .i64 p1∧Qr.at 7= .int .i64 (p0.length:Int)∧Qr.at 8= .int .i64 v6) ⟨_,_,rfl,hS.only .n,YA⟩ ?_);clear hL hS;rintro Zds v6 s Zi5 hL ⟨Qr,h1,rfl,hS,e3,e4,e5,e7⟩;dsimp only [Zjp] at hL;refine r6 ?_;refine cn hL ?_ ?_
 ·intro hc hL;refine XA ?_;refine r3 ?_;obtain⟨x9,hx9,hL⟩:=bind_some hL;obtain⟨b10,o11,_,Zjd,Zjg,ZpP,Zt8⟩:=Sl.at_ ZB hx9;refine WO.w gN rfl (ZE YE YF lk lk rfl Zjd hx9) ?_;refine WO.w gN rfl (ZW Xn (Yi fh rfl) (At.fz hS.fz ZpP Zjg) (j:=0) rfl (v:= .int .i64 x9) rfl) ?_;refine r3 ?_;refine cn hL ?_ ?_
  ·intro hc hL;refine XA ?_;exact rt hL hT hS
  ·intro hc hL;refine r6 ?_;refine r1 ?_;exact Yc.YZ (Zi5 _ _ hL ⟨_,_,rfl,hS.only .n,YA⟩)
 ·intro hc hL;refine r8 ?_;refine r3 ?_;exact rt hL hT hS
theorem ZD5 {wm:Nat} {h:H} {p0:(List Zw)} {Zi:Option Addr} {Zh:Nat} {r:(List Zw)} (Z0:wm <=h.size) (ZB:Sl Zc wm h Zi Zh p0) (hL:Zuf p0=some r):
 WR XX 101 #[.slice Zi p0.length Zh] wm h (CP (fun(v:Value) (Gb:List (Ast wm))=>∃ (X7:Option Addr) (X5:Nat) (X6:Nat),v= .slice X7 X5 X6∧Gb= [ow wm Zc X7 X5 X6 r]) [] h):=by
 refine bg Tryz.ntmps101 Z0 Yh.nil ?_;intro T hT hS;unfold Zuf at hL;refine r8 ?_;rcases Sl.cases ZB with⟨rfl,rfl,rfl⟩ | ⟨qa,rfl⟩
 ·
  refine r1 ?_;refine WO.w gN rfl (Uj (Yi fh rfl) (evC rfl) (ZgR U5)) ?_;refine r2 ?_;refine WC.Zka lk rfl ?_;rw [ZsF _ (by decide)] at hL;replace hL:some []=some r:=hL;refine r6 ?_;refine r1 ?_;have hS:=hS.nil (e:=Zc);have hr:=Oi0 hL;subst hr;exact Yl.X0 rfl (ZP lk ZA) ⟨_,⟨none,0,0,rfl,rfl⟩,hT ▸ hS.only (.c k0 .n)⟩
 ·
  refine r1 ?_;refine WO.w gN rfl (Uj (Yi fh rfl) (evC rfl) (ZgS U5)) ?_;refine r2 ?_;refine WC.Zd5 lk rfl ?_;refine r4 ?_;refine WO.hn gN rfl (K9 (e:=Zc) hS U5 XD Zid rfl rfl rfl Yf rfl [] rfl (xs:= ([]:List Zw)) rfl (by intro q hq;cases hq) rfl) ?_;rintro _ h2 ⟨b1,eb1,rfl,hS⟩;refine r1 ?_;obtain⟨z3,hz3,hL⟩:=bind_some hL;refine WO.hv gN rfl (Ko (e:=Zc) hS k0 ZBb lk lk (Sl.src (hS.sl ZB)) rfl hz3) ?_;rintro _ h6 ⟨a4,c5,rfl,hS⟩;refine r4 ?_;have hr:=Oi0 hL;subst hr;exact Yl.X0 rfl (ZP lk ZA) ⟨_,⟨a4,z3.length,c5,rfl,rfl⟩,hT ▸ hS.only (.c k0 .n)⟩
end Go.Proofs.YtbmbbcaaimehkaaGreat
end
end
section
namespace Go.Proofs.YtbmbbcaaimehkaaGreat
open Go.Lf
def Zue (p0:(List Zr)):Option (List Zr):=
 (app 40 ([]:List Zr) p0).bind fun z3=>some z3
def Zhr (p0:Z4) (p1:Int) (p2:Zr):Option Z4:=
 (ZT p0.Za.qK p2.place).bind fun x7=>(app 8 x7 [p2.msg]).bind fun z15=>(ZT p0.Za.qK p2.place).bind fun x19=>(app 40 p0.qX [(Zx.mk 1 p2.place p1 p2.msg p2.hops)]).bind fun z26=>some (Z4.mk (Zb.mk p0.Za.Zv (Yt p0.Za.qK p2.place z15) p0.Za.qQ p0.Za.qJ p0.Za.qG p0.Za.said) z26)
end Go.Proofs.YtbmbbcaaimehkaaGreat
end
section
set_option maxRecDepth 20000
noncomputable section
namespace Go.Proofs.YtbmbbcaaimehkaaGreat
open Go.YL Go.Lf
theorem ZD4 {wm:Nat} {h:H} {p0:(List Zr)} {Zi:Option Addr} {Zh:Nat} {r:(List Zr)} (Z0:wm <=h.size) (ZB:Sl Zg wm h Zi Zh p0) (hL:Zue p0=some r):
 WR XX 102 #[.slice Zi p0.length Zh] wm h (CP (fun(v:Value) (Gb:List (Ast wm))=>∃ (X7:Option Addr) (X5:Nat) (X6:Nat),v= .slice X7 X5 X6∧Gb= [ow wm Zg X7 X5 X6 r]) [] h):=by
 refine bg Tryz.ntmps102 Z0 Yh.nil ?_;intro T hT hS;unfold Zue at hL;refine r8 ?_;rcases Sl.cases ZB with⟨rfl,rfl,rfl⟩ | ⟨qa,rfl⟩
 ·
  refine r1 ?_;refine WO.w gN rfl (Uj (Yi fh rfl) (evC rfl) (ZgR ZaB)) ?_;refine r2 ?_;refine WC.Zka lk rfl ?_;rw [ZsF _ (by decide)] at hL;replace hL:some []=some r:=hL;refine r6 ?_;refine r1 ?_;have hS:=hS.nil (e:=Zg);have hr:=Oi0 hL;subst hr;exact Yl.X0 rfl (ZP lk ZA) ⟨_,⟨none,0,0,rfl,rfl⟩,hT ▸ hS.only (.c k0 .n)⟩
 ·
  refine r1 ?_;refine WO.w gN rfl (Uj (Yi fh rfl) (evC rfl) (ZgS ZaB)) ?_;refine r2 ?_;refine WC.Zd5 lk rfl ?_;refine r4 ?_;refine WO.hn gN rfl (K9 (e:=Zg) hS ZaB JQ Zib rfl rfl rfl Yf rfl [] rfl (xs:= ([]:List Zr)) rfl (by intro q hq;cases hq) rfl) ?_;rintro _ h2 ⟨b1,eb1,rfl,hS⟩;refine r1 ?_;obtain⟨z3,hz3,hL⟩:=bind_some hL;refine WO.hv gN rfl (Ko (e:=Zg) hS k0 Zkk lk lk (Sl.src (hS.sl ZB)) rfl hz3) ?_;rintro _ h6 ⟨a4,c5,rfl,hS⟩;refine r4 ?_;have hr:=Oi0 hL;subst hr;exact Yl.X0 rfl (ZP lk ZA) ⟨_,⟨a4,z3.length,c5,rfl,rfl⟩,hT ▸ hS.only (.c k0 .n)⟩
theorem Zud {wm:Nat} {h:H} {p0:Z4} {p1:Int} {p2:Zr} {Zi:Option Addr} {Zh XT:Nat} {Zk:Option Addr} {Zj Jb:Nat} {YJ:Nat ->Option Addr×Nat×Nat} {Zq:Option Addr} {Zn Ja:Nat} {YR:Nat ->Option Addr×Nat×Nat} {Zp:Option Addr} {Zm Q9:Nat} {YI:Nat ->Option Addr×Nat×Nat} {Zo:Option Addr} {Zl Q8:Nat} {Z7:Option Addr} {Z6 Qo YX:Nat} {r:Z4} (Z0:wm <=h.size) (hO:Yh (wm:=wm) [bx wm YX (cG Zi XT Zh Zk Jb Zj Zq Ja Zn Zp Q9 Zm Zo Q8 Zl p0.Za.said Z7 Qo Z6),ow wm (Zu .i64) Zi XT Zh p0.Za.Zv,Y3 wm (ZV (Zu .i64)) Zk Jb Zj YJ p0.Za.qK,Y3 wm (ZV Zc) Zq Ja Zn YR p0.Za.qQ,Y3 wm (ZV Zg) Zp Q9 Zm YI p0.Za.qJ,ow wm Ze Zo Q8 Zl p0.Za.qG,ow wm ZQ Z7 Qo Z6 p0.qX] h) (hL:Zhr p0 p1 p2=some r):
 WR XX 103 #[.pointer (some ⟨YX,0,none⟩),.int .i64 p1,.agg [.int .i64 p2.msg,.int .i64 p2.place,.int .i64 p2.from_,.int .i64 p2.age,.int .i64 p2.hops].toArray] wm h (CP (fun(v:Value) (Gb:List (Ast wm))=>∃ (Jy:Option Addr) (UJ:Nat) (Jr:Nat) (Jw:Option Addr) (UI:Nat) (Jq:Nat) (UN:Nat ->Option Addr×Nat×Nat) (Jv:Option Addr) (UH:Nat) (Jp:Nat) (UM:Nat ->Option Addr×Nat×Nat) (Ju:Option Addr) (UG:Nat) (Jo:Nat) (UL:Nat ->Option Addr×Nat×Nat) (Jt:Option Addr) (UF:Nat) (Jm:Nat) (Js:Option Addr) (Jk:Nat) (Jl:Nat),v= .tuple [].toArray∧Gb= [bx wm YX (cG Jy UJ Jr Jw UI Jq Jv UH Jp Ju UG Jo Jt UF Jm r.Za.said Js Jk Jl),ow wm (Zu .i64) Jy UJ Jr r.Za.Zv,Y3 wm (ZV (Zu .i64)) Jw UI Jq UN r.Za.qK,Y3 wm (ZV Zc) Jv UH Jp UM r.Za.qQ,Y3 wm (ZV Zg) Ju UG Jo UL r.Za.qJ,ow wm Ze Jt UF Jm r.Za.qG,ow wm ZQ Js Jk Jl r.qX]) [bx wm YX (cG Zi XT Zh Zk Jb Zj Zq Ja Zn Zp Q9 Zm Zo Q8 Zl p0.Za.said Z7 Qo Z6),ow wm (Zu .i64) Zi XT Zh p0.Za.Zv,Y3 wm (ZV (Zu .i64)) Zk Jb Zj YJ p0.Za.qK,Y3 wm (ZV Zc) Zq Ja Zn YR p0.Za.qQ,Y3 wm (ZV Zg) Zp Q9 Zm YI p0.Za.qJ,ow wm Ze Zo Q8 Zl p0.Za.qG,ow wm ZQ Z7 Qo Z6 p0.qX] h):=by
 refine bg Tryz.ntmps103 Z0 hO ?_;intro T hT hS;unfold Zhr at hL;obtain rfl:=hS.on k1;obtain rfl:=hS.YT k2;obtain rfl:=hS.YT k3;obtain rfl:=hS.YT k4;obtain rfl:=hS.on k5;obtain rfl:=hS.on k6;refine r3 ?_;rintro _ h2 ⟨b1,eb1,rfl,hS⟩;refine r3 ?_;refine WC.Xx mixed Kq0 ?_;refine r4 ?_;refine WX.wr (fun x=>x=YX) hS gN rfl (fun _ _ hR=>ZW ZBo (Yi fh rfl) (At.eqv (hR YX rfl) (hS.atB k1)) (j:=1) rfl (v:= .slice Zk p0.Za.qK.length Zj) rfl) ?_ rfl rfl;rintro h3 e4 hS;refine r1 ?_;refine WX.wr (fun x=>x=b1) hS gN rfl (fun _ _ hR=>ZW Xn (Yi fh rfl) (At.eqv (hR b1 rfl) (hS.atB k0)) (j:=1) rfl (v:= .int .i64 p2.place) rfl) ?_ rfl rfl;rintro h5 e6 hS;refine r6 ?_;refine r1 ?_;obtain⟨x7,hx7,hL⟩:=bind_some hL;obtain⟨b8,o9,a10,n11,c12,ZRE,Zvu,ZIj⟩:=hS.atS k3 hx7;refine WX.w gN rfl (ZE Zbx JR lk lk rfl Zvu hx7) ?_ rfl;refine WX.w gN rfl (ZW ZdA (Yi fh rfl) ZIj (j:=0) rfl (v:= .slice a10 n11 c12) rfl) ?_ rfl;refine r2 ?_;refine WX.hn gN rfl (K9 (e:= (Zu .i64)) hS YE YF Zbv rfl rfl rfl (ZG lk Yf) rfl [((),p2.msg)] rfl (xs:= [p2.msg]) rfl (by intro q hq;simp only [List.mem_cons,List.not_mem_nil,or_false] at hq;subst hq;exact trivial) rfl) ?_ rfl;rintro _ h14 ⟨b13,ZYZ,rfl,hS⟩;obtain⟨z15,ZRe,hL⟩:=bind_some hL;have hS:=hS.Zik k4 hx7 ZRE;refine WX.hv gN rfl (Ko (e:= (Zu .i64)) hS k1 QX lk lk (hS.QE k2) (hS.on k2) ZRe) ?_ rfl rfl [4,6] Kq0 (.c (.s (.s .z)) (hS.dj (.c k1 (.c k3 .n))) (.c (.s .z) (hS.dj (.c k1 (.c k2 .n))) YV.e));rintro _ h18 ⟨a16,c17,rfl,hS⟩;obtain⟨x19,Zry,hL⟩:=bind_some hL;refine WX.w gN rfl (ZE Zbx JR lk lk rfl Zvu Zry) ?_ Kq0;refine WX.hu gN (Ztg hS k1 JR (Yi fh rfl) (Yi (Zy rfl fh) rfl) Zvu hx7 (j:=0) rfl (vs:= [.slice a16 z15.length c17]) rfl rfl rfl rfl rfl (cs':= [.slice a16 z15.length c17]) rfl rfl rfl) ?_ rfl Kq0 [] Kq0 YV.e;rintro h21 hS;obtain⟨ZQQ,ZXb,hS⟩:=hS.Zjn (.c k0 (.c k0 .n)) hx7;refine r2 ?_;refine WC.Xx mixed Kq0 ?_;refine XA ?_;refine WX.w gN rfl (XP ZA1 (ZG lk (ZG lk (ZG lk (ZG lk (ZG lk Yf))))) rfl (cs':= [.int .i64 1,.int .i64 p2.place,.int .i64 p1,.int .i64 p2.msg,.int .i64 p2.hops]) rfl) ?_ rfl;refine WX.hn gN rfl (K9 (e:=ZQ) hS Zs7 Zma Zic rfl rfl rfl (ZG lk Yf) rfl [((),(Zx.mk 1 p2.place p1 p2.msg p2.hops))] rfl (xs:= [(Zx.mk 1 p2.place p1 p2.msg p2.hops)]) rfl (by intro q hq;simp only [List.mem_cons,List.not_mem_nil,or_false] at hq;subst hq;exact trivial) rfl) ?_ rfl;rintro _ h25 ⟨b24,ZOJ,rfl,hS⟩;obtain⟨z26,ZRb,hL⟩:=bind_some hL;refine WX.hv gN rfl (Ko (e:=ZQ) hS k9 Zkl lk lk (hS.QE k0) (hS.on k0) ZRb) ?_ rfl rfl [] Kq0 YV.e;rintro _ h29 ⟨a27,c28,rfl,hS⟩;refine WX.w gN rfl (Zd7 lk) ?_ Kq0;refine WX.w gN rfl (Ui Ze4 lk) ?_ Kq0;refine WX.hu gN (ZaI hS k5 Zmb lk lk (vs:= [.slice a27 z26.length c28]) rfl rfl rfl rfl (cs':= (cG Zi p0.Za.Zv.length Zh Zk p0.Za.qK.length Zj Zq p0.Za.qQ.length Zn Zp p0.Za.qJ.length Zm Zo p0.Za.qG.length Zl p0.Za.said a27 z26.length c28)) rfl) ?_ rfl Kq0 [] Kq0 YV.e;rintro h30 hS;refine r1 ?_;refine Yl.YZ ?_;have hr:=Oi0 hL;subst hr;exact Yl.gen (vs:= []) rfl ZA rfl ⟨_,⟨Zi,p0.Za.Zv.length,Zh,Zk,p0.Za.qK.length,Zj,ZQQ,Zq,p0.Za.qQ.length,Zn,YR,Zp,p0.Za.qJ.length,Zm,YI,Zo,p0.Za.qG.length,Zl,a27,z26.length,c28,rfl,rfl⟩,hT ▸ hS.only (.c k0 (.c k5 (.c k2 (.c k4 (.c k4 (.c k4 (.c k0 .n)))))))⟩
end Go.Proofs.YtbmbbcaaimehkaaGreat
end
end
section
namespace Go.Proofs.YtbmbbcaaimehkaaGreat
open Go.Lf
end Go.Proofs.YtbmbbcaaimehkaaGreat
end
section
set_option maxRecDepth 20000
noncomputable section
namespace Go.Proofs.YtbmbbcaaimehkaaGreat
open Go.YL Go.Lf
end Go.Proofs.YtbmbbcaaimehkaaGreat
end
end
section
namespace Go.Proofs.YtbmbbcaaimehkaaGreat
open Go.Lf
def ZjN (p0:Zb) (v22:Int) (Zmo:(Int ->Option Bool)):Int×Int ->(Int×Int ->Option Bool) ->Option Bool:=fun(v34,v36) ZiI=>
 (bif((decide (v36 <= (p0.Zv.length:Int))) && (decide (v34 >=0))) then(bif(v34==v22) then some false else(ZT p0.Zv v34).bind fun x41=>ZiI (x41,Xd (v36 + 1))) else Zmo (Xd (v22 + 1)))
def Zgh (p0:Zb) (v51:Int) (Zbc:(Int ->Option Bool)) (x54:(List Zw)):Int ->(Int ->Option Bool) ->Option Bool:=fun v70 ZxO=>
 (bif decide (v70 < (x54.length:Int)) then(ZT x54 v70).bind fun x73=>(bif(((((decide (x73.age < 0)) || (decide (x73.age > 30))) || (decide (x73.Z9 < 0))) || (decide (x73.Z9 >= (p0.qQ.length:Int)))) || (x73.here != (x73.Z9==v51))) then some false else ZxO (Xd (v70 + 1))) else Zbc (Xd (v51 + 1)))
def Zgg (p0:Zb) (v85:Int) (Zmk:(Int ->Option Bool)) (x88:Zd):Int ->(Int ->Option Bool) ->Option Bool:=fun v109 ZtA=>
 (bif decide (v109 < (x88.qV.length:Int)) then(ZT x88.qV v109).bind fun x112=>(gd ((!((decide (x112 < 0)) || (decide (x112 >= (p0.Zv.length:Int))))) && (decide (v109 > 0))) (ZT x88.qV (Xd (v109 - 1))) default).bind fun x115=>(gd (!(((decide (x112 < 0)) || (decide (x112 >= (p0.Zv.length:Int)))) || ((decide (v109 > 0)) && (decide (x112 <=x115))))) (ZT x88.Yj v109) default).bind fun ZkE=>(gd (!((((decide (x112 < 0)) || (decide (x112 >= (p0.Zv.length:Int)))) || ((decide (v109 > 0)) && (decide (x112 <=x115)))) || (decide (ZkE < 1)))) (ZT x88.Yj v109) default).bind fun ZdD=>(bif(((((decide (x112 < 0)) || (decide (x112 >= (p0.Zv.length:Int)))) || ((decide (v109 > 0)) && (decide (x112 <=x115)))) || (decide (ZkE < 1))) || (decide (ZdD > 30))) then some false else ZtA (Xd (v109 + 1))) else(bif((x88.kind==3) && (((decide (x88.place < 0)) || (decide (x88.place >= (p0.Zv.length:Int)))) || (x88.at_==x88.Z9))) then some false else Zmk (Xd (v85 + 1))))
def KX (F:Nat) (p0:Zb):Int ->(Int ->Option Bool) ->Option Bool:=fun v85 Zmk=>
 (bif decide (v85 < (p0.qG.length:Int)) then(ZT p0.qG v85).bind fun x88=>(gd (!((decide (x88.Z9 < 0)) || (decide (x88.Z9 >= (p0.qQ.length:Int))))) (ZvF x88) default).bind fun x98=>(bif(((decide (x88.Z9 < 0)) || (decide (x88.Z9 >= (p0.qQ.length:Int)))) || (!x98)) then some false else loop F (Zgg p0 v85 Zmk x88) 0) else some true)
def Zd2 (F:Nat) (p0:Zb):Int ->(Int ->Option Bool) ->Option Bool:=fun v51 Zbc=>
 (bif decide (v51 < (p0.qQ.length:Int)) then(ZT p0.qQ v51).bind fun x54=>(bif((x54.length:Int) != (p0.Zv.length:Int)) then some false else loop F (Zgh p0 v51 Zbc x54) 0) else loop F (KX F p0) 0)
def Zgi (F:Nat) (p0:Zb):Int ->(Int ->Option Bool) ->Option Bool:=fun v22 Zmo=>
 (bif decide (v22 < (p0.Zv.length:Int)) then(ZT p0.Zv v22).bind fun x25=>loop F (ZjN p0 v22 Zmo) (x25,0) else loop F (Zd2 F p0) 0)
def ZjO (F:Nat) (p0:Zb):Int ->(Int ->Option Bool) ->Option Bool:=fun v10 Zbd=>
 (bif decide (v10 < (p0.Zv.length:Int)) then(ZT p0.Zv v10).bind fun x13=>(bif((decide (x13 < (-1))) || (decide (x13 >= (p0.Zv.length:Int)))) then some false else Zbd (Xd (v10 + 1))) else loop F (Zgi F p0) 0)
def ZAB (F:Nat) (p0:Zb):Option Bool:=
 (bif((((((((decide ((p0.Zv.length:Int) < 1)) || (decide ((p0.Zv.length:Int) > 8))) || (decide ((p0.qQ.length:Int) < 1))) || (decide ((p0.qQ.length:Int) > 5))) || ((p0.qK.length:Int) != (p0.Zv.length:Int))) || ((p0.qJ.length:Int) != (p0.qQ.length:Int))) || (decide (p0.said < 0))) || (decide (p0.said > 40))) then some false else loop F (ZjO F p0) 0)
def Zp0 (F:Nat) (p0:(List Int)) (p1:Int):Option Bool:=
 (ZAk F p0 p1).bind fun x1=>some (decide (x1 >=0))
end Go.Proofs.YtbmbbcaaimehkaaGreat
end
section
set_option maxRecDepth 20000
noncomputable section
namespace Go.Proofs.YtbmbbcaaimehkaaGreat
open Go.YL Go.Lf
theorem ZJn {F wm:Nat} {h:H} {p0:Zb} {Zi:Option Addr} {Zh:Nat} {Zk:Option Addr} {Zj:Nat} {Zq:Option Addr} {Zn:Nat} {Zp:Option Addr} {Zm:Nat} {Zo:Option Addr} {Zl:Nat} {r:Bool} (Z0:wm <=h.size) (ZB:Sl (Zu .i64) wm h Zi Zh p0.Zv) (ZN:Sl (ZM (Zu .i64)) wm h Zk Zj p0.qK) (ZL:Sl (ZM Zc) wm h Zq Zn p0.qQ) (ZO:Sl (ZM Zg) wm h Zp Zm p0.qJ) (ZJ:Sl Ze wm h Zo Zl p0.qG) (hL:ZAB F p0=some r):
 WR XX 51 #[.agg [.slice Zi p0.Zv.length Zh,.slice Zk p0.qK.length Zj,.slice Zq p0.qQ.length Zn,.slice Zp p0.qJ.length Zm,.slice Zo p0.qG.length Zl,.int .i64 p0.said].toArray] wm h (CP (fun(v:Value) (Gb:List (Ast wm))=>v= .bool r∧Gb= []) [] h):=by
 refine bg Tryz.ntmps51 Z0 Yh.nil ?_;intro T hT hS;unfold ZAB at hL;refine r3 ?_;rintro _ h2 ⟨b1,eb1,rfl,hS⟩;refine r4 ?_;refine WC.Xx mixed Kq0 ?_;refine r16 ?_;refine r16 ?_;refine r16 ?_;refine r4 ?_;refine r1 ?_;refine cn hL ?_ ?_
 ·intro hc hL;refine r6 ?_;refine r1 ?_;exact rt hL hT hS
 ·intro hc hL;refine XA ?_;refine WC.loop (WL.lift hL (fun(v10:Int) (s:Fs)=>∃ (Wo:Fr) (h3:H),s= ⟨Wo,[],h3,none⟩∧Sp wm T h [bx wm b1 (cW p0 Zi Zh Zk Zj Zq Zn Zp Zm Zo Zl)] h3∧Wo.at 1= .pointer (some ⟨b1,0,none⟩)∧Wo.at 3= .int .i64 (p0.Zv.length:Int)∧Wo.at 4= .int .i64 (p0.qQ.length:Int)∧Wo.at 63= .slice Zi p0.Zv.length Zh∧Wo.at 64= .int .i64 (p0.Zv.length:Int)∧Wo.at 65= .int .i64 v10) ⟨_,_,rfl,hS.only (.c k0 .n),YA⟩ ?_);clear hL hS;rintro Zbd v10 s ZmL hL ⟨Wo,h3,rfl,hS,e5,e6,e7,e8,e9,e11⟩;dsimp only [ZjO] at hL;refine r6 ?_;refine cn hL ?_ ?_
  ·intro hc hL;refine r6 ?_;obtain⟨x13,Zys,hL⟩:=bind_some hL;obtain⟨b14,o15,_,Zzl,ZzW,ZzD,ZNv⟩:=Sl.at_ ZB Zys;refine WO.w gN rfl (ZE YE YF lk lk rfl Zzl Zys) ?_;refine WO.w gN rfl (ZW Xn (Yi fh rfl) (At.fz hS.fz ZzD ZzW) (j:=0) rfl (v:= .int .i64 x13) rfl) ?_;refine XA ?_;refine r2 ?_;refine cn hL ?_ ?_
   ·intro hc hL;refine r8 ?_;refine r3 ?_;exact rt hL hT hS
   ·intro hc hL;refine r6 ?_;refine r1 ?_;exact Yc.YZ (ZmL _ _ hL ⟨_,_,rfl,hS.only (.c k0 .n),YA⟩)
  ·intro hc hL;refine XA ?_;refine r3 ?_;refine WC.loop (WL.lift hL (fun(v22:Int) (s:Fs)=>∃ (Ze1:Fr) (h16:H),s= ⟨Ze1,[],h16,none⟩∧Sp wm T h [bx wm b1 (cW p0 Zi Zh Zk Zj Zq Zn Zp Zm Zo Zl)] h16∧Ze1.at 1= .pointer (some ⟨b1,0,none⟩)∧Ze1.at 3= .int .i64 (p0.Zv.length:Int)∧Ze1.at 4= .int .i64 (p0.qQ.length:Int)∧Ze1.at 79= .int .i64 (p0.Zv.length:Int)∧Ze1.at 80= .int .i64 v22) ⟨_,_,rfl,hS.only (.c k0 .n),YA⟩ ?_);clear hL hS;rintro Zmo v22 s ZDq hL ⟨Ze1,h16,rfl,hS,e18,e19,e20,e21,e23⟩;dsimp only [Zgi] at hL;refine r6 ?_;refine cn hL ?_ ?_
   ·intro hc hL;refine XA ?_;refine r3 ?_;obtain⟨x25,hx25,hL⟩:=bind_some hL;obtain⟨b26,o27,_,ZNc,ZOh,ZNR,ZUQ⟩:=Sl.at_ ZB hx25;refine WO.w gN rfl (ZE YE YF lk lk rfl ZNc hx25) ?_;refine WO.w gN rfl (ZW Xn (Yi fh rfl) (At.fz hS.fz ZNR ZOh) (j:=0) rfl (v:= .int .i64 x25) rfl) ?_;refine r8 ?_;refine r1 ?_;refine WC.loop (WL.lift hL (fun(p:Int×Int) (s:Fs)=>match p with | (v34,v36)=>∃ (ZbM:Fr) (h28:H),s= ⟨ZbM,[],h28,none⟩∧Sp wm T h [bx wm b1 (cW p0 Zi Zh Zk Zj Zq Zn Zp Zm Zo Zl)] h28∧ZbM.at 1= .pointer (some ⟨b1,0,none⟩)∧ZbM.at 3= .int .i64 (p0.Zv.length:Int)∧ZbM.at 4= .int .i64 (p0.qQ.length:Int)∧ZbM.at 7= .int .i64 v22∧ZbM.at 8= .int .i64 v34∧ZbM.at 9= .int .i64 v36∧ZbM.at 79= .int .i64 (p0.Zv.length:Int)∧ZbM.at 80= .int .i64 v22) ⟨_,_,rfl,hS.only (.c k0 .n),YA⟩ ?_);clear hL hS;rintro ZiI ⟨v34,v36⟩ s ZmE hL ⟨ZbM,h28,rfl,hS,e30,e31,e32,e33,e35,e37,e38,e39⟩;dsimp only [ZjN] at hL;refine XA ?_;refine cn hL ?_ ?_
    ·intro hc hL;refine XA ?_;refine cn hL ?_ ?_
     ·intro hc hL;refine r16 ?_;exact rt hL hT hS
     ·intro hc hL;refine r6 ?_;obtain⟨x41,Zyn,hL⟩:=bind_some hL;obtain⟨b42,o43,_,Zze,ZzQ,Zzy,ZNs⟩:=Sl.at_ ZB Zyn;refine WO.w gN rfl (ZE YE YF lk lk rfl Zze Zyn) ?_;refine WO.w gN rfl (ZW Xn (Yi fh rfl) (At.fz hS.fz Zzy ZzQ) (j:=0) rfl (v:= .int .i64 x41) rfl) ?_;refine r8 ?_;refine r1 ?_;exact Yc.YZ (ZmE _ _ hL ⟨_,_,rfl,hS.only (.c k0 .n),YA⟩)
    ·intro hc hL;refine r8 ?_;refine r2 ?_;exact Yc.YZ (ZDq _ _ hL ⟨_,_,rfl,hS.only (.c k0 .n),YA⟩)
   ·intro hc hL;refine XA ?_;refine r3 ?_;refine WC.loop (WL.lift hL (fun(v51:Int) (s:Fs)=>∃ (ZpU:Fr) (h44:H),s= ⟨ZpU,[],h44,none⟩∧Sp wm T h [bx wm b1 (cW p0 Zi Zh Zk Zj Zq Zn Zp Zm Zo Zl)] h44∧ZpU.at 1= .pointer (some ⟨b1,0,none⟩)∧ZpU.at 3= .int .i64 (p0.Zv.length:Int)∧ZpU.at 4= .int .i64 (p0.qQ.length:Int)∧ZpU.at 107= .slice Zq p0.qQ.length Zn∧ZpU.at 108= .int .i64 (p0.qQ.length:Int)∧ZpU.at 109= .int .i64 v51) ⟨_,_,rfl,hS.only (.c k0 .n),YA⟩ ?_);clear hL hS;rintro Zbc v51 s ZmC hL ⟨ZpU,h44,rfl,hS,e46,e47,e48,e49,e50,e52⟩;dsimp only [Zd2] at hL;refine r6 ?_;refine cn hL ?_ ?_
    ·intro hc hL;refine r6 ?_;refine r1 ?_;obtain⟨x54,Zi2,hL⟩:=bind_some hL;obtain⟨b55,o56,⟨a57,c58⟩,Zjb,ZpQ,Zzv,Zzp⟩:=Sl.at_ ZL Zi2;refine WO.w gN rfl (ZE U6 Q5 lk lk rfl Zjb Zi2) ?_;have Zyy:Sl Zc wm h a57 c58 x54:=Zzp;refine WO.w gN rfl (ZW WS (Yi fh rfl) (At.fz hS.fz Zzv ZpQ) (j:=0) rfl (v:= .slice a57 x54.length c58) rfl) ?_;refine XA ?_;refine r1 ?_;refine cn hL ?_ ?_
     ·intro hc hL;refine XA ?_;exact rt hL hT hS
     ·intro hc hL;refine r8 ?_;refine r2 ?_;refine WC.loop (WL.lift hL (fun(v70:Int) (s:Fs)=>∃ (WY:Fr) (h59:H),s= ⟨WY,[],h59,none⟩∧Sp wm T h [bx wm b1 (cW p0 Zi Zh Zk Zj Zq Zn Zp Zm Zo Zl)] h59∧WY.at 1= .pointer (some ⟨b1,0,none⟩)∧WY.at 3= .int .i64 (p0.Zv.length:Int)∧WY.at 4= .int .i64 (p0.qQ.length:Int)∧WY.at 10= .int .i64 v51∧WY.at 107= .slice Zq p0.qQ.length Zn∧WY.at 108= .int .i64 (p0.qQ.length:Int)∧WY.at 109= .int .i64 v51∧WY.at 118= .slice a57 x54.length c58∧WY.at 119= .int .i64 (x54.length:Int)∧WY.at 120= .int .i64 v70) ⟨_,_,rfl,hS.only (.c k0 .n),YA⟩ ?_);clear hL hS;rintro ZxO v70 s ZDc hL ⟨WY,h59,rfl,hS,e61,e62,e63,e64,e65,e66,e67,e68,e69,e71⟩;dsimp only [Zgh] at hL;refine r6 ?_;refine cn hL ?_ ?_
      ·intro hc hL;refine r6 ?_;obtain⟨x73,Zpq,hL⟩:=bind_some hL;obtain⟨b74,o75,_,Zt0,ZzH,ZNC,ZNj⟩:=Sl.at_ Zyy Zpq;refine WO.w gN rfl (ZE U5 XD lk lk rfl Zt0 Zpq) ?_;refine WO.w gN rfl (Xf ZlS XD (Yi fh rfl) (At.fz hS.fz ZNC ZzH) (j:=0) rfl rfl (ws:= (cE x73)) rfl) ?_;refine r1 ?_;rintro _ h77 ⟨b76,ZYC,rfl,hS⟩;refine r1 ?_;rintro h78 hS;refine r16 ?_;refine XA ?_;refine r2 ?_;refine WO.gv (Zt.no rfl rfl rfl (Y5 rfl (YG rfl fh))) rfl (fun hg=>(Uj (Y4 (Y5 rfl fh) rfl hg) (Y4 fh rfl hg) (Zdf ZCm))) ?_;refine r3 ?_;refine cn hL ?_ ?_
       ·intro hc hL;refine XA ?_;refine r3 ?_;exact rt hL hT hS
       ·intro hc hL;refine r6 ?_;refine r1 ?_;exact Yc.YZ (ZDc _ _ hL ⟨_,_,rfl,hS.only (.c k1 .n),YA⟩)
      ·intro hc hL;refine r8 ?_;refine r2 ?_;exact Yc.YZ (ZmC _ _ hL ⟨_,_,rfl,hS.only (.c k0 .n),YA⟩)
    ·intro hc hL;refine XA ?_;refine r3 ?_;refine WC.loop (WL.lift hL (fun(v85:Int) (s:Fs)=>∃ (ZrW:Fr) (h79:H),s= ⟨ZrW,[],h79,none⟩∧Sp wm T h [] h79∧ZrW.at 3= .int .i64 (p0.Zv.length:Int)∧ZrW.at 4= .int .i64 (p0.qQ.length:Int)∧ZrW.at 155= .slice Zo p0.qG.length Zl∧ZrW.at 156= .int .i64 (p0.qG.length:Int)∧ZrW.at 157= .int .i64 v85) ⟨_,_,rfl,hS.only .n,YA⟩ ?_);clear hL hS;rintro Zmk v85 s ZC7 hL ⟨ZrW,h79,rfl,hS,e81,e82,e83,e84,e86⟩;dsimp only [KX] at hL;refine r6 ?_;refine cn hL ?_ ?_
     ·intro hc hL;refine r6 ?_;obtain⟨x88,ZLu,hL⟩:=bind_some hL;obtain⟨b89,o90,⟨⟨a91,c92⟩,⟨a93,c94⟩⟩,ZMW,ZNZ,ZNy,ZFO⟩:=Sl.at_ ZJ ZLu;refine WO.w gN rfl (ZE Jj Y2 lk lk rfl ZMW ZLu) ?_;have Zyx:Sl (Zu .i64) wm h a91 c92 x88.qV:=ZFO.1;have Zyw:Sl (Zu .i64) wm h a93 c94 x88.Yj:=ZFO.2;refine WO.w gN rfl (Xf Zak Y2 (Yi fh rfl) (At.fz hS.fz ZNy ZNZ) (j:=0) rfl rfl (ws:= (cL x88 a91 c92 a93 c94)) rfl) ?_;refine r1 ?_;rintro _ h96 ⟨b95,ZYu,rfl,hS⟩;refine r1 ?_;rintro h97 hS;refine r16 ?_;obtain⟨x98,hx98,hL⟩:=Yp hL;refine WO.gcp (Zt.no rfl rfl rfl (Zy rfl fh)) rfl (fun hg=>(Xm.fn ZMr (Zf (Y4 fh rfl hg) Zz))) (fun hg=>ZI4 (hS.Y0 Zyx) (hS.Y0 Zyw) (hx98 hg)) ?_;refine r4 ?_;refine cn hL ?_ ?_
      ·intro hc hL;refine XA ?_;exact rt hL hT hS
      ·intro hc hL;refine XA ?_;refine WC.loop (WL.lift hL (fun(v109:Int) (s:Fs)=>∃ (Zco:Fr) (h99:H),s= ⟨Zco,[],h99,none⟩∧Sp wm T h [bx wm b95 (cL x88 a91 c92 a93 c94)] h99∧Zco.at 3= .int .i64 (p0.Zv.length:Int)∧Zco.at 4= .int .i64 (p0.qQ.length:Int)∧Zco.at 15= .pointer (some ⟨b95,0,none⟩)∧Zco.at 155= .slice Zo p0.qG.length Zl∧Zco.at 156= .int .i64 (p0.qG.length:Int)∧Zco.at 157= .int .i64 v85∧Zco.at 176= .slice a91 x88.qV.length c92∧Zco.at 177= .int .i64 (x88.qV.length:Int)∧Zco.at 178= .int .i64 v109) ⟨_,_,rfl,hS.only (.c k0 .n),YA⟩ ?_);clear hL hS;rintro ZtA v109 s ZyN hL ⟨Zco,h99,rfl,hS,ZD9,ZTf,ZOQ,ZTe,ZJJ,ZTd,ZOP,e108,ZOO⟩;dsimp only [Zgg] at hL;refine r6 ?_;refine cn hL ?_ ?_
       ·intro hc hL;refine r6 ?_;refine r1 ?_;obtain⟨x112,hx112,hL⟩:=bind_some hL;obtain⟨Z0D,ZWR,_,ZHR,ZII,ZIe,ZSl⟩:=Sl.at_ Zyx hx112;refine WO.w gN rfl (ZE YE YF lk lk rfl ZHR hx112) ?_;refine WO.w gN rfl (ZW Xn (Yi fh rfl) (At.fz hS.fz ZIe ZII) (j:=0) rfl (v:= .int .i64 x112) rfl) ?_;refine r16 ?_;refine r6 ?_;obtain⟨x115,hx115,hL⟩:=Yp hL;obtain⟨Z0C,ZWQ,_,hQ⟩:=Sl.atG (fun hg=>Zyx) hx115;have ZHQ:=fun hg=>(hQ hg).1
        have ZIH:=fun hg=>(hQ hg).2.1
        have ZId:=fun hg=>(hQ hg).2.2.1
        have ZSk:=fun hg=>(hQ hg).2.2.2
        refine WO.gv (Zt.ZkB rfl rfl rfl (Y5 rfl (Zy rfl fh))) rfl (fun hg=>(ZE YE YF (Y4 (YG rfl fh) rfl hg) (Y4 fh rfl hg) rfl (ZHQ hg) (hx115 hg))) ?_;refine WO.gv (Zt.ZkB rfl rfl rfl (Y5 rfl (YG rfl fh))) rfl (fun hg=>(ZW Xn (Y4 fh rfl hg) (At.fz hS.fz (ZId hg) (ZIH hg)) (j:=0) rfl (v:= .int .i64 x115) rfl)) ?_;refine r1 ?_;refine WO.gv (Zt.no rfl rfl rfl (Xa rfl (YG rfl (Zy rfl fh)))) rfl (fun hg=>(Zkh (Y4 (Xa rfl fh) rfl hg) (Zht fh hg) lk)) ?_;refine r4 ?_;refine r1 ?_;obtain⟨ZkE,ZFr,hL⟩:=Yp hL;obtain⟨Z0B,ZWO,_,hQ⟩:=Sl.atG (fun hg=>Zyw) ZFr;have ZHO:=fun hg=>(hQ hg).1
        have ZIE:=fun hg=>(hQ hg).2.1
        have ZIc:=fun hg=>(hQ hg).2.2.1
        have ZSi:=fun hg=>(hQ hg).2.2.2
        refine WO.gv (Zt.no rfl rfl rfl (YG rfl (Zy rfl fh))) rfl (fun hg=>(ZE YE YF (Y4 (Zy rfl fh) rfl hg) (Y4 fh rfl hg) rfl (ZHO hg) (ZFr hg))) ?_;refine WO.gv (Zt.no rfl rfl rfl (Y5 rfl fh)) rfl (fun hg=>(ZW Xn (Y4 fh rfl hg) (At.fz hS.fz (ZIc hg) (ZIE hg)) (j:=0) rfl (v:= .int .i64 ZkE) rfl)) ?_;refine r6 ?_;obtain⟨ZdD,Zi4,hL⟩:=Yp hL;obtain⟨ZPk,ZQX,_,hQ⟩:=Sl.atG (fun hg=>Zyw) Zi4;have ZrM:=fun hg=>(hQ hg).1
        have ZrR:=fun hg=>(hQ hg).2.1
        have ZIa:=fun hg=>(hQ hg).2.2.1
        have ZHZ:=fun hg=>(hQ hg).2.2.2
        refine WO.gv (Zt.no rfl rfl rfl (YG rfl (Zy rfl fh))) rfl (fun hg=>(ZE YE YF (Y4 (Zy rfl fh) rfl hg) (Y4 fh rfl hg) rfl (ZrM hg) (Zi4 hg))) ?_;refine WO.gv (Zt.no rfl rfl rfl (Y5 rfl fh)) rfl (fun hg=>(ZW Xn (Y4 fh rfl hg) (At.fz hS.fz (ZIa hg) (ZrR hg)) (j:=0) rfl (v:= .int .i64 ZdD) rfl)) ?_;refine r4 ?_;refine cn hL ?_ ?_
        ·intro hc hL;refine r16 ?_;exact rt hL hT hS
        ·intro hc hL;refine r6 ?_;refine r1 ?_;exact Yc.YZ (ZyN _ _ hL ⟨_,_,rfl,hS.only (.c k0 .n),YA⟩)
       ·intro hc hL;refine r16 ?_;refine r3 ?_;refine WO.gv (Zt.yes rfl rfl rfl (Xa rfl fh)) rfl (fun hg=>(Zqs (Y4 (Y5 rfl fh) rfl hg) lk (Zht fh hg))) ?_;refine r6 ?_;refine WO.gv (Zt.yes rfl rfl rfl (Xa rfl (Y5 rfl (YG rfl (Zy rfl fh))))) rfl (fun hg=>(Zqs (Y4 (Y5 rfl (Zy rfl fh)) rfl hg) lk (Zht fh hg))) ?_;refine r3 ?_;refine cn hL ?_ ?_
        ·intro hc hL;refine r8 ?_;refine r3 ?_;exact rt hL hT hS
        ·intro hc hL;refine r6 ?_;refine r1 ?_;exact Yc.YZ (ZC7 _ _ hL ⟨_,_,rfl,hS.only .n,YA⟩)
     ·intro hc hL;refine r8 ?_;refine r3 ?_;exact rt hL hT hS
theorem ZI9 {F wm:Nat} {h:H} {p0:(List Int)} {p1:Int} {Zi:Option Addr} {Zh:Nat} {r:Bool} (Z0:wm <=h.size) (ZB:Sl (Zu .i64) wm h Zi Zh p0) (hL:Zp0 F p0 p1=some r):
 WR XX 78 #[.slice Zi p0.length Zh,.int .i64 p1] wm h (CP (fun(v:Value) (Gb:List (Ast wm))=>v= .bool r∧Gb= []) [] h):=by
 refine bg Tryz.ntmps78 Z0 Yh.nil ?_;intro T hT hS;unfold Zp0 at hL;refine r8 ?_;refine r1 ?_;obtain⟨x1,hx1,hL⟩:=bind_some hL;refine WO.cp gN rfl (Xm.fn ZMk (Zf lk (Zf lk Zz))) (WR.Qy rfl (ZIW (Nat.le_refl _) (hS.Y0 ZB) hx1)) ?_;refine r4 ?_;refine r1 ?_;exact rt hL hT hS
theorem Zsc {F:Nat} {h:H} {p0:(List Int)} {p1:Int} {Zi:Option Addr} {Zh:Nat} {r:Bool} (ZB:Sl (Zu .i64) h.size h Zi Zh p0) (hL:Zp0 F p0 p1=some r):Pure XX 78 #[.slice Zi p0.length Zh,.int .i64 p1] h (.bool r):=
 WR.Qy rfl (ZI9 (Nat.le_refl _) ZB hL)
end Go.Proofs.YtbmbbcaaimehkaaGreat
end
end
section
namespace Go.Proofs.YtbmbbcaaimehkaaGreat
open Go.Lf
def Zm4 (p0:(List (List Zw))):(List (List Zw))×Int ->((List (List Zw))×Int ->Option (List (List Zw))) ->Option (List (List Zw)):=fun(v3,v11) JS=>
 (bif decide (v11 < (p0.length:Int)) then(ZT p0 v11).bind fun x14=>(Zuf x14).bind fun x19=>(app 24 v3 [x19]).bind fun z27=>JS (z27,Xd (v11 + 1)) else some v3)
def ZAr (F:Nat) (p0:(List (List Zw))):Option (List (List Zw)):=
 loop F (Zm4 p0) ([],0)
def Zm3 (p0:(List (List Zr))):(List (List Zr))×Int ->((List (List Zr))×Int ->Option (List (List Zr))) ->Option (List (List Zr)):=fun(v3,v11) JS=>
 (bif decide (v11 < (p0.length:Int)) then(ZT p0 v11).bind fun x14=>(Zue x14).bind fun x19=>(app 24 v3 [x19]).bind fun z27=>JS (z27,Xd (v11 + 1)) else some v3)
def ZAq (F:Nat) (p0:(List (List Zr))):Option (List (List Zr)):=
 loop F (Zm3 p0) ([],0)
def ZpZ (p0:Z4) (p1:Int) (p2:Zr) (p3:Bool):Option Z4:=
 (ZT p0.Za.qQ p1).bind fun x3=>(ZT x3 p2.place).bind fun x9=>(bif x9.here then(Zhr p0 p1 p2).bind fun x15=>some x15 else(bif((decide (x9.age > p2.age)) || p3) then(app 128 p0.Za.qG ([(Zd.mk 1 x9.Z9 (Zr.mk p2.msg p2.place p2.from_ x9.age (Xd (p2.hops + 1))) [] [] 0 0 0)])).bind fun z40=>(bif(((!p3) && (p2.from_ !=p1)) && (p2.from_ !=x9.Z9)) then(app 128 z40 ([(Zd.mk 3 p2.from_ (Zr.mk 0 0 0 0 0) [] [] p2.place x9.Z9 x9.age)])).bind fun z47=>some (Z4.mk (Zb.mk p0.Za.Zv p0.Za.qK p0.Za.qQ p0.Za.qJ z47 p0.Za.said) p0.qX) else some (Z4.mk (Zb.mk p0.Za.Zv p0.Za.qK p0.Za.qQ p0.Za.qJ z40 p0.Za.said) p0.qX)) else(ZT p0.Za.qJ p1).bind fun x54=>(app 40 x54 [p2]).bind fun z62=>(ZT p0.Za.qJ p1).bind fun x66=>some (Z4.mk (Zb.mk p0.Za.Zv p0.Za.qK p0.Za.qQ (Yt p0.Za.qJ p1 z62) p0.Za.qG p0.Za.said) p0.qX)))
end Go.Proofs.YtbmbbcaaimehkaaGreat
end
section
set_option maxRecDepth 20000
noncomputable section
namespace Go.Proofs.YtbmbbcaaimehkaaGreat
open Go.YL Go.Lf
theorem ZI7 {F wm:Nat} {h:H} {p0:(List (List Zw))} {Zi:Option Addr} {Zh:Nat} {r:(List (List Zw))} (Z0:wm <=h.size) (ZB:Sl (ZM Zc) wm h Zi Zh p0) (hL:ZAr F p0=some r):
 WR XX 82 #[.slice Zi p0.length Zh] wm h (CP (fun(v:Value) (Gb:List (Ast wm))=>∃ (X7:Option Addr) (X5:Nat) (X6:Nat) (ZeF:Nat ->Option Addr×Nat×Nat),v= .slice X7 X5 X6∧Gb= [Y3 wm (ZV Zc) X7 X5 X6 ZeF r]) [] h):=by
 refine bg Tryz.ntmps82 Z0 Yh.nil ?_;intro T hT hS;unfold ZAr at hL;refine r16 ?_;refine r3 ?_;have hS:=hS.ZhB (e:= (ZV Zc)) (ps:=fun _=>(ZV Zc).dflt);refine WC.loop (WL.lift hL (fun(p:(List (List Zw))×Int) (s:Fs)=>match p with | (v3,v11)=>∃ (Qr:Fr) (h1:H) (a4:Option Addr) (c5:Nat) (n6:Nat) (ps7:Nat ->Option Addr×Nat×Nat),s= ⟨Qr,[],h1,none⟩∧Sp wm T h [Y3 wm (ZV Zc) a4 n6 c5 ps7 v3] h1∧Qr.at 3= .slice a4 n6 c5∧Qr.at 6= .slice Zi p0.length Zh∧Qr.at 7= .int .i64 (p0.length:Int)∧Qr.at 8= .int .i64 v11) ⟨_,_,none,0,0,(fun _=>(ZV Zc).dflt),rfl,hS.only (.c k0 .n),YA⟩ ?_);clear hL hS;rintro JS ⟨v3,v11⟩ s Kt hL ⟨Qr,h1,a4,c5,n6,ps7,rfl,hS,e8,e9,e10,e12⟩;obtain rfl:=hS.YT k0;dsimp only [Zm4] at hL;refine r6 ?_;refine cn hL ?_ ?_
 ·intro hc hL;refine r6 ?_;obtain⟨x14,ZeT,hL⟩:=bind_some hL;obtain⟨b15,o16,⟨a17,c18⟩,ZeV,ZeY,ZeX,ZeW⟩:=Sl.at_ ZB ZeT;refine WO.w gN rfl (ZE U6 Q5 lk lk rfl ZeV ZeT) ?_;have ZeU:Sl Zc wm h a17 c18 x14:=ZeW;refine WO.w gN rfl (ZW WS (Yi fh rfl) (At.fz hS.fz ZeX ZeY) (j:=0) rfl (v:= .slice a17 x14.length c18) rfl) ?_;refine r6 ?_;obtain⟨x19,Zry,hL⟩:=bind_some hL;refine WO.cl gN rfl (Xm.fn ZHw (Zf lk Zz)) hS .n (fun g' hz hf hO=>ZD5 (by rw [hz];exact hS.hw) ((hS.sl ZeU).mono hf) Zry) ?_;rintro _ h23 _ ⟨a20,n21,c22,rfl,rfl⟩ hS;obtain rfl:=hS.on k0;refine WO.hn gN rfl (Zxc (e:=Zc) (x:=x19) hS k0 U6 Q5 Zwz rfl rfl (ZG lk Yf) rfl rfl) ?_;rintro _ h26 ⟨b25,ZJH,rfl,hS⟩;obtain⟨z27,Zyg,hL⟩:=bind_some hL;refine WO.hv gN rfl (Zxd (e:= (ZV Zc)) hS (.c k1 (.c k0 .n)) ZBd lk lk Zyg) ?_;rintro _ h31 ⟨a28,c29,Zxr,rfl,hS⟩;refine r8 ?_;exact Yc.YZ (Kt _ _ hL ⟨_,_,a28,c29,z27.length,Zxr,rfl,hS.only (.c k0 .n),YA⟩)
 ·intro hc hL;refine XA ?_;have hr:=Oi0 hL;subst hr;exact Yl.X0 rfl (ZP lk ZA) ⟨_,⟨a4,v3.length,c5,ps7,rfl,rfl⟩,hT ▸ hS.only (.c k0 .n)⟩
theorem ZI6 {F wm:Nat} {h:H} {p0:(List (List Zr))} {Zi:Option Addr} {Zh:Nat} {r:(List (List Zr))} (Z0:wm <=h.size) (ZB:Sl (ZM Zg) wm h Zi Zh p0) (hL:ZAq F p0=some r):
 WR XX 83 #[.slice Zi p0.length Zh] wm h (CP (fun(v:Value) (Gb:List (Ast wm))=>∃ (X7:Option Addr) (X5:Nat) (X6:Nat) (ZeF:Nat ->Option Addr×Nat×Nat),v= .slice X7 X5 X6∧Gb= [Y3 wm (ZV Zg) X7 X5 X6 ZeF r]) [] h):=by
 refine bg Tryz.ntmps83 Z0 Yh.nil ?_;intro T hT hS;unfold ZAq at hL;refine r16 ?_;refine r3 ?_;have hS:=hS.ZhB (e:= (ZV Zg)) (ps:=fun _=>(ZV Zg).dflt);refine WC.loop (WL.lift hL (fun(p:(List (List Zr))×Int) (s:Fs)=>match p with | (v3,v11)=>∃ (Qr:Fr) (h1:H) (a4:Option Addr) (c5:Nat) (n6:Nat) (ps7:Nat ->Option Addr×Nat×Nat),s= ⟨Qr,[],h1,none⟩∧Sp wm T h [Y3 wm (ZV Zg) a4 n6 c5 ps7 v3] h1∧Qr.at 3= .slice a4 n6 c5∧Qr.at 6= .slice Zi p0.length Zh∧Qr.at 7= .int .i64 (p0.length:Int)∧Qr.at 8= .int .i64 v11) ⟨_,_,none,0,0,(fun _=>(ZV Zg).dflt),rfl,hS.only (.c k0 .n),YA⟩ ?_);clear hL hS;rintro JS ⟨v3,v11⟩ s Kt hL ⟨Qr,h1,a4,c5,n6,ps7,rfl,hS,e8,e9,e10,e12⟩;obtain rfl:=hS.YT k0;dsimp only [Zm3] at hL;refine r6 ?_;refine cn hL ?_ ?_
 ·intro hc hL;refine r6 ?_;obtain⟨x14,ZeT,hL⟩:=bind_some hL;obtain⟨b15,o16,⟨a17,c18⟩,ZeV,ZeY,ZeX,ZeW⟩:=Sl.at_ ZB ZeT;refine WO.w gN rfl (ZE Kb QR lk lk rfl ZeV ZeT) ?_;have ZeU:Sl Zg wm h a17 c18 x14:=ZeW;refine WO.w gN rfl (ZW ZbF (Yi fh rfl) (At.fz hS.fz ZeX ZeY) (j:=0) rfl (v:= .slice a17 x14.length c18) rfl) ?_;refine r6 ?_;obtain⟨x19,Zry,hL⟩:=bind_some hL;refine WO.cl gN rfl (Xm.fn ZHv (Zf lk Zz)) hS .n (fun g' hz hf hO=>ZD4 (by rw [hz];exact hS.hw) ((hS.sl ZeU).mono hf) Zry) ?_;rintro _ h23 _ ⟨a20,n21,c22,rfl,rfl⟩ hS;obtain rfl:=hS.on k0;refine WO.hn gN rfl (Zxc (e:=Zg) (x:=x19) hS k0 Kb QR Zwy rfl rfl (ZG lk Yf) rfl rfl) ?_;rintro _ h26 ⟨b25,ZJH,rfl,hS⟩;obtain⟨z27,Zyg,hL⟩:=bind_some hL;refine WO.hv gN rfl (Zxd (e:= (ZV Zg)) hS (.c k1 (.c k0 .n)) ZBc lk lk Zyg) ?_;rintro _ h31 ⟨a28,c29,Zxr,rfl,hS⟩;refine r8 ?_;exact Yc.YZ (Kt _ _ hL ⟨_,_,a28,c29,z27.length,Zxr,rfl,hS.only (.c k0 .n),YA⟩)
 ·intro hc hL;refine XA ?_;have hr:=Oi0 hL;subst hr;exact Yl.X0 rfl (ZP lk ZA) ⟨_,⟨a4,v3.length,c5,ps7,rfl,rfl⟩,hT ▸ hS.only (.c k0 .n)⟩
theorem ZAp {wm:Nat} {h:H} {p0:Z4} {p1:Int} {p2:Zr} {p3:Bool} {Zi:Option Addr} {Zh XT:Nat} {Zk:Option Addr} {Zj Jb:Nat} {YJ:Nat ->Option Addr×Nat×Nat} {Zq:Option Addr} {Zn Ja:Nat} {YR:Nat ->Option Addr×Nat×Nat} {Zp:Option Addr} {Zm Q9:Nat} {YI:Nat ->Option Addr×Nat×Nat} {Zo:Option Addr} {Zl Q8:Nat} {Z7:Option Addr} {Z6 Qo YX:Nat} {r:Z4} (Z0:wm <=h.size) (hO:Yh (wm:=wm) [bx wm YX (cG Zi XT Zh Zk Jb Zj Zq Ja Zn Zp Q9 Zm Zo Q8 Zl p0.Za.said Z7 Qo Z6),ow wm (Zu .i64) Zi XT Zh p0.Za.Zv,Y3 wm (ZV (Zu .i64)) Zk Jb Zj YJ p0.Za.qK,Y3 wm (ZV Zc) Zq Ja Zn YR p0.Za.qQ,Y3 wm (ZV Zg) Zp Q9 Zm YI p0.Za.qJ,ow wm Ze Zo Q8 Zl p0.Za.qG,ow wm ZQ Z7 Qo Z6 p0.qX] h) (hL:ZpZ p0 p1 p2 p3=some r):
 WR XX 84 #[.pointer (some ⟨YX,0,none⟩),.int .i64 p1,.agg [.int .i64 p2.msg,.int .i64 p2.place,.int .i64 p2.from_,.int .i64 p2.age,.int .i64 p2.hops].toArray,.bool p3] wm h (CP (fun(v:Value) (Gb:List (Ast wm))=>∃ (Jy:Option Addr) (UJ:Nat) (Jr:Nat) (Jw:Option Addr) (UI:Nat) (Jq:Nat) (UN:Nat ->Option Addr×Nat×Nat) (Jv:Option Addr) (UH:Nat) (Jp:Nat) (UM:Nat ->Option Addr×Nat×Nat) (Ju:Option Addr) (UG:Nat) (Jo:Nat) (UL:Nat ->Option Addr×Nat×Nat) (Jt:Option Addr) (UF:Nat) (Jm:Nat) (Js:Option Addr) (Jk:Nat) (Jl:Nat),v= .tuple [].toArray∧Gb= [bx wm YX (cG Jy UJ Jr Jw UI Jq Jv UH Jp Ju UG Jo Jt UF Jm r.Za.said Js Jk Jl),ow wm (Zu .i64) Jy UJ Jr r.Za.Zv,Y3 wm (ZV (Zu .i64)) Jw UI Jq UN r.Za.qK,Y3 wm (ZV Zc) Jv UH Jp UM r.Za.qQ,Y3 wm (ZV Zg) Ju UG Jo UL r.Za.qJ,ow wm Ze Jt UF Jm r.Za.qG,ow wm ZQ Js Jk Jl r.qX]) [bx wm YX (cG Zi XT Zh Zk Jb Zj Zq Ja Zn Zp Q9 Zm Zo Q8 Zl p0.Za.said Z7 Qo Z6),ow wm (Zu .i64) Zi XT Zh p0.Za.Zv,Y3 wm (ZV (Zu .i64)) Zk Jb Zj YJ p0.Za.qK,Y3 wm (ZV Zc) Zq Ja Zn YR p0.Za.qQ,Y3 wm (ZV Zg) Zp Q9 Zm YI p0.Za.qJ,ow wm Ze Zo Q8 Zl p0.Za.qG,ow wm ZQ Z7 Qo Z6 p0.qX] h):=by
 refine bg Tryz.ntmps84 Z0 hO ?_;intro T hT hS;unfold ZpZ at hL;obtain rfl:=hS.on k1;obtain rfl:=hS.YT k2;obtain rfl:=hS.YT k3;obtain rfl:=hS.YT k4;obtain rfl:=hS.on k5;obtain rfl:=hS.on k6;refine r3 ?_;rintro _ h2 ⟨b1,eb1,rfl,hS⟩;refine r3 ?_;refine WC.Xx mixed Kq0 ?_;refine r6 ?_;obtain⟨x3,hx3,hL⟩:=bind_some hL;obtain⟨b4,o5,a6,n7,c8,ZL7,ZRZ,ZSt⟩:=hS.atS k4 hx3;refine WX.w gN rfl (ZE U6 Q5 lk lk rfl ZRZ hx3) ?_ rfl;refine WX.w gN rfl (ZW WS (Yi fh rfl) ZSt (j:=0) rfl (v:= .slice a6 n7 c8) rfl) ?_ rfl;refine r2 ?_;obtain⟨x9,hx9,hL⟩:=bind_some hL;obtain⟨b10,o11,_,Zjd,Zjg,Zt8⟩:=Src.at_ (hS.inS k4 hx3 ZL7).2.1 hx9;refine WX.w gN rfl (ZE U5 XD lk lk (hS.inS k4 hx3 ZL7).1 Zjd hx9) ?_ rfl;refine WX.w gN rfl (Xf ZlS XD (Yi fh rfl) Zjg (j:=0) rfl rfl (ws:= (cE x9)) rfl) ?_ rfl;refine WX.hn gN rfl (Zth hS Zid (vs:= [.bool false,.int .i64 0,.int .i64 0]) rfl) ?_ rfl;rintro _ h13 ⟨b12,ZSV,rfl,hS⟩;refine WX.hu gN (ZaI hS k0 XD lk lk (vs:= (cE x9)) rfl rfl rfl rfl (cs':= (cE x9)) rfl) ?_ rfl rfl [] Kq0 YV.e;rintro h14 hS;refine r8 ?_;refine r2 ?_;refine cn hL ?_ ?_
 ·intro hc hL;refine r4 ?_;obtain⟨x15,ZRp,hL⟩:=bind_some hL;refine WO.cl gN rfl (Xm.fn Zy3 (Zf lk (Zf lk (Zf lk Zz)))) hS (.c k2 (.c k2 (.c k2 (.c k2 (.c k2 (.c k2 (.c k2 .n))))))) (fun g' hz hf hO=>Zud (by rw [hz];exact hS.hw) hO ZRp) ?_;rintro _ h34 _ ⟨a16,n17,c18,a19,n20,c21,ZK7,a22,n23,c24,ZK5,a25,n26,c27,ZK4,a28,n29,c30,a31,n32,c33,rfl,rfl⟩ hS;obtain rfl:=hS.on k1;obtain rfl:=hS.YT k2;obtain rfl:=hS.YT k3;obtain rfl:=hS.YT k4;obtain rfl:=hS.on k5;obtain rfl:=hS.on k6;refine r2 ?_;refine Yl.YZ ?_;have hr:=Oi0 hL;subst hr;exact Yl.gen (vs:= []) rfl ZA rfl ⟨_,⟨a16,x15.Za.Zv.length,c18,a19,x15.Za.qK.length,c21,ZK7,a22,x15.Za.qQ.length,c24,ZK5,a25,x15.Za.qJ.length,c27,ZK4,a28,x15.Za.qG.length,c30,a31,x15.qX.length,c33,rfl,rfl⟩,hT ▸ hS.only (.c k0 (.c k0 (.c k0 (.c k0 (.c k0 (.c k0 (.c k0 .n)))))))⟩
 ·intro hc hL;refine XA ?_;refine r1 ?_;refine cn hL ?_ ?_
  ·intro hc hL;refine r6 ?_;rintro h36 hS;refine r8 ?_;refine r1 ?_;rintro h37 hS;refine r3 ?_;refine WC.Xx mixed Kq0 ?_;refine r8 ?_;refine r1 ?_;refine WX.w gN rfl (XP Zur (ZG lk (ZG lk (ZG lk Yf))) rfl (cs':= [.int .i64 1,.int .i64 x9.Z9,.int .i64 p2.msg,.int .i64 p2.place,.int .i64 p2.from_,.int .i64 x9.age,.int .i64 (Xd (p2.hops + 1)),.slice none 0 0,.slice none 0 0,.int .i64 0,.int .i64 0,.int .i64 0]) rfl) ?_ rfl;refine WX.hn gN rfl (K9 (e:=Ze) hS Jj Y2 ZdC rfl rfl rfl (ZG lk Yf) rfl [(((none,0),(none,0)),(Zd.mk 1 x9.Z9 (Zr.mk p2.msg p2.place p2.from_ x9.age (Xd (p2.hops + 1))) [] [] 0 0 0))] rfl (xs:= [(Zd.mk 1 x9.Z9 (Zr.mk p2.msg p2.place p2.from_ x9.age (Xd (p2.hops + 1))) [] [] 0 0 0)]) rfl (by intro q hq;simp only [List.mem_cons,List.not_mem_nil,or_false] at hq;subst hq;exact⟨Sl.nil,Sl.nil⟩) rfl) ?_ rfl;rintro _ h39 ⟨b38,ZSU,rfl,hS⟩;obtain⟨z40,ZRa,hL⟩:=bind_some hL;refine WX.hv gN rfl (Ko (e:=Ze) hS k8 ZcG lk lk (hS.QE k0) (hS.on k0) ZRa) ?_ rfl rfl [] Kq0 YV.e;rintro _ h43 ⟨a41,c42,rfl,hS⟩;refine WX.w gN rfl (Zd7 lk) ?_ Kq0;refine WX.w gN rfl (Ui Ze5 lk) ?_ Kq0;refine WX.w gN rfl (Ui Zh0 lk) ?_ Kq0;refine WX.hu gN (ZaI hS k4 Zmc lk lk (vs:= [.slice a41 z40.length c42]) rfl rfl rfl rfl (cs':= (cG Zi p0.Za.Zv.length Zh Zk p0.Za.qK.length Zj Zq p0.Za.qQ.length Zn Zp p0.Za.qJ.length Zm a41 z40.length c42 p0.Za.said Z7 p0.qX.length Z6)) rfl) ?_ rfl Kq0 [] Kq0 YV.e;rintro h44 hS;refine r16 ?_;refine r4 ?_;refine r1 ?_;refine cn hL ?_ ?_
   ·intro hc hL;refine WC.Xx mixed Kq0 ?_;refine XA ?_;refine r2 ?_;refine WX.w gN rfl (XP Zur (ZG lk (ZG lk (ZG lk (ZG lk (ZG lk Yf))))) rfl (cs':= [.int .i64 3,.int .i64 p2.from_,.int .i64 0,.int .i64 0,.int .i64 0,.int .i64 0,.int .i64 0,.slice none 0 0,.slice none 0 0,.int .i64 p2.place,.int .i64 x9.Z9,.int .i64 x9.age]) rfl) ?_ rfl;refine WX.hn gN rfl (K9 (e:=Ze) hS Jj Y2 ZdC rfl rfl rfl (ZG lk Yf) rfl [(((none,0),(none,0)),(Zd.mk 3 p2.from_ (Zr.mk 0 0 0 0 0) [] [] p2.place x9.Z9 x9.age))] rfl (xs:= [(Zd.mk 3 p2.from_ (Zr.mk 0 0 0 0 0) [] [] p2.place x9.Z9 x9.age)]) rfl (by intro q hq;simp only [List.mem_cons,List.not_mem_nil,or_false] at hq;subst hq;exact⟨Sl.nil,Sl.nil⟩) rfl) ?_ rfl;rintro _ h46 ⟨b45,ZYO,rfl,hS⟩;obtain⟨z47,ZQ9,hL⟩:=bind_some hL;refine WX.hv gN rfl (Ko (e:=Ze) hS k2 ZcG lk lk (hS.QE k0) (hS.on k0) ZQ9) ?_ rfl rfl [] Kq0 YV.e;rintro _ h50 ⟨a48,c49,rfl,hS⟩;refine WX.w gN rfl (Zd7 lk) ?_ Kq0;refine WX.w gN rfl (Ui Ze5 lk) ?_ Kq0;refine WX.w gN rfl (Ui Zh0 lk) ?_ Kq0;refine WX.hu gN (ZaI hS k2 Zmc lk lk (vs:= [.slice a48 z47.length c49]) rfl rfl rfl rfl (cs':= (cG Zi p0.Za.Zv.length Zh Zk p0.Za.qK.length Zj Zq p0.Za.qQ.length Zn Zp p0.Za.qJ.length Zm a48 z47.length c49 p0.Za.said Z7 p0.qX.length Z6)) rfl) ?_ rfl Kq0 [] Kq0 YV.e;rintro h51 hS;refine r2 ?_;refine Yl.YZ ?_;have hr:=Oi0 hL;subst hr;exact Yl.gen (vs:= []) rfl ZA rfl ⟨_,⟨Zi,p0.Za.Zv.length,Zh,Zk,p0.Za.qK.length,Zj,YJ,Zq,p0.Za.qQ.length,Zn,YR,Zp,p0.Za.qJ.length,Zm,YI,a48,z47.length,c49,Z7,p0.qX.length,Z6,rfl,rfl⟩,hT ▸ hS.only (.c k0 (.c k5 (.c k5 (.c k5 (.c k5 (.c k0 (.c k4 .n)))))))⟩
   ·intro hc hL;refine r2 ?_;refine Yl.YZ ?_;have hr:=Oi0 hL;subst hr;exact Yl.gen (vs:= []) rfl ZA rfl ⟨_,⟨Zi,p0.Za.Zv.length,Zh,Zk,p0.Za.qK.length,Zj,YJ,Zq,p0.Za.qQ.length,Zn,YR,Zp,p0.Za.qJ.length,Zm,YI,a41,z40.length,c42,Z7,p0.qX.length,Z6,rfl,rfl⟩,hT ▸ hS.only (.c k0 (.c k4 (.c k4 (.c k4 (.c k4 (.c k0 (.c k3 .n)))))))⟩
  ·intro hc hL;refine WC.Xx mixed Kq0 ?_;refine r4 ?_;refine WX.wr (fun x=>x=YX) hS gN rfl (fun _ _ hR=>ZW Zux (Yi fh rfl) (At.eqv (hR YX rfl) (hS.atB k2)) (j:=3) rfl (v:= .slice Zp p0.Za.qJ.length Zm) rfl) ?_ rfl rfl;rintro h52 e53 hS;refine r6 ?_;refine r1 ?_;obtain⟨x54,Zi2,hL⟩:=bind_some hL;obtain⟨b55,o56,a57,n58,c59,ZL6,Zjb,ZpQ⟩:=hS.atS k6 Zi2;refine WX.w gN rfl (ZE Kb QR lk lk rfl Zjb Zi2) ?_ rfl;refine WX.w gN rfl (ZW ZbF (Yi fh rfl) ZpQ (j:=0) rfl (v:= .slice a57 n58 c59) rfl) ?_ rfl;refine r1 ?_;refine WX.hn gN rfl (K9 (e:=Zg) hS ZaB JQ Zib rfl rfl rfl (ZG lk Yf) rfl [((),p2)] rfl (xs:= [p2]) rfl (by intro q hq;simp only [List.mem_cons,List.not_mem_nil,or_false] at hq;subst hq;exact trivial) rfl) ?_ rfl;rintro _ h61 ⟨b60,ZSR,rfl,hS⟩;obtain⟨z62,ZQ8,hL⟩:=bind_some hL;have hS:=hS.Zik k7 Zi2 ZL6;refine WX.hv gN rfl (Ko (e:=Zg) hS k1 Zkk lk lk (hS.QE k2) (hS.on k2) ZQ8) ?_ rfl rfl [4] Kq0 (.c (.s .z) (hS.dj (.c k1 (.c k4 .n))) YV.e);rintro _ h65 ⟨a63,c64,rfl,hS⟩;obtain⟨x66,ZRi,hL⟩:=bind_some hL;refine WX.w gN rfl (ZE Kb QR lk lk rfl Zjb ZRi) ?_ Kq0;refine WX.hu gN (Ztg hS k1 QR (Yi fh rfl) (Yi (Zy rfl fh) rfl) Zjb Zi2 (j:=0) rfl (vs:= [.slice a63 z62.length c64]) rfl rfl rfl rfl rfl (cs':= [.slice a63 z62.length c64]) rfl rfl rfl) ?_ rfl Kq0 [] Kq0 YV.e;rintro h68 hS;obtain⟨ZQP,ZXa,hS⟩:=hS.Zjn (.c k0 (.c k0 .n)) Zi2;refine r2 ?_;refine Yl.YZ ?_;have hr:=Oi0 hL;subst hr;exact Yl.gen (vs:= []) rfl ZA rfl ⟨_,⟨Zi,p0.Za.Zv.length,Zh,Zk,p0.Za.qK.length,Zj,YJ,Zq,p0.Za.qQ.length,Zn,YR,Zp,p0.Za.qJ.length,Zm,ZQP,Zo,p0.Za.qG.length,Zl,Z7,p0.qX.length,Z6,rfl,rfl⟩,hT ▸ hS.only (.c k4 (.c k4 (.c k4 (.c k4 (.c k0 (.c k3 (.c k3 .n)))))))⟩
end Go.Proofs.YtbmbbcaaimehkaaGreat
end
end
section
namespace Go.Proofs.YtbmbbcaaimehkaaGreat
open Go.Lf
def Zjq:Int ->Option Bool:=fun v7=>
 some (decide (v7 >=0))
def Zjr (F:Nat) (p0:ZX) (p1:Int) (p2:Int):Int ->(Int ->Option Bool) ->Option Bool:=fun v13 ZiK=>
 (bif decide (v13 < (p0.Za.qG.length:Int)) then(ZT p0.Za.qG v13).bind fun x16=>(gd (x16.kind==2) (Zp0 F x16.qV p1) default).bind fun x25=>(gd ((x16.kind==2) && x25) (Zp0 F x16.qV p2) default).bind fun Kz=>(bif(((x16.kind==2) && x25) && Kz) then(Zjq) v13 else ZiK (Xd (v13 + 1))) else(Zjq) (-1))
def Zsa (F:Nat) (p0:ZX) (p1:Int) (p2:Int):Option Bool:=
 loop F (Zjr F p0 p1 p2) 0
def Zm1 (p0:ZX) (p1:Int) (p2:Int) (p3:Int):Option Bool:=
 (ZT p0.Y7 p1).bind fun x1=>(gd (!((decide (p3 < 0)) || (decide (p3 > x1.age)))) (Zm0 p0 p2) default).bind fun x7=>(bif(((decide (p3 < 0)) || (decide (p3 > x1.age))) || (!x7)) then some false else(bif(p3==x1.age) then some (p2==x1.machine) else(ZT p0.Za.qQ p2).bind fun x8=>(ZT x8 p1).bind fun x13=>some (decide (x13.age > p3))))
end Go.Proofs.YtbmbbcaaimehkaaGreat
end
section
set_option maxRecDepth 20000
noncomputable section
namespace Go.Proofs.YtbmbbcaaimehkaaGreat
open Go.YL Go.Lf
theorem ZI0 {F wm:Nat} {h:H} {p0:ZX} {p1 p2:Int} {Zi:Option Addr} {Zh:Nat} {Zk:Option Addr} {Zj:Nat} {Zq:Option Addr} {Zn:Nat} {Zp:Option Addr} {Zm:Nat} {Zo:Option Addr} {Zl:Nat} {Z7:Option Addr} {Z6 YX Ke:Nat} {r:Bool} (Z0:wm <=h.size) (XZ:At h YX Ke [.slice Zi p0.Za.Zv.length Zh,.slice Zk p0.Za.qK.length Zj,.slice Zq p0.Za.qQ.length Zn,.slice Zp p0.Za.qJ.length Zm,.slice Zo p0.Za.qG.length Zl,.int .i64 p0.Za.said,.slice Z7 p0.Y7.length Z6]) (XY:Stb wm h YX) (ZB:Sl (Zu .i64) wm h Zi Zh p0.Za.Zv) (ZN:Sl (ZM (Zu .i64)) wm h Zk Zj p0.Za.qK) (ZL:Sl (ZM Zc) wm h Zq Zn p0.Za.qQ) (ZO:Sl (ZM Zg) wm h Zp Zm p0.Za.qJ) (ZJ:Sl Ze wm h Zo Zl p0.Za.qG) (Xr:Sl XE wm h Z7 Z6 p0.Y7) (hL:Zsa F p0 p1 p2=some r):
 WR XX 92 #[.pointer (some ⟨YX,Ke,none⟩),.int .i64 p1,.int .i64 p2] wm h (CP (fun(v:Value) (Gb:List (Ast wm))=>v= .bool r∧Gb= []) [] h):=by
 refine bg Tryz.ntmps92 Z0 Yh.nil ?_;intro T hT hS;unfold Zsa at hL;refine r3 ?_;rintro _ h2 ⟨b1,eb1,rfl,hS⟩;refine r1 ?_;rintro _ h4 ⟨b3,eb3,rfl,hS⟩;refine r8 ?_;refine r1 ?_;refine WO.w gN rfl (ZW ZBn (Yi fh rfl) (At.fz hS.fz XY XZ) (j:=4) rfl (v:= .slice Zo p0.Za.qG.length Zl) rfl) ?_;refine WO.w gN rfl (Zbq (Zf lk (Zf lk Zz))) ?_;refine WO.inl gN rfl (Xm.fn ZHt (Zf lk (Zf lk Zz))) (WF.begin (args:= [_,_]) (fn:=Tryz.f105) Kq0 (by exact rfl) Tryz.ntmps105 (by simp) ?_);simp only [ZY,Z8,Nat.reduceAdd];refine r8 ?_;refine r1 ?_;refine WO.Zrt (r:=r) (fun(v7:Int) (v:Value) (h5:H)=>v= .int .i64 v7∧Sp wm T h [bx wm b1 [.int .i64 p1],bx wm b3 [.int .i64 p2]] h5) (Zjq) gN rfl (Xm.fn ZHr (Zf lk (Zf lk Zz))) ?_ (WF.begin (args:= [_,_]) (fn:=Tryz.f109) Kq0 (by exact rfl) Tryz.ntmps109 (by simp) ?_)
 ·clear hL hS;rintro v7 v h5 hL ⟨rfl,hS⟩;dsimp only [Zjq] at hL;refine r4 ?_;refine r1 ?_;refine Yl.X0 rfl (ZP lk ZA) ?_;refine r4 ?_;exact rt hL hT hS
 ·skip;simp only [ZY,Z8,Nat.reduceAdd];refine XA ?_;refine r2 ?_;refine WC.loop (WL.lift hL (fun(v13:Int) (s:Fs)=>∃ (fr9:Fr) (h8:H),s= ⟨fr9,[],h8,none⟩∧Sp wm T h [bx wm b1 [.int .i64 p1],bx wm b3 [.int .i64 p2]] h8∧fr9.at 0= .slice Zo p0.Za.qG.length Zl∧fr9.at 1= .func (.func 106) #[] [.pointer (some ⟨b1,0,none⟩),.pointer (some ⟨b3,0,none⟩)].toArray∧fr9.at 7= .int .i64 (p0.Za.qG.length:Int)∧fr9.at 8= .int .i64 v13) ⟨_,_,rfl,hS.only (.c k1 (.c k0 .n)),YA⟩ ?_);clear hL hS;rintro ZiK v13 s ZmK hL ⟨fr9,h8,rfl,hS,e10,e11,e12,e14⟩;dsimp only [Zjr] at hL;refine r6 ?_;refine cn hL ?_ ?_
  ·intro hc hL;refine XA ?_;refine r3 ?_;obtain⟨x16,hx16,hL⟩:=bind_some hL;obtain⟨b17,o18,⟨⟨a19,c20⟩,⟨a21,c22⟩⟩,Zzk,ZzV,ZzC,Zt7⟩:=Sl.at_ ZJ hx16;refine WO.w gN rfl (ZE Jj Y2 lk lk rfl Zzk hx16) ?_;have ZtS:Sl (Zu .i64) wm h a19 c20 x16.qV:=Zt7.1;have ZUn:Sl (Zu .i64) wm h a21 c22 x16.Yj:=Zt7.2;refine WO.w gN rfl (Xf Zak Y2 (Yi fh rfl) (At.fz hS.fz ZzC ZzV) (j:=0) rfl rfl (ws:= (cL x16 a19 c20 a21 c22)) rfl) ?_;refine WO.inl gN rfl (Xm.clo (first:= []) (cap:= [.pointer (some ⟨b1,0,none⟩),.pointer (some ⟨b3,0,none⟩)]) lk ZHs lks rfl) (WF.begin (args:= [_,_,_]) (fn:=Tryz.f106) Kq0 (by exact rfl) Tryz.ntmps106 (by simp) ?_);simp only [ZY,Z8,Nat.reduceAdd];refine r3 ?_;rintro _ h24 ⟨b23,ZYU,rfl,hS⟩;refine XA ?_;obtain⟨x25,hx25,hL⟩:=Yp hL;refine WO.gcp (Zt.yes rfl rfl rfl (YG rfl (Zy rfl fh))) rfl (fun hg=>(Xm.fn ZyZ (Zf (Y4 (Zy rfl fh) rfl hg) (Zf (Y4 fh rfl hg) Zz)))) (fun hg=>Zsc (hS.Y0 ZtS) (hx25 hg)) ?_;refine r4 ?_;refine r1 ?_;obtain⟨Kz,ZkP,hL⟩:=Yp hL;refine WO.gcp (Zt.yes rfl rfl rfl (YG rfl (Zy rfl fh))) rfl (fun hg=>(Xm.fn ZyZ (Zf (Y4 (Zy rfl fh) rfl hg) (Zf (Y4 fh rfl hg) Zz)))) (fun hg=>Zsc (hS.Y0 ZtS) (ZkP hg)) ?_;refine r4 ?_;refine r1 ?_;refine Yl.X0 rfl (ZP lk ZA) ?_;refine r2 ?_;refine cn hL ?_ ?_
   ·intro hc hL;refine XA ?_;exact Yl.X0 rfl (ZP lk ZA) ⟨_,hL,⟨rfl,hS.only (.c k1 (.c k1 .n))⟩⟩
   ·intro hc hL;refine r6 ?_;refine r1 ?_;exact Yc.YZ (ZmK _ _ hL ⟨_,_,rfl,hS.only (.c k1 (.c k1 .n)),YA⟩)
  ·intro hc hL;refine r8 ?_;refine r3 ?_;exact Yl.X0 rfl (ZP lk ZA) ⟨_,hL,⟨rfl,hS.only (.c k0 (.c k0 .n))⟩⟩
theorem ZI1 {F:Nat} {h:H} {p0:ZX} {p1 p2:Int} {Zi:Option Addr} {Zh:Nat} {Zk:Option Addr} {Zj:Nat} {Zq:Option Addr} {Zn:Nat} {Zp:Option Addr} {Zm:Nat} {Zo:Option Addr} {Zl:Nat} {Z7:Option Addr} {Z6 YX Ke:Nat} {r:Bool} (XZ:At h YX Ke [.slice Zi p0.Za.Zv.length Zh,.slice Zk p0.Za.qK.length Zj,.slice Zq p0.Za.qQ.length Zn,.slice Zp p0.Za.qJ.length Zm,.slice Zo p0.Za.qG.length Zl,.int .i64 p0.Za.said,.slice Z7 p0.Y7.length Z6]) (XY:Stb h.size h YX) (ZB:Sl (Zu .i64) h.size h Zi Zh p0.Za.Zv) (ZN:Sl (ZM (Zu .i64)) h.size h Zk Zj p0.Za.qK) (ZL:Sl (ZM Zc) h.size h Zq Zn p0.Za.qQ) (ZO:Sl (ZM Zg) h.size h Zp Zm p0.Za.qJ) (ZJ:Sl Ze h.size h Zo Zl p0.Za.qG) (Xr:Sl XE h.size h Z7 Z6 p0.Y7) (hL:Zsa F p0 p1 p2=some r):Pure XX 92 #[.pointer (some ⟨YX,Ke,none⟩),.int .i64 p1,.int .i64 p2] h (.bool r):=
 WR.Qy rfl (ZI0 (Nat.le_refl _) XZ XY ZB ZN ZL ZO ZJ Xr hL)
theorem ZIZ {wm:Nat} {h:H} {p0:ZX} {p1 p2 p3:Int} {Zi:Option Addr} {Zh:Nat} {Zk:Option Addr} {Zj:Nat} {Zq:Option Addr} {Zn:Nat} {Zp:Option Addr} {Zm:Nat} {Zo:Option Addr} {Zl:Nat} {Z7:Option Addr} {Z6 YX Ke:Nat} {r:Bool} (Z0:wm <=h.size) (XZ:At h YX Ke [.slice Zi p0.Za.Zv.length Zh,.slice Zk p0.Za.qK.length Zj,.slice Zq p0.Za.qQ.length Zn,.slice Zp p0.Za.qJ.length Zm,.slice Zo p0.Za.qG.length Zl,.int .i64 p0.Za.said,.slice Z7 p0.Y7.length Z6]) (XY:Stb wm h YX) (ZB:Sl (Zu .i64) wm h Zi Zh p0.Za.Zv) (ZN:Sl (ZM (Zu .i64)) wm h Zk Zj p0.Za.qK) (ZL:Sl (ZM Zc) wm h Zq Zn p0.Za.qQ) (ZO:Sl (ZM Zg) wm h Zp Zm p0.Za.qJ) (ZJ:Sl Ze wm h Zo Zl p0.Za.qG) (Xr:Sl XE wm h Z7 Z6 p0.Y7) (hL:Zm1 p0 p1 p2 p3=some r):
 WR XX 93 #[.pointer (some ⟨YX,Ke,none⟩),.int .i64 p1,.int .i64 p2,.int .i64 p3] wm h (CP (fun(v:Value) (Gb:List (Ast wm))=>v= .bool r∧Gb= []) [] h):=by
 refine bg Tryz.ntmps93 Z0 Yh.nil ?_;intro T hT hS;unfold Zm1 at hL;refine r8 ?_;refine r2 ?_;refine WO.w gN rfl (ZW ZBp (Yi fh rfl) (At.fz hS.fz XY XZ) (j:=6) rfl (v:= .slice Z7 p0.Y7.length Z6) rfl) ?_;refine r1 ?_;obtain⟨x1,hx1,hL⟩:=bind_some hL;obtain⟨b2,o3,_,ZHE,ZIt,ZSq,ZHW⟩:=Sl.at_ Xr hx1;refine WO.w gN rfl (ZE Zii Wt lk lk rfl ZHE hx1) ?_;refine WO.w gN rfl (Xf Zn3 Wt (Yi fh rfl) (At.fz hS.fz ZSq ZIt) (j:=0) rfl rfl (ws:= [.int .i64 x1.machine,.bool x1.here,.int .i64 x1.age]) rfl) ?_;refine r1 ?_;rintro _ h5 ⟨b4,eb4,rfl,hS⟩;refine r1 ?_;rintro h6 hS;refine r16 ?_;obtain⟨x7,hx7,hL⟩:=Yp hL;refine WO.gcp (Zt.no rfl rfl rfl (YG rfl fh)) rfl (fun hg=>(Xm.fn ZyX (Zf (Y4 (Zy rfl fh) rfl hg) (Zf (Y4 fh rfl hg) Zz)))) (fun hg=>Zr7 (At.fz hS.fz XY XZ) (Stb.up hS.hw (Stb.fz hS.fz XZ XY)) (hS.Y0 ZB) (hS.Y0 ZN) (hS.Y0 ZL) (hS.Y0 ZO) (hS.Y0 ZJ) (hS.Y0 Xr) (hx7 hg)) ?_;refine r4 ?_;refine cn hL ?_ ?_
 ·intro hc hL;refine r6 ?_;refine r1 ?_;exact rt hL hT hS
 ·intro hc hL;refine r8 ?_;refine r3 ?_;refine cn hL ?_ ?_
  ·intro hc hL;refine r8 ?_;refine r3 ?_;exact rt hL hT hS
  ·intro hc hL;refine r8 ?_;refine WO.w gN rfl (ZW Zuy (Yi fh rfl) (At.fz hS.fz XY XZ) (j:=2) rfl (v:= .slice Zq p0.Za.qQ.length Zn) rfl) ?_;refine r1 ?_;obtain⟨x8,hx8,hL⟩:=bind_some hL;obtain⟨b9,o10,⟨a11,c12⟩,ZRY,ZSs,ZSo,ZR2⟩:=Sl.at_ ZL hx8;refine WO.w gN rfl (ZE U6 Q5 lk lk rfl ZRY hx8) ?_;have ZL3:Sl Zc wm h a11 c12 x8:=ZR2;refine WO.w gN rfl (ZW WS (Yi fh rfl) (At.fz hS.fz ZSo ZSs) (j:=0) rfl (v:= .slice a11 x8.length c12) rfl) ?_;refine r1 ?_;obtain⟨x13,Zys,hL⟩:=bind_some hL;obtain⟨b14,o15,_,Zzl,ZzW,ZzD,ZNv⟩:=Sl.at_ ZL3 Zys;refine WO.w gN rfl (ZE U5 XD lk lk rfl Zzl Zys) ?_;refine r1 ?_;refine WO.w gN rfl (ZW Xn (Yi fh rfl) (At.fz hS.fz ZzD ZzW) (j:=2) rfl (v:= .int .i64 x13.age) rfl) ?_;refine r6 ?_;exact rt hL hT hS
theorem Zr9 {h:H} {p0:ZX} {p1 p2 p3:Int} {Zi:Option Addr} {Zh:Nat} {Zk:Option Addr} {Zj:Nat} {Zq:Option Addr} {Zn:Nat} {Zp:Option Addr} {Zm:Nat} {Zo:Option Addr} {Zl:Nat} {Z7:Option Addr} {Z6 YX Ke:Nat} {r:Bool} (XZ:At h YX Ke [.slice Zi p0.Za.Zv.length Zh,.slice Zk p0.Za.qK.length Zj,.slice Zq p0.Za.qQ.length Zn,.slice Zp p0.Za.qJ.length Zm,.slice Zo p0.Za.qG.length Zl,.int .i64 p0.Za.said,.slice Z7 p0.Y7.length Z6]) (XY:Stb h.size h YX) (ZB:Sl (Zu .i64) h.size h Zi Zh p0.Za.Zv) (ZN:Sl (ZM (Zu .i64)) h.size h Zk Zj p0.Za.qK) (ZL:Sl (ZM Zc) h.size h Zq Zn p0.Za.qQ) (ZO:Sl (ZM Zg) h.size h Zp Zm p0.Za.qJ) (ZJ:Sl Ze h.size h Zo Zl p0.Za.qG) (Xr:Sl XE h.size h Z7 Z6 p0.Y7) (hL:Zm1 p0 p1 p2 p3=some r):Pure XX 93 #[.pointer (some ⟨YX,Ke,none⟩),.int .i64 p1,.int .i64 p2,.int .i64 p3] h (.bool r):=
 WR.Qy rfl (ZIZ (Nat.le_refl _) XZ XY ZB ZN ZL ZO ZJ Xr hL)
end Go.Proofs.YtbmbbcaaimehkaaGreat
end
end
section
namespace Go.Proofs.YtbmbbcaaimehkaaGreat
open Go.Lf
def Znx (p0:Zb) (v15:(List XI)) (v64:Int) (KT:(Int ->Option Bool)) (x67:(List Zw)):Int ->(Int ->Option Bool) ->Option Bool:=fun v81 ZxM=>
 (bif decide (v81 < (x67.length:Int)) then(ZT x67 v81).bind fun x84=>(gd (!x84.here) (ZT v15 v81) default).bind fun x90=>(gd (!x84.here) (Znd p0 v81 x90 x84.Z9 x84.age) default).bind fun x93=>(bif((!x84.here) && (!x93)) then some false else ZxM (Xd (v81 + 1))) else KT (Xd (v64 + 1)))
def ZjV (p0:Zb) (WG:Int) (ZhS:((List XI)×Int ->Option Bool)) (x107:(List Zr)):(List XI)×Int ->((List XI)×Int ->Option Bool) ->Option Bool:=fun(Zox,ZfD) Zty=>
 (bif decide (ZfD < (x107.length:Int)) then(ZT x107 ZfD).bind fun ZGq=>(Zp1 p0 Zox ZGq WG true).bind fun ZKw=>(bif(!ZKw) then some false else Zty (Zox,Xd (ZfD + 1))) else ZhS (Zox,Xd (WG + 1)))
def Zd4 (p0:Zb) (x160:(List Int)):Int×(List Bool) ->(Int×(List Bool) ->Option Bool) ->Option Bool:=fun(Zep,ZuK) Ztw=>
 (bif decide (Zep < (x160.length:Int)) then(ZT x160 Zep).bind fun ZlW=>(gd (!((decide (ZlW < 0)) || (decide (ZlW >=p0.said)))) (ZT ZuK ZlW) default).bind fun ZGp=>(bif(((decide (ZlW < 0)) || (decide (ZlW >=p0.said))) || ZGp) then some false else(ZT ZuK ZlW).bind fun ZQo=>Ztw (Xd (Zep + 1),Yt ZuK ZlW true)) else some ((x160.length:Int)==p0.said))
def Zgo (F:Nat) (p0:Zb) (v97:(List XI)):Int ->(Int ->Option Bool) ->Option Bool:=fun ZuL Ztx=>
 (bif decide (ZuL < (p0.qG.length:Int)) then(ZT p0.qG ZuL).bind fun ZbU=>(gd (ZbU.kind==1) (Zp1 p0 v97 ZbU.Ya ZbU.Z9 false) default).bind fun Zon=>(gd ((!((ZbU.kind==1) && (!Zon))) && (ZbU.kind==3)) (ZT v97 ZbU.place) default).bind fun Zom=>(gd ((!((ZbU.kind==1) && (!Zon))) && (ZbU.kind==3)) (Znd p0 ZbU.place Zom ZbU.at_ ZbU.age) default).bind fun x159=>(bif(((ZbU.kind==1) && (!Zon)) || ((ZbU.kind==3) && (!x159))) then some false else Ztx (Xd (ZuL + 1))) else(ZAy F p0).bind fun x160=>(mkL false 1 p0.said p0.said).bind fun ZB6=>loop F (Zd4 p0 x160) (0,ZB6))
def Zgp (F:Nat) (p0:Zb):(List XI)×Int ->((List XI)×Int ->Option Bool) ->Option Bool:=fun(v97,WG) ZhS=>
 (bif decide (WG < (p0.qJ.length:Int)) then(ZT p0.qJ WG).bind fun x107=>loop F (ZjV p0 WG ZhS x107) (v97,0) else loop F (Zgo F p0 v97) 0)
def Zgq (F:Nat) (p0:Zb) (v15:(List XI)):Int ->(Int ->Option Bool) ->Option Bool:=fun v64 KT=>
 (bif decide (v64 < (p0.qQ.length:Int)) then(ZT p0.qQ v64).bind fun x67=>loop F (Znx p0 v15 v64 KT x67) 0 else loop F (Zgp F p0) (v15,0))
def Zgr (F:Nat) (p0:Zb) (v15:(List XI)):Int ->(Int ->Option Bool) ->Option Bool:=fun v34 ZiJ=>
 (bif decide (v34 < (p0.Zv.length:Int)) then(ZT p0.Zv v34).bind fun x37=>(gd (decide (x37 >=0)) (ZT v15 v34) default).bind fun x40=>(gd (decide (x37 >=0)) (ZT v15 x37) default).bind fun x43=>(gd ((decide (x37 >=0)) && (!(x40.is !=x43.is))) (ZT v15 v34) default).bind fun x46=>(gd ((decide (x37 >=0)) && (!(x40.is !=x43.is))) (ZT v15 x37) default).bind fun x49=>(gd ((decide (x37 >=0)) && (!((x40.is !=x43.is) || (x46.at_ !=x49.at_)))) (ZT v15 v34) default).bind fun x52=>(gd ((decide (x37 >=0)) && (!((x40.is !=x43.is) || (x46.at_ !=x49.at_)))) (ZT v15 x37) default).bind fun x55=>(bif((decide (x37 >=0)) && (((x40.is !=x43.is) || (x46.at_ !=x49.at_)) || (x52.letter !=x55.letter))) then some false else ZiJ (Xd (v34 + 1))) else loop F (Zgq F p0 v15) 0)
def ZjW (F:Nat) (p0:Zb):Int×(List XI) ->(Int×(List XI) ->Option Bool) ->Option Bool:=fun(v13,v15) ZdR=>
 (bif decide (v13 < (p0.Zv.length:Int)) then(ZAA F p0 v13).bind fun JU=>(bif(!JU.2) then some false else(ZT v15 v13).bind fun x23=>ZdR (Xd (v13 + 1),Yt v15 v13 JU.1)) else loop F (Zgr F p0 v15) 0)
def Zny (F:Nat) (p0:Zb):Option Bool:=
 (ZAB F p0).bind fun x3=>(bif(!x3) then some false else(mkL (XI.mk 0 0 0 false) 32 (p0.Zv.length:Int) (p0.Zv.length:Int)).bind fun z4=>loop F (ZjW F p0) (0,z4))
def ZAF (F:Nat) (p0:Zb):Option Bool:=
 (ZAL F p0).bind fun x3=>(gd x3 (Zny F p0) default).bind fun x4=>some (x3 && x4)
end Go.Proofs.YtbmbbcaaimehkaaGreat
end
section
set_option maxRecDepth 20000
set_option maxHeartbeats 4000000
noncomputable section
namespace Go.Proofs.YtbmbbcaaimehkaaGreat
open Go.YL Go.Lf
theorem ZJB {F wm:Nat} {h:H} {p0:Zb} {Zi:Option Addr} {Zh:Nat} {Zk:Option Addr} {Zj:Nat} {Zq:Option Addr} {Zn:Nat} {Zp:Option Addr} {Zm:Nat} {Zo:Option Addr} {Zl:Nat} {r:Bool} (Z0:wm <=h.size) (ZB:Sl (Zu .i64) wm h Zi Zh p0.Zv) (ZN:Sl (ZM (Zu .i64)) wm h Zk Zj p0.qK) (ZL:Sl (ZM Zc) wm h Zq Zn p0.qQ) (ZO:Sl (ZM Zg) wm h Zp Zm p0.qJ) (ZJ:Sl Ze wm h Zo Zl p0.qG) (hL:Zny F p0=some r):
 WR XX 21 #[.agg [.slice Zi p0.Zv.length Zh,.slice Zk p0.qK.length Zj,.slice Zq p0.qQ.length Zn,.slice Zp p0.qJ.length Zm,.slice Zo p0.qG.length Zl,.int .i64 p0.said].toArray] wm h (CP (fun(v:Value) (Gb:List (Ast wm))=>v= .bool r∧Gb= []) [] h):=by
 refine bg Tryz.ntmps21 Z0 Yh.nil ?_;intro T hT hS;unfold Zny at hL;refine r3 ?_;rintro _ h2 ⟨b1,eb1,rfl,hS⟩;refine r6 ?_;refine r1 ?_;obtain⟨x3,hx3,hL⟩:=bind_some hL;refine WO.cp gN rfl (Xm.fn ZMG (Zf lk Zz)) (WR.Qy rfl (ZJn (Nat.le_refl _) (hS.Y0 ZB) (hS.Y0 ZN) (hS.Y0 ZL) (hS.Y0 ZO) (hS.Y0 ZJ) hx3)) ?_;refine r3 ?_;refine cn hL ?_ ?_
 ·intro hc hL;refine r6 ?_;refine r1 ?_;exact rt hL hT hS
 ·intro hc hL;refine r6 ?_;refine r1 ?_;obtain⟨z4,hz4,hL⟩:=bind_some hL;refine WO.hn gN rfl (Zxa (e:=Zb5) (x0:= (XI.mk 0 0 0 false)) () hS WV Qe (ZEr) ZlV rfl rfl (Yi fh rfl) (Yi fh rfl) rfl trivial hz4) ?_;rintro _ h6 ⟨b5,c7,eb5,rfl,hS⟩;refine XA ?_;refine r1 ?_;refine WC.loop (WL.lift hL (fun(p:Int×(List XI)) (s:Fs)=>match p with | (v13,v15)=>∃ (fr9:Fr) (h8:H),s= ⟨fr9,[],h8,none⟩∧Sp wm T h [bx wm b1 (cW p0 Zi Zh Zk Zj Zq Zn Zp Zm Zo Zl),ow wm Zb5 (some ⟨b5,0,none⟩) z4.length c7 v15] h8∧fr9.at 1= .pointer (some ⟨b1,0,none⟩)∧fr9.at 3= .slice (some ⟨b5,0,none⟩) z4.length c7∧fr9.at 32= .int .i64 (p0.Zv.length:Int)∧fr9.at 33= .int .i64 v13) ⟨_,_,rfl,hS.only (.c k1 (.c k0 .n)),YA⟩ ?_);clear hL hS;rintro ZdR ⟨v13,v15⟩ s ZmJ hL ⟨fr9,h8,rfl,hS,e10,e11,e12,e14⟩;dsimp only [ZjW] at hL;refine r6 ?_;refine cn hL ?_ ?_
  ·intro hc hL;refine XA ?_;refine r2 ?_;obtain⟨JU,Zi3,hL⟩:=bind_some hL;refine WO.cl gN rfl (Xm.fn ZMF (Zf lk (Zf lk Zz))) hS .n (fun g' hz hf hO=>ZJm (by rw [hz];exact hS.hw) ((hS.sl ZB).mono hf) ((hS.sl ZN).mono hf) ((hS.sl ZL).mono hf) ((hS.sl ZO).mono hf) ((hS.sl ZJ).mono hf) Zi3) ?_;rintro _ h18 _ ⟨rfl,rfl⟩ hS;refine r4 ?_;rintro _ h21 ⟨b20,ZYV,rfl,hS⟩;refine r1 ?_;rintro h22 hS;refine r8 ?_;refine r2 ?_;refine cn hL ?_ ?_
   ·intro hc hL;refine XA ?_;exact rt hL hT hS
   ·intro hc hL;refine r6 ?_;obtain⟨x23,Zpu,hL⟩:=bind_some hL;obtain⟨b24,o25,_,Zt3,ZzT,ZNu⟩:=Src.at_ (hS.QE k2) Zpu;refine WO.w gN rfl (ZE WV Qe lk lk (hS.on k2) Zt3 Zpu) ?_;refine WO.hu gN (Zey (e:=Zb5) JU.1 () hS k2 Qe (Yi fh rfl) (Yi (Zy rfl fh) rfl) Zt3 Zpu ZzT (j:=0) rfl (vs:= [.int .i64 JU.1.at_,.int .i64 JU.1.age,.int .i64 JU.1.letter,.bool JU.1.is]) rfl rfl rfl rfl rfl (cs':= [.int .i64 JU.1.at_,.int .i64 JU.1.age,.int .i64 JU.1.letter,.bool JU.1.is]) rfl rfl trivial) ?_;rintro h26 ⟨hS,ZXv⟩;refine r6 ?_;refine r1 ?_;exact Yc.YZ (ZmJ _ _ hL ⟨_,_,rfl,hS.only (.c k2 (.c k0 .n)),YA⟩)
  ·intro hc hL;refine XA ?_;refine r3 ?_;refine WC.loop (WL.lift hL (fun(v34:Int) (s:Fs)=>∃ (ZbM:Fr) (h28:H),s= ⟨ZbM,[],h28,none⟩∧Sp wm T h [bx wm b1 (cW p0 Zi Zh Zk Zj Zq Zn Zp Zm Zo Zl),ow wm Zb5 (some ⟨b5,0,none⟩) z4.length c7 v15] h28∧ZbM.at 1= .pointer (some ⟨b1,0,none⟩)∧ZbM.at 3= .slice (some ⟨b5,0,none⟩) z4.length c7∧ZbM.at 50= .slice Zi p0.Zv.length Zh∧ZbM.at 51= .int .i64 (p0.Zv.length:Int)∧ZbM.at 52= .int .i64 v34) ⟨_,_,rfl,hS.only (.c k0 (.c k0 .n)),YA⟩ ?_);clear hL hS;rintro ZiJ v34 s ZmG hL ⟨ZbM,h28,rfl,hS,e30,e31,e32,e33,e35⟩;dsimp only [Zgr] at hL;refine r6 ?_;refine cn hL ?_ ?_
   ·intro hc hL;refine r6 ?_;refine r1 ?_;obtain⟨x37,ZdV,hL⟩:=bind_some hL;obtain⟨b38,o39,_,Zjc,Zjf,Zje,ZlG⟩:=Sl.at_ ZB ZdV;refine WO.w gN rfl (ZE YE YF lk lk rfl Zjc ZdV) ?_;refine WO.w gN rfl (ZW Xn (Yi fh rfl) (At.fz hS.fz Zje Zjf) (j:=0) rfl (v:= .int .i64 x37) rfl) ?_;refine r4 ?_;refine r1 ?_;refine WC.Xx mixed Kq0 ?_;refine r4 ?_;refine r1 ?_;obtain⟨x40,ZLE,hL⟩:=Yp hL;obtain⟨b41,o42,_,hQ⟩:=Src.atG (fun hg=>(hS.QE k1)) ZLE;have ZM9:=fun hg=>(hQ hg).1
    have ZOd:=fun hg=>(hQ hg).2.1
    have ZUM:=fun hg=>(hQ hg).2.2
    refine WX.gv (Zt.yes rfl rfl rfl (YG rfl fh)) rfl (fun hg=>(ZE WV Qe (Y4 (Zy rfl fh) rfl hg) (Y4 fh rfl hg) (hS.on k1) (ZM9 hg) (ZLE hg))) ?_ rfl;refine r1 ?_;refine WX.gv (Zt.yes rfl rfl rfl (Y5 rfl fh)) rfl (fun hg=>(ZW Zwb (Y4 fh rfl hg) (ZOd hg) (j:=3) rfl (v:= .bool x40.is) rfl)) ?_ rfl;refine r2 ?_;obtain⟨x43,Zym,hL⟩:=Yp hL;obtain⟨b44,o45,_,hQ⟩:=Src.atG (fun hg=>(hS.QE k1)) Zym;have Zzc:=fun hg=>(hQ hg).1
    have ZzO:=fun hg=>(hQ hg).2.1
    have Zzq:=fun hg=>(hQ hg).2.2
    refine WX.gv (Zt.yes rfl rfl rfl (Y5 rfl (YG rfl (Zy rfl fh)))) rfl (fun hg=>(ZE WV Qe (Y4 (Zy rfl fh) rfl hg) (Y4 fh rfl hg) (hS.on k1) (Zzc hg) (Zym hg))) ?_ rfl;refine r1 ?_;refine WX.gv (Zt.yes rfl rfl rfl (Xa rfl (Zy rfl fh))) rfl (fun hg=>(ZW Zwb (Y4 fh rfl hg) (ZzO hg) (j:=3) rfl (v:= .bool x43.is) rfl)) ?_ rfl;refine WX.gv (Zt.yes rfl rfl rfl (Xa rfl (YG rfl fh))) rfl (fun hg=>(Uj (Y4 (Y5 rfl (Zy rfl fh)) rfl hg) (Y4 fh rfl hg) (Zdf ZCm))) ?_ rfl;refine r3 ?_;obtain⟨x46,Zvq,hL⟩:=Yp hL;obtain⟨b47,o48,_,hQ⟩:=Src.atG (fun hg=>(hS.QE k1)) Zvq;have Zt2:=fun hg=>(hQ hg).1
    have ZzN:=fun hg=>(hQ hg).2.1
    have ZNq:=fun hg=>(hQ hg).2.2
    refine WX.gv (Zt.no2 rfl rfl rfl (YG rfl fh)) rfl (fun hg=>(ZE WV Qe (Y4 (Zy rfl fh) rfl hg) (Y4 fh rfl hg) (hS.on k1) (Zt2 hg) (Zvq hg))) ?_ rfl;refine r1 ?_;refine WX.gv (Zt.no2 rfl rfl rfl (Y5 rfl fh)) rfl (fun hg=>(ZW Xn (Y4 fh rfl hg) (ZzN hg) (j:=0) rfl (v:= .int .i64 x46.at_) rfl)) ?_ rfl;refine r2 ?_;obtain⟨x49,Zpr,hL⟩:=Yp hL;obtain⟨b50,o51,_,hQ⟩:=Src.atG (fun hg=>(hS.QE k1)) Zpr;have ZpK:=fun hg=>(hQ hg).1
    have ZpR:=fun hg=>(hQ hg).2.1
    have Zt5:=fun hg=>(hQ hg).2.2
    refine WX.gv (Zt.no2 rfl rfl rfl (Y5 rfl (YG rfl (Zy rfl fh)))) rfl (fun hg=>(ZE WV Qe (Y4 (Zy rfl fh) rfl hg) (Y4 fh rfl hg) (hS.on k1) (ZpK hg) (Zpr hg))) ?_ rfl;refine r1 ?_;refine WX.gv (Zt.no2 rfl rfl rfl (Xa rfl (Zy rfl fh))) rfl (fun hg=>(ZW Xn (Y4 fh rfl hg) (ZpR hg) (j:=0) rfl (v:= .int .i64 x49.at_) rfl)) ?_ rfl;refine r1 ?_;refine WX.gv (Zt.yes rfl rfl rfl (Xa rfl (Xa rfl (Y5 rfl (YG rfl (Zy rfl fh)))))) rfl (fun hg=>(Zqs (Y4 (Xa rfl (YG rfl (Zy rfl fh))) rfl hg) lk (Zht fh hg))) ?_ rfl;refine r3 ?_;obtain⟨x52,Zyl,hL⟩:=Yp hL;obtain⟨b53,o54,_,hQ⟩:=Src.atG (fun hg=>(hS.QE k1)) Zyl;have Zzb:=fun hg=>(hQ hg).1
    have ZzM:=fun hg=>(hQ hg).2.1
    have ZNo:=fun hg=>(hQ hg).2.2
    refine WX.gv (Zt.no2 rfl rfl rfl (YG rfl fh)) rfl (fun hg=>(ZE WV Qe (Y4 (Zy rfl fh) rfl hg) (Y4 fh rfl hg) (hS.on k1) (Zzb hg) (Zyl hg))) ?_ rfl;refine r1 ?_;refine WX.gv (Zt.no2 rfl rfl rfl (Y5 rfl fh)) rfl (fun hg=>(ZW Xn (Y4 fh rfl hg) (ZzM hg) (j:=2) rfl (v:= .int .i64 x52.letter) rfl)) ?_ rfl;refine r2 ?_;obtain⟨x55,Zmz,hL⟩:=Yp hL;obtain⟨b56,o57,_,hQ⟩:=Src.atG (fun hg=>(hS.QE k1)) Zmz;have Zza:=fun hg=>(hQ hg).1
    have ZzL:=fun hg=>(hQ hg).2.1
    have ZNn:=fun hg=>(hQ hg).2.2
    refine WX.gv (Zt.no2 rfl rfl rfl (Y5 rfl (YG rfl (Zy rfl fh)))) rfl (fun hg=>(ZE WV Qe (Y4 (Zy rfl fh) rfl hg) (Y4 fh rfl hg) (hS.on k1) (Zza hg) (Zmz hg))) ?_ rfl;refine r1 ?_;refine WX.gv (Zt.no2 rfl rfl rfl (Xa rfl (Zy rfl fh))) rfl (fun hg=>(ZW Xn (Y4 fh rfl hg) (ZzL hg) (j:=2) rfl (v:= .int .i64 x55.letter) rfl)) ?_ rfl;refine r1 ?_;refine WX.gv (Zt.yes rfl rfl rfl (Xa rfl (Xa rfl (Xa rfl (Xa rfl (Y5 rfl fh)))))) rfl (fun hg=>(Zqs (Y4 (Xa rfl (YG rfl (Zy rfl fh))) rfl hg) lk (Zht fh hg))) ?_ rfl;refine r3 ?_;refine cn hL ?_ ?_
    ·intro hc hL;refine r8 ?_;refine r3 ?_;exact rt hL hT hS
    ·intro hc hL;refine r6 ?_;refine r1 ?_;exact Yc.YZ (ZmG _ _ hL ⟨_,_,rfl,hS.only (.c k0 (.c k0 .n)),YA⟩)
   ·intro hc hL;refine XA ?_;refine r3 ?_;refine WC.loop (WL.lift hL (fun(v64:Int) (s:Fs)=>∃ (ZrY:Fr) (h58:H),s= ⟨ZrY,[],h58,none⟩∧Sp wm T h [bx wm b1 (cW p0 Zi Zh Zk Zj Zq Zn Zp Zm Zo Zl),ow wm Zb5 (some ⟨b5,0,none⟩) z4.length c7 v15] h58∧ZrY.at 1= .pointer (some ⟨b1,0,none⟩)∧ZrY.at 3= .slice (some ⟨b5,0,none⟩) z4.length c7∧ZrY.at 100= .slice Zq p0.qQ.length Zn∧ZrY.at 101= .int .i64 (p0.qQ.length:Int)∧ZrY.at 102= .int .i64 v64) ⟨_,_,rfl,hS.only (.c k0 (.c k0 .n)),YA⟩ ?_);clear hL hS;rintro KT v64 s ZmB hL ⟨ZrY,h58,rfl,hS,e60,e61,e62,e63,e65⟩;dsimp only [Zgq] at hL;refine r6 ?_;refine cn hL ?_ ?_
    ·intro hc hL;refine r6 ?_;obtain⟨x67,Zvo,hL⟩:=bind_some hL;obtain⟨b68,o69,⟨a70,c71⟩,Zt1,Zt9,ZND,ZFQ⟩:=Sl.at_ ZL Zvo;refine WO.w gN rfl (ZE U6 Q5 lk lk rfl Zt1 Zvo) ?_;have ZLW:Sl Zc wm h a70 c71 x67:=ZFQ;refine WO.w gN rfl (ZW WS (Yi fh rfl) (At.fz hS.fz ZND Zt9) (j:=0) rfl (v:= .slice a70 x67.length c71) rfl) ?_;refine r8 ?_;refine r3 ?_;refine WC.loop (WL.lift hL (fun(v81:Int) (s:Fs)=>∃ (ZkT:Fr) (h72:H),s= ⟨ZkT,[],h72,none⟩∧Sp wm T h [bx wm b1 (cW p0 Zi Zh Zk Zj Zq Zn Zp Zm Zo Zl),ow wm Zb5 (some ⟨b5,0,none⟩) z4.length c7 v15] h72∧ZkT.at 1= .pointer (some ⟨b1,0,none⟩)∧ZkT.at 3= .slice (some ⟨b5,0,none⟩) z4.length c7∧ZkT.at 100= .slice Zq p0.qQ.length Zn∧ZkT.at 101= .int .i64 (p0.qQ.length:Int)∧ZkT.at 102= .int .i64 v64∧ZkT.at 106= .slice a70 x67.length c71∧ZkT.at 107= .int .i64 (x67.length:Int)∧ZkT.at 108= .int .i64 v81) ⟨_,_,rfl,hS.only (.c k0 (.c k0 .n)),YA⟩ ?_);clear hL hS;rintro ZxM v81 s ZC8 hL ⟨ZkT,h72,rfl,hS,e74,e75,e76,e77,e78,e79,e80,e82⟩;dsimp only [Znx] at hL;refine r6 ?_;refine cn hL ?_ ?_
     ·intro hc hL;refine r6 ?_;refine r1 ?_;obtain⟨x84,ZCW,hL⟩:=bind_some hL;obtain⟨b85,o86,_,ZMY,ZN1,ZNz,ZUD⟩:=Sl.at_ ZLW ZCW;refine WO.w gN rfl (ZE U5 XD lk lk rfl ZMY ZCW) ?_;refine WO.w gN rfl (Xf ZlS XD (Yi fh rfl) (At.fz hS.fz ZNz ZN1) (j:=0) rfl rfl (ws:= (cE x84)) rfl) ?_;refine r1 ?_;rintro _ h88 ⟨b87,ZYx,rfl,hS⟩;refine r2 ?_;rintro h89 hS;refine r3 ?_;refine WC.Xx mixed Kq0 ?_;refine r8 ?_;obtain⟨x90,hx90,hL⟩:=Yp hL;obtain⟨b91,o92,_,hQ⟩:=Src.atG (fun hg=>(hS.QE k2)) hx90;have ZMV:=fun hg=>(hQ hg).1
      have ZNY:=fun hg=>(hQ hg).2.1
      have ZUB:=fun hg=>(hQ hg).2.2
      refine WX.gv (Zt.yes rfl rfl rfl (Y5 rfl fh)) rfl (fun hg=>(ZE WV Qe (Y4 (Zy rfl fh) rfl hg) (Y4 fh rfl hg) (hS.on k2) (ZMV hg) (hx90 hg))) ?_ rfl;refine WX.gv (Zt.yes rfl rfl rfl (Y5 rfl (Zy rfl fh))) rfl (fun hg=>(Xf Zko Qe (Y4 fh rfl hg) (ZNY hg) (j:=0) rfl rfl (ws:= [.int .i64 x90.at_,.int .i64 x90.age,.int .i64 x90.letter,.bool x90.is]) rfl)) ?_ rfl;refine r4 ?_;obtain⟨x93,hx93,hL⟩:=Yp hL;refine WX.gcp (Zt.yes rfl rfl rfl (Xa rfl (YG rfl fh))) rfl (fun hg=>(Xm.fn Zy1 (Zf (Y4 (Xa rfl (Zy rfl fh)) rfl hg) (Zf (Y4 (Xa rfl fh) rfl hg) (Zf (Y4 (Y5 rfl fh) rfl hg) (Zf (Y4 (YG rfl fh) rfl hg) (Zf (Y4 fh rfl hg) Zz))))))) (fun hg=>Zse (hS.Y0 ZB) (hS.Y0 ZN) (hS.Y0 ZL) (hS.Y0 ZO) (hS.Y0 ZJ) (hx93 hg)) ?_ rfl rfl;refine r4 ?_;refine cn hL ?_ ?_
      ·intro hc hL;refine XA ?_;refine r3 ?_;exact rt hL hT hS
      ·intro hc hL;refine r6 ?_;refine r1 ?_;exact Yc.YZ (ZC8 _ _ hL ⟨_,_,rfl,hS.only (.c k1 (.c k1 .n)),YA⟩)
     ·intro hc hL;refine r8 ?_;refine r2 ?_;exact Yc.YZ (ZmB _ _ hL ⟨_,_,rfl,hS.only (.c k0 (.c k0 .n)),YA⟩)
    ·intro hc hL;refine XA ?_;refine r3 ?_;refine WC.loop (WL.lift hL (fun(p:(List XI)×Int) (s:Fs)=>match p with | (v97,WG)=>∃ (ZrT:Fr) (h94:H) (a98:Option Addr) (c99:Nat) (n100:Nat),s= ⟨ZrT,[],h94,none⟩∧Sp wm T h [ow wm Zb5 a98 n100 c99 v97,bx wm b1 (cW p0 Zi Zh Zk Zj Zq Zn Zp Zm Zo Zl)] h94∧ZrT.at 1= .pointer (some ⟨b1,0,none⟩)∧ZrT.at 3= .slice a98 n100 c99∧ZrT.at 133= .slice Zp p0.qJ.length Zm∧ZrT.at 134= .int .i64 (p0.qJ.length:Int)∧ZrT.at 135= .int .i64 WG) ⟨_,_,(some ⟨b5,0,none⟩),c7,z4.length,rfl,hS.only (.c k1 (.c k0 .n)),YA⟩ ?_);clear hL hS;rintro ZhS ⟨v97,WG⟩ s ZyP hL ⟨ZrT,h94,a98,c99,n100,rfl,hS,e96,ZD9,ZTf,ZOQ,ZJJ⟩;obtain rfl:=hS.on k0;dsimp only [Zgp] at hL;refine r6 ?_;refine cn hL ?_ ?_
     ·intro hc hL;refine r6 ?_;refine r1 ?_;obtain⟨x107,ZtP,hL⟩:=bind_some hL;obtain⟨Z0E,ZWT,⟨ZJ4,ZJR⟩,ZHU,ZIL,ZIh,ZH0⟩:=Sl.at_ ZO ZtP;refine WO.w gN rfl (ZE Kb QR lk lk rfl ZHU ZtP) ?_;have ZHa:Sl Zg wm h ZJ4 ZJR x107:=ZH0;refine WO.w gN rfl (ZW ZbF (Yi fh rfl) (At.fz hS.fz ZIh ZIL) (j:=0) rfl (v:= .slice ZJ4 x107.length ZJR) rfl) ?_;refine XA ?_;refine WC.loop (WL.lift hL (fun(p:(List XI)×Int) (s:Fs)=>match p with | (Zox,ZfD)=>∃ (UR:Fr) (h112:H) (a116:Option Addr) (c117:Nat) (n118:Nat),s= ⟨UR,[],h112,none⟩∧Sp wm T h [ow wm Zb5 a116 n118 c117 Zox,bx wm b1 (cW p0 Zi Zh Zk Zj Zq Zn Zp Zm Zo Zl)] h112∧UR.at 1= .pointer (some ⟨b1,0,none⟩)∧UR.at 3= .slice a116 n118 c117∧UR.at 13= .int .i64 WG∧UR.at 133= .slice Zp p0.qJ.length Zm∧UR.at 134= .int .i64 (p0.qJ.length:Int)∧UR.at 135= .int .i64 WG∧UR.at 140= .slice ZJ4 x107.length ZJR∧UR.at 141= .int .i64 (x107.length:Int)∧UR.at 142= .int .i64 ZfD) ⟨_,_,a98,c99,v97.length,rfl,hS.only (.c k0 (.c k0 .n)),YA⟩ ?_);clear hL hS;rintro Zty ⟨Zox,ZfD⟩ s ZyI hL ⟨UR,h112,a116,c117,n118,rfl,hS,ZJI,e119,e120,ZTa,ZS9,ZS8,ZZB,e125,e127⟩;obtain rfl:=hS.on k0;dsimp only [ZjV] at hL;refine r6 ?_;refine cn hL ?_ ?_
      ·intro hc hL;refine r6 ?_;obtain⟨ZGq,ZFo,hL⟩:=bind_some hL;obtain⟨Z0x,ZWL,_,ZHL,ZIB,ZH7,ZSe⟩:=Sl.at_ ZHa ZFo;refine WO.w gN rfl (ZE ZaB JQ lk lk rfl ZHL ZFo) ?_;refine WO.w gN rfl (Xf Zkm JQ (Yi fh rfl) (At.fz hS.fz ZH7 ZIB) (j:=0) rfl rfl (ws:= (cM ZGq)) rfl) ?_;refine r1 ?_;rintro _ ZYj ⟨Z0w,ZVj,rfl,hS⟩;refine r1 ?_;rintro ZYi hS;refine r8 ?_;obtain⟨ZKw,ZLM,hL⟩:=bind_some hL;refine WO.cp gN rfl (Xm.fn ZFI (Zf lk (Zf lk (Zf lk (Zf lk (Zf lk Zz)))))) (ZAz (hS.Y0 ZB) (hS.Y0 ZN) (hS.Y0 ZL) (hS.Y0 ZO) (hS.Y0 ZJ) (hS.ord k1) ZLM) ?_;refine r3 ?_;refine cn hL ?_ ?_
       ·intro hc hL;refine XA ?_;refine r3 ?_;exact rt hL hT hS
       ·intro hc hL;refine r6 ?_;refine r1 ?_;exact Yc.YZ (ZyI _ _ hL ⟨_,_,a116,c117,Zox.length,rfl,hS.only (.c k1 (.c k1 .n)),YA⟩)
      ·intro hc hL;refine r8 ?_;refine r2 ?_;exact Yc.YZ (ZyP _ _ hL ⟨_,_,a116,c117,Zox.length,rfl,hS.only (.c k0 (.c k0 .n)),YA⟩)
     ·intro hc hL;refine XA ?_;refine r3 ?_;refine WC.loop (WL.lift hL (fun(ZuL:Int) (s:Fs)=>∃ (Zjl:Fr) (ZzY:H),s= ⟨Zjl,[],ZzY,none⟩∧Sp wm T h [bx wm b1 (cW p0 Zi Zh Zk Zj Zq Zn Zp Zm Zo Zl),ow wm Zb5 a98 v97.length c99 v97] ZzY∧Zjl.at 1= .pointer (some ⟨b1,0,none⟩)∧Zjl.at 3= .slice a98 v97.length c99∧Zjl.at 155= .slice Zo p0.qG.length Zl∧Zjl.at 156= .int .i64 (p0.qG.length:Int)∧Zjl.at 157= .int .i64 ZuL) ⟨_,_,rfl,hS.only (.c k1 (.c k0 .n)),YA⟩ ?_);clear hL hS;rintro Ztx ZuL s ZyH hL ⟨Zjl,ZzY,rfl,hS,e138,ZZv,ZZu,ZZt,e143⟩;dsimp only [Zgo] at hL;refine r6 ?_;refine cn hL ?_ ?_
      ·intro hc hL;refine r6 ?_;obtain⟨ZbU,ZFn,hL⟩:=bind_some hL;obtain⟨Z0s,ZWH,⟨⟨a148,ZO9⟩,⟨ZPv,ZO7⟩⟩,ZHJ,ZIz,ZH4,Zzr⟩:=Sl.at_ ZJ ZFn;refine WO.w gN rfl (ZE Jj Y2 lk lk rfl ZHJ ZFn) ?_;have ZRA:Sl (Zu .i64) wm h a148 ZO9 ZbU.qV:=Zzr.1;have ZRz:Sl (Zu .i64) wm h ZPv ZO7 ZbU.Yj:=Zzr.2;refine WO.w gN rfl (Xf Zak Y2 (Yi fh rfl) (At.fz hS.fz ZH4 ZIz) (j:=0) rfl rfl (ws:= (cL ZbU a148 ZO9 ZPv ZO7)) rfl) ?_;refine r1 ?_;rintro _ ZSE ⟨Zqr,ZOL,rfl,hS⟩;refine r1 ?_;rintro ZOu hS;refine r3 ?_;refine WC.Xx mixed Kq0 ?_;refine r8 ?_;refine r2 ?_;obtain⟨Zon,Zyr,hL⟩:=Yp hL;refine WX.gcp (Zt.yes rfl rfl rfl (Y5 rfl (YG rfl fh))) rfl (fun hg=>(Xm.fn ZFI (Zf (Y4 (Y5 rfl (Zy rfl fh)) rfl hg) (Zf (Y4 (Y5 rfl fh) rfl hg) (Zf (Y4 (YG rfl fh) rfl hg) (Zf (Y4 fh rfl hg) (Zf lk Zz))))))) (fun hg=>ZAz (hS.Y0 ZB) (hS.Y0 ZN) (hS.Y0 ZL) (hS.Y0 ZO) (hS.Y0 ZJ) (hS.ord k2) (Zyr hg)) ?_ rfl rfl;refine XA ?_;refine r1 ?_;obtain⟨Zom,ZFl,hL⟩:=Yp hL;obtain⟨Z0q,ZWE,_,hQ⟩:=Src.atG (fun hg=>(hS.QE k2)) ZFl;have ZHH:=fun hg=>(hQ hg).1
       have ZIx:=fun hg=>(hQ hg).2.1
       have ZSb:=fun hg=>(hQ hg).2.2
       refine WX.gv (Zt.ZkB rfl rfl rfl (Y5 rfl (YG rfl fh))) rfl (fun hg=>(ZE WV Qe (Y4 (YG rfl fh) rfl hg) (Y4 fh rfl hg) rfl (ZHH hg) (ZFl hg))) ?_ rfl;refine WX.gv (Zt.ZkB rfl rfl rfl (Y5 rfl (YG rfl (Zy rfl fh)))) rfl (fun hg=>(Xf Zko Qe (Y4 fh rfl hg) (ZIx hg) (j:=0) rfl rfl (ws:= [.int .i64 Zom.at_,.int .i64 Zom.age,.int .i64 Zom.letter,.bool Zom.is]) rfl)) ?_ rfl;refine r4 ?_;obtain⟨x159,hx159,hL⟩:=Yp hL;refine WX.gcp (Zt.ZkB rfl rfl rfl (Xa rfl (Y5 rfl fh))) rfl (fun hg=>(Xm.fn Zy1 (Zf (Y4 (Xa rfl (YG rfl (Zy rfl fh))) rfl hg) (Zf (Y4 (Xa rfl (Zy rfl fh)) rfl hg) (Zf (Y4 (Y5 rfl fh) rfl hg) (Zf (Y4 (YG rfl fh) rfl hg) (Zf (Y4 fh rfl hg) Zz))))))) (fun hg=>Zse (hS.Y0 ZB) (hS.Y0 ZN) (hS.Y0 ZL) (hS.Y0 ZO) (hS.Y0 ZJ) (hx159 hg)) ?_ rfl rfl;refine r1 ?_;refine WX.gv (Zt.no rfl rfl rfl (Xa rfl (Xa rfl (YG rfl fh)))) rfl (fun hg=>(Zkh (Y4 (Xa rfl (Y5 rfl (YG rfl fh))) rfl hg) (Zht fh hg) lk)) ?_ rfl;refine r3 ?_;refine cn hL ?_ ?_
       ·intro hc hL;refine r8 ?_;refine r3 ?_;exact rt hL hT hS
       ·intro hc hL;refine r6 ?_;refine r1 ?_;exact Yc.YZ (ZyH _ _ hL ⟨_,_,rfl,hS.only (.c k1 (.c k1 .n)),YA⟩)
      ·intro hc hL;refine r8 ?_;obtain⟨x160,hx160,hL⟩:=bind_some hL;refine WO.cl gN rfl (Xm.fn ZME (Zf lk Zz)) hS .n (fun g' hz hf hO=>ZJj (by rw [hz];exact hS.hw) ((hS.sl ZB).mono hf) ((hS.sl ZN).mono hf) ((hS.sl ZL).mono hf) ((hS.sl ZO).mono hf) ((hS.sl ZJ).mono hf) hx160) ?_;rintro _ ZYb _ ⟨ZJ2,n162,Zqm,rfl,rfl⟩ hS;obtain rfl:=hS.on k0;refine r6 ?_;refine r1 ?_;obtain⟨ZB6,ZLp,hL⟩:=bind_some hL;refine WO.hn gN rfl (Zxa (e:=Zo2) (x0:=false) () hS Zl5 ZoI (ZPa) ZES rfl rfl (Yi fh rfl) (Yi fh rfl) rfl trivial ZLp) ?_;rintro _ ZSD ⟨ZbO,ZO6,ZOK,rfl,hS⟩;refine XA ?_;refine WC.loop (WL.lift hL (fun(p:Int×(List Bool)) (s:Fs)=>match p with | (Zep,ZuK)=>∃ (Zho:Fr) (ZDx:H),s= ⟨Zho,[],ZDx,none⟩∧Sp wm T h [bx wm b1 (cW p0 Zi Zh Zk Zj Zq Zn Zp Zm Zo Zl),ow wm (Zu .i64) ZJ2 x160.length Zqm x160,ow wm Zo2 (some ⟨ZbO,0,none⟩) ZB6.length ZO6 ZuK] ZDx∧Zho.at 1= .pointer (some ⟨b1,0,none⟩)∧Zho.at 19= .slice ZJ2 x160.length Zqm∧Zho.at 20= .slice (some ⟨ZbO,0,none⟩) ZB6.length ZO6∧Zho.at 201= .slice ZJ2 x160.length Zqm∧Zho.at 202= .int .i64 (x160.length:Int)∧Zho.at 203= .int .i64 Zep) ⟨_,_,rfl,hS.only (.c k2 (.c k1 (.c k0 .n))),YA⟩ ?_);clear hL hS;rintro Ztw ⟨Zep,ZuK⟩ s ZyF hL ⟨Zho,ZDx,rfl,hS,ZZl,ZZk,ZZj,ZZi,ZZh,ZZg⟩;dsimp only [Zd4] at hL;refine r6 ?_;refine cn hL ?_ ?_
       ·intro hc hL;refine r6 ?_;obtain⟨ZlW,ZFk,hL⟩:=bind_some hL;obtain⟨Z0p,ZWC,_,ZHG,ZIw,ZSa⟩:=Src.at_ (hS.QE k1) ZFk;refine WO.w gN rfl (ZE YE YF lk lk rfl ZHG ZFk) ?_;refine WO.w gN rfl (ZW Xn (Yi fh rfl) ZIw (j:=0) rfl (v:= .int .i64 ZlW) rfl) ?_;refine r16 ?_;refine r1 ?_;obtain⟨ZGp,ZFj,hL⟩:=Yp hL;obtain⟨Z0o,ZWB,_,hQ⟩:=Src.atG (fun hg=>(hS.QE k2)) ZFj;have ZHF:=fun hg=>(hQ hg).1
        have ZIv:=fun hg=>(hQ hg).2.1
        have ZR9:=fun hg=>(hQ hg).2.2
        refine WO.gv (Zt.no rfl rfl rfl (YG rfl fh)) rfl (fun hg=>(ZE Zl5 ZoI (Y4 (Zy rfl fh) rfl hg) (Y4 fh rfl hg) (hS.on k2) (ZHF hg) (ZFj hg))) ?_;refine WO.gv (Zt.no rfl rfl rfl (YG rfl (Zy rfl fh))) rfl (fun hg=>(ZW Zwb (Y4 fh rfl hg) (ZIv hg) (j:=0) rfl (v:= .bool ZGp) rfl)) ?_;refine r3 ?_;refine cn hL ?_ ?_
        ·intro hc hL;refine XA ?_;exact rt hL hT hS
        ·intro hc hL;refine r4 ?_;refine r1 ?_;obtain⟨ZQo,Zyq,hL⟩:=bind_some hL;obtain⟨Z0n,ZWA,_,Zzi,ZIu,ZR8⟩:=Src.at_ (hS.QE k2) Zyq;refine WO.w gN rfl (ZE Zl5 ZoI lk lk (hS.on k2) Zzi Zyq) ?_;refine WO.hu gN (Zey (e:=Zo2) true () hS k2 ZoI (Yi fh rfl) (evC rfl) Zzi Zyq ZIu (j:=0) rfl (vs:= [.bool true]) rfl rfl rfl rfl rfl (cs':= [.bool true]) rfl rfl trivial) ?_;rintro ZSC ⟨hS,ZUV⟩;refine r6 ?_;refine r1 ?_;exact Yc.YZ (ZyF _ _ hL ⟨_,_,rfl,hS.only (.c k1 (.c k1 (.c k0 .n))),YA⟩)
       ·intro hc hL;refine r16 ?_;exact rt hL hT hS
theorem Zsi {F:Nat} {h:H} {p0:Zb} {Zi:Option Addr} {Zh:Nat} {Zk:Option Addr} {Zj:Nat} {Zq:Option Addr} {Zn:Nat} {Zp:Option Addr} {Zm:Nat} {Zo:Option Addr} {Zl:Nat} {r:Bool} (ZB:Sl (Zu .i64) h.size h Zi Zh p0.Zv) (ZN:Sl (ZM (Zu .i64)) h.size h Zk Zj p0.qK) (ZL:Sl (ZM Zc) h.size h Zq Zn p0.qQ) (ZO:Sl (ZM Zg) h.size h Zp Zm p0.qJ) (ZJ:Sl Ze h.size h Zo Zl p0.qG) (hL:Zny F p0=some r):Pure XX 21 #[.agg [.slice Zi p0.Zv.length Zh,.slice Zk p0.qK.length Zj,.slice Zq p0.qQ.length Zn,.slice Zp p0.qJ.length Zm,.slice Zo p0.qG.length Zl,.int .i64 p0.said].toArray] h (.bool r):=
 WR.Qy rfl (ZJB (Nat.le_refl _) ZB ZN ZL ZO ZJ hL)
theorem ZJu {F wm:Nat} {h:H} {p0:Zb} {Zi:Option Addr} {Zh:Nat} {Zk:Option Addr} {Zj:Nat} {Zq:Option Addr} {Zn:Nat} {Zp:Option Addr} {Zm:Nat} {Zo:Option Addr} {Zl:Nat} {r:Bool} (Z0:wm <=h.size) (ZB:Sl (Zu .i64) wm h Zi Zh p0.Zv) (ZN:Sl (ZM (Zu .i64)) wm h Zk Zj p0.qK) (ZL:Sl (ZM Zc) wm h Zq Zn p0.qQ) (ZO:Sl (ZM Zg) wm h Zp Zm p0.qJ) (ZJ:Sl Ze wm h Zo Zl p0.qG) (hL:ZAF F p0=some r):
 WR XX 35 #[.agg [.slice Zi p0.Zv.length Zh,.slice Zk p0.qK.length Zj,.slice Zq p0.qQ.length Zn,.slice Zp p0.qJ.length Zm,.slice Zo p0.qG.length Zl,.int .i64 p0.said].toArray] wm h (CP (fun(v:Value) (Gb:List (Ast wm))=>v= .bool r∧Gb= []) [] h):=by
 refine bg Tryz.ntmps35 Z0 Yh.nil ?_;intro T hT hS;unfold ZAF at hL;refine r3 ?_;rintro _ h2 ⟨b1,eb1,rfl,hS⟩;refine r6 ?_;obtain⟨x3,hx3,hL⟩:=bind_some hL;refine WO.cp gN rfl (Xm.fn ZMR (Zf lk Zz)) (WR.Qy rfl (ZJC (Nat.le_refl _) (hS.Y0 ZB) (hS.Y0 ZN) (hS.Y0 ZL) (hS.Y0 ZO) (hS.Y0 ZJ) hx3)) ?_;refine r2 ?_;obtain⟨x4,hx4,hL⟩:=Yp hL;refine WO.gcp (Zt.yes rfl rfl rfl (Zy rfl fh)) rfl (fun hg=>(Xm.fn Zy2 (Zf (Y4 fh rfl hg) Zz))) (fun hg=>Zsi (hS.Y0 ZB) (hS.Y0 ZN) (hS.Y0 ZL) (hS.Y0 ZO) (hS.Y0 ZJ) (hx4 hg)) ?_;refine r4 ?_;refine r1 ?_;exact rt hL hT hS
end Go.Proofs.YtbmbbcaaimehkaaGreat
end
end
section
namespace Go.Proofs.YtbmbbcaaimehkaaGreat
open Go.Lf
def Znk (F:Nat) (p0:Zb) (p1:ZC):Int×Bool ->Option Int:=fun(v20,ZwX)=>
 (bif ZwX then some v20 else(Zd1 F p0 p1.a).bind fun Kz=>(bif((!Kz.1.here) || (Kz.1.machine==p1.b)) then some 7 else some 0))
def ZAD (p0:Zb) (v43:Int) (ZdP:(Int×Int×Bool ->Option (Bool×Int×Bool))):Int×Int×Bool ->(Int×Int×Bool ->Option (Bool×Int×Bool)) ->Option (Bool×Int×Bool):=fun(v69,v71,ZuU) ZfU=>
 (bif decide (v69 < (p0.Zv.length:Int)) then(ZT p0.Zv v69).bind fun x74=>(bif(x74==v43) then(ZdP (v69,v71,ZuU)).bind fun(v80,v81,ZGz)=>(bif(!v80) then some (false,v81,ZGz) else ZfU (Xd (v69 + 1),v81,ZGz)) else ZfU (Xd (v69 + 1),v71,ZuU)) else some (true,v71,ZuU))
def Zd3 (p0:Zb) (v43:Int) (ZdP:(Int×Int×Bool ->Option (Bool×Int×Bool))):Int×Int×Bool ->(Int×Int×Bool ->Option (Bool×Int×Bool)) ->Option (Bool×Int×Bool):=fun(v92,v94,ZuT) Zrh=>
 (bif decide (v92 < (p0.Zv.length:Int)) then(ZT p0.Zv v92).bind fun x97=>(bif(x97==v43) then(ZdP (v92,v94,ZuT)).bind fun(Zoy,WG,ZwY)=>(bif(!Zoy) then some (false,WG,ZwY) else Zrh (Xd (v92 + 1),WG,ZwY)) else Zrh (Xd (v92 + 1),v94,ZuT)) else some (true,v94,ZuT))
def Zcs (F:Nat) (p0:Zb):Int×Int×Bool ->(Int×Int×Bool ->Option (Bool×Int×Bool)) ->Option (Bool×Int×Bool):=fun(v43,v44,Zq0) ZdP=>
 (bif Zq0 then none else(Zd1 F p0 v43).bind fun x55=>(bif decide (x55.1.age >=30) then(bif(!false) then some (false,3,true) else loop F (ZAD p0 v43 ZdP) (0,3,true)) else(bif(!true) then some (false,v44,false) else loop F (Zd3 p0 v43 ZdP) (0,v44,false))))
def Zni:Option Unit:=
 some ()
def Znj:(List Int) ->Option (List Int):=fun ZwN=>
 some ZwN
def Zsf (p0:Zb) (ZkG:Int) (ZhP:(Int×(List Int) ->Option (Bool×(List Int)))):Int×(List Int) ->(Int×(List Int) ->Option (Bool×(List Int))) ->Option (Bool×(List Int)):=fun(v203,ZlZ) Zmp=>
 (bif decide (v203 < (p0.Zv.length:Int)) then(ZT p0.Zv v203).bind fun ZGo=>(bif(ZGo==ZkG) then(ZhP (v203,ZlZ)).bind fun(ZKD,ZkF)=>(bif(!ZKD) then some (false,ZkF) else Zmp (Xd (v203 + 1),ZkF)) else Zmp (Xd (v203 + 1),ZlZ)) else some (true,ZlZ))
def ZjP (F:Nat) (p0:Zb):Int×(List Int) ->(Int×(List Int) ->Option (Bool×(List Int))) ->Option (Bool×(List Int)):=fun(ZkG,v175) ZhP=>
 (app 8 v175 [ZkG]).bind fun ZwA=>(bif(!true) then some (false,ZwA) else loop F (Zsf p0 ZkG ZhP) (0,ZwA))
def Znh (F:Nat) (p0:Zb) (p1:ZC):Option (List Int):=
 (loop F (ZjP F p0) (p1.a,[])).bind fun(ZQr,v226)=>(Znj) v226
def Zsg (F:Nat) (p0:Zb) (p1:ZC):Option Int:=
 (bif(p1.act==1) then(bif decide (p0.said >=40) then some 3 else some 0) else(bif(p1.act==2) then(loop F (Zcs F p0) (p1.a,0,false)).bind fun(ZQt,Zeq,ZE0)=>(Znk F p0 p1) (Zeq,ZE0) else(bif(p1.act==3) then(Zd1 F p0 p1.a).bind fun x115=>(Zd1 F p0 p1.b).bind fun ZdD=>(ZT p0.Zv p1.a).bind fun ZwD=>(bif(!((((ZwD != (-1)) || (!x115.1.here)) || (!ZdD.1.here)) || (x115.1.machine !=ZdD.1.machine))) then((Zni)).bind fun _=>((Znh F p0 p1)).bind fun v234=>(Zp0 F v234 p1.b).bind fun ZKu=>(bif ZKu then some 7 else some 0) else some 7) else(bif(p1.act==4) then(Zd1 F p0 p1.a).bind fun ZGn=>(gd (!(!ZGn.1.here)) (ZT p0.Zv p1.a) default).bind fun ZGm=>(bif((!ZGn.1.here) || (ZGm== (-1))) then some 7 else some 0) else some 0))))
def Zng (p0:Zb) (x5:(List Int)) (Xw:(List (List Int))) (JU:(List (List Zw))) (x23:(List (List Zr))):Int×(List Zd) ->(Int×(List Zd) ->Option Zb) ->Option Zb:=fun(v38,v40) ZxU=>
 (bif decide (v38 < (p0.qG.length:Int)) then(ZT p0.qG v38).bind fun Wi=>(Zm7 Wi.qV).bind fun x55=>(Zm7 Wi.Yj).bind fun x61=>(app 128 v40 [(Zd.mk Wi.kind Wi.Z9 Wi.Ya x55 x61 Wi.place Wi.at_ Wi.age)]).bind fun z75=>ZxU (Xd (v38 + 1),z75) else some (Zb.mk x5 Xw JU x23 v40 p0.said))
def ZvL (F:Nat) (p0:Zb):Option Zb:=
 (Zm7 p0.Zv).bind fun x5=>(ZAs F p0.qK).bind fun Xw=>(ZAr F p0.qQ).bind fun JU=>(ZAq F p0.qJ).bind fun x23=>loop F (Zng p0 x5 Xw JU x23) (0,[])
def ZjE (v152:Int) (ZcV:(Int×(List Int)×(List (List Int))×(List (List Zw))×(List (List Zr))×(List Zd)×Int×(List Zx) ->Option Z4)):(List Int)×(List (List Int))×(List (List Zw))×(List (List Zr))×(List Zd)×Int×(List Zx) ->Option Z4:=fun(v194,v198,v203,v208,ZwM,ZkF,v218)=>
 ZcV (Xd (v152 + 1),v194,v198,v203,v208,ZwM,ZkF,v218)
def ZjF (x1:Zd) (v86:Int) (ZhQ:(Int×(List Int)×(List (List Int))×(List (List Zw))×(List (List Zr))×(List Zd)×Int×(List Zx) ->Option Z4)) (JI:Int) (ZlX:(List Zr)):Int×(List Int)×(List (List Int))×(List (List Zw))×(List (List Zr))×(List Zd)×Int×(List Zx) ->(Int×(List Int)×(List (List Int))×(List (List Zw))×(List (List Zr))×(List Zd)×Int×(List Zx) ->Option Z4) ->Option Z4:=fun(v152,v154,Zig,Zl1,v168,v173,Zep,Zl0) ZcV=>
 (bif decide (v152 < (ZlX.length:Int)) then(ZT ZlX v152).bind fun ZqS=>(bif(ZqS.place !=JI) then(ZT v168 x1.Z9).bind fun ZKv=>(app 40 ZKv [ZqS]).bind fun ZB5=>(ZT v168 x1.Z9).bind fun ZQn=>(ZjE v152 ZcV) (v154,Zig,Zl1,Yt v168 x1.Z9 ZB5,v173,Zep,Zl0) else(Zhr (Z4.mk (Zb.mk v154 Zig Zl1 v168 v173 Zep) Zl0) x1.Z9 ZqS).bind fun Zej=>(ZjE v152 ZcV) (Zej.Za.Zv,Zej.Za.qK,Zej.Za.qQ,Zej.Za.qJ,Zej.Za.qG,Zej.Za.said,Zej.qX)) else ZhQ (Xd (v86 + 1),v154,Zig,Zl1,v168,v173,Zep,Zl0))
def Zgf (F:Nat) (x1:Zd):Int×(List Int)×(List (List Int))×(List (List Zw))×(List (List Zr))×(List Zd)×Int×(List Zx) ->(Int×(List Int)×(List (List Int))×(List (List Zw))×(List (List Zr))×(List Zd)×Int×(List Zx) ->Option Z4) ->Option Z4:=fun(v86,v88,v92,v97,Zam,v107,Zeq,ZuN) ZhQ=>
 (bif decide (v86 < (x1.qV.length:Int)) then(ZT x1.qV v86).bind fun JI=>(app 40 ZuN [(Zx.mk 3 JI x1.Z9 0 0)]).bind fun ZwC=>(ZT Zam x1.Z9).bind fun ZwD=>(ZT Zam x1.Z9).bind fun ZlX=>loop F (ZjF x1 v86 ZhQ JI ZlX) (0,v88,v92,v97,Yt Zam x1.Z9 ([]:(List Zr)),v107,Zeq,ZwC) else some (Z4.mk (Zb.mk v88 v92 v97 Zam v107 Zeq) ZuN))
def ZjG (F:Nat) (p0:Z4) (x1:Zd) (Xw:(List Zd)):Int×(List (List Zw)) ->(Int×(List (List Zw)) ->Option Z4) ->Option Z4:=fun(v56,v58) ZxP=>
 (bif decide (v56 < (x1.qV.length:Int)) then(ZT x1.qV v56).bind fun x61=>(ZT v58 x1.Z9).bind fun x64=>(ZT x1.Yj v56).bind fun x70=>(ZT x64 x61).bind fun x73=>ZxP (Xd (v56 + 1),Yt v58 x1.Z9 (Yt x64 x61 (Zw.mk true x1.Z9 x70))) else loop F (Zgf F x1) (0,p0.Za.Zv,p0.Za.qK,v58,p0.Za.qJ,Xw,p0.Za.said,p0.qX))
def ZjD (p0:Z4) (Xw:(List Zd)):(List (List Zw)) ->Option Z4:=fun ZCf=>
 some (Z4.mk (Zb.mk p0.Za.Zv p0.Za.qK ZCf p0.Za.qJ Xw p0.Za.said) p0.qX)
def Zsd (F:Nat) (p0:Z4) (p1:Int):Option Z4:=
 (ZT p0.Za.qG p1).bind fun x1=>(ZAn p0.Za.qG p1 (Xd (p1 + 1))).bind fun Xw=>(bif x1.kind==1 then(ZpZ (Z4.mk (Zb.mk p0.Za.Zv p0.Za.qK p0.Za.qQ p0.Za.qJ Xw p0.Za.said) p0.qX) x1.Z9 x1.Ya false).bind fun Kz=>some Kz else(bif x1.kind==2 then loop F (ZjG F p0 x1 Xw) (0,p0.Za.qQ) else(bif x1.kind==3 then(ZT p0.Za.qQ x1.Z9).bind fun ZKt=>(ZT ZKt x1.place).bind fun ZuE=>(bif((!ZuE.here) && (decide (ZuE.age < x1.age))) then(ZT p0.Za.qQ x1.Z9).bind fun ZGl=>(ZT ZGl x1.place).bind fun ZQm=>(ZjD p0 Xw) (Yt p0.Za.qQ x1.Z9 (Yt ZGl x1.place (Zw.mk false x1.at_ x1.age))) else(ZjD p0 Xw) p0.Za.qQ) else none)))
def Zcq (v6:Int) (Zbd:(Int×(List Yo) ->Option (ZX×Bool))):(List Yo) ->Option (ZX×Bool):=fun v19=>
 Zbd (Xd (v6 + 1),v19)
def Zgb (F:Nat) (p0:ZX):Int×(List Yo) ->(Int×(List Yo) ->Option (ZX×Bool)) ->Option (ZX×Bool):=fun(v6,v8) Zbd=>
 (bif decide (v6 < (p0.Za.Zv.length:Int)) then(ZT p0.Za.Zv v6).bind fun x23=>(Zd1 F p0.Za v6).bind fun Kz=>(bif(Kz.2 !=1) then some ((ZX.mk p0.Za v8),false) else(ZT v8 v6).bind fun x32=>(bif decide (x23 < 0) then(Zcq v6 Zbd) (Yt v8 v6 Kz.1) else(Zd1 F p0.Za x23).bind fun x37=>(gd ((!((x37.1.machine !=Kz.1.machine) || (x37.1.here !=Kz.1.here))) && (!Kz.1.here)) (Zsa F (ZX.mk p0.Za (Yt v8 v6 Kz.1)) v6 x23) default).bind fun x44=>(bif(((x37.1.machine !=Kz.1.machine) || (x37.1.here !=Kz.1.here)) || ((!Kz.1.here) && (!x44))) then some ((ZX.mk p0.Za (Yt v8 v6 Kz.1)),false) else(Zcq v6 Zbd) (Yt v8 v6 Kz.1)))) else some ((ZX.mk p0.Za v8),true))
def ZAv (F:Nat) (p0:ZX):Option (ZX×Bool):=
 loop F (Zgb F p0) (0,p0.Y7)
def Zf9 (v23:Int) (KU:(Int ->Option Bool)):Unit ->Option Bool:=fun _=>
 KU (Xd (v23 + 1))
def Zga (p0:ZX) (v6:Int) (Zds:(Int ->Option Bool)) (x9:(List Zw)):Int ->(Int ->Option Bool) ->Option Bool:=fun v23 KU=>
 (bif decide (v23 < (x9.length:Int)) then(ZT x9 v23).bind fun x36=>(bif UW x36 (Zw.mk true v6 x36.age) then(bif((decide (x36.age < 0)) || (decide (x36.age > 30))) then some false else(Zf9 v23 KU) ()) else(gd (!(x36.here || (x36.Z9==v6))) (Zm1 p0 v23 x36.Z9 x36.age) default).bind fun x42=>(bif((x36.here || (x36.Z9==v6)) || (!x42)) then some false else(Zf9 v23 KU) ())) else Zds (Xd (v6 + 1)))
def Zjy (F:Nat) (p0:ZX):Int ->(Int ->Option Bool) ->Option Bool:=fun v6 Zds=>
 (bif decide (v6 < (p0.Za.qQ.length:Int)) then(ZT p0.Za.qQ v6).bind fun x9=>loop F (Zga p0 v6 Zds x9) 0 else some true)
def ZvI (F:Nat) (p0:ZX):Option Bool:=
 loop F (Zjy F p0) 0
end Go.Proofs.YtbmbbcaaimehkaaGreat
end
