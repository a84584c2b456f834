/- Orders Part 10 of the proof. -/
import Derived.Shelf.Sort.Plain
import Derived.Test.YtbmbbcaaimehkaaGreatOa9
set_option linter.all false
set_option maxHeartbeats 2000000
section
noncomputable section
namespace Go.Yr
open Go.Lf
def ZwA (P:Program) (f:FuncId):Prop:=∀ (blk off cap:Nat) (zs:List Int) (w:World),Go.Sort.Holds (Value.int .i64) w blk off zs.toArray ->blk < w.heap.size ->zs.length < 4611686018427387904 ->
 Calls P f #[.slice (some ⟨blk,off,none⟩) zs.length cap] w fun e w'=>e= .returned (.tuple #[])∧∃ n os,w'=Go.Sort.grow (Go.Sort.putRow (Value.int .i64) (Go.Sort.ahead w n) blk off (zs.mergeSort fun x y=>decide (x <=y)).toArray) os
def Kt (cs:List Value) (o:Nat) (ys:List Int):List Value:=cs.mapIdx fun k x=>if o <=k∧k < o + ys.length then .int .i64 (ys.getD (k - o) 0) else x
theorem Zcq (cs:List Value) (o:Nat) (ys:List Int):(Kt cs o ys).length=cs.length:=by simp [Kt]
theorem Zf9 (cs:List Value) (o:Nat) (ys:List Int) (k:Nat):(Kt cs o ys)[k]? =cs[k]?.map fun x=>if o <=k∧k < o + ys.length then .int .i64 (ys.getD (k - o) 0) else x:=by simp [Kt]
variable {X:Ctx} {f:FuncId} {wm wm0:Nat} {h:H} {i o c:Nat} {cs:List Value} {xs:List Int}
theorem Zs8 (he:Ql (Zy .i64) wm0 h cs o xs) {j:Nat} (hj:j < xs.length):cs[o + j]? =some (.int .i64 xs[j]):=by
 obtain⟨q,h1,_⟩:=he.get j xs[j] (List.getElem?_eq_getElem hj);have h1:(cs.drop (o + j * 1)).take 1= [.int .i64 xs[j]]:=h1;rw [Nat.mul_one] at h1;have:=congrArg (fun l=>l[0]?) h1
 simpa [List.getElem?_take,List.getElem?_drop] using this
theorem ZsM (SC:ZwA X.P f) (hat:h.at i= .row cs true 1) (hw:wm <=i) (he:Ql (Zy .i64) wm0 h cs o xs) (hne:0 < xs.length) (hlen:xs.length < 4611686018427387904):
 YQ X (.call f #[.slice (some ⟨i,o,none⟩) xs.length c] wm h) (.fin (.ret (.tuple #[])) (h.put i (.row (Kt cs o (xs.mergeSort fun x y=>decide (x <=y))) true 1))):=by
 intro ρ args' w ZV rel hv;obtain⟨hsz,hvv⟩:=hv;have hsz:args'.size=1:=hsz.symm
 obtain⟨v',rfl⟩:∃ v',args'=#[v']:= ⟨args'[0],by
  apply Array.ext
  ·simpa using hsz
  ·intro k h1 h2;have:k=0:=by omega
   subst this;rfl⟩
 have hvr:=hvv 0 _ _ rfl rfl;generalize hn:xs.length=n at hvr;cases hvr with
 | Xm=>omega
 | @slice _ b d _ _ _ c' hρ hc=>
   subst hn;have hb:= (rel.dom i b d hρ).2;have hil:= (rel.dom i b d hρ).1;have hob:=rel.obj i b d hρ;rw [hat] at hob;obtain⟨cc,el,fz,hcc,hfz,hdl,hcv⟩:=hob;obtain⟨ZLc,ZLb⟩:=hfz rfl;subst ZLc;have ZNp:o + xs.length * 1 <=cs.length:=he.len
   have hcell:∀ j (hj:j < xs.length),cc[d + (o + j)]? =some (.int .i64 xs[j]):=fun j hj=>by
    have hk:d + (o + j) < cc.size:=by omega
    have:=hcv (o + j) _ cc[d + (o + j)] (Zs8 he hj) (Array.getElem?_eq_getElem hk);rw [Array.getElem?_eq_getElem hk];cases hx:cc[d + (o + j)] <;> rw [hx] at this <;> cases this
    rfl
   have hH:Go.Sort.Holds (Value.int .i64) w b (d + o) xs.toArray:=by
    intro j hj;have hj':j < xs.length:=by simpa using hj
    refine⟨?_,by simp [World.frozen?,hcc]⟩;have h1:=hcell j hj';simp only [World.cell?,hcc];simp only [Option.isSome_none,Bool.false_eq_true,if_false];rw [show d + o + j=d + (o + j) by omega,h1];simp [hj']
   refine callsIn_wide.2 ((SC b (d + o) c' xs w hH hb hlen).mono ?_);rintro e w' ⟨rfl,n,os,rfl⟩;generalize hys:(xs.mergeSort fun x y=>decide (x <=y))=ys;have hyl:ys.length=xs.length:=by rw [← hys,List.length_mergeSort]
   have hheap:∀ b',b' < w.heap.size ->(Go.Sort.grow (Go.Sort.putRow (Value.int .i64) (Go.Sort.ahead w n) b (d + o) ys.toArray) os).heap[b']? =if b=b' then(w.heap[b']?).map (Go.Sort.onCells (Go.Sort.putCells (Value.int .i64) (d + o) ys.toArray)) else w.heap[b']?:=fun b' hb'=>by
    have hs:b' < (w.heap.modify b (Go.Sort.onCells (Go.Sort.putCells (Value.int .i64) (d + o) ys.toArray))).size:=by simpa using hb'
    simp only [Go.Sort.grow,Go.Sort.putRow,Go.Sort.mapBlock,Go.Sort.ahead];rw [Array.getElem?_append_left hs,Array.getElem?_modify]
   have hsame:∀ b',b' < w.heap.size ->b' ≠ b ->(Go.Sort.grow (Go.Sort.putRow (Value.int .i64) (Go.Sort.ahead w n) b (d + o) ys.toArray) os).heap[b']? =w.heap[b']?:=fun b' hb' hne'=>by rw [hheap b' hb',if_neg (fun q=>hne' q.symm)]
   have hsize:w.heap.size <= (Go.Sort.grow (Go.Sort.putRow (Value.int .i64) (Go.Sort.ahead w n) b (d + o) ys.toArray) os).heap.size:=by simp [Go.Sort.grow,Go.Sort.putRow,Go.Sort.mapBlock,Go.Sort.ahead]
   have hat':∀ j,(h.put i (.row (Kt cs o ys) true 1)).at j=if j=i then .row (Kt cs o ys) true 1 else h.at j:=fun j=>by
    rw [H.Xo];by_cases e:j=i
    ·subst e;rw [if_pos ⟨rfl,hil⟩,if_pos rfl]
    ·rw [if_neg (fun q=>e q.1),if_neg e]
   have ZF1:∀ j d',ρ j=some (b,d') ->j ≠ i ->(h.at j).live=false:=fun j d' hj hji=>by
    cases hl:(h.at j).live with
    | false=>rfl
    | true=>exact absurd (rel.inj i j b d d' hρ hj (by rw [hat];rfl) hl).symm hji
   refine⟨ρ,.ret (.tuple _ _ rfl fun k v v' e=>by simp at e),⟨fun j b' d' hj=>⟨(rel.dom j b' d' hj).1,Nat.lt_of_lt_of_le (rel.dom j b' d' hj).2 hsize⟩,fun j b' d' hj=>?_,fun j k b' d1 d2 h1 h2 h3 h4=>?_⟩,?_⟩
   ·rw [hat'];by_cases e:j=i
    ·subst e;rw [hρ] at hj;cases hj;rw [if_pos rfl];refine⟨Go.Sort.putCells (Value.int .i64) (d + o) ys.toArray cc,el,(0,0),?_,fun _=>⟨rfl,fun hz=>?_⟩,?_,fun k v v' e1 e2=>?_⟩
     ·rw [hheap b hb,if_pos rfl,hcc];rfl
     ·rw [ZLb hz];simp [Go.Sort.putCells]
     ·rw [Zcq];simpa [Go.Sort.putCells] using hdl
     ·rw [Zf9] at e1;obtain⟨v0,e0,rfl⟩:=Option.map_eq_some_iff.1 e1;have hkl:k < cs.length:= (List.getElem?_eq_some_iff.1 e0).1;have hkc:d + k < cc.size:=by omega
      have e3:(Go.Sort.putCells (Value.int .i64) (d + o) ys.toArray cc)[d + k]? =some (if d + o <=d + k∧d + k < d + o + ys.length then .int .i64 ys.toArray[d + k - (d + o)]! else cc[d + k]):=by
       simp [Go.Sort.putCells,Array.getElem?_eq_getElem hkc]
      rw [e3] at e2;cases e2;by_cases hin:o <=k∧k < o + ys.length
      ·rw [if_pos hin,if_pos (by omega)]
       have:ys.toArray[d + k - (d + o)]! =ys.getD (k - o) 0:=by
        rw [show d + k - (d + o)=k - o by omega];have hlt:k - o < ys.length:=by omega
        simp [hlt]
       rw [this];exact .int _ _
      ·rw [if_neg hin,if_neg (by omega)];exact hcv k v0 _ e0 (Array.getElem?_eq_getElem hkc)
    ·rw [if_neg e];by_cases eb:b'=b
     ·subst eb;have:=ZF1 j d' hj e;cases hh:h.at j with
      | dead=>trivial
      | row _ _ _=>rw [hh] at this;cases this
      | map _ _=>rw [hh] at this;cases this
      | loop _ _ _ _ _ _ _ _=>rw [hh] at this;cases this
      | deferred=>rw [hh] at this;cases this
      | ZbD _ _=>rw [hh] at this;cases this
      | iter _ _ _ _=>rw [hh] at this;cases this
      | Zc9=>rw [hh] at this;cases this
     ·exact(rel.obj j b' d' hj).world (hsame b' (rel.dom j b' d' hj).2 eb)
   ·rw [hat'] at h3 h4;refine rel.inj j k b' d1 d2 h1 h2 ?_ ?_
    ·by_cases e:j=i
     ·subst e;rw [hat];rfl
     ·rwa [if_neg e] at h3
    ·by_cases e:k=i
     ·subst e;rw [hat];rfl
     ·rwa [if_neg e] at h4
   ·refine⟨Ren.le_refl ρ,Nat.le_refl _,fun j hj=>?_,fun j hj hx=>?_,fun j hj hx=>?_,rfl,rfl,rfl,hsize,fun b' hb' hno=>?_,fun j b' d' e e'=>by rw [e] at e';cases e'⟩
    ·rw [hat',if_neg (by omega)]
    ·rw [hat'] at hx;by_cases e:j=i
     ·subst e;rw [hat];rfl
     ·rwa [if_neg e] at hx
    ·rw [hat'] at hx;by_cases e:j=i
     ·subst e;rw [hat];rfl
     ·rwa [if_neg e] at hx
    ·exact hsame b' hb' fun q=>hno i d hw (by rw [q];exact hρ) (by rw [hat];rfl)
theorem Zxn (SC:ZwA X.P f) (H0:∀ (wm:Nat) (h:H) (a:Option Addr) (c:Nat),YQ X (.call f #[.slice a 0 c] wm h) (.fin (.ret (.tuple #[])) h)) {a:Option Addr} {n:Nat} (hlen:xs.length < 4611686018427387904)
 (ZV:wm <=h.size) (hO:Ye (wm:=wm) [ow wm (Zy .i64) a n c xs] h):
 WR X f #[.slice a n c] wm h (CP (fun(v:Value) (Gb:List (Ast wm))=>v= .tuple [].toArray∧Gb= [ow wm (Zy .i64) a n c (xs.mergeSort fun x y=>decide (x <=y))]) [ow wm (Zy .i64) a n c xs] h):=by
 have hP:(ow wm (Zy .i64) a n c xs).P h:=hO.all _ (by simp);obtain⟨hn,so⟩:=hP;have s0:Sp wm (QA [ow wm (Zy .i64) a n c xs]) h [ow wm (Zy .i64) a n c xs] h:=Sp.start ZV hO
 have empty:xs= [] ->WR X f #[.slice a n c] wm h (CP (fun(v:Value) (Gb:List (Ast wm))=>v= .tuple [].toArray∧Gb= [ow wm (Zy .i64) a n c (xs.mergeSort fun x y=>decide (x <=y))]) [ow wm (Zy .i64) a n c xs] h):=fun e=>by
  subst e;have hn:n=0:=hn;subst hn;exact⟨_,h,⟨_,rfl,_,⟨rfl,rfl⟩,by simpa using s0⟩,H0 wm h a c⟩
 rcases so.mem with⟨_,_,h3⟩ | ⟨i,o,cs,rfl,h2,h3,h4,h5,h6⟩
 ·exact empty h3
 ·rcases Nat.eq_zero_or_pos xs.length with z | z
  ·exact empty (List.length_eq_zero_iff.1 z)
  ·subst hn;have h3:h.at i= .row cs true 1:=h3;have hj:=ZsM (c:=c) SC h3 h2 h6 z hlen;refine⟨_,_,⟨_,rfl,_,⟨rfl,rfl⟩,?_⟩,hj⟩;have hil:i < h.size:=Qt h3 rfl
   have hu:Up wm (Y5 (some ⟨i,o,none⟩)) h (h.put i (.row (Kt cs o (xs.mergeSort fun x y=>decide (x <=y))) true 1)):=
    let u:=Up.put (lo:=wm) (A:= .row (Kt cs o (xs.mergeSort fun x y=>decide (x <=y))) true 1) h2 (show(h.at i).own=true by rw [h3];rfl)
    ⟨u.size,fun j hj hn=>u.keep j hj fun e=>hn ⟨o,by rw [e]⟩,fun j ⟨o',e⟩=>by cases e;exact⟨h2,by rw [h3];rfl⟩⟩
   refine s0.one .z hu (fun j q=>q) ⟨?_,?_,.inr ⟨i,o,_,rfl,h2,Y2 hil _,?_,?_,?_⟩⟩ fun j q=>.inl q
   ·rw [List.length_mergeSort]
   ·rw [List.length_mergeSort];exact so.max
   ·rw [List.length_mergeSort];exact h4
   ·rw [Zcq];exact h5
   ·refine⟨?_,fun k x hk=>⟨(),?_,trivial⟩⟩
    ·rw [Zcq,List.length_mergeSort];exact h6.len
    ·have hkl:k < (xs.mergeSort fun x y=>decide (x <=y)).length:= (List.getElem?_eq_some_iff.1 hk).1;have hl:o + xs.length * 1 <=cs.length:=h6.len;have ZPS:k < xs.length:=by rwa [List.length_mergeSort] at hkl
     show((Kt cs o _).drop (o + k * 1)).take 1= [.int .i64 x];rw [Nat.mul_one];apply List.ext_getElem?;intro j;cases j with
     | zero=>
       rw [List.getElem?_take_of_lt (by omega),List.getElem?_drop,Nat.add_zero,Zf9,List.getElem?_eq_getElem (show o + k < cs.length by omega)];simp only [Option.map_some,List.getElem?_cons_zero];rw [if_pos (by omega),show o + k - o=k by omega,List.getD_eq_getElem?_getD,hk];rfl
     | succ j=>rw [List.getElem?_take_eq_none (by omega)];simp
end Go.Yr
end
end
section
set_option maxRecDepth 100000
noncomputable section
namespace Go.Proofs.YtbmbbcaaimehkaaGreat
open Go.Yr Go.Lf
def ZBd:Go.Shelf.Ren:= ⟨fun | 189=>94 | 125=>108 | 257=>107 | 128=>119 | 129=>120 | 294=>110 | 295=>111 | 296=>112 | 297=>113 | 298=>114 | 299=>115 | 216=>116 | 300=>117 | 301=>118 | 328=>121 | 329=>122 | 330=>123 | 331=>124 | 332=>125 | 215=>126 | 343=>127 | n=>n,fun | 28=>22 | 3=>3 | 46=>155 | 0=>0 | 51=>165 | 53=>167 | 4=>4 | 183=>159 | 182=>158 | 131=>69 | 5=>5 | 9=>9 | 218=>168 | 222=>172 | 228=>174 | 229=>175 | n=>n,fun n=>n⟩
theorem ZE3:Lays.n189 Tryz.prog ZBd:= {
 mixed:=by kernel_rfl,
 f125:=Tryz.func108.trans (congrArg some Kq0),
 f128:=Tryz.func119.trans (congrArg some Kq0),
 f129:=Tryz.func120.trans (congrArg some Kq0),
 f189:=Tryz.func94.trans (congrArg some Kq0),
 f215:=Tryz.func126.trans (congrArg some Kq0),
 f216:=Tryz.func116.trans (congrArg some Kq0),
 f257:=Tryz.func107.trans (congrArg some Kq0),
 f294:=Tryz.func110.trans (congrArg some Kq0),
 f295:=Tryz.func111.trans (congrArg some Kq0),
 f296:=Tryz.func112.trans (congrArg some Kq0),
 f297:=Tryz.func113.trans (congrArg some Kq0),
 f298:=Tryz.func114.trans (congrArg some Kq0),
 f299:=Tryz.func115.trans (congrArg some Kq0),
 f300:=Tryz.func117.trans (congrArg some Kq0),
 f301:=Tryz.func118.trans (congrArg some Kq0),
 f328:=Tryz.func121.trans (congrArg some Kq0),
 f329:=Tryz.func122.trans (congrArg some Kq0),
 f330:=Tryz.func123.trans (congrArg some Kq0),
 f331:=Tryz.func124.trans (congrArg some Kq0),
 f332:=Tryz.func125.trans (congrArg some Kq0),
 f343:=Tryz.func127.trans (congrArg some Kq0),
 t0:=Tryz.underlying0,
 a0:=Tryz.isAgg0,
 z0:=Tryz.sizeOf0,
 v0:=Tryz.zeroValue0,
 t3:=Tryz.underlying3,
 a3:=Tryz.isAgg3,
 z3:=Tryz.sizeOf3,
 v3:=Tryz.zeroValue3,
 t4:=Tryz.underlying4,
 a4:=Tryz.isAgg4,
 z4:=Tryz.sizeOf4,
 v4:=Tryz.zeroValue4,
 t5:=Tryz.underlying5,
 a5:=Tryz.isAgg5,
 z5:=Tryz.sizeOf5,
 v5:=Tryz.zeroValue5,
 t9:=Tryz.underlying9,
 a9:=Tryz.isAgg9,
 z9:=Tryz.sizeOf9,
 v9:=Tryz.zeroValue9,
 t28:=Tryz.underlying22,
 a28:=Tryz.isAgg22,
 z28:=Tryz.sizeOf22,
 v28:=Tryz.zeroValue22,
 t46:=Tryz.underlying155,
 a46:=Tryz.isAgg155,
 z46:=Tryz.sizeOf155,
 v46:=Tryz.zeroValue155,
 t51:=Tryz.underlying165,
 a51:=Tryz.isAgg165,
 z51:=Tryz.sizeOf165,
 v51:=Tryz.zeroValue165,
 t53:=Tryz.underlying167,
 a53:=Tryz.isAgg167,
 z53:=Tryz.sizeOf167,
 v53:=Tryz.zeroValue167,
 t131:=Tryz.underlying69,
 a131:=Tryz.isAgg69,
 z131:=Tryz.sizeOf69,
 v131:=Tryz.zeroValue69,
 t182:=Tryz.underlying158,
 a182:=Tryz.isAgg158,
 z182:=Tryz.sizeOf158,
 v182:=Tryz.zeroValue158,
 t183:=Tryz.underlying159,
 a183:=Tryz.isAgg159,
 z183:=Tryz.sizeOf159,
 v183:=Tryz.zeroValue159,
 t218:=Tryz.underlying168,
 a218:=Tryz.isAgg168,
 z218:=Tryz.sizeOf168,
 v218:=Tryz.zeroValue168,
 t222:=Tryz.underlying172,
 a222:=Tryz.isAgg172,
 z222:=Tryz.sizeOf172,
 v222:=Tryz.zeroValue172,
 t228:=Tryz.underlying174,
 a228:=Tryz.isAgg174,
 z228:=Tryz.sizeOf174,
 v228:=Tryz.zeroValue174,
 t229:=Tryz.underlying175,
 a229:=Tryz.isAgg175,
 z229:=Tryz.sizeOf175,
 v229:=Tryz.zeroValue175}
theorem ZEC:ZwA XX.P 94:=fun blk off cap zs w h1 h2 h3=>Any.slices_Sort_int ZE3 blk off cap zs w h1 h2 h3
theorem ZsL (wm:Nat) (h:H) (a:Option Addr) (c:Nat):YQ XX (.call 94 #[.slice a 0 c] wm h) (.fin (.ret (.tuple #[])) h):=by
 have e:ev (cfg XX fun _=>false) 100 (.call 94 #[.slice a 0 c] wm h)=some (.fin (.ret (.tuple #[])) h):=Kq0
 exact ZdQ (X:=XX) mixed 100 _ _ e
theorem ZCV {wm:Nat} {h:H} {p0:List Int} {Zi:Option Addr} {Zh QS:Nat} {r:List Int} (ZV:wm <=h.size) (hO:Ye (wm:=wm) [ow wm (Zy .i64) Zi QS Zh p0] h) (hL:Zrs p0=some r):
 WR XX 94 #[.slice Zi QS Zh] wm h (CP (fun(v:Value) (Gb:List (Ast wm))=>v= .tuple [].toArray∧Gb= [ow wm (Zy .i64) Zi QS Zh r]) [ow wm (Zy .i64) Zi QS Zh p0] h):=by
 unfold Zrs at hL;cases hb:Nat.ble p0.length 1000000 with
 | false=>rw [hb] at hL;cases hL
 | true=>
   rw [hb] at hL;cases hL;have:=Nat.le_of_ble_eq_true hb;exact Zxn ZEC ZsL (by omega) ZV hO
end Go.Proofs.YtbmbbcaaimehkaaGreat
end
end
section
namespace Go.Proofs.YtbmbbcaaimehkaaGreat
open Go.Lf
def Zg6 (v17:Int) (Ue:(Int×Int×Int×Bool×Int ->Option (Yl×Int))):Int×Int×Bool×Int ->Option (Yl×Int):=fun(v29,v34,v35,v36)=>
 Ue (v29,Xl (v17 + 1),v34,v35,v36)
def Zee (v58:Int) (Za5:(Int×Int×Int×Bool×Int ->Option (Yl×Int))):Int×Int×Bool×Int ->Option (Yl×Int):=fun(v69,v74,v75,v76)=>
 Za5 (v69,Xl (v58 + 1),v74,v75,v76)
def Zg5 (Zfj:Int) (ZbI:(Int×Int×Int×Bool×Int ->Option (Yl×Int))):Int×Int×Bool×Int ->Option (Yl×Int):=fun(Zf3,Zxd,Zxc,Zxb)=>
 ZbI (Zf3,Xl (Zfj + 1),Zxd,Zxc,Zxb)
def Zkn (p1:Int) (v58:Int) (Za5:(Int×Int×Int×Bool×Int ->Option (Yl×Int))) (Un:Zc):Int×Int×Int×Bool×Int ->(Int×Int×Int×Bool×Int ->Option (Yl×Int)) ->Option (Yl×Int):=fun(v92,Zfj,ZbV,ZsC,ZaI) ZbI=>
 (bif decide (Zfj < (Un.places.length:Int)) then(ZN Un.places Zfj).bind fun ZhX=>(bif(ZhX==p1) then(ZN Un.ZW Zfj).bind fun Zqy=>(Zg5 Zfj ZbI) (Xl (v92 + 1),Un.ZR,false,Zqy) else(Zg5 Zfj ZbI) (v92,ZbV,ZsC,ZaI)) else(Zee v58 Za5) (v92,ZbV,ZsC,ZaI))
def Zg7 (F:Nat) (p0:Zb) (p1:Int):Int×Int×Int×Bool×Int ->(Int×Int×Int×Bool×Int ->Option (Yl×Int)) ->Option (Yl×Int):=fun(v54,v58,v60,v61,v62) Za5=>
 (bif decide (v58 < (p0.wire.length:Int)) then(ZN p0.wire v58).bind fun Un=>(bif(Un.kind !=2) then(Zee v58 Za5) (v54,v60,v61,v62) else loop F (Zkn p1 v58 Za5 Un) (v54,0,v60,v61,v62)) else some ((Yl.mk v60 v61 v62),v54))
def Zko (F:Nat) (p0:Zb) (p1:Int):Int×Int×Int×Bool×Int ->(Int×Int×Int×Bool×Int ->Option (Yl×Int)) ->Option (Yl×Int):=fun(v13,v17,v19,v20,v21) Ue=>
 (bif decide (v17 < (p0.entries.length:Int)) then(ZN p0.entries v17).bind fun KX=>(ZN KX p1).bind fun x42=>(bif x42.here then(ZN KX p1).bind fun Jc=>(Zg6 v17 Ue) (Xl (v13 + 1),v17,true,Jc.age) else(Zg6 v17 Ue) (v13,v19,v20,v21)) else loop F (Zg7 F p0 p1) (v13,0,v19,v20,v21))
def Zik (F:Nat) (p0:Zb) (p1:Int):Option (Yl×Int):=
 loop F (Zko F p0 p1) (0,0,0,false,0)
def Zec (p0:Zb) (v23:Int) (Wz:(Int ->Option Bool)):Int×Int ->(Int×Int ->Option Bool) ->Option Bool:=fun(v33,v35) Zgp=>
 (bif decide (v35 >=0) then(bif decide ((Xl (v33 + 1)) > (p0.Zv.length:Int)) then some false else(ZN p0.Zv v35).bind fun x41=>(gd (!(decide (x41 < (-1)))) (ZN p0.Zv v35) default).bind fun x44=>(bif((decide (x41 < (-1))) || (decide (x44 >= (p0.Zv.length:Int)))) then some false else(ZN p0.Zv v35).bind fun x47=>Zgp (Xl (v33 + 1),x47))) else Wz (Xl (v23 + 1)))
def Zed (F:Nat) (p0:Zb):Int ->(Int ->Option Bool) ->Option Bool:=fun v23 Wz=>
 (bif decide (v23 < (p0.Zv.length:Int)) then(ZN p0.Zv v23).bind fun WY=>(bif((decide (WY < (-1))) || (decide (WY >= (p0.Zv.length:Int)))) then some false else loop F (Zec p0 v23 Wz) (0,v23)) else some true)
def Zg4 (F:Nat) (p0:Zb):Int ->(Int ->Option Bool) ->Option Bool:=fun v9 Zgs=>
 (bif decide (v9 < (p0.entries.length:Int)) then(ZN p0.entries v9).bind fun x12=>(bif((x12.length:Int) != (p0.Zv.length:Int)) then some false else Zgs (Xl (v9 + 1))) else loop F (Zed F p0) 0)
def ZvE (F:Nat) (p0:Zb):Option Bool:=
 (bif((((((decide ((p0.entries.length:Int) < 1)) || (decide ((p0.entries.length:Int) > 5))) || (decide ((p0.Zv.length:Int) < 1))) || (decide ((p0.Zv.length:Int) > 8))) || ((p0.boxes.length:Int) != (p0.Zv.length:Int))) || ((p0.held.length:Int) != (p0.entries.length:Int))) then some false else loop F (Zg4 F p0) 0)
def Zaf (v8:Int) (Jt:(Int ->Option Bool)):Unit ->Option Bool:=fun _=>
 Jt (Xl (v8 + 1))
def ZcC (p0:Zb) (v8:Int) (Jt:(Int ->Option Bool)) (XQ:Zc):Int ->(Int ->Option Bool) ->Option Bool:=fun v46 Zgo=>
 (bif decide (v46 < (XQ.places.length:Int)) then(ZN XQ.places v46).bind fun x49=>(gd ((!((decide (x49 < 0)) || (decide (x49 >= (p0.Zv.length:Int))))) && (decide (v46 > 0))) (ZN XQ.places (Xl (v46 - 1))) default).bind fun x52=>(gd (!(((decide (x49 < 0)) || (decide (x49 >= (p0.Zv.length:Int)))) || ((decide (v46 > 0)) && (decide (x49 <=x52))))) (ZN XQ.ZW v46) default).bind fun x55=>(gd (!((((decide (x49 < 0)) || (decide (x49 >= (p0.Zv.length:Int)))) || ((decide (v46 > 0)) && (decide (x49 <=x52)))) || (decide (x55 < 1)))) (ZN XQ.ZW v46) default).bind fun x58=>(bif(((((decide (x49 < 0)) || (decide (x49 >= (p0.Zv.length:Int)))) || ((decide (v46 > 0)) && (decide (x49 <=x52)))) || (decide (x55 < 1))) || (decide (x58 > 30))) then some false else Zgo (Xl (v46 + 1))) else(Zaf v8 Jt) ())
def ZcB (F:Nat) (p0:Zb) (v8:Int) (Jt:(Int ->Option Bool)) (XQ:Zc):Bool ->Option Bool:=fun v35=>
 (bif v35 then(Zaf v8 Jt) () else(bif(XQ.kind==2) then(bif((decide ((XQ.places.length:Int) < 1)) || ((XQ.ZW.length:Int) != (XQ.places.length:Int))) then some false else loop F (ZcC p0 v8 Jt XQ) 0) else some false))
def Kv (F:Nat) (p0:Zb):Int ->(Int ->Option Bool) ->Option Bool:=fun v8 Jt=>
 (bif decide (v8 < (p0.wire.length:Int)) then(ZN p0.wire v8).bind fun XQ=>(bif(XQ.kind==1) then(ZcB F p0 v8 Jt XQ) (XQ.kind==1) else(ZcB F p0 v8 Jt XQ) (XQ.kind==3)) else some true)
def Zry (F:Nat) (p0:Zb):Option Bool:=
 loop F (Kv F p0) 0
def Zkm (v33:Int) (ZjP:((List Int)×Int ->Option Bool)) (x36:(List Zj)):(List Int)×Int ->((List Int)×Int ->Option Bool) ->Option Bool:=fun(v44,v54) ZtA=>
 (bif decide (v54 < (x36.length:Int)) then(ZN x36 v54).bind fun x57=>(app 8 v44 [x57.msg]).bind fun z65=>ZtA (z65,Xl (v54 + 1)) else ZjP (v44,Xl (v33 + 1)))
def ZgZ (v79:Int) (ZdZ:((List Int)×Int ->Option Bool)):(List Int) ->Option Bool:=fun v85=>
 ZdZ (v85,Xl (v79 + 1))
def Zae (p0:ZQ) (Zf0:(List Int)):Int ->(Int ->Option Bool) ->Option Bool:=fun Zfi ZpK=>
 (bif decide (Zfi < (Zf0.length:Int)) then(ZN Zf0 Zfi).bind fun ZfY=>(bif(ZfY !=Zfi) then some false else ZpK (Xl (Zfi + 1))) else some ((Zf0.length:Int)==p0.Za.said))
def Zg0 (F:Nat) (p0:ZQ):(List Int)×Int ->((List Int)×Int ->Option Bool) ->Option Bool:=fun(v72,v79) ZdZ=>
 (bif decide (v79 < (p0.Za.wire.length:Int)) then(ZN p0.Za.wire v79).bind fun x93=>(bif(x93.kind==1) then(app 8 v72 [x93.Zu.msg]).bind fun z105=>(ZgZ v79 ZdZ) z105 else(ZgZ v79 ZdZ) v72) else(Zrs v72).bind fun Zf0=>loop F (Zae p0 Zf0) 0)
def Zg1 (F:Nat) (p0:ZQ):(List Int)×Int ->((List Int)×Int ->Option Bool) ->Option Bool:=fun(v26,v33) ZjP=>
 (bif decide (v33 < (p0.Za.held.length:Int)) then(ZN p0.Za.held v33).bind fun x36=>loop F (Zkm v33 ZjP x36) (v26,0) else loop F (Zg0 F p0) (v26,0))
def Zg2 (F:Nat) (p0:ZQ):(List Int)×Int ->((List Int)×Int ->Option Bool) ->Option Bool:=fun(v4,v11) X8=>
 (bif decide (v11 < (p0.Za.boxes.length:Int)) then(ZN p0.Za.boxes v11).bind fun x14=>(app 8 v4 x14).bind fun z19=>X8 (z19,Xl (v11 + 1)) else loop F (Zg1 F p0) (v4,0))
def Zrw (F:Nat) (p0:ZQ):Option Bool:=
 (bif((decide (p0.Za.said < 0)) || (decide (p0.Za.said > 40))) then some false else loop F (Zg2 F p0) ([],0))
end Go.Proofs.YtbmbbcaaimehkaaGreat
end
section
set_option maxRecDepth 20000
noncomputable section
namespace Go.Proofs.YtbmbbcaaimehkaaGreat
open Go.Yr Go.Lf
theorem ZoD {F wm:Nat} {h:H} {p0:Zb} {p1:Int} {Zi:Option Addr} {Zh:Nat} {Zr:Option Addr} {Zp:Nat} {Zn:Option Addr} {Zm:Nat} {Zq:Option Addr} {Zo:Nat} {Zl:Option Addr} {Zk:Nat} {r:(Yl×Int)} (ZV:wm <=h.size) (Zz:Sl (Zy .i64) wm h Zi Zh p0.Zv) (ZL:Sl (Z6 (Zy .i64)) wm h Zr Zp p0.boxes) (ZK:Sl (Z6 Zd) wm h Zn Zm p0.entries) (ZM:Sl (Z6 Zf) wm h Zq Zo p0.held) (ZJ:Sl Zg wm h Zl Zk p0.wire) (hL:Zik F p0 p1=some r):
 WR XX 67 #[.agg [.slice Zi p0.Zv.length Zh,.slice Zr p0.boxes.length Zp,.slice Zn p0.entries.length Zm,.slice Zq p0.held.length Zo,.slice Zl p0.wire.length Zk,.int .i64 p0.said].toArray,.int .i64 p1] wm h (CP (fun(v:Value) (Gb:List (Ast wm))=>v= .tuple [.agg [.int .i64 r.1.machine,.bool r.1.here,.int .i64 r.1.age].toArray,.int .i64 r.2].toArray∧Gb= []) [] h):=by
 refine bg Tryz.ntmps67 ZV Ye.nil ?_;intro T hT hS;unfold Zik at hL;refine r3 ?_;rintro _ h2 ⟨b1,eb1,rfl,hS⟩;refine r1 ?_;rintro _ h4 ⟨b3,eb3,rfl,hS⟩;refine r6 ?_;rintro _ h6 ⟨b5,eb5,rfl,hS⟩;refine r16 ?_;refine r1 ?_;refine WC.loop (WL.lift hL (fun(p:Int×Int×Int×Bool×Int) (s:Fs)=>match p with | (v13,v17,v19,v20,v21)=>∃ (fr8:Fr) (h7:H),s= ⟨fr8,[],h7,none⟩∧Sp wm T h [bx wm b1 [.slice Zi p0.Zv.length Zh,.slice Zr p0.boxes.length Zp,.slice Zn p0.entries.length Zm,.slice Zq p0.held.length Zo,.slice Zl p0.wire.length Zk,.int .i64 p0.said],bx wm b3 [.int .i64 0,.bool false,.int .i64 0],bx wm b5 [.int .i64 v19,.bool v20,.int .i64 v21]] h7∧fr8.at 1= .int .i64 p1∧fr8.at 2= .pointer (some ⟨b1,0,none⟩)∧fr8.at 4= .pointer (some ⟨b3,0,none⟩)∧fr8.at 6= .pointer (some ⟨b5,0,none⟩)∧fr8.at 7= .int .i64 v13∧fr8.at 15= .slice Zn p0.entries.length Zm∧fr8.at 16= .int .i64 (p0.entries.length:Int)∧fr8.at 17= .int .i64 v17) ⟨_,_,rfl,hS.only (.c k2 (.c k1 (.c k0 .n))),YB⟩ ?_);clear hL hS;rintro Ue ⟨v13,v17,v19,v20,v21⟩ s Zj4 hL ⟨fr8,h7,rfl,hS,e9,e10,e11,e12,e14,e15,e16,e18⟩;dsimp only [Zko] at hL;refine r6 ?_;refine cn hL ?_ ?_
 ·intro hc hL;refine r2 ?_;refine WC.Zco (r:=r) (fun(p:Int×Int×Bool×Int) (s:Fs)=>match p with | (v29,v34,v35,v36)=>∃ (J8:Fr) (h23:H),s= ⟨J8,[],h23,none⟩∧Sp wm T h [bx wm b1 [.slice Zi p0.Zv.length Zh,.slice Zr p0.boxes.length Zp,.slice Zn p0.entries.length Zm,.slice Zq p0.held.length Zo,.slice Zl p0.wire.length Zk,.int .i64 p0.said],bx wm b3 [.int .i64 0,.bool false,.int .i64 0],bx wm b5 [.int .i64 v34,.bool v35,.int .i64 v36]] h23∧J8.at 1= .int .i64 p1∧J8.at 2= .pointer (some ⟨b1,0,none⟩)∧J8.at 4= .pointer (some ⟨b3,0,none⟩)∧J8.at 6= .pointer (some ⟨b5,0,none⟩)∧J8.at 7= .int .i64 v29∧J8.at 15= .slice Zn p0.entries.length Zm∧J8.at 16= .int .i64 (p0.entries.length:Int)∧J8.at 17= .int .i64 v17) (Zg6 v17 Ue) ?_ ?_
  ·clear hL hS;rintro⟨v29,v34,v35,v36⟩ s hL ⟨J8,h23,rfl,hS,e25,e26,e27,e28,e30,e31,e32,e33⟩;dsimp only [Zg6] at hL;refine r4 ?_;exact Ya.Y4 (Zj4 _ _ hL ⟨_,_,rfl,hS.only (.c k0 (.c k0 (.c k0 .n))),YB⟩)
  ·skip;refine r4 ?_;obtain⟨KX,Zd2,hL⟩:=bind_some hL;obtain⟨b38,o39,⟨a40,c41⟩,ZgL,ZgO,ZgN,Zi2⟩:=Sl.at_ ZK Zd2;refine WO.w gN rfl (ZC Ur QR lk lk rfl ZgL Zd2) ?_;have Zmj:Sl Zd wm h a40 c41 KX:=Zi2;refine WO.w gN rfl (ZU UJ (Yh fh rfl) (At.fz hS.fz ZgN ZgO) (j:=0) rfl (v:= .slice a40 KX.length c41) rfl) ?_;refine r8 ?_;obtain⟨x42,Zn4,hL⟩:=bind_some hL;obtain⟨b43,o44,_,ZuE,Zu6,ZuT,ZHf⟩:=Sl.at_ Zmj Zn4;refine WO.w gN rfl (ZC Uq Xt lk lk rfl ZuE Zn4) ?_;refine r1 ?_;refine WO.w gN rfl (ZU Zr0 (Yh fh rfl) (At.fz hS.fz ZuT Zu6) (j:=0) rfl (v:= .bool x42.here) rfl) ?_;refine r2 ?_;refine cn hL ?_ ?_
   ·intro hc hL;refine r4 ?_;refine r1 ?_;obtain⟨Jc,Zl9,hL⟩:=bind_some hL;obtain⟨b46,o47,_,Zmr,Zmx,Zmu,Zmt⟩:=Sl.at_ Zmj Zl9;refine WO.w gN rfl (ZC Uq Xt lk lk rfl Zmr Zl9) ?_;refine r1 ?_;refine WO.w gN rfl (ZU Xr (Yh fh rfl) (At.fz hS.fz Zmu Zmx) (j:=2) rfl (v:= .int .i64 Jc.age) rfl) ?_;refine WO.w gN rfl (Qy ZoX (ZG lk (ZG lk (ZG lk Yi))) rfl (cs':= [.int .i64 v17,.bool true,.int .i64 Jc.age]) rfl) ?_;refine r1 ?_;rintro h48 hS;refine r8 ?_;exact XO.Y4 _ hL ⟨_,_,rfl,hS.only (.c k1 (.c k1 (.c k0 .n))),YB⟩
   ·intro hc hL;refine r2 ?_;exact XO.Y4 _ hL ⟨_,_,rfl,hS.only (.c k0 (.c k0 (.c k0 .n))),YB⟩
 ·intro hc hL;refine XA ?_;refine r3 ?_;refine WC.loop (WL.lift hL (fun(p:Int×Int×Int×Bool×Int) (s:Fs)=>match p with | (v54,v58,v60,v61,v62)=>∃ (Zka:Fr) (h49:H),s= ⟨Zka,[],h49,none⟩∧Sp wm T h [bx wm b3 [.int .i64 0,.bool false,.int .i64 0],bx wm b5 [.int .i64 v60,.bool v61,.int .i64 v62]] h49∧Zka.at 1= .int .i64 p1∧Zka.at 4= .pointer (some ⟨b3,0,none⟩)∧Zka.at 6= .pointer (some ⟨b5,0,none⟩)∧Zka.at 7= .int .i64 v54∧Zka.at 38= .slice Zl p0.wire.length Zk∧Zka.at 39= .int .i64 (p0.wire.length:Int)∧Zka.at 40= .int .i64 v58) ⟨_,_,rfl,hS.only (.c k1 (.c k1 .n)),YB⟩ ?_);clear hL hS;rintro Za5 ⟨v54,v58,v60,v61,v62⟩ s ZxW hL ⟨Zka,h49,rfl,hS,e51,e52,e53,e55,e56,e57,e59⟩;dsimp only [Zg7] at hL;refine r6 ?_;refine cn hL ?_ ?_
  ·intro hc hL;refine r2 ?_;refine WC.Zco (r:=r) (fun(p:Int×Int×Bool×Int) (s:Fs)=>match p with | (v69,v74,v75,v76)=>∃ (Zj9:Fr) (h64:H),s= ⟨Zj9,[],h64,none⟩∧Sp wm T h [bx wm b3 [.int .i64 0,.bool false,.int .i64 0],bx wm b5 [.int .i64 v74,.bool v75,.int .i64 v76]] h64∧Zj9.at 1= .int .i64 p1∧Zj9.at 4= .pointer (some ⟨b3,0,none⟩)∧Zj9.at 6= .pointer (some ⟨b5,0,none⟩)∧Zj9.at 7= .int .i64 v69∧Zj9.at 38= .slice Zl p0.wire.length Zk∧Zj9.at 39= .int .i64 (p0.wire.length:Int)∧Zj9.at 40= .int .i64 v58) (Zee v58 Za5) ?_ ?_
   ·clear hL hS;rintro⟨v69,v74,v75,v76⟩ s hL ⟨Zj9,h64,rfl,hS,e66,e67,e68,e70,e71,e72,e73⟩;dsimp only [Zee] at hL;refine r4 ?_;exact Ya.Y4 (ZxW _ _ hL ⟨_,_,rfl,hS.only (.c k0 (.c k0 .n)),YB⟩)
   ·skip;refine r3 ?_;obtain⟨Un,ZFh,hL⟩:=bind_some hL;obtain⟨b78,o79,⟨⟨a80,c81⟩,⟨a82,c83⟩⟩,ZGL,ZHX,ZHq,ZAi⟩:=Sl.at_ ZJ ZFh;refine WO.w gN rfl (ZC Ja YF lk lk rfl ZGL ZFh) ?_;have ZFD:Sl (Zy .i64) wm h a80 c81 Un.places:=ZAi.1;have ZFB:Sl (Zy .i64) wm h a82 c83 Un.ZW:=ZAi.2;refine WO.w gN rfl (YX Km YF (Yh fh rfl) (At.fz hS.fz ZHq ZHX) (j:=0) rfl rfl (ws:= [.int .i64 Un.kind,.int .i64 Un.ZR,.int .i64 Un.Zu.msg,.int .i64 Un.Zu.place,.int .i64 Un.Zu.from_,.int .i64 Un.Zu.age,.int .i64 Un.Zu.hops,.slice a80 Un.places.length c81,.slice a82 Un.ZW.length c83,.int .i64 Un.place,.int .i64 Un.at_,.int .i64 Un.age]) rfl) ?_;refine r1 ?_;rintro _ h85 ⟨b84,ZQL,rfl,hS⟩;refine r1 ?_;rintro h86 hS;refine r8 ?_;refine r2 ?_;refine cn hL ?_ ?_
    ·intro hc hL;refine r3 ?_;exact XO.Y4 _ hL ⟨_,_,rfl,hS.only (.c k1 (.c k1 .n)),YB⟩
    ·intro hc hL;refine r8 ?_;refine r3 ?_;refine WC.loop (WL.lift hL (fun(p:Int×Int×Int×Bool×Int) (s:Fs)=>match p with | (v92,Zfj,ZbV,ZsC,ZaI)=>∃ (Zd6:Fr) (h87:H),s= ⟨Zd6,[],h87,none⟩∧Sp wm T h [bx wm b3 [.int .i64 0,.bool false,.int .i64 0],bx wm b5 [.int .i64 ZbV,.bool ZsC,.int .i64 ZaI],bx wm b84 [.int .i64 Un.kind,.int .i64 Un.ZR,.int .i64 Un.Zu.msg,.int .i64 Un.Zu.place,.int .i64 Un.Zu.from_,.int .i64 Un.Zu.age,.int .i64 Un.Zu.hops,.slice a80 Un.places.length c81,.slice a82 Un.ZW.length c83,.int .i64 Un.place,.int .i64 Un.at_,.int .i64 Un.age]] h87∧Zd6.at 1= .int .i64 p1∧Zd6.at 4= .pointer (some ⟨b3,0,none⟩)∧Zd6.at 6= .pointer (some ⟨b5,0,none⟩)∧Zd6.at 7= .int .i64 v92∧Zd6.at 11= .pointer (some ⟨b84,0,none⟩)∧Zd6.at 38= .slice Zl p0.wire.length Zk∧Zd6.at 39= .int .i64 (p0.wire.length:Int)∧Zd6.at 40= .int .i64 v58∧Zd6.at 48= .slice a80 Un.places.length c81∧Zd6.at 49= .int .i64 (Un.places.length:Int)∧Zd6.at 50= .int .i64 Zfj) ⟨_,_,rfl,hS.only (.c k1 (.c k1 (.c k0 .n))),YB⟩ ?_);clear hL hS;rintro ZbI ⟨v92,Zfj,ZbV,ZsC,ZaI⟩ s Zuo hL ⟨Zd6,h87,rfl,hS,e89,e90,e91,e93,e94,e95,e96,e97,e98,e99,ZDC⟩;dsimp only [Zkn] at hL;refine r6 ?_;refine cn hL ?_ ?_
     ·intro hc hL;refine r2 ?_;refine WC.Zco (r:=r) (fun(p:Int×Int×Bool×Int) (s:Fs)=>match p with | (Zf3,Zxd,Zxc,Zxb)=>∃ (KN:Fr) (ZCN:H),s= ⟨KN,[],ZCN,none⟩∧Sp wm T h [bx wm b3 [.int .i64 0,.bool false,.int .i64 0],bx wm b5 [.int .i64 Zxd,.bool Zxc,.int .i64 Zxb],bx wm b84 [.int .i64 Un.kind,.int .i64 Un.ZR,.int .i64 Un.Zu.msg,.int .i64 Un.Zu.place,.int .i64 Un.Zu.from_,.int .i64 Un.Zu.age,.int .i64 Un.Zu.hops,.slice a80 Un.places.length c81,.slice a82 Un.ZW.length c83,.int .i64 Un.place,.int .i64 Un.at_,.int .i64 Un.age]] ZCN∧KN.at 1= .int .i64 p1∧KN.at 4= .pointer (some ⟨b3,0,none⟩)∧KN.at 6= .pointer (some ⟨b5,0,none⟩)∧KN.at 7= .int .i64 Zf3∧KN.at 11= .pointer (some ⟨b84,0,none⟩)∧KN.at 38= .slice Zl p0.wire.length Zk∧KN.at 39= .int .i64 (p0.wire.length:Int)∧KN.at 40= .int .i64 v58∧KN.at 48= .slice a80 Un.places.length c81∧KN.at 49= .int .i64 (Un.places.length:Int)∧KN.at 50= .int .i64 Zfj) (Zg5 Zfj ZbI) ?_ ?_
      ·clear hL hS;rintro⟨Zf3,Zxd,Zxc,Zxb⟩ s hL ⟨KN,ZCN,rfl,hS,e108,e109,ZIA,ZL7,ZL6,ZDA,e115,e116,e117,e118,e119⟩;dsimp only [Zg5] at hL;refine r4 ?_;exact Ya.Y4 (Zuo _ _ hL ⟨_,_,rfl,hS.only (.c k0 (.c k0 (.c k0 .n))),YB⟩)
      ·skip;refine r4 ?_;obtain⟨ZhX,Zmf,hL⟩:=bind_some hL;obtain⟨ZMs,ZKo,_,Zog,Zoj,Zoi,ZB4⟩:=Sl.at_ ZFD Zmf;refine WO.w gN rfl (ZC YG YN lk lk rfl Zog Zmf) ?_;refine WO.w gN rfl (ZU Xr (Yh fh rfl) (At.fz hS.fz Zoi Zoj) (j:=0) rfl (v:= .int .i64 ZhX) rfl) ?_;refine r8 ?_;refine r3 ?_;refine cn hL ?_ ?_
       ·intro hc hL;refine r1 ?_;refine WC.XD mixed Kq0 ?_;refine r4 ?_;refine r1 ?_;obtain⟨Zqy,ZzS,hL⟩:=bind_some hL;obtain⟨ZSA,ZPe,_,ZBU,ZCy,ZCb,ZLw⟩:=Sl.at_ ZFB ZzS;refine WX.w gN rfl (ZC YG YN lk lk rfl ZBU ZzS) ?_ rfl;refine WX.w gN rfl (ZU Xr (Yh fh rfl) (At.fz hS.fz ZCb ZCy) (j:=0) rfl (v:= .int .i64 Zqy) rfl) ?_ rfl;refine WX.w gN rfl (Qy ZoX (ZG lk (ZG lk (ZG lk Yi))) rfl (cs':= [.int .i64 Un.ZR,.bool false,.int .i64 Zqy]) rfl) ?_ rfl;refine WX.hu gN (ZbW hS k1 Uj lk lk (vs:= [.int .i64 Un.ZR,.bool false,.int .i64 Zqy]) rfl rfl rfl rfl (cs':= [.int .i64 Un.ZR,.bool false,.int .i64 Zqy]) rfl) ?_ rfl rfl [] Kq0 Y3.e;rintro ZQx hS;refine r8 ?_;exact XO.Y4 _ hL ⟨_,_,rfl,hS.only (.c k1 (.c k0 (.c k0 .n))),YB⟩
       ·intro hc hL;refine r2 ?_;exact XO.Y4 _ hL ⟨_,_,rfl,hS.only (.c k0 (.c k0 (.c k0 .n))),YB⟩
     ·intro hc hL;refine r4 ?_;refine r1 ?_;exact XO.Y4 _ hL ⟨_,_,rfl,hS.only (.c k0 (.c k0 .n)),YB⟩
  ·intro hc hL;refine r8 ?_;refine r2 ?_;rintro ZQw hS;refine r4 ?_;have hr:=Oi0 hL;subst hr;exact YJ.gen (vs:= [.agg [.int .i64 v60,.bool v61,.int .i64 v62].toArray,.int .i64 v54]) rfl (U0 (YU rfl e52) (U1 Zk0 Uj (hS.atB k0) (j:=0) rfl rfl (ws:= [.int .i64 v60,.bool v61,.int .i64 v62]) rfl) (Z0 lk ZX)) rfl ⟨_,⟨rfl,rfl⟩,hT ▸ hS.only .n⟩
theorem ZDf {F wm:Nat} {h:H} {p0:Zb} {Zi:Option Addr} {Zh:Nat} {Zr:Option Addr} {Zp:Nat} {Zn:Option Addr} {Zm:Nat} {Zq:Option Addr} {Zo:Nat} {Zl:Option Addr} {Zk:Nat} {r:Bool} (ZV:wm <=h.size) (Zz:Sl (Zy .i64) wm h Zi Zh p0.Zv) (ZL:Sl (Z6 (Zy .i64)) wm h Zr Zp p0.boxes) (ZK:Sl (Z6 Zd) wm h Zn Zm p0.entries) (ZM:Sl (Z6 Zf) wm h Zq Zo p0.held) (ZJ:Sl Zg wm h Zl Zk p0.wire) (hL:ZvE F p0=some r):
 WR XX 68 #[.agg [.slice Zi p0.Zv.length Zh,.slice Zr p0.boxes.length Zp,.slice Zn p0.entries.length Zm,.slice Zq p0.held.length Zo,.slice Zl p0.wire.length Zk,.int .i64 p0.said].toArray] wm h (CP (fun(v:Value) (Gb:List (Ast wm))=>v= .bool r∧Gb= []) [] h):=by
 refine bg Tryz.ntmps68 ZV Ye.nil ?_;intro T hT hS;unfold ZvE at hL;refine r3 ?_;rintro _ h2 ⟨b1,eb1,rfl,hS⟩;refine r4 ?_;refine WC.XD mixed Kq0 ?_;refine r16 ?_;refine r16 ?_;refine r8 ?_;refine r3 ?_;refine cn hL ?_ ?_
 ·intro hc hL;refine r6 ?_;refine r1 ?_;exact rt hL hT hS
 ·intro hc hL;refine XA ?_;refine WC.loop (WL.lift hL (fun(v9:Int) (s:Fs)=>∃ (Uf:Fr) (h3:H),s= ⟨Uf,[],h3,none⟩∧Sp wm T h [bx wm b1 [.slice Zi p0.Zv.length Zh,.slice Zr p0.boxes.length Zp,.slice Zn p0.entries.length Zm,.slice Zq p0.held.length Zo,.slice Zl p0.wire.length Zk,.int .i64 p0.said]] h3∧Uf.at 1= .pointer (some ⟨b1,0,none⟩)∧Uf.at 4= .int .i64 (p0.Zv.length:Int)∧Uf.at 46= .slice Zn p0.entries.length Zm∧Uf.at 47= .int .i64 (p0.entries.length:Int)∧Uf.at 48= .int .i64 v9) ⟨_,_,rfl,hS.only (.c k0 .n),YB⟩ ?_);clear hL hS;rintro Zgs v9 s Zj7 hL ⟨Uf,h3,rfl,hS,e5,e6,e7,e8,e10⟩;dsimp only [Zg4] at hL;refine r6 ?_;refine cn hL ?_ ?_
  ·intro hc hL;refine r6 ?_;obtain⟨x12,Zt5,hL⟩:=bind_some hL;obtain⟨b13,o14,⟨a15,c16⟩,ZuM,Zvc,ZuY,ZuQ⟩:=Sl.at_ ZK Zt5;refine WO.w gN rfl (ZC Ur QR lk lk rfl ZuM Zt5) ?_;have Zz1:Sl Zd wm h a15 c16 x12:=ZuQ;refine WO.w gN rfl (ZU UJ (Yh fh rfl) (At.fz hS.fz ZuY Zvc) (j:=0) rfl (v:= .slice a15 x12.length c16) rfl) ?_;refine r8 ?_;refine r3 ?_;refine cn hL ?_ ?_
   ·intro hc hL;refine r8 ?_;refine r3 ?_;exact rt hL hT hS
   ·intro hc hL;refine r6 ?_;refine r1 ?_;exact Ya.Y4 (Zj7 _ _ hL ⟨_,_,rfl,hS.only (.c k0 .n),YB⟩)
  ·intro hc hL;refine XA ?_;refine r3 ?_;refine WC.loop (WL.lift hL (fun(v23:Int) (s:Fs)=>∃ (Zou:Fr) (h17:H),s= ⟨Zou,[],h17,none⟩∧Sp wm T h [bx wm b1 [.slice Zi p0.Zv.length Zh,.slice Zr p0.boxes.length Zp,.slice Zn p0.entries.length Zm,.slice Zq p0.held.length Zo,.slice Zl p0.wire.length Zk,.int .i64 p0.said]] h17∧Zou.at 1= .pointer (some ⟨b1,0,none⟩)∧Zou.at 4= .int .i64 (p0.Zv.length:Int)∧Zou.at 58= .slice Zi p0.Zv.length Zh∧Zou.at 59= .int .i64 (p0.Zv.length:Int)∧Zou.at 60= .int .i64 v23) ⟨_,_,rfl,hS.only (.c k0 .n),YB⟩ ?_);clear hL hS;rintro Wz v23 s Zj3 hL ⟨Zou,h17,rfl,hS,e19,e20,e21,e22,e24⟩;dsimp only [Zed] at hL;refine r6 ?_;refine cn hL ?_ ?_
   ·intro hc hL;refine r6 ?_;refine r1 ?_;obtain⟨WY,Zma,hL⟩:=bind_some hL;obtain⟨b27,o28,_,ZG0,ZId,ZHG,ZNL⟩:=Sl.at_ Zz Zma;refine WO.w gN rfl (ZC YG YN lk lk rfl ZG0 Zma) ?_;refine WO.w gN rfl (ZU Xr (Yh fh rfl) (At.fz hS.fz ZHG ZId) (j:=0) rfl (v:= .int .i64 WY) rfl) ?_;refine r16 ?_;refine cn hL ?_ ?_
    ·intro hc hL;refine XA ?_;exact rt hL hT hS
    ·intro hc hL;refine XA ?_;refine r2 ?_;refine WC.loop (WL.lift hL (fun(p:Int×Int) (s:Fs)=>match p with | (v33,v35)=>∃ (ZbZ:Fr) (h29:H),s= ⟨ZbZ,[],h29,none⟩∧Sp wm T h [bx wm b1 [.slice Zi p0.Zv.length Zh,.slice Zr p0.boxes.length Zp,.slice Zn p0.entries.length Zm,.slice Zq p0.held.length Zo,.slice Zl p0.wire.length Zk,.int .i64 p0.said]] h29∧ZbZ.at 1= .pointer (some ⟨b1,0,none⟩)∧ZbZ.at 4= .int .i64 (p0.Zv.length:Int)∧ZbZ.at 9= .int .i64 v33∧ZbZ.at 10= .int .i64 v35∧ZbZ.at 58= .slice Zi p0.Zv.length Zh∧ZbZ.at 59= .int .i64 (p0.Zv.length:Int)∧ZbZ.at 60= .int .i64 v23) ⟨_,_,rfl,hS.only (.c k0 .n),YB⟩ ?_);clear hL hS;rintro Zgp ⟨v33,v35⟩ s Zj1 hL ⟨ZbZ,h29,rfl,hS,e31,e32,e34,e36,e37,e38,e39⟩;dsimp only [Zec] at hL;refine r6 ?_;refine r1 ?_;refine cn hL ?_ ?_
     ·intro hc hL;refine r16 ?_;refine r3 ?_;refine cn hL ?_ ?_
      ·intro hc hL;refine r16 ?_;exact rt hL hT hS
      ·intro hc hL;refine r6 ?_;refine r1 ?_;obtain⟨x41,Zt0,hL⟩:=bind_some hL;obtain⟨b42,o43,_,ZuF,Zu7,ZuU,ZHg⟩:=Sl.at_ Zz Zt0;refine WO.w gN rfl (ZC YG YN lk lk rfl ZuF Zt0) ?_;refine WO.w gN rfl (ZU Xr (Yh fh rfl) (At.fz hS.fz ZuU Zu7) (j:=0) rfl (v:= .int .i64 x41) rfl) ?_;refine r4 ?_;refine r1 ?_;obtain⟨x44,ZxJ,hL⟩:=Yf hL;obtain⟨b45,o46,_,hQ⟩:=Sl.atG (fun hg=>Zz) ZxJ;have ZGW:=fun hg=>(hQ hg).1
       have ZH8:=fun hg=>(hQ hg).2.1
       have ZHC:=fun hg=>(hQ hg).2.2.1
       have ZNH:=fun hg=>(hQ hg).2.2.2
       refine WO.gv (Zt.no rfl rfl rfl (YP rfl (ZA rfl fh))) rfl (fun hg=>(ZC YG YN (YL (ZA rfl fh) rfl hg) (YL fh rfl hg) rfl (ZGW hg) (ZxJ hg))) ?_;refine WO.gv (Zt.no rfl rfl rfl (YU rfl fh)) rfl (fun hg=>(ZU Xr (YL fh rfl hg) (At.fz hS.fz (ZHC hg) (ZH8 hg)) (j:=0) rfl (v:= .int .i64 x44) rfl)) ?_;refine r4 ?_;refine r1 ?_;refine cn hL ?_ ?_
       ·intro hc hL;refine XA ?_;refine r3 ?_;exact rt hL hT hS
       ·intro hc hL;refine r6 ?_;refine r1 ?_;obtain⟨x47,ZFo,hL⟩:=bind_some hL;obtain⟨b48,o49,_,ZGU,ZH6,ZHB,ZNF⟩:=Sl.at_ Zz ZFo;refine WO.w gN rfl (ZC YG YN lk lk rfl ZGU ZFo) ?_;refine WO.w gN rfl (ZU Xr (Yh fh rfl) (At.fz hS.fz ZHB ZH6) (j:=0) rfl (v:= .int .i64 x47) rfl) ?_;refine r2 ?_;exact Ya.Y4 (Zj1 _ _ hL ⟨_,_,rfl,hS.only (.c k0 .n),YB⟩)
     ·intro hc hL;refine r8 ?_;refine r2 ?_;exact Ya.Y4 (Zj3 _ _ hL ⟨_,_,rfl,hS.only (.c k0 .n),YB⟩)
   ·intro hc hL;refine r8 ?_;refine r3 ?_;exact rt hL hT hS
theorem ZDd {F wm:Nat} {h:H} {p0:Zb} {Zi:Option Addr} {Zh:Nat} {Zr:Option Addr} {Zp:Nat} {Zn:Option Addr} {Zm:Nat} {Zq:Option Addr} {Zo:Nat} {Zl:Option Addr} {Zk:Nat} {r:Bool} (ZV:wm <=h.size) (Zz:Sl (Zy .i64) wm h Zi Zh p0.Zv) (ZL:Sl (Z6 (Zy .i64)) wm h Zr Zp p0.boxes) (ZK:Sl (Z6 Zd) wm h Zn Zm p0.entries) (ZM:Sl (Z6 Zf) wm h Zq Zo p0.held) (ZJ:Sl Zg wm h Zl Zk p0.wire) (hL:Zry F p0=some r):
 WR XX 69 #[.agg [.slice Zi p0.Zv.length Zh,.slice Zr p0.boxes.length Zp,.slice Zn p0.entries.length Zm,.slice Zq p0.held.length Zo,.slice Zl p0.wire.length Zk,.int .i64 p0.said].toArray] wm h (CP (fun(v:Value) (Gb:List (Ast wm))=>v= .bool r∧Gb= []) [] h):=by
 refine bg Tryz.ntmps69 ZV Ye.nil ?_;intro T hT hS;unfold Zry at hL;refine r3 ?_;rintro _ h2 ⟨b1,eb1,rfl,hS⟩;refine XA ?_;refine r1 ?_;refine WC.loop (WL.lift hL (fun(v8:Int) (s:Fs)=>∃ (Uf:Fr) (h3:H),s= ⟨Uf,[],h3,none⟩∧Sp wm T h [bx wm b1 [.slice Zi p0.Zv.length Zh,.slice Zr p0.boxes.length Zp,.slice Zn p0.entries.length Zm,.slice Zq p0.held.length Zo,.slice Zl p0.wire.length Zk,.int .i64 p0.said]] h3∧Uf.at 1= .pointer (some ⟨b1,0,none⟩)∧Uf.at 8= .slice Zl p0.wire.length Zk∧Uf.at 9= .int .i64 (p0.wire.length:Int)∧Uf.at 10= .int .i64 v8) ⟨_,_,rfl,hS.only (.c k0 .n),YB⟩ ?_);clear hL hS;rintro Jt v8 s Zj8 hL ⟨Uf,h3,rfl,hS,e5,e6,e7,e9⟩;dsimp only [Kv] at hL;refine r6 ?_;refine cn hL ?_ ?_
 ·intro hc hL;refine r2 ?_;refine WC.Zco (r:=r) (fun(_:Unit) (s:Fs)=>∃ (Zrq:Fr) (h11:H),s= ⟨Zrq,[],h11,none⟩∧Sp wm T h [bx wm b1 [.slice Zi p0.Zv.length Zh,.slice Zr p0.boxes.length Zp,.slice Zn p0.entries.length Zm,.slice Zq p0.held.length Zo,.slice Zl p0.wire.length Zk,.int .i64 p0.said]] h11∧Zrq.at 1= .pointer (some ⟨b1,0,none⟩)∧Zrq.at 8= .slice Zl p0.wire.length Zk∧Zrq.at 9= .int .i64 (p0.wire.length:Int)∧Zrq.at 10= .int .i64 v8) (Zaf v8 Jt) ?_ ?_
  ·clear hL hS;rintro _ s hL ⟨Zrq,h11,rfl,hS,e13,e14,e15,e16⟩;dsimp only [Zaf] at hL;refine r4 ?_;exact Ya.Y4 (Zj8 _ _ hL ⟨_,_,rfl,hS.only (.c k0 .n),YB⟩)
  ·skip;refine r3 ?_;obtain⟨XQ,Zmd,hL⟩:=bind_some hL;obtain⟨b18,o19,⟨⟨a20,c21⟩,⟨a22,c23⟩⟩,ZG4,ZIh,ZHL,ZAl⟩:=Sl.at_ ZJ Zmd;refine WO.w gN rfl (ZC Ja YF lk lk rfl ZG4 Zmd) ?_;have Zz0:Sl (Zy .i64) wm h a20 c21 XQ.places:=ZAl.1;have ZzZ:Sl (Zy .i64) wm h a22 c23 XQ.ZW:=ZAl.2;refine WO.w gN rfl (YX Km YF (Yh fh rfl) (At.fz hS.fz ZHL ZIh) (j:=0) rfl rfl (ws:= [.int .i64 XQ.kind,.int .i64 XQ.ZR,.int .i64 XQ.Zu.msg,.int .i64 XQ.Zu.place,.int .i64 XQ.Zu.from_,.int .i64 XQ.Zu.age,.int .i64 XQ.Zu.hops,.slice a20 XQ.places.length c21,.slice a22 XQ.ZW.length c23,.int .i64 XQ.place,.int .i64 XQ.at_,.int .i64 XQ.age]) rfl) ?_;refine r1 ?_;rintro _ h25 ⟨b24,ZIw,rfl,hS⟩;refine r1 ?_;rintro h26 hS;refine r8 ?_;refine r2 ?_;refine WC.Zco (r:=r) (fun(v35:Bool) (s:Fs)=>∃ (Zkb:Fr) (h27:H),s= ⟨Zkb,[],h27,none⟩∧Sp wm T h [bx wm b1 [.slice Zi p0.Zv.length Zh,.slice Zr p0.boxes.length Zp,.slice Zn p0.entries.length Zm,.slice Zq p0.held.length Zo,.slice Zl p0.wire.length Zk,.int .i64 p0.said],bx wm b24 [.int .i64 XQ.kind,.int .i64 XQ.ZR,.int .i64 XQ.Zu.msg,.int .i64 XQ.Zu.place,.int .i64 XQ.Zu.from_,.int .i64 XQ.Zu.age,.int .i64 XQ.Zu.hops,.slice a20 XQ.places.length c21,.slice a22 XQ.ZW.length c23,.int .i64 XQ.place,.int .i64 XQ.at_,.int .i64 XQ.age]] h27∧Zkb.at 1= .pointer (some ⟨b1,0,none⟩)∧Zkb.at 4= .pointer (some ⟨b24,0,none⟩)∧Zkb.at 8= .slice Zl p0.wire.length Zk∧Zkb.at 9= .int .i64 (p0.wire.length:Int)∧Zkb.at 10= .int .i64 v8∧Zkb.at 15= .int .i64 XQ.kind∧Zkb.at 16= .bool v35) (ZcB F p0 v8 Jt XQ) ?_ ?_
   ·clear hL hS;rintro v35 s hL ⟨Zkb,h27,rfl,hS,e29,e30,e31,e32,e33,e34,e36⟩;dsimp only [ZcB] at hL;refine cn hL ?_ ?_
    ·intro hc hL;refine r1 ?_;refine ZeT.other rfl ?_;refine r2 ?_;exact XO.Y4 _ hL ⟨_,_,rfl,hS.only (.c k0 .n),YB⟩
    ·intro hc hL;refine r6 ?_;refine cn hL ?_ ?_
     ·intro hc hL;refine r16 ?_;refine r1 ?_;refine cn hL ?_ ?_
      ·intro hc hL;refine r8 ?_;refine r1 ?_;refine XO.ret ?_;refine r3 ?_;exact rt hL hT hS
      ·intro hc hL;refine XA ?_;refine WC.loop (WL.lift hL (fun(v46:Int) (s:Fs)=>∃ (Zig:Fr) (h37:H),s= ⟨Zig,[],h37,none⟩∧Sp wm T h [bx wm b1 [.slice Zi p0.Zv.length Zh,.slice Zr p0.boxes.length Zp,.slice Zn p0.entries.length Zm,.slice Zq p0.held.length Zo,.slice Zl p0.wire.length Zk,.int .i64 p0.said],bx wm b24 [.int .i64 XQ.kind,.int .i64 XQ.ZR,.int .i64 XQ.Zu.msg,.int .i64 XQ.Zu.place,.int .i64 XQ.Zu.from_,.int .i64 XQ.Zu.age,.int .i64 XQ.Zu.hops,.slice a20 XQ.places.length c21,.slice a22 XQ.ZW.length c23,.int .i64 XQ.place,.int .i64 XQ.at_,.int .i64 XQ.age]] h37∧Zig.at 1= .pointer (some ⟨b1,0,none⟩)∧Zig.at 4= .pointer (some ⟨b24,0,none⟩)∧Zig.at 8= .slice Zl p0.wire.length Zk∧Zig.at 9= .int .i64 (p0.wire.length:Int)∧Zig.at 10= .int .i64 v8∧Zig.at 35= .slice a20 XQ.places.length c21∧Zig.at 36= .int .i64 (XQ.places.length:Int)∧Zig.at 37= .int .i64 v46) ⟨_,_,rfl,hS.only (.c k0 (.c k0 .n)),YB⟩ ?_);clear hL hS;rintro Zgo v46 s Zj0 hL ⟨Zig,h37,rfl,hS,e39,e40,e41,e42,e43,e44,e45,e47⟩;dsimp only [ZcC] at hL;refine r6 ?_;refine cn hL ?_ ?_
       ·intro hc hL;refine r6 ?_;refine r1 ?_;obtain⟨x49,Zl8,hL⟩:=bind_some hL;obtain⟨b50,o51,_,Zmq,Zmw,ZuS,Zp4⟩:=Sl.at_ Zz0 Zl8;refine WO.w gN rfl (ZC YG YN lk lk rfl Zmq Zl8) ?_;refine WO.w gN rfl (ZU Xr (Yh fh rfl) (At.fz hS.fz ZuS Zmw) (j:=0) rfl (v:= .int .i64 x49) rfl) ?_;refine r16 ?_;refine r8 ?_;obtain⟨x52,ZtZ,hL⟩:=Yf hL;obtain⟨b53,o54,_,hQ⟩:=Sl.atG (fun hg=>Zz0) ZtZ;have ZuC:=fun hg=>(hQ hg).1
        have Zu4:=fun hg=>(hQ hg).2.1
        have ZHz:=fun hg=>(hQ hg).2.2.1
        have ZHe:=fun hg=>(hQ hg).2.2.2
        refine WO.gv (Zt.ZhW rfl rfl rfl (YU rfl (ZA rfl fh))) rfl (fun hg=>(ZC YG YN (YL (YP rfl fh) rfl hg) (YL fh rfl hg) rfl (ZuC hg) (ZtZ hg))) ?_;refine WO.gv (Zt.ZhW rfl rfl rfl (YU rfl (YP rfl fh))) rfl (fun hg=>(ZU Xr (YL fh rfl hg) (At.fz hS.fz (ZHz hg) (Zu4 hg)) (j:=0) rfl (v:= .int .i64 x52) rfl)) ?_;refine r1 ?_;refine WO.gv (Zt.no rfl rfl rfl (YK rfl (YP rfl (ZA rfl fh)))) rfl (fun hg=>(ZhI (YL (YK rfl fh) rfl hg) (Zfa fh hg) lk)) ?_;refine r4 ?_;refine r1 ?_;obtain⟨x55,Zn2,hL⟩:=Yf hL;obtain⟨b56,o57,_,hQ⟩:=Sl.atG (fun hg=>ZzZ) Zn2;have ZuB:=fun hg=>(hQ hg).1
        have Zu2:=fun hg=>(hQ hg).2.1
        have ZHx:=fun hg=>(hQ hg).2.2.1
        have ZHc:=fun hg=>(hQ hg).2.2.2
        refine WO.gv (Zt.no rfl rfl rfl (YP rfl (ZA rfl fh))) rfl (fun hg=>(ZC YG YN (YL (ZA rfl fh) rfl hg) (YL fh rfl hg) rfl (ZuB hg) (Zn2 hg))) ?_;refine WO.gv (Zt.no rfl rfl rfl (YU rfl fh)) rfl (fun hg=>(ZU Xr (YL fh rfl hg) (At.fz hS.fz (ZHx hg) (Zu2 hg)) (j:=0) rfl (v:= .int .i64 x55) rfl)) ?_;refine r6 ?_;obtain⟨x58,ZFl,hL⟩:=Yf hL;obtain⟨b59,o60,_,hQ⟩:=Sl.atG (fun hg=>ZzZ) ZFl;have ZGR:=fun hg=>(hQ hg).1
        have ZH3:=fun hg=>(hQ hg).2.1
        have ZHv:=fun hg=>(hQ hg).2.2.1
        have ZNC:=fun hg=>(hQ hg).2.2.2
        refine WO.gv (Zt.no rfl rfl rfl (YP rfl (ZA rfl fh))) rfl (fun hg=>(ZC YG YN (YL (ZA rfl fh) rfl hg) (YL fh rfl hg) rfl (ZGR hg) (ZFl hg))) ?_;refine WO.gv (Zt.no rfl rfl rfl (YU rfl fh)) rfl (fun hg=>(ZU Xr (YL fh rfl hg) (At.fz hS.fz (ZHv hg) (ZH3 hg)) (j:=0) rfl (v:= .int .i64 x58) rfl)) ?_;refine r4 ?_;refine cn hL ?_ ?_
        ·intro hc hL;refine r8 ?_;refine r3 ?_;refine XO.ret ?_;refine r3 ?_;exact rt hL hT hS
        ·intro hc hL;refine r6 ?_;refine r1 ?_;exact Ya.Y4 (Zj0 _ _ hL ⟨_,_,rfl,hS.only (.c k0 (.c k0 .n)),YB⟩)
       ·intro hc hL;refine r4 ?_;refine r1 ?_;exact XO.Y4 _ hL ⟨_,_,rfl,hS.only (.c k0 .n),YB⟩
     ·intro hc hL;refine r8 ?_;refine r1 ?_;refine XO.ret ?_;refine r3 ?_;exact rt hL hT hS
   ·skip;refine r6 ?_;refine cn hL ?_ ?_
    ·intro hc hL;refine r1 ?_;exact XO.Y4 _ hL ⟨_,_,rfl,hS.only (.c k1 (.c k0 .n)),YB⟩
    ·intro hc hL;refine r4 ?_;exact XO.Y4 _ hL ⟨_,_,rfl,hS.only (.c k1 (.c k0 .n)),YB⟩
 ·intro hc hL;refine r8 ?_;refine r3 ?_;exact rt hL hT hS
theorem ZDe {F:Nat} {h:H} {p0:Zb} {Zi:Option Addr} {Zh:Nat} {Zr:Option Addr} {Zp:Nat} {Zn:Option Addr} {Zm:Nat} {Zq:Option Addr} {Zo:Nat} {Zl:Option Addr} {Zk:Nat} {r:Bool} (Zz:Sl (Zy .i64) h.size h Zi Zh p0.Zv) (ZL:Sl (Z6 (Zy .i64)) h.size h Zr Zp p0.boxes) (ZK:Sl (Z6 Zd) h.size h Zn Zm p0.entries) (ZM:Sl (Z6 Zf) h.size h Zq Zo p0.held) (ZJ:Sl Zg h.size h Zl Zk p0.wire) (hL:Zry F p0=some r):Pure XX 69 #[.agg [.slice Zi p0.Zv.length Zh,.slice Zr p0.boxes.length Zp,.slice Zn p0.entries.length Zm,.slice Zq p0.held.length Zo,.slice Zl p0.wire.length Zk,.int .i64 p0.said].toArray] h (.bool r):=
 WR.XY rfl (ZDd (Nat.le_refl _) Zz ZL ZK ZM ZJ hL)
theorem ZC8 {F wm:Nat} {h:H} {p0:ZQ} {Zi:Option Addr} {Zh:Nat} {Zr:Option Addr} {Zp:Nat} {Zn:Option Addr} {Zm:Nat} {Zq:Option Addr} {Zo:Nat} {Zl:Option Addr} {Zk:Nat} {Z9:Option Addr} {Z8 YR UE:Nat} {r:Bool} (ZV:wm <=h.size) (Xx:At h YR UE [.slice Zi p0.Za.Zv.length Zh,.slice Zr p0.Za.boxes.length Zp,.slice Zn p0.Za.entries.length Zm,.slice Zq p0.Za.held.length Zo,.slice Zl p0.Za.wire.length Zk,.int .i64 p0.Za.said,.slice Z9 p0.YH.length Z8]) (Xw:KU wm h YR) (Zz:Sl (Zy .i64) wm h Zi Zh p0.Za.Zv) (ZL:Sl (Z6 (Zy .i64)) wm h Zr Zp p0.Za.boxes) (ZK:Sl (Z6 Zd) wm h Zn Zm p0.Za.entries) (ZM:Sl (Z6 Zf) wm h Zq Zo p0.Za.held) (ZJ:Sl Zg wm h Zl Zk p0.Za.wire) (YW:Sl Xb wm h Z9 Z8 p0.YH) (hL:Zrw F p0=some r):
 WR XX 72 #[.pointer (some ⟨YR,UE,none⟩)] wm h (CP (fun(v:Value) (Gb:List (Ast wm))=>v= .bool r∧Gb= []) [] h):=by
 refine bg Tryz.ntmps72 ZV Ye.nil ?_;intro T hT hS;unfold Zrw at hL;refine XA ?_;refine WO.w gN rfl (ZU Xr (Yh fh rfl) (At.fz hS.fz Xw Xx) (j:=5) rfl (v:= .int .i64 p0.Za.said) rfl) ?_;refine r6 ?_;refine WO.gv (Zt.no rfl rfl rfl (YU rfl fh)) rfl (fun hg=>(ZU Xr (YL fh rfl hg) (At.fz hS.fz Xw Xx) (j:=5) rfl (v:= .int .i64 p0.Za.said) rfl)) ?_;refine r4 ?_;refine cn hL ?_ ?_
 ·intro hc hL;refine r6 ?_;refine r1 ?_;exact rt hL hT hS
 ·intro hc hL;refine XA ?_;refine r2 ?_;refine WO.w gN rfl (ZU Zwn (Yh fh rfl) (At.fz hS.fz Xw Xx) (j:=1) rfl (v:= .slice Zr p0.Za.boxes.length Zp) rfl) ?_;refine r4 ?_;refine r1 ?_;have hS:=hS.nil (e:= (Zy .i64));refine WC.loop (WL.lift hL (fun(p:(List Int)×Int) (s:Fs)=>match p with | (v4,v11)=>∃ (Jk:Fr) (h1:H) (a5:Option Addr) (c6:Nat) (n7:Nat),s= ⟨Jk,[],h1,none⟩∧Sp wm T h [ow wm (Zy .i64) a5 n7 c6 v4] h1∧Jk.at 0= .pointer (some ⟨YR,UE,none⟩)∧Jk.at 3= .slice a5 n7 c6∧Jk.at 32= .slice Zr p0.Za.boxes.length Zp∧Jk.at 33= .int .i64 (p0.Za.boxes.length:Int)∧Jk.at 34= .int .i64 v11) ⟨_,_,none,0,0,rfl,hS.only (.c k0 .n),YB⟩ ?_);clear hL hS;rintro X8 ⟨v4,v11⟩ s JY hL ⟨Jk,h1,a5,c6,n7,rfl,hS,e3,e8,e9,e10,e12⟩;obtain rfl:=hS.on k0;dsimp only [Zg2] at hL;refine r6 ?_;refine cn hL ?_ ?_
  ·intro hc hL;refine r6 ?_;obtain⟨x14,Zda,hL⟩:=bind_some hL;obtain⟨b15,o16,⟨a17,c18⟩,Zdb,Zdd,Zdc,Ze4⟩:=Sl.at_ ZL Zda;refine WO.w gN rfl (ZC Zao Jr lk lk rfl Zdb Zda) ?_;have ZgG:Sl (Zy .i64) wm h a17 c18 x14:=Ze4;refine WO.w gN rfl (ZU Zci (Yh fh rfl) (At.fz hS.fz Zdc Zdd) (j:=0) rfl (v:= .slice a17 x14.length c18) rfl) ?_;refine r6 ?_;obtain⟨z19,ZKB,hL⟩:=bind_some hL;refine WO.hv gN rfl (Zax (e:= (Zy .i64)) hS k0 Ux lk lk (Sl.src (hS.sl ZgG)) rfl ZKB) ?_;rintro _ h22 ⟨a20,c21,rfl,hS⟩;refine r8 ?_;exact Ya.Y4 (JY _ _ hL ⟨_,_,a20,c21,z19.length,rfl,hS.only (.c k0 .n),YB⟩)
  ·intro hc hL;refine XA ?_;refine WO.w gN rfl (ZU Zqq (Yh fh rfl) (At.fz hS.fz Xw Xx) (j:=3) rfl (v:= .slice Zq p0.Za.held.length Zo) rfl) ?_;refine r4 ?_;refine r1 ?_;refine WC.loop (WL.lift hL (fun(p:(List Int)×Int) (s:Fs)=>match p with | (v26,v33)=>∃ (J8:Fr) (h23:H) (a27:Option Addr) (c28:Nat) (n29:Nat),s= ⟨J8,[],h23,none⟩∧Sp wm T h [ow wm (Zy .i64) a27 n29 c28 v26] h23∧J8.at 0= .pointer (some ⟨YR,UE,none⟩)∧J8.at 3= .slice a27 n29 c28∧J8.at 46= .slice Zq p0.Za.held.length Zo∧J8.at 47= .int .i64 (p0.Za.held.length:Int)∧J8.at 48= .int .i64 v33) ⟨_,_,a5,c6,v4.length,rfl,hS.only (.c k0 .n),YB⟩ ?_);clear hL hS;rintro ZjP ⟨v26,v33⟩ s Zx5 hL ⟨J8,h23,a27,c28,n29,rfl,hS,e25,e30,e31,e32,e34⟩;obtain rfl:=hS.on k0;dsimp only [Zg1] at hL;refine r6 ?_;refine cn hL ?_ ?_
   ·intro hc hL;refine r6 ?_;obtain⟨x36,Zt1,hL⟩:=bind_some hL;obtain⟨b37,o38,⟨a39,c40⟩,ZuG,Zu8,ZuV,ZAj⟩:=Sl.at_ ZM Zt1;refine WO.w gN rfl (ZC WZ QO lk lk rfl ZuG Zt1) ?_;have ZFM:Sl Zf wm h a39 c40 x36:=ZAj;refine WO.w gN rfl (ZU Zch (Yh fh rfl) (At.fz hS.fz ZuV Zu8) (j:=0) rfl (v:= .slice a39 x36.length c40) rfl) ?_;refine r8 ?_;refine r3 ?_;refine WC.loop (WL.lift hL (fun(p:(List Int)×Int) (s:Fs)=>match p with | (v44,v54)=>∃ (Zif:Fr) (h41:H) (a45:Option Addr) (c46:Nat) (n47:Nat),s= ⟨Zif,[],h41,none⟩∧Sp wm T h [ow wm (Zy .i64) a45 n47 c46 v44] h41∧Zif.at 0= .pointer (some ⟨YR,UE,none⟩)∧Zif.at 3= .slice a45 n47 c46∧Zif.at 46= .slice Zq p0.Za.held.length Zo∧Zif.at 47= .int .i64 (p0.Za.held.length:Int)∧Zif.at 48= .int .i64 v33∧Zif.at 52= .slice a39 x36.length c40∧Zif.at 53= .int .i64 (x36.length:Int)∧Zif.at 54= .int .i64 v54) ⟨_,_,a27,c28,v26.length,rfl,hS.only (.c k0 .n),YB⟩ ?_);clear hL hS;rintro ZtA ⟨v44,v54⟩ s Zx0 hL ⟨Zif,h41,a45,c46,n47,rfl,hS,e43,e48,e49,e50,e51,e52,e53,e55⟩;obtain rfl:=hS.on k0;dsimp only [Zkm] at hL;refine r6 ?_;refine cn hL ?_ ?_
    ·intro hc hL;refine r6 ?_;obtain⟨x57,ZFm,hL⟩:=bind_some hL;obtain⟨b58,o59,_,ZGS,ZH4,ZHw,ZND⟩:=Sl.at_ ZFM ZFm;refine WO.w gN rfl (ZC Zan JU lk lk rfl ZGS ZFm) ?_;refine WO.w gN rfl (YX Zji JU (Yh fh rfl) (At.fz hS.fz ZHw ZH4) (j:=0) rfl rfl (ws:= [.int .i64 x57.msg,.int .i64 x57.place,.int .i64 x57.from_,.int .i64 x57.age,.int .i64 x57.hops]) rfl) ?_;refine r1 ?_;rintro _ h61 ⟨b60,ZLY,rfl,hS⟩;refine r1 ?_;rintro h62 hS;refine r6 ?_;refine WO.hn gN rfl (ZbX (e:= (Zy .i64)) hS YG YN ZfW rfl rfl rfl (ZG lk Yi) rfl [((),x57.msg)] rfl (xs:= [x57.msg]) rfl (by intro q hq;simp only [List.mem_cons,List.not_mem_nil,or_false] at hq;subst hq;exact trivial) rfl) ?_;rintro _ h64 ⟨b63,ZQR,rfl,hS⟩;obtain⟨z65,ZKv,hL⟩:=bind_some hL;refine WO.hv gN rfl (Zax (e:= (Zy .i64)) hS k2 Ux lk lk (hS.JP k0) (hS.on k0) ZKv) ?_;rintro _ h68 ⟨a66,c67,rfl,hS⟩;refine r8 ?_;exact Ya.Y4 (Zx0 _ _ hL ⟨_,_,a66,c67,z65.length,rfl,hS.only (.c k0 .n),YB⟩)
    ·intro hc hL;refine r8 ?_;refine r2 ?_;exact Ya.Y4 (Zx5 _ _ hL ⟨_,_,a45,c46,v44.length,rfl,hS.only (.c k0 .n),YB⟩)
   ·intro hc hL;refine XA ?_;refine WO.w gN rfl (ZU Zwm (Yh fh rfl) (At.fz hS.fz Xw Xx) (j:=4) rfl (v:= .slice Zl p0.Za.wire.length Zk) rfl) ?_;refine r4 ?_;refine r1 ?_;refine WC.loop (WL.lift hL (fun(p:(List Int)×Int) (s:Fs)=>match p with | (v72,v79)=>∃ (Zoo:Fr) (h69:H) (a73:Option Addr) (c74:Nat) (n75:Nat),s= ⟨Zoo,[],h69,none⟩∧Sp wm T h [ow wm (Zy .i64) a73 n75 c74 v72] h69∧Zoo.at 0= .pointer (some ⟨YR,UE,none⟩)∧Zoo.at 3= .slice a73 n75 c74∧Zoo.at 69= .slice Zl p0.Za.wire.length Zk∧Zoo.at 70= .int .i64 (p0.Za.wire.length:Int)∧Zoo.at 71= .int .i64 v79) ⟨_,_,a27,c28,v26.length,rfl,hS.only (.c k0 .n),YB⟩ ?_);clear hL hS;rintro ZdZ ⟨v72,v79⟩ s ZxS hL ⟨Zoo,h69,a73,c74,n75,rfl,hS,e71,e76,e77,e78,e80⟩;obtain rfl:=hS.on k0;dsimp only [Zg0] at hL;refine r6 ?_;refine cn hL ?_ ?_
    ·intro hc hL;refine r2 ?_;refine WC.Zco (r:=r) (fun(v85:(List Int)) (s:Fs)=>∃ (Zdg:Fr) (h82:H) (a86:Option Addr) (c87:Nat) (n88:Nat),s= ⟨Zdg,[],h82,none⟩∧Sp wm T h [ow wm (Zy .i64) a86 n88 c87 v85] h82∧Zdg.at 0= .pointer (some ⟨YR,UE,none⟩)∧Zdg.at 3= .slice a86 n88 c87∧Zdg.at 69= .slice Zl p0.Za.wire.length Zk∧Zdg.at 70= .int .i64 (p0.Za.wire.length:Int)∧Zdg.at 71= .int .i64 v79) (ZgZ v79 ZdZ) ?_ ?_
     ·clear hL hS;rintro v85 s hL ⟨Zdg,h82,a86,c87,n88,rfl,hS,e84,e89,e90,e91,e92⟩;obtain rfl:=hS.on k0;dsimp only [ZgZ] at hL;refine r4 ?_;exact Ya.Y4 (ZxS _ _ hL ⟨_,_,a86,c87,v85.length,rfl,hS.only (.c k0 .n),YB⟩)
     ·skip;refine r3 ?_;obtain⟨x93,hx93,hL⟩:=bind_some hL;obtain⟨b94,o95,⟨⟨a96,c97⟩,⟨a98,c99⟩⟩,Zuz,ZuZ,ZuR,Zms⟩:=Sl.at_ ZJ hx93;refine WO.w gN rfl (ZC Ja YF lk lk rfl Zuz hx93) ?_;have ZFA:Sl (Zy .i64) wm h a96 c97 x93.places:=Zms.1;have ZFz:Sl (Zy .i64) wm h a98 c99 x93.ZW:=Zms.2;refine WO.w gN rfl (YX Km YF (Yh fh rfl) (At.fz hS.fz ZuR ZuZ) (j:=0) rfl rfl (ws:= [.int .i64 x93.kind,.int .i64 x93.ZR,.int .i64 x93.Zu.msg,.int .i64 x93.Zu.place,.int .i64 x93.Zu.from_,.int .i64 x93.Zu.age,.int .i64 x93.Zu.hops,.slice a96 x93.places.length c97,.slice a98 x93.ZW.length c99,.int .i64 x93.place,.int .i64 x93.at_,.int .i64 x93.age]) rfl) ?_;refine r1 ?_;rintro _ Zvd ⟨ZMv,ZIy,rfl,hS⟩;refine r1 ?_;rintro ZIp hS;refine r8 ?_;refine r1 ?_;refine cn hL ?_ ?_
      ·intro hc hL;refine r4 ?_;refine r1 ?_;refine WO.hn gN rfl (ZbX (e:= (Zy .i64)) hS YG YN ZfW rfl rfl rfl (ZG lk Yi) rfl [((),x93.Zu.msg)] rfl (xs:= [x93.Zu.msg]) rfl (by intro q hq;simp only [List.mem_cons,List.not_mem_nil,or_false] at hq;subst hq;exact trivial) rfl) ?_;rintro _ ZLP ⟨ZMu,ZIx,rfl,hS⟩;obtain⟨z105,ZtW,hL⟩:=bind_some hL;refine WO.hv gN rfl (Zax (e:= (Zy .i64)) hS k2 Ux lk lk (hS.JP k0) (hS.on k0) ZtW) ?_;rintro _ ZLO ⟨Zsa,c107,rfl,hS⟩;refine r3 ?_;exact XO.Y4 _ hL ⟨_,_,Zsa,c107,z105.length,rfl,hS.only (.c k0 .n),YB⟩
      ·intro hc hL;refine r2 ?_;exact XO.Y4 _ hL ⟨_,_,a73,c74,v72.length,rfl,hS.only (.c k1 .n),YB⟩
    ·intro hc hL;refine r8 ?_;obtain⟨Zf0,Zt6,hL⟩:=bind_some hL;refine WO.cl gN rfl (XP.fn ZF7 (Ze lk ZH)) hS (.c k0 .n) (fun g' hz hf hO=>ZCV (by rw [hz];exact hS.hw) hO Zt6) ?_;rintro _ ZQB _ ⟨rfl,rfl⟩ hS;refine r6 ?_;refine WO.w gN rfl (ZfO YG lk (congrArg Nat.cast (hS.on k0))) ?_;refine r4 ?_;refine WC.loop (WL.lift hL (fun(Zfi:Int) (s:Fs)=>∃ (JZ:Fr) (h112:H),s= ⟨JZ,[],h112,none⟩∧Sp wm T h [ow wm (Zy .i64) a73 v72.length c74 Zf0] h112∧JZ.at 0= .pointer (some ⟨YR,UE,none⟩)∧JZ.at 3= .slice a73 v72.length c74∧JZ.at 87= .slice a73 v72.length c74∧JZ.at 88= .int .i64 (Zf0.length:Int)∧JZ.at 89= .int .i64 Zfi) ⟨_,_,rfl,hS.only (.c k0 .n),YB⟩ ?_);clear hL hS;rintro ZpK Zfi s Zuj hL ⟨JZ,h112,rfl,hS,ZDA,e115,e116,e117,e119⟩;dsimp only [Zae] at hL;refine r6 ?_;refine cn hL ?_ ?_
     ·intro hc hL;refine r6 ?_;refine r1 ?_;obtain⟨ZfY,Zmg,hL⟩:=bind_some hL;obtain⟨ZMt,ZKp,_,Zoh,Zok,ZB5⟩:=Src.at_ (hS.JP k0) Zmg;refine WO.w gN rfl (ZC YG YN lk lk (hS.on k0) Zoh Zmg) ?_;refine WO.w gN rfl (ZU Xr (Yh fh rfl) Zok (j:=0) rfl (v:= .int .i64 ZfY) rfl) ?_;refine r8 ?_;refine r3 ?_;refine cn hL ?_ ?_
      ·intro hc hL;refine r8 ?_;refine r3 ?_;exact rt hL hT hS
      ·intro hc hL;refine r6 ?_;refine r1 ?_;exact Ya.Y4 (Zuj _ _ hL ⟨_,_,rfl,hS.only (.c k0 .n),YB⟩)
     ·intro hc hL;refine r8 ?_;refine WO.w gN rfl (ZfO YG lk (congrArg Nat.cast (hS.on k0))) ?_;refine r4 ?_;refine WO.w gN rfl (ZU Xr (Yh fh rfl) (At.fz hS.fz Xw Xx) (j:=5) rfl (v:= .int .i64 p0.Za.said) rfl) ?_;refine r4 ?_;refine r1 ?_;exact rt hL hT hS
theorem ZC9 {F:Nat} {h:H} {p0:ZQ} {Zi:Option Addr} {Zh:Nat} {Zr:Option Addr} {Zp:Nat} {Zn:Option Addr} {Zm:Nat} {Zq:Option Addr} {Zo:Nat} {Zl:Option Addr} {Zk:Nat} {Z9:Option Addr} {Z8 YR UE:Nat} {r:Bool} (Xx:At h YR UE [.slice Zi p0.Za.Zv.length Zh,.slice Zr p0.Za.boxes.length Zp,.slice Zn p0.Za.entries.length Zm,.slice Zq p0.Za.held.length Zo,.slice Zl p0.Za.wire.length Zk,.int .i64 p0.Za.said,.slice Z9 p0.YH.length Z8]) (Xw:KU h.size h YR) (Zz:Sl (Zy .i64) h.size h Zi Zh p0.Za.Zv) (ZL:Sl (Z6 (Zy .i64)) h.size h Zr Zp p0.Za.boxes) (ZK:Sl (Z6 Zd) h.size h Zn Zm p0.Za.entries) (ZM:Sl (Z6 Zf) h.size h Zq Zo p0.Za.held) (ZJ:Sl Zg h.size h Zl Zk p0.Za.wire) (YW:Sl Xb h.size h Z9 Z8 p0.YH) (hL:Zrw F p0=some r):Pure XX 72 #[.pointer (some ⟨YR,UE,none⟩)] h (.bool r):=
 WR.XY rfl (ZC8 (Nat.le_refl _) Xx Xw Zz ZL ZK ZM ZJ YW hL)
end Go.Proofs.YtbmbbcaaimehkaaGreat
end
end
section
namespace Go.Proofs.YtbmbbcaaimehkaaGreat
open Go.Lf
def Zkl (p0:(List Int)):Option (List Int):=
 (app 8 ([]:List Int) p0).bind fun z3=>some z3
def Zkj (p0:(List (List Int))):(List (List Int))×Int ->((List (List Int))×Int ->Option (List (List Int))) ->Option (List (List Int)):=fun(v3,v11) X8=>
 (bif decide (v11 < (p0.length:Int)) then(ZN p0 v11).bind fun x14=>(Zkl x14).bind fun x19=>(app 24 v3 [x19]).bind fun z27=>X8 (z27,Xl (v11 + 1)) else some v3)
def Zvz (F:Nat) (p0:(List (List Int))):Option (List (List Int)):=
 loop F (Zkj p0) ([],0)
def Zrt (p0:Zc):Option Bool:=
 (bif(p0.kind==1) then some ((!(((p0.place !=0) || (p0.at_ !=0)) || (p0.age !=0))) && (!((decide ((p0.places.length:Int) > 0)) || (decide ((p0.ZW.length:Int) > 0))))) else(bif(p0.kind==2) then some ((((!(((p0.place !=0) || (p0.at_ !=0)) || (p0.age !=0))) && (!(!(QZ p0.Zu (Zj.mk 0 0 0 0 0))))) && (decide ((p0.places.length:Int) > 0))) && ((p0.places.length:Int)== (p0.ZW.length:Int))) else(bif(p0.kind==3) then some ((!(!(QZ p0.Zu (Zj.mk 0 0 0 0 0)))) && (!((decide ((p0.places.length:Int) > 0)) || (decide ((p0.ZW.length:Int) > 0))))) else some false)))
def Zvw (p0:(List Zc)) (p1:Int) (p2:Int):Option (List Zc):=
 (slL p0 p1 p2).bind fun z1=>(bif(p1==p2) then some p0 else(slL p0 0 p1).bind fun z4=>(slL p0 p2 (p0.length:Int)).bind fun z13=>(app 128 z4 z13).bind fun z17=>some z17)
end Go.Proofs.YtbmbbcaaimehkaaGreat
end
section
set_option maxRecDepth 20000
noncomputable section
namespace Go.Proofs.YtbmbbcaaimehkaaGreat
open Go.Yr Go.Lf
theorem Zkk {wm:Nat} {h:H} {p0:(List Int)} {Zi:Option Addr} {Zh:Nat} {r:(List Int)} (ZV:wm <=h.size) (Zz:Sl (Zy .i64) wm h Zi Zh p0) (hL:Zkl p0=some r):
 WR XX 80 #[.slice Zi p0.length Zh] wm h (CP (fun(v:Value) (Gb:List (Ast wm))=>∃ (XV:Option Addr) (XT:Nat) (XU:Nat),v= .slice XV XT XU∧Gb= [ow wm (Zy .i64) XV XT XU r]) [] h):=by
 refine bg Tryz.ntmps80 ZV Ye.nil ?_;intro T hT hS;unfold Zkl at hL;refine r8 ?_;rcases Sl.cases Zz with⟨rfl,rfl,rfl⟩ | ⟨qa,rfl⟩
 ·
  refine r1 ?_;refine WO.w gN rfl (JA (Yh fh rfl) (evC rfl) (ZeP YG)) ?_;refine r2 ?_;refine WC.ZkO lk rfl ?_;rw [Zo2 _ (by decide)] at hL;replace hL:some []=some r:=hL;refine r6 ?_;refine r1 ?_;have hS:=hS.nil (e:= (Zy .i64));have hr:=Oi0 hL;subst hr;exact YJ.UC rfl (Z0 lk ZX) ⟨_,⟨none,0,0,rfl,rfl⟩,hT ▸ hS.only (.c k0 .n)⟩
 ·
  refine r1 ?_;refine WO.w gN rfl (JA (Yh fh rfl) (evC rfl) (ZeQ YG)) ?_;refine r2 ?_;refine WC.ZoQ lk rfl ?_;refine r4 ?_;refine WO.hn gN rfl (ZbX (e:= (Zy .i64)) hS YG YN ZfW rfl rfl rfl Yi rfl [] rfl (xs:= ([]:List Int)) rfl (by intro q hq;cases hq) rfl) ?_;rintro _ h2 ⟨b1,eb1,rfl,hS⟩;refine r1 ?_;obtain⟨z3,hz3,hL⟩:=bind_some hL;refine WO.hv gN rfl (Zax (e:= (Zy .i64)) hS k0 Ux lk lk (Sl.src (hS.sl Zz)) rfl hz3) ?_;rintro _ h6 ⟨a4,c5,rfl,hS⟩;refine r4 ?_;have hr:=Oi0 hL;subst hr;exact YJ.UC rfl (Z0 lk ZX) ⟨_,⟨a4,z3.length,c5,rfl,rfl⟩,hT ▸ hS.only (.c k0 .n)⟩
theorem ZC5 {F wm:Nat} {h:H} {p0:(List (List Int))} {Zi:Option Addr} {Zh:Nat} {r:(List (List Int))} (ZV:wm <=h.size) (Zz:Sl (Z6 (Zy .i64)) wm h Zi Zh p0) (hL:Zvz F p0=some r):
 WR XX 81 #[.slice Zi p0.length Zh] wm h (CP (fun(v:Value) (Gb:List (Ast wm))=>∃ (XV:Option Addr) (XT:Nat) (XU:Nat) (ZcZ:Nat ->Option Addr×Nat×Nat),v= .slice XV XT XU∧Gb= [XK wm (Z5 (Zy .i64)) XV XT XU ZcZ r]) [] h):=by
 refine bg Tryz.ntmps81 ZV Ye.nil ?_;intro T hT hS;unfold Zvz at hL;refine r16 ?_;refine r3 ?_;have hS:=hS.ZjJ (e:= (Z5 (Zy .i64))) (ps:=fun _=>(Z5 (Zy .i64)).dflt);refine WC.loop (WL.lift hL (fun(p:(List (List Int))×Int) (s:Fs)=>match p with | (v3,v11)=>∃ (Jk:Fr) (h1:H) (a4:Option Addr) (c5:Nat) (n6:Nat) (ps7:Nat ->Option Addr×Nat×Nat),s= ⟨Jk,[],h1,none⟩∧Sp wm T h [XK wm (Z5 (Zy .i64)) a4 n6 c5 ps7 v3] h1∧Jk.at 3= .slice a4 n6 c5∧Jk.at 6= .slice Zi p0.length Zh∧Jk.at 7= .int .i64 (p0.length:Int)∧Jk.at 8= .int .i64 v11) ⟨_,_,none,0,0,(fun _=>(Z5 (Zy .i64)).dflt),rfl,hS.only (.c k0 .n),YB⟩ ?_);clear hL hS;rintro X8 ⟨v3,v11⟩ s JY hL ⟨Jk,h1,a4,c5,n6,ps7,rfl,hS,e8,e9,e10,e12⟩;obtain rfl:=hS.Xu k0;dsimp only [Zkj] at hL;refine r6 ?_;refine cn hL ?_ ?_
 ·intro hc hL;refine r6 ?_;obtain⟨x14,Zda,hL⟩:=bind_some hL;obtain⟨b15,o16,⟨a17,c18⟩,Zdb,Zdd,Zdc,Ze4⟩:=Sl.at_ Zz Zda;refine WO.w gN rfl (ZC Zao Jr lk lk rfl Zdb Zda) ?_;have ZgG:Sl (Zy .i64) wm h a17 c18 x14:=Ze4;refine WO.w gN rfl (ZU Zci (Yh fh rfl) (At.fz hS.fz Zdc Zdd) (j:=0) rfl (v:= .slice a17 x14.length c18) rfl) ?_;refine r6 ?_;obtain⟨x19,Zn5,hL⟩:=bind_some hL;refine WO.cl gN rfl (XP.fn Zp1 (Ze lk ZH)) hS .n (fun g' hz hf hO=>Zkk (by rw [hz];exact hS.hw) ((hS.sl ZgG).mono hf) Zn5) ?_;rintro _ h23 _ ⟨a20,n21,c22,rfl,rfl⟩ hS;obtain rfl:=hS.on k0;refine WO.hn gN rfl (ZsY (e:= (Zy .i64)) (x:=x19) hS k0 Zao Jr Znq rfl rfl (ZG lk Yi) rfl rfl) ?_;rintro _ h26 ⟨b25,ZIv,rfl,hS⟩;obtain⟨z27,ZtV,hL⟩:=bind_some hL;refine WO.hv gN rfl (ZsZ (e:= (Z5 (Zy .i64))) hS (.c k1 (.c k0 .n)) Zwf lk lk ZtV) ?_;rintro _ h31 ⟨a28,c29,Ztc,rfl,hS⟩;refine r8 ?_;exact Ya.Y4 (JY _ _ hL ⟨_,_,a28,c29,z27.length,Ztc,rfl,hS.only (.c k0 .n),YB⟩)
 ·intro hc hL;refine XA ?_;have hr:=Oi0 hL;subst hr;exact YJ.UC rfl (Z0 lk ZX) ⟨_,⟨a4,v3.length,c5,ps7,rfl,rfl⟩,hT ▸ hS.only (.c k0 .n)⟩
theorem ZC0 {wm:Nat} {h:H} {p0:Zc} {Zi:Option Addr} {Zh:Nat} {Zr:Option Addr} {Zp:Nat} {r:Bool} (ZV:wm <=h.size) (Zz:Sl (Zy .i64) wm h Zi Zh p0.places) (ZL:Sl (Zy .i64) wm h Zr Zp p0.ZW) (hL:Zrt p0=some r):
 WR XX 86 #[.agg [.int .i64 p0.kind,.int .i64 p0.ZR,.int .i64 p0.Zu.msg,.int .i64 p0.Zu.place,.int .i64 p0.Zu.from_,.int .i64 p0.Zu.age,.int .i64 p0.Zu.hops,.slice Zi p0.places.length Zh,.slice Zr p0.ZW.length Zp,.int .i64 p0.place,.int .i64 p0.at_,.int .i64 p0.age].toArray] wm h (CP (fun(v:Value) (Gb:List (Ast wm))=>v= .bool r∧Gb= []) [] h):=by
 refine bg Tryz.ntmps86 ZV Ye.nil ?_;intro T hT hS;unfold Zrt at hL;refine r3 ?_;rintro _ h2 ⟨b1,eb1,rfl,hS⟩;refine r16 ?_;refine r16 ?_;refine r8 ?_;refine WO.w gN rfl (Qy ZIU Yi rfl (cs':= [.int .i64 0,.int .i64 0,.int .i64 0,.int .i64 0,.int .i64 0]) rfl) ?_;refine WO.w gN rfl (JA (Yh (ZA rfl fh) rfl) (Yh fh rfl) (Znc (xs:= [.int .i64 p0.Zu.msg,.int .i64 p0.Zu.place,.int .i64 p0.Zu.from_,.int .i64 p0.Zu.age,.int .i64 p0.Zu.hops]) (ys:= [.int .i64 0,.int .i64 0,.int .i64 0,.int .i64 0,.int .i64 0]) (ZAu p0.Zu (Zj.mk 0 0 0 0 0)) rfl rfl)) ?_;refine r16 ?_;refine r1 ?_;refine cn hL ?_ ?_
 ·intro hc hL;refine XA ?_;refine r2 ?_;exact rt hL hT hS
 ·intro hc hL;refine r6 ?_;refine cn hL ?_ ?_
  ·intro hc hL;refine r16 ?_;refine XA ?_;refine r1 ?_;exact rt hL hT hS
  ·intro hc hL;refine r6 ?_;refine cn hL ?_ ?_
   ·intro hc hL;refine XA ?_;refine r2 ?_;exact rt hL hT hS
   ·intro hc hL;refine r8 ?_;refine r1 ?_;exact rt hL hT hS
theorem ZC1 {h:H} {p0:Zc} {Zi:Option Addr} {Zh:Nat} {Zr:Option Addr} {Zp:Nat} {r:Bool} (Zz:Sl (Zy .i64) h.size h Zi Zh p0.places) (ZL:Sl (Zy .i64) h.size h Zr Zp p0.ZW) (hL:Zrt p0=some r):Pure XX 86 #[.agg [.int .i64 p0.kind,.int .i64 p0.ZR,.int .i64 p0.Zu.msg,.int .i64 p0.Zu.place,.int .i64 p0.Zu.from_,.int .i64 p0.Zu.age,.int .i64 p0.Zu.hops,.slice Zi p0.places.length Zh,.slice Zr p0.ZW.length Zp,.int .i64 p0.place,.int .i64 p0.at_,.int .i64 p0.age].toArray] h (.bool r):=
 WR.XY rfl (ZC0 (Nat.le_refl _) Zz ZL hL)
theorem ZCZ {wm:Nat} {h:H} {p0:(List Zc)} {p1 p2:Int} {Zi:Option Addr} {Zh QS:Nat} {r:(List Zc)} (ZV:wm <=h.size) (hO:Ye (wm:=wm) [ow wm Zg Zi QS Zh p0] h) (hL:Zvw p0 p1 p2=some r):
 WR XX 88 #[.slice Zi QS Zh,.int .i64 p1,.int .i64 p2] wm h (CP (fun(v:Value) (Gb:List (Ast wm))=>∃ (XV:Option Addr) (XT:Nat) (XU:Nat),v= .slice XV XT XU∧Gb= [ow wm Zg XV XT XU r]) [ow wm Zg Zi QS Zh p0] h):=by
 refine bg Tryz.ntmps88 ZV hO ?_;intro T hT hS;unfold Zvw at hL;obtain rfl:=hS.on k0;refine XA ?_;obtain⟨z1,hz1,hL⟩:=bind_some hL;refine WO.he gN rfl (ZAY (hS.get k0).2 rfl Ja YF (Yh (YU rfl fh) rfl) (Yh (YP rfl (ZA rfl fh)) rfl) (Yh (YP rfl fh) rfl) (Yh fh rfl) hz1) ?_;rintro v2 hv3;refine r8 ?_;refine r2 ?_;refine cn hL ?_ ?_
 ·intro hc hL;refine r8 ?_;have hr:=Oi0 hL;subst hr;exact YJ.UC rfl (Z0 lk ZX) ⟨_,⟨Zi,p0.length,Zh,rfl,rfl⟩,hT ▸ hS.only (.c k0 .n)⟩
 ·intro hc hL;refine r8 ?_;refine r2 ?_;refine WC.XD mixed Kq0 ?_;refine r2 ?_;obtain⟨z4,hz4,hL⟩:=bind_some hL;have Zus:= (hS.get k0).2.cap;refine WX.he gN rfl (ZAX (hS.get k0).2 rfl Ja YF (Yh (ZA rfl fh) rfl) (Yh fh rfl) hz4) ?_ rfl;rintro _ ⟨a5,c6,ea7,ec8,rfl,ZKS⟩;have ZIu:=ec8.symm;refine r2 ?_;obtain⟨z13,ZBi,hL⟩:=bind_some hL;refine WX.he gN rfl (ZED (hS.get k0).2 rfl Ja YF (Yh (ZA rfl fh) rfl) (.inr ⟨_,Xg (Yh fh rfl)⟩) (.inl ⟨rfl,rfl⟩) ZBi) ?_ rfl;rintro _ ⟨a14,c15,rfl,ZKR⟩;obtain⟨z17,ZBh,hL⟩:=bind_some hL;have ZKD:= (ZKR.own (hS.get k0).2).src;have hS:=hS.sub k0 ZKS;refine WX.hv gN rfl (ZEG (e:=Zg) hS k0 Zdz lk lk ZKD rfl ZBh (ZIu ▸ Nat.le_trans (Zqk hz1 hz4 ZBi ZBh) Zus)) ?_ rfl rfl [] Kq0 Y3.e;rintro _ h19 ⟨rfl,hS⟩;refine WX.w gN rfl (KS lk) ?_ Kq0;refine r8 ?_;refine WO.he gN rfl (ZAW (hS.get k0).2 Ja YF (Yh (YP rfl (ZA rfl fh)) rfl) (Yh (ZA rfl fh) rfl) (Yh fh rfl) (Zqk hz1 hz4 ZBi ZBh) (ZIu ▸ Zus)) ?_;rintro _ ⟨a20,c21,rfl,ZKU⟩;refine WO.hw gN (ZEE hS k0 ZKU rfl Ja ZdJ rfl (Yh fh rfl)) ?_;rintro h24 hS;refine r8 ?_;refine r1 ?_;have hr:=Oi0 hL;subst hr;exact YJ.UC rfl (Z0 lk ZX) ⟨_,⟨a5,z17.length,c6,rfl,rfl⟩,hT ▸ hS.only (.c k0 .n)⟩
end Go.Proofs.YtbmbbcaaimehkaaGreat
end
end
section
namespace Go.Proofs.YtbmbbcaaimehkaaGreat
open Go.Lf
def Zkf (p0:ZQ) (p1:Int):Option Bool:=
 some ((decide (p1 >=0)) && (decide (p1 < (p0.Za.entries.length:Int))))
def Zoy (p0:ZQ) (p1:Int):Option Bool:=
 some ((decide (p1 >=0)) && (decide (p1 < (p0.Za.Zv.length:Int))))
def ZgW (p0:(List Int)) (p1:Int):Int ->(Int ->Option Int) ->Option Int:=fun v6 Zb7=>
 (bif decide (v6 < (p0.length:Int)) then(ZN p0 v6).bind fun x9=>(bif(p1==x9) then some v6 else Zb7 (Xl (v6 + 1))) else some (-1))
def Zvu (F:Nat) (p0:(List Int)) (p1:Int):Option Int:=
 loop F (ZgW p0 p1) 0
def Zqc (p0:(List Zx)):Option (List Zx):=
 (app 24 ([]:List Zx) p0).bind fun z3=>some z3
end Go.Proofs.YtbmbbcaaimehkaaGreat
end
section
set_option maxRecDepth 20000
noncomputable section
namespace Go.Proofs.YtbmbbcaaimehkaaGreat
open Go.Yr Go.Lf
theorem ZCU {wm:Nat} {h:H} {p0:ZQ} {p1:Int} {Zi:Option Addr} {Zh:Nat} {Zr:Option Addr} {Zp:Nat} {Zn:Option Addr} {Zm:Nat} {Zq:Option Addr} {Zo:Nat} {Zl:Option Addr} {Zk:Nat} {Z9:Option Addr} {Z8 YR UE:Nat} {r:Bool} (ZV:wm <=h.size) (Xx:At h YR UE [.slice Zi p0.Za.Zv.length Zh,.slice Zr p0.Za.boxes.length Zp,.slice Zn p0.Za.entries.length Zm,.slice Zq p0.Za.held.length Zo,.slice Zl p0.Za.wire.length Zk,.int .i64 p0.Za.said,.slice Z9 p0.YH.length Z8]) (Xw:KU wm h YR) (Zz:Sl (Zy .i64) wm h Zi Zh p0.Za.Zv) (ZL:Sl (Z6 (Zy .i64)) wm h Zr Zp p0.Za.boxes) (ZK:Sl (Z6 Zd) wm h Zn Zm p0.Za.entries) (ZM:Sl (Z6 Zf) wm h Zq Zo p0.Za.held) (ZJ:Sl Zg wm h Zl Zk p0.Za.wire) (YW:Sl Xb wm h Z9 Z8 p0.YH) (hL:Zkf p0 p1=some r):
 WR XX 95 #[.pointer (some ⟨YR,UE,none⟩),.int .i64 p1] wm h (CP (fun(v:Value) (Gb:List (Ast wm))=>v= .bool r∧Gb= []) [] h):=by
 refine bg Tryz.ntmps95 ZV Ye.nil ?_;intro T hT hS;unfold Zkf at hL;refine XA ?_;refine r3 ?_;refine WO.gv (Zt.yes rfl rfl rfl (YU rfl (ZA rfl fh))) rfl (fun hg=>(ZU Zqr (YL fh rfl hg) (At.fz hS.fz Xw Xx) (j:=2) rfl (v:= .slice Zn p0.Za.entries.length Zm) rfl)) ?_;refine r6 ?_;refine r1 ?_;exact rt hL hT hS
theorem Zoz {h:H} {p0:ZQ} {p1:Int} {Zi:Option Addr} {Zh:Nat} {Zr:Option Addr} {Zp:Nat} {Zn:Option Addr} {Zm:Nat} {Zq:Option Addr} {Zo:Nat} {Zl:Option Addr} {Zk:Nat} {Z9:Option Addr} {Z8 YR UE:Nat} {r:Bool} (Xx:At h YR UE [.slice Zi p0.Za.Zv.length Zh,.slice Zr p0.Za.boxes.length Zp,.slice Zn p0.Za.entries.length Zm,.slice Zq p0.Za.held.length Zo,.slice Zl p0.Za.wire.length Zk,.int .i64 p0.Za.said,.slice Z9 p0.YH.length Z8]) (Xw:KU h.size h YR) (Zz:Sl (Zy .i64) h.size h Zi Zh p0.Za.Zv) (ZL:Sl (Z6 (Zy .i64)) h.size h Zr Zp p0.Za.boxes) (ZK:Sl (Z6 Zd) h.size h Zn Zm p0.Za.entries) (ZM:Sl (Z6 Zf) h.size h Zq Zo p0.Za.held) (ZJ:Sl Zg h.size h Zl Zk p0.Za.wire) (YW:Sl Xb h.size h Z9 Z8 p0.YH) (hL:Zkf p0 p1=some r):Pure XX 95 #[.pointer (some ⟨YR,UE,none⟩),.int .i64 p1] h (.bool r):=
 WR.XY rfl (ZCU (Nat.le_refl _) Xx Xw Zz ZL ZK ZM ZJ YW hL)
theorem ZCT {wm:Nat} {h:H} {p0:ZQ} {p1:Int} {Zi:Option Addr} {Zh:Nat} {Zr:Option Addr} {Zp:Nat} {Zn:Option Addr} {Zm:Nat} {Zq:Option Addr} {Zo:Nat} {Zl:Option Addr} {Zk:Nat} {Z9:Option Addr} {Z8 YR UE:Nat} {r:Bool} (ZV:wm <=h.size) (Xx:At h YR UE [.slice Zi p0.Za.Zv.length Zh,.slice Zr p0.Za.boxes.length Zp,.slice Zn p0.Za.entries.length Zm,.slice Zq p0.Za.held.length Zo,.slice Zl p0.Za.wire.length Zk,.int .i64 p0.Za.said,.slice Z9 p0.YH.length Z8]) (Xw:KU wm h YR) (Zz:Sl (Zy .i64) wm h Zi Zh p0.Za.Zv) (ZL:Sl (Z6 (Zy .i64)) wm h Zr Zp p0.Za.boxes) (ZK:Sl (Z6 Zd) wm h Zn Zm p0.Za.entries) (ZM:Sl (Z6 Zf) wm h Zq Zo p0.Za.held) (ZJ:Sl Zg wm h Zl Zk p0.Za.wire) (YW:Sl Xb wm h Z9 Z8 p0.YH) (hL:Zoy p0 p1=some r):
 WR XX 96 #[.pointer (some ⟨YR,UE,none⟩),.int .i64 p1] wm h (CP (fun(v:Value) (Gb:List (Ast wm))=>v= .bool r∧Gb= []) [] h):=by
 refine bg Tryz.ntmps96 ZV Ye.nil ?_;intro T hT hS;unfold Zoy at hL;refine XA ?_;refine r3 ?_;refine WO.gv (Zt.yes rfl rfl rfl (YU rfl (ZA rfl fh))) rfl (fun hg=>(ZU Zci (YL fh rfl hg) (At.fz hS.fz Xw Xx) (j:=0) rfl (v:= .slice Zi p0.Za.Zv.length Zh) rfl)) ?_;refine r6 ?_;refine r1 ?_;exact rt hL hT hS
theorem Zvv {h:H} {p0:ZQ} {p1:Int} {Zi:Option Addr} {Zh:Nat} {Zr:Option Addr} {Zp:Nat} {Zn:Option Addr} {Zm:Nat} {Zq:Option Addr} {Zo:Nat} {Zl:Option Addr} {Zk:Nat} {Z9:Option Addr} {Z8 YR UE:Nat} {r:Bool} (Xx:At h YR UE [.slice Zi p0.Za.Zv.length Zh,.slice Zr p0.Za.boxes.length Zp,.slice Zn p0.Za.entries.length Zm,.slice Zq p0.Za.held.length Zo,.slice Zl p0.Za.wire.length Zk,.int .i64 p0.Za.said,.slice Z9 p0.YH.length Z8]) (Xw:KU h.size h YR) (Zz:Sl (Zy .i64) h.size h Zi Zh p0.Za.Zv) (ZL:Sl (Z6 (Zy .i64)) h.size h Zr Zp p0.Za.boxes) (ZK:Sl (Z6 Zd) h.size h Zn Zm p0.Za.entries) (ZM:Sl (Z6 Zf) h.size h Zq Zo p0.Za.held) (ZJ:Sl Zg h.size h Zl Zk p0.Za.wire) (YW:Sl Xb h.size h Z9 Z8 p0.YH) (hL:Zoy p0 p1=some r):Pure XX 96 #[.pointer (some ⟨YR,UE,none⟩),.int .i64 p1] h (.bool r):=
 WR.XY rfl (ZCT (Nat.le_refl _) Xx Xw Zz ZL ZK ZM ZJ YW hL)
theorem ZCS {F wm:Nat} {h:H} {p0:(List Int)} {p1:Int} {Zi:Option Addr} {Zh:Nat} {r:Int} (ZV:wm <=h.size) (Zz:Sl (Zy .i64) wm h Zi Zh p0) (hL:Zvu F p0 p1=some r):
 WR XX 99 #[.slice Zi p0.length Zh,.int .i64 p1] wm h (CP (fun(v:Value) (Gb:List (Ast wm))=>v= .int .i64 r∧Gb= []) [] h):=by
 refine bg Tryz.ntmps99 ZV Ye.nil ?_;intro T hT hS;unfold Zvu at hL;refine XA ?_;refine r2 ?_;refine WC.loop (WL.lift hL (fun(v6:Int) (s:Fs)=>∃ (Jk:Fr) (h1:H),s= ⟨Jk,[],h1,none⟩∧Sp wm T h [] h1∧Jk.at 0= .slice Zi p0.length Zh∧Jk.at 1= .int .i64 p1∧Jk.at 7= .int .i64 (p0.length:Int)∧Jk.at 8= .int .i64 v6) ⟨_,_,rfl,hS.only .n,YB⟩ ?_);clear hL hS;rintro Zb7 v6 s ZgH hL ⟨Jk,h1,rfl,hS,e3,e4,e5,e7⟩;dsimp only [ZgW] at hL;refine r6 ?_;refine cn hL ?_ ?_
 ·intro hc hL;refine XA ?_;refine r3 ?_;obtain⟨x9,hx9,hL⟩:=bind_some hL;obtain⟨b10,o11,_,ZgM,ZgP,Zmv,Zp6⟩:=Sl.at_ Zz hx9;refine WO.w gN rfl (ZC YG YN lk lk rfl ZgM hx9) ?_;refine WO.w gN rfl (ZU Xr (Yh fh rfl) (At.fz hS.fz Zmv ZgP) (j:=0) rfl (v:= .int .i64 x9) rfl) ?_;refine r3 ?_;refine cn hL ?_ ?_
  ·intro hc hL;refine XA ?_;exact rt hL hT hS
  ·intro hc hL;refine r6 ?_;refine r1 ?_;exact Ya.Y4 (ZgH _ _ hL ⟨_,_,rfl,hS.only .n,YB⟩)
 ·intro hc hL;refine r8 ?_;refine r3 ?_;exact rt hL hT hS
theorem ZyK {wm:Nat} {h:H} {p0:(List Zx)} {Zi:Option Addr} {Zh:Nat} {r:(List Zx)} (ZV:wm <=h.size) (Zz:Sl Zd wm h Zi Zh p0) (hL:Zqc p0=some r):
 WR XX 101 #[.slice Zi p0.length Zh] wm h (CP (fun(v:Value) (Gb:List (Ast wm))=>∃ (XV:Option Addr) (XT:Nat) (XU:Nat),v= .slice XV XT XU∧Gb= [ow wm Zd XV XT XU r]) [] h):=by
 refine bg Tryz.ntmps101 ZV Ye.nil ?_;intro T hT hS;unfold Zqc at hL;refine r8 ?_;rcases Sl.cases Zz with⟨rfl,rfl,rfl⟩ | ⟨qa,rfl⟩
 ·
  refine r1 ?_;refine WO.w gN rfl (JA (Yh fh rfl) (evC rfl) (ZeP Uq)) ?_;refine r2 ?_;refine WC.ZkO lk rfl ?_;rw [Zo2 _ (by decide)] at hL;replace hL:some []=some r:=hL;refine r6 ?_;refine r1 ?_;have hS:=hS.nil (e:=Zd);have hr:=Oi0 hL;subst hr;exact YJ.UC rfl (Z0 lk ZX) ⟨_,⟨none,0,0,rfl,rfl⟩,hT ▸ hS.only (.c k0 .n)⟩
 ·
  refine r1 ?_;refine WO.w gN rfl (JA (Yh fh rfl) (evC rfl) (ZeQ Uq)) ?_;refine r2 ?_;refine WC.ZoQ lk rfl ?_;refine r4 ?_;refine WO.hn gN rfl (ZbX (e:=Zd) hS Uq Xt ZfV rfl rfl rfl Yi rfl [] rfl (xs:= ([]:List Zx)) rfl (by intro q hq;cases hq) rfl) ?_;rintro _ h2 ⟨b1,eb1,rfl,hS⟩;refine r1 ?_;obtain⟨z3,hz3,hL⟩:=bind_some hL;refine WO.hv gN rfl (Zax (e:=Zd) hS k0 Zwc lk lk (Sl.src (hS.sl Zz)) rfl hz3) ?_;rintro _ h6 ⟨a4,c5,rfl,hS⟩;refine r4 ?_;have hr:=Oi0 hL;subst hr;exact YJ.UC rfl (Z0 lk ZX) ⟨_,⟨a4,z3.length,c5,rfl,rfl⟩,hT ▸ hS.only (.c k0 .n)⟩
end Go.Proofs.YtbmbbcaaimehkaaGreat
end
end
section
namespace Go.Proofs.YtbmbbcaaimehkaaGreat
open Go.Lf
def Zqb (p0:(List Zj)):Option (List Zj):=
 (app 40 ([]:List Zj) p0).bind fun z3=>some z3
def Ze8 (p0:Yj) (p1:Int) (p2:Zj):Option Yj:=
 (ZN p0.Za.boxes p2.place).bind fun x7=>(app 8 x7 [p2.msg]).bind fun z15=>(ZN p0.Za.boxes p2.place).bind fun x19=>(app 40 p0.events [(ZI.mk 1 p2.place p1 p2.msg p2.hops)]).bind fun z26=>some (Yj.mk (Zb.mk p0.Za.Zv (Yz p0.Za.boxes p2.place z15) p0.Za.entries p0.Za.held p0.Za.wire p0.Za.said) z26)
end Go.Proofs.YtbmbbcaaimehkaaGreat
end
section
set_option maxRecDepth 20000
noncomputable section
namespace Go.Proofs.YtbmbbcaaimehkaaGreat
open Go.Yr Go.Lf
theorem ZyJ {wm:Nat} {h:H} {p0:(List Zj)} {Zi:Option Addr} {Zh:Nat} {r:(List Zj)} (ZV:wm <=h.size) (Zz:Sl Zf wm h Zi Zh p0) (hL:Zqb p0=some r):
 WR XX 102 #[.slice Zi p0.length Zh] wm h (CP (fun(v:Value) (Gb:List (Ast wm))=>∃ (XV:Option Addr) (XT:Nat) (XU:Nat),v= .slice XV XT XU∧Gb= [ow wm Zf XV XT XU r]) [] h):=by
 refine bg Tryz.ntmps102 ZV Ye.nil ?_;intro T hT hS;unfold Zqb at hL;refine r8 ?_;rcases Sl.cases Zz with⟨rfl,rfl,rfl⟩ | ⟨qa,rfl⟩
 ·
  refine r1 ?_;refine WO.w gN rfl (JA (Yh fh rfl) (evC rfl) (ZeP Zan)) ?_;refine r2 ?_;refine WC.ZkO lk rfl ?_;rw [Zo2 _ (by decide)] at hL;replace hL:some []=some r:=hL;refine r6 ?_;refine r1 ?_;have hS:=hS.nil (e:=Zf);have hr:=Oi0 hL;subst hr;exact YJ.UC rfl (Z0 lk ZX) ⟨_,⟨none,0,0,rfl,rfl⟩,hT ▸ hS.only (.c k0 .n)⟩
 ·
  refine r1 ?_;refine WO.w gN rfl (JA (Yh fh rfl) (evC rfl) (ZeQ Zan)) ?_;refine r2 ?_;refine WC.ZoQ lk rfl ?_;refine r4 ?_;refine WO.hn gN rfl (ZbX (e:=Zf) hS Zan JU ZfU rfl rfl rfl Yi rfl [] rfl (xs:= ([]:List Zj)) rfl (by intro q hq;cases hq) rfl) ?_;rintro _ h2 ⟨b1,eb1,rfl,hS⟩;refine r1 ?_;obtain⟨z3,hz3,hL⟩:=bind_some hL;refine WO.hv gN rfl (Zax (e:=Zf) hS k0 ZhL lk lk (Sl.src (hS.sl Zz)) rfl hz3) ?_;rintro _ h6 ⟨a4,c5,rfl,hS⟩;refine r4 ?_;have hr:=Oi0 hL;subst hr;exact YJ.UC rfl (Z0 lk ZX) ⟨_,⟨a4,z3.length,c5,rfl,rfl⟩,hT ▸ hS.only (.c k0 .n)⟩
theorem Zqa {wm:Nat} {h:H} {p0:Yj} {p1:Int} {p2:Zj} {Zi:Option Addr} {Zh QS:Nat} {Zr:Option Addr} {Zp Kc:Nat} {Qs:Nat ->Option Addr×Nat×Nat} {Zn:Option Addr} {Zm Kb:Nat} {QI:Nat ->Option Addr×Nat×Nat} {Zq:Option Addr} {Zo Ka:Nat} {Qr:Nat ->Option Addr×Nat×Nat} {Zl:Option Addr} {Zk W9:Nat} {Z9:Option Addr} {Z8 JV YR:Nat} {r:Yj} (ZV:wm <=h.size) (hO:Ye (wm:=wm) [bx wm YR [.slice Zi QS Zh,.slice Zr Kc Zp,.slice Zn Kb Zm,.slice Zq Ka Zo,.slice Zl W9 Zk,.int .i64 p0.Za.said,.slice Z9 JV Z8],ow wm (Zy .i64) Zi QS Zh p0.Za.Zv,XK wm (Z5 (Zy .i64)) Zr Kc Zp Qs p0.Za.boxes,XK wm (Z5 Zd) Zn Kb Zm QI p0.Za.entries,XK wm (Z5 Zf) Zq Ka Zo Qr p0.Za.held,ow wm Zg Zl W9 Zk p0.Za.wire,ow wm Z7 Z9 JV Z8 p0.events] h) (hL:Ze8 p0 p1 p2=some r):
 WR XX 103 #[.pointer (some ⟨YR,0,none⟩),.int .i64 p1,.agg [.int .i64 p2.msg,.int .i64 p2.place,.int .i64 p2.from_,.int .i64 p2.age,.int .i64 p2.hops].toArray] wm h (CP (fun(v:Value) (Gb:List (Ast wm))=>∃ (Wv:Option Addr) (ZaS:Nat) (Wo:Nat) (Wu:Option Addr) (ZaR:Nat) (Wn:Nat) (Za0:Nat ->Option Addr×Nat×Nat) (Wt:Option Addr) (ZaQ:Nat) (Wl:Nat) (ZaZ:Nat ->Option Addr×Nat×Nat) (Ws:Option Addr) (ZaP:Nat) (Wj:Nat) (ZaY:Nat ->Option Addr×Nat×Nat) (Wq:Option Addr) (ZaO:Nat) (Wi:Nat) (Wp:Option Addr) (U9:Nat) (Wh:Nat),v= .tuple [].toArray∧Gb= [bx wm YR [.slice Wv ZaS Wo,.slice Wu ZaR Wn,.slice Wt ZaQ Wl,.slice Ws ZaP Wj,.slice Wq ZaO Wi,.int .i64 r.Za.said,.slice Wp U9 Wh],ow wm (Zy .i64) Wv ZaS Wo r.Za.Zv,XK wm (Z5 (Zy .i64)) Wu ZaR Wn Za0 r.Za.boxes,XK wm (Z5 Zd) Wt ZaQ Wl ZaZ r.Za.entries,XK wm (Z5 Zf) Ws ZaP Wj ZaY r.Za.held,ow wm Zg Wq ZaO Wi r.Za.wire,ow wm Z7 Wp U9 Wh r.events]) [bx wm YR [.slice Zi QS Zh,.slice Zr Kc Zp,.slice Zn Kb Zm,.slice Zq Ka Zo,.slice Zl W9 Zk,.int .i64 p0.Za.said,.slice Z9 JV Z8],ow wm (Zy .i64) Zi QS Zh p0.Za.Zv,XK wm (Z5 (Zy .i64)) Zr Kc Zp Qs p0.Za.boxes,XK wm (Z5 Zd) Zn Kb Zm QI p0.Za.entries,XK wm (Z5 Zf) Zq Ka Zo Qr p0.Za.held,ow wm Zg Zl W9 Zk p0.Za.wire,ow wm Z7 Z9 JV Z8 p0.events] h):=by
 refine bg Tryz.ntmps103 ZV hO ?_;intro T hT hS;unfold Ze8 at hL;obtain rfl:=hS.on k1;obtain rfl:=hS.Xu k2;obtain rfl:=hS.Xu k3;obtain rfl:=hS.Xu k4;obtain rfl:=hS.on k5;obtain rfl:=hS.on k6;refine r3 ?_;rintro _ h2 ⟨b1,eb1,rfl,hS⟩;refine r3 ?_;refine WC.XD mixed Kq0 ?_;refine r4 ?_;refine WX.wr (fun x=>x=YR) hS gN rfl (fun _ _ hR=>ZU Zwn (Yh fh rfl) (At.eqv (hR YR rfl) (hS.atB k1)) (j:=1) rfl (v:= .slice Zr p0.Za.boxes.length Zp) rfl) ?_ rfl rfl;rintro h3 e4 hS;refine r1 ?_;refine WX.wr (fun x=>x=b1) hS gN rfl (fun _ _ hR=>ZU Xr (Yh fh rfl) (At.eqv (hR b1 rfl) (hS.atB k0)) (j:=1) rfl (v:= .int .i64 p2.place) rfl) ?_ rfl rfl;rintro h5 e6 hS;refine r6 ?_;refine r1 ?_;obtain⟨x7,hx7,hL⟩:=bind_some hL;obtain⟨b8,o9,a10,n11,c12,ZK1,ZBH,ZLI⟩:=hS.atS k3 hx7;refine WX.w gN rfl (ZC Zao Jr lk lk rfl ZBH hx7) ?_ rfl;refine WX.w gN rfl (ZU Zci (Yh fh rfl) ZLI (j:=0) rfl (v:= .slice a10 n11 c12) rfl) ?_ rfl;refine r2 ?_;refine WX.hn gN rfl (ZbX (e:= (Zy .i64)) hS YG YN ZfW rfl rfl rfl (ZG lk Yi) rfl [((),p2.msg)] rfl (xs:= [p2.msg]) rfl (by intro q hq;simp only [List.mem_cons,List.not_mem_nil,or_false] at hq;subst hq;exact trivial) rfl) ?_ rfl;rintro _ h14 ⟨b13,ZQ6,rfl,hS⟩;obtain⟨z15,ZKC,hL⟩:=bind_some hL;have hS:=hS.ZiK k4 hx7 ZK1;refine WX.hv gN rfl (Zax (e:= (Zy .i64)) hS k1 Ux lk lk (hS.JP k2) (hS.on k2) ZKC) ?_ rfl rfl [4,6] Kq0 (.c (.s (.s .z)) (hS.dj (.c k1 (.c k3 .n))) (.c (.s .z) (hS.dj (.c k1 (.c k2 .n))) Y3.e));rintro _ h18 ⟨a16,c17,rfl,hS⟩;obtain⟨x19,Zn5,hL⟩:=bind_some hL;refine WX.w gN rfl (ZC Zao Jr lk lk rfl ZBH Zn5) ?_ Kq0;refine WX.hu gN (Zpu hS k1 Jr (Yh fh rfl) (Yh (ZA rfl fh) rfl) ZBH hx7 (j:=0) rfl (vs:= [.slice a16 z15.length c17]) rfl rfl rfl rfl rfl (cs':= [.slice a16 z15.length c17]) rfl rfl rfl) ?_ rfl Kq0 [] Kq0 Y3.e;rintro h21 hS;obtain⟨ZKl,ZPB,hS⟩:=hS.Zi6 (.c k0 (.c k0 .n)) hx7;refine r2 ?_;refine WC.XD mixed Kq0 ?_;refine XA ?_;refine WX.w gN rfl (Qy ZAy (ZG lk (ZG lk (ZG lk (ZG lk (ZG lk Yi))))) rfl (cs':= [.int .i64 1,.int .i64 p2.place,.int .i64 p1,.int .i64 p2.msg,.int .i64 p2.hops]) rfl) ?_ rfl;refine WX.hn gN rfl (ZbX (e:=Z7) hS ZsF ZnF Zjl rfl rfl rfl (ZG lk Yi) rfl [((),(ZI.mk 1 p2.place p1 p2.msg p2.hops))] rfl (xs:= [(ZI.mk 1 p2.place p1 p2.msg p2.hops)]) rfl (by intro q hq;simp only [List.mem_cons,List.not_mem_nil,or_false] at hq;subst hq;exact trivial) rfl) ?_ rfl;rintro _ h25 ⟨b24,ZIw,rfl,hS⟩;obtain⟨z26,ZKz,hL⟩:=bind_some hL;refine WX.hv gN rfl (Zax (e:=Z7) hS k9 Zm5 lk lk (hS.JP k0) (hS.on k0) ZKz) ?_ rfl rfl [] Kq0 Y3.e;rintro _ h29 ⟨a27,c28,rfl,hS⟩;refine WX.w gN rfl (ZhH lk) ?_ Kq0;refine WX.w gN rfl (Ky ZgT lk) ?_ Kq0;refine WX.hu gN (ZbW hS k5 ZnG lk lk (vs:= [.slice a27 z26.length c28]) rfl rfl rfl rfl (cs':= [.slice Zi p0.Za.Zv.length Zh,.slice Zr p0.Za.boxes.length Zp,.slice Zn p0.Za.entries.length Zm,.slice Zq p0.Za.held.length Zo,.slice Zl p0.Za.wire.length Zk,.int .i64 p0.Za.said,.slice a27 z26.length c28]) rfl) ?_ rfl Kq0 [] Kq0 Y3.e;rintro h30 hS;refine r1 ?_;refine YJ.Y4 ?_;have hr:=Oi0 hL;subst hr;exact YJ.gen (vs:= []) rfl ZX rfl ⟨_,⟨Zi,p0.Za.Zv.length,Zh,Zr,p0.Za.boxes.length,Zp,ZKl,Zn,p0.Za.entries.length,Zm,QI,Zq,p0.Za.held.length,Zo,Qr,Zl,p0.Za.wire.length,Zk,a27,z26.length,c28,rfl,rfl⟩,hT ▸ hS.only (.c k0 (.c k5 (.c k2 (.c k4 (.c k4 (.c k4 (.c k0 .n)))))))⟩
end Go.Proofs.YtbmbbcaaimehkaaGreat
end
end
section
namespace Go.Proofs.YtbmbbcaaimehkaaGreat
open Go.Lf
def ZrC (F:Nat) (p0:Zb) (p1:Int):Option (Int×Bool×Int):=
 (ZoF F p0 p1).bind fun x3=>some (x3.1.at_,x3.1.is,x3.1.age)
end Go.Proofs.YtbmbbcaaimehkaaGreat
end
section
set_option maxRecDepth 20000
noncomputable section
namespace Go.Proofs.YtbmbbcaaimehkaaGreat
open Go.Yr Go.Lf
theorem ZvN {F wm:Nat} {h:H} {p0:Zb} {p1:Int} {Zi:Option Addr} {Zh:Nat} {Zr:Option Addr} {Zp:Nat} {Zn:Option Addr} {Zm:Nat} {Zq:Option Addr} {Zo:Nat} {Zl:Option Addr} {Zk:Nat} {r:(Int×Bool×Int)} (ZV:wm <=h.size) (Zz:Sl (Zy .i64) wm h Zi Zh p0.Zv) (ZL:Sl (Z6 (Zy .i64)) wm h Zr Zp p0.boxes) (ZK:Sl (Z6 Zd) wm h Zn Zm p0.entries) (ZM:Sl (Z6 Zf) wm h Zq Zo p0.held) (ZJ:Sl Zg wm h Zl Zk p0.wire) (hL:ZrC F p0 p1=some r):
 WR XX 33 #[.agg [.slice Zi p0.Zv.length Zh,.slice Zr p0.boxes.length Zp,.slice Zn p0.entries.length Zm,.slice Zq p0.held.length Zo,.slice Zl p0.wire.length Zk,.int .i64 p0.said].toArray,.int .i64 p1] wm h (CP (fun(v:Value) (Gb:List (Ast wm))=>v= .tuple [.int .i64 r.1,.bool r.2.1,.int .i64 r.2.2].toArray∧Gb= []) [] h):=by
 refine bg Tryz.ntmps33 ZV Ye.nil ?_;intro T hT hS;unfold ZrC at hL;refine r3 ?_;rintro _ h2 ⟨b1,eb1,rfl,hS⟩;refine r8 ?_;refine r1 ?_;obtain⟨x3,hx3,hL⟩:=bind_some hL;refine WO.cl gN rfl (XP.fn ZAb (Ze lk (Ze lk ZH))) hS .n (fun g' hz hf hO=>ZvH (by rw [hz];exact hS.hw) ((hS.sl Zz).mono hf) ((hS.sl ZL).mono hf) ((hS.sl ZK).mono hf) ((hS.sl ZM).mono hf) ((hS.sl ZJ).mono hf) hx3) ?_;rintro _ h4 _ ⟨rfl,rfl⟩ hS;refine r4 ?_;rintro _ h7 ⟨b6,eb6,rfl,hS⟩;refine r1 ?_;rintro h8 hS;refine r4 ?_;refine WC.XD mixed Kq0 ?_;refine XA ?_;have hr:=Oi0 hL;subst hr;exact YJ.gen (vs:= [.int .i64 x3.1.at_,.bool x3.1.is,.int .i64 x3.1.age]) rfl (Z0 lk (Z0 lk (Z0 lk ZX))) rfl ⟨_,⟨rfl,rfl⟩,hT ▸ hS.only .n⟩
end Go.Proofs.YtbmbbcaaimehkaaGreat
end
end
section
namespace Go.Proofs.YtbmbbcaaimehkaaGreat
open Go.Lf
def Zhi (p0:Zb) (v22:Int) (ZjQ:(Int ->Option Bool)):Int×Int ->(Int×Int ->Option Bool) ->Option Bool:=fun(v34,v36) Zgp=>
 (bif((decide (v36 <= (p0.Zv.length:Int))) && (decide (v34 >=0))) then(bif(v34==v22) then some false else(ZN p0.Zv v34).bind fun x41=>Zgp (x41,Xl (v36 + 1))) else ZjQ (Xl (v22 + 1)))
def Zeh (p0:Zb) (v51:Int) (ZjN:(Int ->Option Bool)) (x54:(List Zx)):Int ->(Int ->Option Bool) ->Option Bool:=fun v70 Ztx=>
 (bif decide (v70 < (x54.length:Int)) then(ZN x54 v70).bind fun x73=>(bif(((((decide (x73.age < 0)) || (decide (x73.age > 30))) || (decide (x73.ZR < 0))) || (decide (x73.ZR >= (p0.entries.length:Int)))) || (x73.here != (x73.ZR==v51))) then some false else Ztx (Xl (v70 + 1))) else ZjN (Xl (v51 + 1)))
def Zeg (p0:Zb) (v85:Int) (ZjK:(Int ->Option Bool)) (x88:Zc):Int ->(Int ->Option Bool) ->Option Bool:=fun v109 ZpL=>
 (bif decide (v109 < (x88.places.length:Int)) then(ZN x88.places v109).bind fun x112=>(gd ((!((decide (x112 < 0)) || (decide (x112 >= (p0.Zv.length:Int))))) && (decide (v109 > 0))) (ZN x88.places (Xl (v109 - 1))) default).bind fun x115=>(gd (!(((decide (x112 < 0)) || (decide (x112 >= (p0.Zv.length:Int)))) || ((decide (v109 > 0)) && (decide (x112 <=x115))))) (ZN x88.ZW v109) default).bind fun ZhY=>(gd (!((((decide (x112 < 0)) || (decide (x112 >= (p0.Zv.length:Int)))) || ((decide (v109 > 0)) && (decide (x112 <=x115)))) || (decide (ZhY < 1)))) (ZN x88.ZW v109) default).bind fun ZfY=>(bif(((((decide (x112 < 0)) || (decide (x112 >= (p0.Zv.length:Int)))) || ((decide (v109 > 0)) && (decide (x112 <=x115)))) || (decide (ZhY < 1))) || (decide (ZfY > 30))) then some false else ZpL (Xl (v109 + 1))) else(bif((x88.kind==3) && (((decide (x88.place < 0)) || (decide (x88.place >= (p0.Zv.length:Int)))) || (x88.at_==x88.ZR))) then some false else ZjK (Xl (v85 + 1))))
def WG (F:Nat) (p0:Zb):Int ->(Int ->Option Bool) ->Option Bool:=fun v85 ZjK=>
 (bif decide (v85 < (p0.wire.length:Int)) then(ZN p0.wire v85).bind fun x88=>(gd (!((decide (x88.ZR < 0)) || (decide (x88.ZR >= (p0.entries.length:Int))))) (Zrt x88) default).bind fun x98=>(bif(((decide (x88.ZR < 0)) || (decide (x88.ZR >= (p0.entries.length:Int)))) || (!x98)) then some false else loop F (Zeg p0 v85 ZjK x88) 0) else some true)
def ZcD (F:Nat) (p0:Zb):Int ->(Int ->Option Bool) ->Option Bool:=fun v51 ZjN=>
 (bif decide (v51 < (p0.entries.length:Int)) then(ZN p0.entries v51).bind fun x54=>(bif((x54.length:Int) != (p0.Zv.length:Int)) then some false else loop F (Zeh p0 v51 ZjN x54) 0) else loop F (WG F p0) 0)
def Zei (F:Nat) (p0:Zb):Int ->(Int ->Option Bool) ->Option Bool:=fun v22 ZjQ=>
 (bif decide (v22 < (p0.Zv.length:Int)) then(ZN p0.Zv v22).bind fun x25=>loop F (Zhi p0 v22 ZjQ) (x25,0) else loop F (ZcD F p0) 0)
def Zhj (F:Nat) (p0:Zb):Int ->(Int ->Option Bool) ->Option Bool:=fun v10 Zab=>
 (bif decide (v10 < (p0.Zv.length:Int)) then(ZN p0.Zv v10).bind fun x13=>(bif((decide (x13 < (-1))) || (decide (x13 >= (p0.Zv.length:Int)))) then some false else Zab (Xl (v10 + 1))) else loop F (Zei F p0) 0)
def ZvI (F:Nat) (p0:Zb):Option Bool:=
 (bif((((((((decide ((p0.Zv.length:Int) < 1)) || (decide ((p0.Zv.length:Int) > 8))) || (decide ((p0.entries.length:Int) < 1))) || (decide ((p0.entries.length:Int) > 5))) || ((p0.boxes.length:Int) != (p0.Zv.length:Int))) || ((p0.held.length:Int) != (p0.entries.length:Int))) || (decide (p0.said < 0))) || (decide (p0.said > 40))) then some false else loop F (Zhj F p0) 0)
def ZoC (F:Nat) (p0:(List Int)) (p1:Int):Option Bool:=
 (Zvu F p0 p1).bind fun x1=>some (decide (x1 >=0))
end Go.Proofs.YtbmbbcaaimehkaaGreat
end
section
set_option maxRecDepth 20000
noncomputable section
namespace Go.Proofs.YtbmbbcaaimehkaaGreat
open Go.Yr Go.Lf
theorem ZDk {F wm:Nat} {h:H} {p0:Zb} {Zi:Option Addr} {Zh:Nat} {Zr:Option Addr} {Zp:Nat} {Zn:Option Addr} {Zm:Nat} {Zq:Option Addr} {Zo:Nat} {Zl:Option Addr} {Zk:Nat} {r:Bool} (ZV:wm <=h.size) (Zz:Sl (Zy .i64) wm h Zi Zh p0.Zv) (ZL:Sl (Z6 (Zy .i64)) wm h Zr Zp p0.boxes) (ZK:Sl (Z6 Zd) wm h Zn Zm p0.entries) (ZM:Sl (Z6 Zf) wm h Zq Zo p0.held) (ZJ:Sl Zg wm h Zl Zk p0.wire) (hL:ZvI F p0=some r):
 WR XX 51 #[.agg [.slice Zi p0.Zv.length Zh,.slice Zr p0.boxes.length Zp,.slice Zn p0.entries.length Zm,.slice Zq p0.held.length Zo,.slice Zl p0.wire.length Zk,.int .i64 p0.said].toArray] wm h (CP (fun(v:Value) (Gb:List (Ast wm))=>v= .bool r∧Gb= []) [] h):=by
 refine bg Tryz.ntmps51 ZV Ye.nil ?_;intro T hT hS;unfold ZvI at hL;refine r3 ?_;rintro _ h2 ⟨b1,eb1,rfl,hS⟩;refine r4 ?_;refine WC.XD mixed Kq0 ?_;refine r16 ?_;refine r16 ?_;refine r16 ?_;refine r4 ?_;refine r1 ?_;refine cn hL ?_ ?_
 ·intro hc hL;refine r6 ?_;refine r1 ?_;exact rt hL hT hS
 ·intro hc hL;refine XA ?_;refine WC.loop (WL.lift hL (fun(v10:Int) (s:Fs)=>∃ (Uf:Fr) (h3:H),s= ⟨Uf,[],h3,none⟩∧Sp wm T h [bx wm b1 [.slice Zi p0.Zv.length Zh,.slice Zr p0.boxes.length Zp,.slice Zn p0.entries.length Zm,.slice Zq p0.held.length Zo,.slice Zl p0.wire.length Zk,.int .i64 p0.said]] h3∧Uf.at 1= .pointer (some ⟨b1,0,none⟩)∧Uf.at 3= .int .i64 (p0.Zv.length:Int)∧Uf.at 4= .int .i64 (p0.entries.length:Int)∧Uf.at 63= .slice Zi p0.Zv.length Zh∧Uf.at 64= .int .i64 (p0.Zv.length:Int)∧Uf.at 65= .int .i64 v10) ⟨_,_,rfl,hS.only (.c k0 .n),YB⟩ ?_);clear hL hS;rintro Zab v10 s Zj6 hL ⟨Uf,h3,rfl,hS,e5,e6,e7,e8,e9,e11⟩;dsimp only [Zhj] at hL;refine r6 ?_;refine cn hL ?_ ?_
  ·intro hc hL;refine r6 ?_;obtain⟨x13,Zt4,hL⟩:=bind_some hL;obtain⟨b14,o15,_,ZuK,Zvb,ZuX,ZHk⟩:=Sl.at_ Zz Zt4;refine WO.w gN rfl (ZC YG YN lk lk rfl ZuK Zt4) ?_;refine WO.w gN rfl (ZU Xr (Yh fh rfl) (At.fz hS.fz ZuX Zvb) (j:=0) rfl (v:= .int .i64 x13) rfl) ?_;refine XA ?_;refine r2 ?_;refine cn hL ?_ ?_
   ·intro hc hL;refine r8 ?_;refine r3 ?_;exact rt hL hT hS
   ·intro hc hL;refine r6 ?_;refine r1 ?_;exact Ya.Y4 (Zj6 _ _ hL ⟨_,_,rfl,hS.only (.c k0 .n),YB⟩)
  ·intro hc hL;refine XA ?_;refine r3 ?_;refine WC.loop (WL.lift hL (fun(v22:Int) (s:Fs)=>∃ (Zdh:Fr) (h16:H),s= ⟨Zdh,[],h16,none⟩∧Sp wm T h [bx wm b1 [.slice Zi p0.Zv.length Zh,.slice Zr p0.boxes.length Zp,.slice Zn p0.entries.length Zm,.slice Zq p0.held.length Zo,.slice Zl p0.wire.length Zk,.int .i64 p0.said]] h16∧Zdh.at 1= .pointer (some ⟨b1,0,none⟩)∧Zdh.at 3= .int .i64 (p0.Zv.length:Int)∧Zdh.at 4= .int .i64 (p0.entries.length:Int)∧Zdh.at 79= .int .i64 (p0.Zv.length:Int)∧Zdh.at 80= .int .i64 v22) ⟨_,_,rfl,hS.only (.c k0 .n),YB⟩ ?_);clear hL hS;rintro ZjQ v22 s Zx7 hL ⟨Zdh,h16,rfl,hS,e18,e19,e20,e21,e23⟩;dsimp only [Zei] at hL;refine r6 ?_;refine cn hL ?_ ?_
   ·intro hc hL;refine XA ?_;refine r3 ?_;obtain⟨x25,hx25,hL⟩:=bind_some hL;obtain⟨b26,o27,_,ZG1,ZIe,ZHH,ZNM⟩:=Sl.at_ Zz hx25;refine WO.w gN rfl (ZC YG YN lk lk rfl ZG1 hx25) ?_;refine WO.w gN rfl (ZU Xr (Yh fh rfl) (At.fz hS.fz ZHH ZIe) (j:=0) rfl (v:= .int .i64 x25) rfl) ?_;refine r8 ?_;refine r1 ?_;refine WC.loop (WL.lift hL (fun(p:Int×Int) (s:Fs)=>match p with | (v34,v36)=>∃ (ZaA:Fr) (h28:H),s= ⟨ZaA,[],h28,none⟩∧Sp wm T h [bx wm b1 [.slice Zi p0.Zv.length Zh,.slice Zr p0.boxes.length Zp,.slice Zn p0.entries.length Zm,.slice Zq p0.held.length Zo,.slice Zl p0.wire.length Zk,.int .i64 p0.said]] h28∧ZaA.at 1= .pointer (some ⟨b1,0,none⟩)∧ZaA.at 3= .int .i64 (p0.Zv.length:Int)∧ZaA.at 4= .int .i64 (p0.entries.length:Int)∧ZaA.at 7= .int .i64 v22∧ZaA.at 8= .int .i64 v34∧ZaA.at 9= .int .i64 v36∧ZaA.at 79= .int .i64 (p0.Zv.length:Int)∧ZaA.at 80= .int .i64 v22) ⟨_,_,rfl,hS.only (.c k0 .n),YB⟩ ?_);clear hL hS;rintro Zgp ⟨v34,v36⟩ s Zj1 hL ⟨ZaA,h28,rfl,hS,e30,e31,e32,e33,e35,e37,e38,e39⟩;dsimp only [Zhi] at hL;refine XA ?_;refine cn hL ?_ ?_
    ·intro hc hL;refine XA ?_;refine cn hL ?_ ?_
     ·intro hc hL;refine r16 ?_;exact rt hL hT hS
     ·intro hc hL;refine r6 ?_;obtain⟨x41,Zt0,hL⟩:=bind_some hL;obtain⟨b42,o43,_,ZuF,Zu7,ZuU,ZHg⟩:=Sl.at_ Zz Zt0;refine WO.w gN rfl (ZC YG YN lk lk rfl ZuF Zt0) ?_;refine WO.w gN rfl (ZU Xr (Yh fh rfl) (At.fz hS.fz ZuU Zu7) (j:=0) rfl (v:= .int .i64 x41) rfl) ?_;refine r8 ?_;refine r1 ?_;exact Ya.Y4 (Zj1 _ _ hL ⟨_,_,rfl,hS.only (.c k0 .n),YB⟩)
    ·intro hc hL;refine r8 ?_;refine r2 ?_;exact Ya.Y4 (Zx7 _ _ hL ⟨_,_,rfl,hS.only (.c k0 .n),YB⟩)
   ·intro hc hL;refine XA ?_;refine r3 ?_;refine WC.loop (WL.lift hL (fun(v51:Int) (s:Fs)=>∃ (Zmz:Fr) (h44:H),s= ⟨Zmz,[],h44,none⟩∧Sp wm T h [bx wm b1 [.slice Zi p0.Zv.length Zh,.slice Zr p0.boxes.length Zp,.slice Zn p0.entries.length Zm,.slice Zq p0.held.length Zo,.slice Zl p0.wire.length Zk,.int .i64 p0.said]] h44∧Zmz.at 1= .pointer (some ⟨b1,0,none⟩)∧Zmz.at 3= .int .i64 (p0.Zv.length:Int)∧Zmz.at 4= .int .i64 (p0.entries.length:Int)∧Zmz.at 107= .slice Zn p0.entries.length Zm∧Zmz.at 108= .int .i64 (p0.entries.length:Int)∧Zmz.at 109= .int .i64 v51) ⟨_,_,rfl,hS.only (.c k0 .n),YB⟩ ?_);clear hL hS;rintro ZjN v51 s Zx1 hL ⟨Zmz,h44,rfl,hS,e46,e47,e48,e49,e50,e52⟩;dsimp only [ZcD] at hL;refine r6 ?_;refine cn hL ?_ ?_
    ·intro hc hL;refine r6 ?_;refine r1 ?_;obtain⟨x54,Zl7,hL⟩:=bind_some hL;obtain⟨b55,o56,⟨a57,c58⟩,Zmp,Zu3,ZHy,ZHd⟩:=Sl.at_ ZK Zl7;refine WO.w gN rfl (ZC Ur QR lk lk rfl Zmp Zl7) ?_;have ZFI:Sl Zd wm h a57 c58 x54:=ZHd;refine WO.w gN rfl (ZU UJ (Yh fh rfl) (At.fz hS.fz ZHy Zu3) (j:=0) rfl (v:= .slice a57 x54.length c58) rfl) ?_;refine XA ?_;refine r1 ?_;refine cn hL ?_ ?_
     ·intro hc hL;refine XA ?_;exact rt hL hT hS
     ·intro hc hL;refine r8 ?_;refine r2 ?_;refine WC.loop (WL.lift hL (fun(v70:Int) (s:Fs)=>∃ (Zfp:Fr) (h59:H),s= ⟨Zfp,[],h59,none⟩∧Sp wm T h [bx wm b1 [.slice Zi p0.Zv.length Zh,.slice Zr p0.boxes.length Zp,.slice Zn p0.entries.length Zm,.slice Zq p0.held.length Zo,.slice Zl p0.wire.length Zk,.int .i64 p0.said]] h59∧Zfp.at 1= .pointer (some ⟨b1,0,none⟩)∧Zfp.at 3= .int .i64 (p0.Zv.length:Int)∧Zfp.at 4= .int .i64 (p0.entries.length:Int)∧Zfp.at 10= .int .i64 v51∧Zfp.at 107= .slice Zn p0.entries.length Zm∧Zfp.at 108= .int .i64 (p0.entries.length:Int)∧Zfp.at 109= .int .i64 v51∧Zfp.at 118= .slice a57 x54.length c58∧Zfp.at 119= .int .i64 (x54.length:Int)∧Zfp.at 120= .int .i64 v70) ⟨_,_,rfl,hS.only (.c k0 .n),YB⟩ ?_);clear hL hS;rintro Ztx v70 s ZxU hL ⟨Zfp,h59,rfl,hS,e61,e62,e63,e64,e65,e66,e67,e68,e69,e71⟩;dsimp only [Zeh] at hL;refine r6 ?_;refine cn hL ?_ ?_
      ·intro hc hL;refine r6 ?_;obtain⟨x73,Zrd,hL⟩:=bind_some hL;obtain⟨b74,o75,_,Zp2,Zu0,ZHr,ZG8⟩:=Sl.at_ ZFI Zrd;refine WO.w gN rfl (ZC Uq Xt lk lk rfl Zp2 Zrd) ?_;refine WO.w gN rfl (YX Zjj Xt (Yh fh rfl) (At.fz hS.fz ZHr Zu0) (j:=0) rfl rfl (ws:= [.bool x73.here,.int .i64 x73.ZR,.int .i64 x73.age]) rfl) ?_;refine r1 ?_;rintro _ h77 ⟨b76,ZLX,rfl,hS⟩;refine r1 ?_;rintro h78 hS;refine r16 ?_;refine XA ?_;refine r2 ?_;refine WO.gv (Zt.no rfl rfl rfl (YU rfl (YP rfl fh))) rfl (fun hg=>(JA (YL (YU rfl fh) rfl hg) (YL fh rfl hg) (ZbU Zxh))) ?_;refine r3 ?_;refine cn hL ?_ ?_
       ·intro hc hL;refine XA ?_;refine r3 ?_;exact rt hL hT hS
       ·intro hc hL;refine r6 ?_;refine r1 ?_;exact Ya.Y4 (ZxU _ _ hL ⟨_,_,rfl,hS.only (.c k1 .n),YB⟩)
      ·intro hc hL;refine r8 ?_;refine r2 ?_;exact Ya.Y4 (Zx1 _ _ hL ⟨_,_,rfl,hS.only (.c k0 .n),YB⟩)
    ·intro hc hL;refine XA ?_;refine r3 ?_;refine WC.loop (WL.lift hL (fun(v85:Int) (s:Fs)=>∃ (Zon:Fr) (h79:H),s= ⟨Zon,[],h79,none⟩∧Sp wm T h [] h79∧Zon.at 3= .int .i64 (p0.Zv.length:Int)∧Zon.at 4= .int .i64 (p0.entries.length:Int)∧Zon.at 155= .slice Zl p0.wire.length Zk∧Zon.at 156= .int .i64 (p0.wire.length:Int)∧Zon.at 157= .int .i64 v85) ⟨_,_,rfl,hS.only .n,YB⟩ ?_);clear hL hS;rintro ZjK v85 s ZxP hL ⟨Zon,h79,rfl,hS,e81,e82,e83,e84,e86⟩;dsimp only [WG] at hL;refine r6 ?_;refine cn hL ?_ ?_
     ·intro hc hL;refine r6 ?_;obtain⟨x88,ZFe,hL⟩:=bind_some hL;obtain⟨b89,o90,⟨⟨a91,c92⟩,⟨a93,c94⟩⟩,ZGH,ZHT,ZHn,ZAh⟩:=Sl.at_ ZJ ZFe;refine WO.w gN rfl (ZC Ja YF lk lk rfl ZGH ZFe) ?_;have Zua:Sl (Zy .i64) wm h a91 c92 x88.places:=ZAh.1;have Zt9:Sl (Zy .i64) wm h a93 c94 x88.ZW:=ZAh.2;refine WO.w gN rfl (YX Km YF (Yh fh rfl) (At.fz hS.fz ZHn ZHT) (j:=0) rfl rfl (ws:= [.int .i64 x88.kind,.int .i64 x88.ZR,.int .i64 x88.Zu.msg,.int .i64 x88.Zu.place,.int .i64 x88.Zu.from_,.int .i64 x88.Zu.age,.int .i64 x88.Zu.hops,.slice a91 x88.places.length c92,.slice a93 x88.ZW.length c94,.int .i64 x88.place,.int .i64 x88.at_,.int .i64 x88.age]) rfl) ?_;refine r1 ?_;rintro _ h96 ⟨b95,ZQJ,rfl,hS⟩;refine r1 ?_;rintro h97 hS;refine r16 ?_;obtain⟨x98,hx98,hL⟩:=Yf hL;refine WO.gcp (Zt.no rfl rfl rfl (ZA rfl fh)) rfl (fun hg=>(XP.fn ZGe (Ze (YL fh rfl hg) ZH))) (fun hg=>ZC1 (hS.YE Zua) (hS.YE Zt9) (hx98 hg)) ?_;refine r4 ?_;refine cn hL ?_ ?_
      ·intro hc hL;refine XA ?_;exact rt hL hT hS
      ·intro hc hL;refine XA ?_;refine WC.loop (WL.lift hL (fun(v109:Int) (s:Fs)=>∃ (Zbf:Fr) (h99:H),s= ⟨Zbf,[],h99,none⟩∧Sp wm T h [bx wm b95 [.int .i64 x88.kind,.int .i64 x88.ZR,.int .i64 x88.Zu.msg,.int .i64 x88.Zu.place,.int .i64 x88.Zu.from_,.int .i64 x88.Zu.age,.int .i64 x88.Zu.hops,.slice a91 x88.places.length c92,.slice a93 x88.ZW.length c94,.int .i64 x88.place,.int .i64 x88.at_,.int .i64 x88.age]] h99∧Zbf.at 3= .int .i64 (p0.Zv.length:Int)∧Zbf.at 4= .int .i64 (p0.entries.length:Int)∧Zbf.at 15= .pointer (some ⟨b95,0,none⟩)∧Zbf.at 155= .slice Zl p0.wire.length Zk∧Zbf.at 156= .int .i64 (p0.wire.length:Int)∧Zbf.at 157= .int .i64 v85∧Zbf.at 176= .slice a91 x88.places.length c92∧Zbf.at 177= .int .i64 (x88.places.length:Int)∧Zbf.at 178= .int .i64 v109) ⟨_,_,rfl,hS.only (.c k0 .n),YB⟩ ?_);clear hL hS;rintro ZpL v109 s Zul hL ⟨Zbf,h99,rfl,hS,ZDC,ZMa,ZIC,ZL9,ZDB,ZL8,ZIB,e108,ZIA⟩;dsimp only [Zeg] at hL;refine r6 ?_;refine cn hL ?_ ?_
       ·intro hc hL;refine r6 ?_;refine r1 ?_;obtain⟨x112,hx112,hL⟩:=bind_some hL;obtain⟨ZSG,ZPj,_,ZBZ,ZCD,ZCg,ZLB⟩:=Sl.at_ Zua hx112;refine WO.w gN rfl (ZC YG YN lk lk rfl ZBZ hx112) ?_;refine WO.w gN rfl (ZU Xr (Yh fh rfl) (At.fz hS.fz ZCg ZCD) (j:=0) rfl (v:= .int .i64 x112) rfl) ?_;refine r16 ?_;refine r6 ?_;obtain⟨x115,hx115,hL⟩:=Yf hL;obtain⟨ZSF,ZPi,_,hQ⟩:=Sl.atG (fun hg=>Zua) hx115;have ZBY:=fun hg=>(hQ hg).1
        have ZCC:=fun hg=>(hQ hg).2.1
        have ZCf:=fun hg=>(hQ hg).2.2.1
        have ZLA:=fun hg=>(hQ hg).2.2.2
        refine WO.gv (Zt.ZhW rfl rfl rfl (YU rfl (ZA rfl fh))) rfl (fun hg=>(ZC YG YN (YL (YP rfl fh) rfl hg) (YL fh rfl hg) rfl (ZBY hg) (hx115 hg))) ?_;refine WO.gv (Zt.ZhW rfl rfl rfl (YU rfl (YP rfl fh))) rfl (fun hg=>(ZU Xr (YL fh rfl hg) (At.fz hS.fz (ZCf hg) (ZCC hg)) (j:=0) rfl (v:= .int .i64 x115) rfl)) ?_;refine r1 ?_;refine WO.gv (Zt.no rfl rfl rfl (YK rfl (YP rfl (ZA rfl fh)))) rfl (fun hg=>(ZhI (YL (YK rfl fh) rfl hg) (Zfa fh hg) lk)) ?_;refine r4 ?_;refine r1 ?_;obtain⟨ZhY,ZzU,hL⟩:=Yf hL;obtain⟨ZSD,ZPg,_,hQ⟩:=Sl.atG (fun hg=>Zt9) ZzU;have ZBW:=fun hg=>(hQ hg).1
        have ZCA:=fun hg=>(hQ hg).2.1
        have ZCe:=fun hg=>(hQ hg).2.2.1
        have ZLy:=fun hg=>(hQ hg).2.2.2
        refine WO.gv (Zt.no rfl rfl rfl (YP rfl (ZA rfl fh))) rfl (fun hg=>(ZC YG YN (YL (ZA rfl fh) rfl hg) (YL fh rfl hg) rfl (ZBW hg) (ZzU hg))) ?_;refine WO.gv (Zt.no rfl rfl rfl (YU rfl fh)) rfl (fun hg=>(ZU Xr (YL fh rfl hg) (At.fz hS.fz (ZCe hg) (ZCA hg)) (j:=0) rfl (v:= .int .i64 ZhY) rfl)) ?_;refine r6 ?_;obtain⟨ZfY,Zmg,hL⟩:=Yf hL;obtain⟨ZMt,ZKp,_,hQ⟩:=Sl.atG (fun hg=>Zt9) Zmg;have Zoh:=fun hg=>(hQ hg).1
        have Zok:=fun hg=>(hQ hg).2.1
        have ZCc:=fun hg=>(hQ hg).2.2.1
        have ZB5:=fun hg=>(hQ hg).2.2.2
        refine WO.gv (Zt.no rfl rfl rfl (YP rfl (ZA rfl fh))) rfl (fun hg=>(ZC YG YN (YL (ZA rfl fh) rfl hg) (YL fh rfl hg) rfl (Zoh hg) (Zmg hg))) ?_;refine WO.gv (Zt.no rfl rfl rfl (YU rfl fh)) rfl (fun hg=>(ZU Xr (YL fh rfl hg) (At.fz hS.fz (ZCc hg) (Zok hg)) (j:=0) rfl (v:= .int .i64 ZfY) rfl)) ?_;refine r4 ?_;refine cn hL ?_ ?_
        ·intro hc hL;refine r16 ?_;exact rt hL hT hS
        ·intro hc hL;refine r6 ?_;refine r1 ?_;exact Ya.Y4 (Zul _ _ hL ⟨_,_,rfl,hS.only (.c k0 .n),YB⟩)
       ·intro hc hL;refine r16 ?_;refine r3 ?_;refine WO.gv (Zt.yes rfl rfl rfl (YK rfl fh)) rfl (fun hg=>(Zm1 (YL (YU rfl fh) rfl hg) lk (Zfa fh hg))) ?_;refine r6 ?_;refine WO.gv (Zt.yes rfl rfl rfl (YK rfl (YU rfl (YP rfl (ZA rfl fh))))) rfl (fun hg=>(Zm1 (YL (YU rfl (ZA rfl fh)) rfl hg) lk (Zfa fh hg))) ?_;refine r3 ?_;refine cn hL ?_ ?_
        ·intro hc hL;refine r8 ?_;refine r3 ?_;exact rt hL hT hS
        ·intro hc hL;refine r6 ?_;refine r1 ?_;exact Ya.Y4 (ZxP _ _ hL ⟨_,_,rfl,hS.only .n,YB⟩)
     ·intro hc hL;refine r8 ?_;refine r3 ?_;exact rt hL hT hS
theorem ZC6 {F wm:Nat} {h:H} {p0:(List Int)} {p1:Int} {Zi:Option Addr} {Zh:Nat} {r:Bool} (ZV:wm <=h.size) (Zz:Sl (Zy .i64) wm h Zi Zh p0) (hL:ZoC F p0 p1=some r):
 WR XX 78 #[.slice Zi p0.length Zh,.int .i64 p1] wm h (CP (fun(v:Value) (Gb:List (Ast wm))=>v= .bool r∧Gb= []) [] h):=by
 refine bg Tryz.ntmps78 ZV Ye.nil ?_;intro T hT hS;unfold ZoC at hL;refine r8 ?_;refine r1 ?_;obtain⟨x1,hx1,hL⟩:=bind_some hL;refine WO.cp gN rfl (XP.fn ZF6 (Ze lk (Ze lk ZH))) (WR.XY rfl (ZCS (Nat.le_refl _) (hS.YE Zz) hx1)) ?_;refine r4 ?_;refine r1 ?_;exact rt hL hT hS
theorem ZvA {F:Nat} {h:H} {p0:(List Int)} {p1:Int} {Zi:Option Addr} {Zh:Nat} {r:Bool} (Zz:Sl (Zy .i64) h.size h Zi Zh p0) (hL:ZoC F p0 p1=some r):Pure XX 78 #[.slice Zi p0.length Zh,.int .i64 p1] h (.bool r):=
 WR.XY rfl (ZC6 (Nat.le_refl _) Zz hL)
end Go.Proofs.YtbmbbcaaimehkaaGreat
end
end
section
namespace Go.Proofs.YtbmbbcaaimehkaaGreat
open Go.Lf
def Zki (p0:(List (List Zx))):(List (List Zx))×Int ->((List (List Zx))×Int ->Option (List (List Zx))) ->Option (List (List Zx)):=fun(v3,v11) X8=>
 (bif decide (v11 < (p0.length:Int)) then(ZN p0 v11).bind fun x14=>(Zqc x14).bind fun x19=>(app 24 v3 [x19]).bind fun z27=>X8 (z27,Xl (v11 + 1)) else some v3)
def Zvy (F:Nat) (p0:(List (List Zx))):Option (List (List Zx)):=
 loop F (Zki p0) ([],0)
def Zkh (p0:(List (List Zj))):(List (List Zj))×Int ->((List (List Zj))×Int ->Option (List (List Zj))) ->Option (List (List Zj)):=fun(v3,v11) X8=>
 (bif decide (v11 < (p0.length:Int)) then(ZN p0 v11).bind fun x14=>(Zqb x14).bind fun x19=>(app 24 v3 [x19]).bind fun z27=>X8 (z27,Xl (v11 + 1)) else some v3)
def Zvx (F:Nat) (p0:(List (List Zj))):Option (List (List Zj)):=
 loop F (Zkh p0) ([],0)
def Zru (p0:Yj) (p1:Int) (p2:Zj) (p3:Bool):Option Yj:=
 (ZN p0.Za.entries p1).bind fun x3=>(ZN x3 p2.place).bind fun x9=>(bif x9.here then(Ze8 p0 p1 p2).bind fun x15=>some x15 else(bif((decide (x9.age > p2.age)) || p3) then(app 128 p0.Za.wire ([(Zc.mk 1 x9.ZR (Zj.mk p2.msg p2.place p2.from_ x9.age (Xl (p2.hops + 1))) [] [] 0 0 0)])).bind fun z40=>(bif(((!p3) && (p2.from_ !=p1)) && (p2.from_ !=x9.ZR)) then(app 128 z40 ([(Zc.mk 3 p2.from_ (Zj.mk 0 0 0 0 0) [] [] p2.place x9.ZR x9.age)])).bind fun z47=>some (Yj.mk (Zb.mk p0.Za.Zv p0.Za.boxes p0.Za.entries p0.Za.held z47 p0.Za.said) p0.events) else some (Yj.mk (Zb.mk p0.Za.Zv p0.Za.boxes p0.Za.entries p0.Za.held z40 p0.Za.said) p0.events)) else(ZN p0.Za.held p1).bind fun x54=>(app 40 x54 [p2]).bind fun z62=>(ZN p0.Za.held p1).bind fun x66=>some (Yj.mk (Zb.mk p0.Za.Zv p0.Za.boxes p0.Za.entries (Yz p0.Za.held p1 z62) p0.Za.wire p0.Za.said) p0.events)))
end Go.Proofs.YtbmbbcaaimehkaaGreat
end
section
set_option maxRecDepth 20000
noncomputable section
namespace Go.Proofs.YtbmbbcaaimehkaaGreat
open Go.Yr Go.Lf
theorem ZC4 {F wm:Nat} {h:H} {p0:(List (List Zx))} {Zi:Option Addr} {Zh:Nat} {r:(List (List Zx))} (ZV:wm <=h.size) (Zz:Sl (Z6 Zd) wm h Zi Zh p0) (hL:Zvy F p0=some r):
 WR XX 82 #[.slice Zi p0.length Zh] wm h (CP (fun(v:Value) (Gb:List (Ast wm))=>∃ (XV:Option Addr) (XT:Nat) (XU:Nat) (ZcZ:Nat ->Option Addr×Nat×Nat),v= .slice XV XT XU∧Gb= [XK wm (Z5 Zd) XV XT XU ZcZ r]) [] h):=by
 refine bg Tryz.ntmps82 ZV Ye.nil ?_;intro T hT hS;unfold Zvy at hL;refine r16 ?_;refine r3 ?_;have hS:=hS.ZjJ (e:= (Z5 Zd)) (ps:=fun _=>(Z5 Zd).dflt);refine WC.loop (WL.lift hL (fun(p:(List (List Zx))×Int) (s:Fs)=>match p with | (v3,v11)=>∃ (Jk:Fr) (h1:H) (a4:Option Addr) (c5:Nat) (n6:Nat) (ps7:Nat ->Option Addr×Nat×Nat),s= ⟨Jk,[],h1,none⟩∧Sp wm T h [XK wm (Z5 Zd) a4 n6 c5 ps7 v3] h1∧Jk.at 3= .slice a4 n6 c5∧Jk.at 6= .slice Zi p0.length Zh∧Jk.at 7= .int .i64 (p0.length:Int)∧Jk.at 8= .int .i64 v11) ⟨_,_,none,0,0,(fun _=>(Z5 Zd).dflt),rfl,hS.only (.c k0 .n),YB⟩ ?_);clear hL hS;rintro X8 ⟨v3,v11⟩ s JY hL ⟨Jk,h1,a4,c5,n6,ps7,rfl,hS,e8,e9,e10,e12⟩;obtain rfl:=hS.Xu k0;dsimp only [Zki] at hL;refine r6 ?_;refine cn hL ?_ ?_
 ·intro hc hL;refine r6 ?_;obtain⟨x14,Zda,hL⟩:=bind_some hL;obtain⟨b15,o16,⟨a17,c18⟩,Zdb,Zdd,Zdc,Ze4⟩:=Sl.at_ Zz Zda;refine WO.w gN rfl (ZC Ur QR lk lk rfl Zdb Zda) ?_;have ZgG:Sl Zd wm h a17 c18 x14:=Ze4;refine WO.w gN rfl (ZU UJ (Yh fh rfl) (At.fz hS.fz Zdc Zdd) (j:=0) rfl (v:= .slice a17 x14.length c18) rfl) ?_;refine r6 ?_;obtain⟨x19,Zn5,hL⟩:=bind_some hL;refine WO.cl gN rfl (XP.fn ZBG (Ze lk ZH)) hS .n (fun g' hz hf hO=>ZyK (by rw [hz];exact hS.hw) ((hS.sl ZgG).mono hf) Zn5) ?_;rintro _ h23 _ ⟨a20,n21,c22,rfl,rfl⟩ hS;obtain rfl:=hS.on k0;refine WO.hn gN rfl (ZsY (e:=Zd) (x:=x19) hS k0 Ur QR Zso rfl rfl (ZG lk Yi) rfl rfl) ?_;rintro _ h26 ⟨b25,ZIv,rfl,hS⟩;obtain⟨z27,ZtV,hL⟩:=bind_some hL;refine WO.hv gN rfl (ZsZ (e:= (Z5 Zd)) hS (.c k1 (.c k0 .n)) Zwe lk lk ZtV) ?_;rintro _ h31 ⟨a28,c29,Ztc,rfl,hS⟩;refine r8 ?_;exact Ya.Y4 (JY _ _ hL ⟨_,_,a28,c29,z27.length,Ztc,rfl,hS.only (.c k0 .n),YB⟩)
 ·intro hc hL;refine XA ?_;have hr:=Oi0 hL;subst hr;exact YJ.UC rfl (Z0 lk ZX) ⟨_,⟨a4,v3.length,c5,ps7,rfl,rfl⟩,hT ▸ hS.only (.c k0 .n)⟩
theorem ZC3 {F wm:Nat} {h:H} {p0:(List (List Zj))} {Zi:Option Addr} {Zh:Nat} {r:(List (List Zj))} (ZV:wm <=h.size) (Zz:Sl (Z6 Zf) wm h Zi Zh p0) (hL:Zvx F p0=some r):
 WR XX 83 #[.slice Zi p0.length Zh] wm h (CP (fun(v:Value) (Gb:List (Ast wm))=>∃ (XV:Option Addr) (XT:Nat) (XU:Nat) (ZcZ:Nat ->Option Addr×Nat×Nat),v= .slice XV XT XU∧Gb= [XK wm (Z5 Zf) XV XT XU ZcZ r]) [] h):=by
 refine bg Tryz.ntmps83 ZV Ye.nil ?_;intro T hT hS;unfold Zvx at hL;refine r16 ?_;refine r3 ?_;have hS:=hS.ZjJ (e:= (Z5 Zf)) (ps:=fun _=>(Z5 Zf).dflt);refine WC.loop (WL.lift hL (fun(p:(List (List Zj))×Int) (s:Fs)=>match p with | (v3,v11)=>∃ (Jk:Fr) (h1:H) (a4:Option Addr) (c5:Nat) (n6:Nat) (ps7:Nat ->Option Addr×Nat×Nat),s= ⟨Jk,[],h1,none⟩∧Sp wm T h [XK wm (Z5 Zf) a4 n6 c5 ps7 v3] h1∧Jk.at 3= .slice a4 n6 c5∧Jk.at 6= .slice Zi p0.length Zh∧Jk.at 7= .int .i64 (p0.length:Int)∧Jk.at 8= .int .i64 v11) ⟨_,_,none,0,0,(fun _=>(Z5 Zf).dflt),rfl,hS.only (.c k0 .n),YB⟩ ?_);clear hL hS;rintro X8 ⟨v3,v11⟩ s JY hL ⟨Jk,h1,a4,c5,n6,ps7,rfl,hS,e8,e9,e10,e12⟩;obtain rfl:=hS.Xu k0;dsimp only [Zkh] at hL;refine r6 ?_;refine cn hL ?_ ?_
 ·intro hc hL;refine r6 ?_;obtain⟨x14,Zda,hL⟩:=bind_some hL;obtain⟨b15,o16,⟨a17,c18⟩,Zdb,Zdd,Zdc,Ze4⟩:=Sl.at_ Zz Zda;refine WO.w gN rfl (ZC WZ QO lk lk rfl Zdb Zda) ?_;have ZgG:Sl Zf wm h a17 c18 x14:=Ze4;refine WO.w gN rfl (ZU Zch (Yh fh rfl) (At.fz hS.fz Zdc Zdd) (j:=0) rfl (v:= .slice a17 x14.length c18) rfl) ?_;refine r6 ?_;obtain⟨x19,Zn5,hL⟩:=bind_some hL;refine WO.cl gN rfl (XP.fn ZBF (Ze lk ZH)) hS .n (fun g' hz hf hO=>ZyJ (by rw [hz];exact hS.hw) ((hS.sl ZgG).mono hf) Zn5) ?_;rintro _ h23 _ ⟨a20,n21,c22,rfl,rfl⟩ hS;obtain rfl:=hS.on k0;refine WO.hn gN rfl (ZsY (e:=Zf) (x:=x19) hS k0 WZ QO Zsn rfl rfl (ZG lk Yi) rfl rfl) ?_;rintro _ h26 ⟨b25,ZIv,rfl,hS⟩;obtain⟨z27,ZtV,hL⟩:=bind_some hL;refine WO.hv gN rfl (ZsZ (e:= (Z5 Zf)) hS (.c k1 (.c k0 .n)) Zwd lk lk ZtV) ?_;rintro _ h31 ⟨a28,c29,Ztc,rfl,hS⟩;refine r8 ?_;exact Ya.Y4 (JY _ _ hL ⟨_,_,a28,c29,z27.length,Ztc,rfl,hS.only (.c k0 .n),YB⟩)
 ·intro hc hL;refine XA ?_;have hr:=Oi0 hL;subst hr;exact YJ.UC rfl (Z0 lk ZX) ⟨_,⟨a4,v3.length,c5,ps7,rfl,rfl⟩,hT ▸ hS.only (.c k0 .n)⟩
theorem ZC2 {wm:Nat} {h:H} {p0:Yj} {p1:Int} {p2:Zj} {p3:Bool} {Zi:Option Addr} {Zh QS:Nat} {Zr:Option Addr} {Zp Kc:Nat} {Qs:Nat ->Option Addr×Nat×Nat} {Zn:Option Addr} {Zm Kb:Nat} {QI:Nat ->Option Addr×Nat×Nat} {Zq:Option Addr} {Zo Ka:Nat} {Qr:Nat ->Option Addr×Nat×Nat} {Zl:Option Addr} {Zk W9:Nat} {Z9:Option Addr} {Z8 JV YR:Nat} {r:Yj} (ZV:wm <=h.size) (hO:Ye (wm:=wm) [bx wm YR [.slice Zi QS Zh,.slice Zr Kc Zp,.slice Zn Kb Zm,.slice Zq Ka Zo,.slice Zl W9 Zk,.int .i64 p0.Za.said,.slice Z9 JV Z8],ow wm (Zy .i64) Zi QS Zh p0.Za.Zv,XK wm (Z5 (Zy .i64)) Zr Kc Zp Qs p0.Za.boxes,XK wm (Z5 Zd) Zn Kb Zm QI p0.Za.entries,XK wm (Z5 Zf) Zq Ka Zo Qr p0.Za.held,ow wm Zg Zl W9 Zk p0.Za.wire,ow wm Z7 Z9 JV Z8 p0.events] h) (hL:Zru p0 p1 p2 p3=some r):
 WR XX 84 #[.pointer (some ⟨YR,0,none⟩),.int .i64 p1,.agg [.int .i64 p2.msg,.int .i64 p2.place,.int .i64 p2.from_,.int .i64 p2.age,.int .i64 p2.hops].toArray,.bool p3] wm h (CP (fun(v:Value) (Gb:List (Ast wm))=>∃ (Wv:Option Addr) (ZaS:Nat) (Wo:Nat) (Wu:Option Addr) (ZaR:Nat) (Wn:Nat) (Za0:Nat ->Option Addr×Nat×Nat) (Wt:Option Addr) (ZaQ:Nat) (Wl:Nat) (ZaZ:Nat ->Option Addr×Nat×Nat) (Ws:Option Addr) (ZaP:Nat) (Wj:Nat) (ZaY:Nat ->Option Addr×Nat×Nat) (Wq:Option Addr) (ZaO:Nat) (Wi:Nat) (Wp:Option Addr) (U9:Nat) (Wh:Nat),v= .tuple [].toArray∧Gb= [bx wm YR [.slice Wv ZaS Wo,.slice Wu ZaR Wn,.slice Wt ZaQ Wl,.slice Ws ZaP Wj,.slice Wq ZaO Wi,.int .i64 r.Za.said,.slice Wp U9 Wh],ow wm (Zy .i64) Wv ZaS Wo r.Za.Zv,XK wm (Z5 (Zy .i64)) Wu ZaR Wn Za0 r.Za.boxes,XK wm (Z5 Zd) Wt ZaQ Wl ZaZ r.Za.entries,XK wm (Z5 Zf) Ws ZaP Wj ZaY r.Za.held,ow wm Zg Wq ZaO Wi r.Za.wire,ow wm Z7 Wp U9 Wh r.events]) [bx wm YR [.slice Zi QS Zh,.slice Zr Kc Zp,.slice Zn Kb Zm,.slice Zq Ka Zo,.slice Zl W9 Zk,.int .i64 p0.Za.said,.slice Z9 JV Z8],ow wm (Zy .i64) Zi QS Zh p0.Za.Zv,XK wm (Z5 (Zy .i64)) Zr Kc Zp Qs p0.Za.boxes,XK wm (Z5 Zd) Zn Kb Zm QI p0.Za.entries,XK wm (Z5 Zf) Zq Ka Zo Qr p0.Za.held,ow wm Zg Zl W9 Zk p0.Za.wire,ow wm Z7 Z9 JV Z8 p0.events] h):=by
 refine bg Tryz.ntmps84 ZV hO ?_;intro T hT hS;unfold Zru at hL;obtain rfl:=hS.on k1;obtain rfl:=hS.Xu k2;obtain rfl:=hS.Xu k3;obtain rfl:=hS.Xu k4;obtain rfl:=hS.on k5;obtain rfl:=hS.on k6;refine r3 ?_;rintro _ h2 ⟨b1,eb1,rfl,hS⟩;refine r3 ?_;refine WC.XD mixed Kq0 ?_;refine r6 ?_;obtain⟨x3,hx3,hL⟩:=bind_some hL;obtain⟨b4,o5,a6,n7,c8,ZFT,ZLl,ZLJ⟩:=hS.atS k4 hx3;refine WX.w gN rfl (ZC Ur QR lk lk rfl ZLl hx3) ?_ rfl;refine WX.w gN rfl (ZU UJ (Yh fh rfl) ZLJ (j:=0) rfl (v:= .slice a6 n7 c8) rfl) ?_ rfl;refine r2 ?_;obtain⟨x9,hx9,hL⟩:=bind_some hL;obtain⟨b10,o11,_,ZgM,ZgP,Zp6⟩:=Src.at_ (hS.inS k4 hx3 ZFT).2.1 hx9;refine WX.w gN rfl (ZC Uq Xt lk lk (hS.inS k4 hx3 ZFT).1 ZgM hx9) ?_ rfl;refine WX.w gN rfl (YX Zjj Xt (Yh fh rfl) ZgP (j:=0) rfl rfl (ws:= [.bool x9.here,.int .i64 x9.ZR,.int .i64 x9.age]) rfl) ?_ rfl;refine WX.hn gN rfl (Zpv hS ZfV (vs:= [.bool false,.int .i64 0,.int .i64 0]) rfl) ?_ rfl;rintro _ h13 ⟨b12,ZQ7,rfl,hS⟩;refine WX.hu gN (ZbW hS k0 Xt lk lk (vs:= [.bool x9.here,.int .i64 x9.ZR,.int .i64 x9.age]) rfl rfl rfl rfl (cs':= [.bool x9.here,.int .i64 x9.ZR,.int .i64 x9.age]) rfl) ?_ rfl rfl [] Kq0 Y3.e;rintro h14 hS;refine r8 ?_;refine r2 ?_;refine cn hL ?_ ?_
 ·intro hc hL;refine r4 ?_;obtain⟨x15,ZKO,hL⟩:=bind_some hL;refine WO.cl gN rfl (XP.fn Zuy (Ze lk (Ze lk (Ze lk ZH)))) hS (.c k2 (.c k2 (.c k2 (.c k2 (.c k2 (.c k2 (.c k2 .n))))))) (fun g' hz hf hO=>Zqa (by rw [hz];exact hS.hw) hO ZKO) ?_;rintro _ h34 _ ⟨a16,n17,c18,a19,n20,c21,ZES,a22,n23,c24,ZEQ,a25,n26,c27,ZEP,a28,n29,c30,a31,n32,c33,rfl,rfl⟩ hS;obtain rfl:=hS.on k1;obtain rfl:=hS.Xu k2;obtain rfl:=hS.Xu k3;obtain rfl:=hS.Xu k4;obtain rfl:=hS.on k5;obtain rfl:=hS.on k6;refine r2 ?_;refine YJ.Y4 ?_;have hr:=Oi0 hL;subst hr;exact YJ.gen (vs:= []) rfl ZX rfl ⟨_,⟨a16,x15.Za.Zv.length,c18,a19,x15.Za.boxes.length,c21,ZES,a22,x15.Za.entries.length,c24,ZEQ,a25,x15.Za.held.length,c27,ZEP,a28,x15.Za.wire.length,c30,a31,x15.events.length,c33,rfl,rfl⟩,hT ▸ hS.only (.c k0 (.c k0 (.c k0 (.c k0 (.c k0 (.c k0 (.c k0 .n)))))))⟩
 ·intro hc hL;refine XA ?_;refine r1 ?_;refine cn hL ?_ ?_
  ·intro hc hL;refine r6 ?_;rintro h36 hS;refine r8 ?_;refine r1 ?_;rintro h37 hS;refine r3 ?_;refine WC.XD mixed Kq0 ?_;refine r8 ?_;refine r1 ?_;refine WX.w gN rfl (Qy Zv4 (ZG lk (ZG lk (ZG lk Yi))) rfl (cs':= [.int .i64 1,.int .i64 x9.ZR,.int .i64 p2.msg,.int .i64 p2.place,.int .i64 p2.from_,.int .i64 x9.age,.int .i64 (Xl (p2.hops + 1)),.slice none 0 0,.slice none 0 0,.int .i64 0,.int .i64 0,.int .i64 0]) rfl) ?_ rfl;refine WX.hn gN rfl (ZbX (e:=Zg) hS Ja YF ZdJ rfl rfl rfl (ZG lk Yi) rfl [(((none,0),(none,0)),(Zc.mk 1 x9.ZR (Zj.mk p2.msg p2.place p2.from_ x9.age (Xl (p2.hops + 1))) [] [] 0 0 0))] rfl (xs:= [(Zc.mk 1 x9.ZR (Zj.mk p2.msg p2.place p2.from_ x9.age (Xl (p2.hops + 1))) [] [] 0 0 0)]) rfl (by intro q hq;simp only [List.mem_cons,List.not_mem_nil,or_false] at hq;subst hq;exact⟨Sl.nil,Sl.nil⟩) rfl) ?_ rfl;rintro _ h39 ⟨b38,ZQ1,rfl,hS⟩;obtain⟨z40,ZKy,hL⟩:=bind_some hL;refine WX.hv gN rfl (Zax (e:=Zg) hS k8 Zdz lk lk (hS.JP k0) (hS.on k0) ZKy) ?_ rfl rfl [] Kq0 Y3.e;rintro _ h43 ⟨a41,c42,rfl,hS⟩;refine WX.w gN rfl (ZhH lk) ?_ Kq0;refine WX.w gN rfl (Ky ZgU lk) ?_ Kq0;refine WX.w gN rfl (Ky Zkc lk) ?_ Kq0;refine WX.hu gN (ZbW hS k4 ZnH lk lk (vs:= [.slice a41 z40.length c42]) rfl rfl rfl rfl (cs':= [.slice Zi p0.Za.Zv.length Zh,.slice Zr p0.Za.boxes.length Zp,.slice Zn p0.Za.entries.length Zm,.slice Zq p0.Za.held.length Zo,.slice a41 z40.length c42,.int .i64 p0.Za.said,.slice Z9 p0.events.length Z8]) rfl) ?_ rfl Kq0 [] Kq0 Y3.e;rintro h44 hS;refine r16 ?_;refine r4 ?_;refine r1 ?_;refine cn hL ?_ ?_
   ·intro hc hL;refine WC.XD mixed Kq0 ?_;refine XA ?_;refine r2 ?_;refine WX.w gN rfl (Qy Zv4 (ZG lk (ZG lk (ZG lk (ZG lk (ZG lk Yi))))) rfl (cs':= [.int .i64 3,.int .i64 p2.from_,.int .i64 0,.int .i64 0,.int .i64 0,.int .i64 0,.int .i64 0,.slice none 0 0,.slice none 0 0,.int .i64 p2.place,.int .i64 x9.ZR,.int .i64 x9.age]) rfl) ?_ rfl;refine WX.hn gN rfl (ZbX (e:=Zg) hS Ja YF ZdJ rfl rfl rfl (ZG lk Yi) rfl [(((none,0),(none,0)),(Zc.mk 3 p2.from_ (Zj.mk 0 0 0 0 0) [] [] p2.place x9.ZR x9.age))] rfl (xs:= [(Zc.mk 3 p2.from_ (Zj.mk 0 0 0 0 0) [] [] p2.place x9.ZR x9.age)]) rfl (by intro q hq;simp only [List.mem_cons,List.not_mem_nil,or_false] at hq;subst hq;exact⟨Sl.nil,Sl.nil⟩) rfl) ?_ rfl;rintro _ h46 ⟨b45,ZQY,rfl,hS⟩;obtain⟨z47,ZKx,hL⟩:=bind_some hL;refine WX.hv gN rfl (Zax (e:=Zg) hS k2 Zdz lk lk (hS.JP k0) (hS.on k0) ZKx) ?_ rfl rfl [] Kq0 Y3.e;rintro _ h50 ⟨a48,c49,rfl,hS⟩;refine WX.w gN rfl (ZhH lk) ?_ Kq0;refine WX.w gN rfl (Ky ZgU lk) ?_ Kq0;refine WX.w gN rfl (Ky Zkc lk) ?_ Kq0;refine WX.hu gN (ZbW hS k2 ZnH lk lk (vs:= [.slice a48 z47.length c49]) rfl rfl rfl rfl (cs':= [.slice Zi p0.Za.Zv.length Zh,.slice Zr p0.Za.boxes.length Zp,.slice Zn p0.Za.entries.length Zm,.slice Zq p0.Za.held.length Zo,.slice a48 z47.length c49,.int .i64 p0.Za.said,.slice Z9 p0.events.length Z8]) rfl) ?_ rfl Kq0 [] Kq0 Y3.e;rintro h51 hS;refine r2 ?_;refine YJ.Y4 ?_;have hr:=Oi0 hL;subst hr;exact YJ.gen (vs:= []) rfl ZX rfl ⟨_,⟨Zi,p0.Za.Zv.length,Zh,Zr,p0.Za.boxes.length,Zp,Qs,Zn,p0.Za.entries.length,Zm,QI,Zq,p0.Za.held.length,Zo,Qr,a48,z47.length,c49,Z9,p0.events.length,Z8,rfl,rfl⟩,hT ▸ hS.only (.c k0 (.c k5 (.c k5 (.c k5 (.c k5 (.c k0 (.c k4 .n)))))))⟩
   ·intro hc hL;refine r2 ?_;refine YJ.Y4 ?_;have hr:=Oi0 hL;subst hr;exact YJ.gen (vs:= []) rfl ZX rfl ⟨_,⟨Zi,p0.Za.Zv.length,Zh,Zr,p0.Za.boxes.length,Zp,Qs,Zn,p0.Za.entries.length,Zm,QI,Zq,p0.Za.held.length,Zo,Qr,a41,z40.length,c42,Z9,p0.events.length,Z8,rfl,rfl⟩,hT ▸ hS.only (.c k0 (.c k4 (.c k4 (.c k4 (.c k4 (.c k0 (.c k3 .n)))))))⟩
  ·intro hc hL;refine WC.XD mixed Kq0 ?_;refine r4 ?_;refine WX.wr (fun x=>x=YR) hS gN rfl (fun _ _ hR=>ZU Zqq (Yh fh rfl) (At.eqv (hR YR rfl) (hS.atB k2)) (j:=3) rfl (v:= .slice Zq p0.Za.held.length Zo) rfl) ?_ rfl rfl;rintro h52 e53 hS;refine r6 ?_;refine r1 ?_;obtain⟨x54,Zl7,hL⟩:=bind_some hL;obtain⟨b55,o56,a57,n58,c59,ZFS,Zmp,Zu3⟩:=hS.atS k6 Zl7;refine WX.w gN rfl (ZC WZ QO lk lk rfl Zmp Zl7) ?_ rfl;refine WX.w gN rfl (ZU Zch (Yh fh rfl) Zu3 (j:=0) rfl (v:= .slice a57 n58 c59) rfl) ?_ rfl;refine r1 ?_;refine WX.hn gN rfl (ZbX (e:=Zf) hS Zan JU ZfU rfl rfl rfl (ZG lk Yi) rfl [((),p2)] rfl (xs:= [p2]) rfl (by intro q hq;simp only [List.mem_cons,List.not_mem_nil,or_false] at hq;subst hq;exact trivial) rfl) ?_ rfl;rintro _ h61 ⟨b60,ZLY,rfl,hS⟩;obtain⟨z62,ZKw,hL⟩:=bind_some hL;have hS:=hS.ZiK k7 Zl7 ZFS;refine WX.hv gN rfl (Zax (e:=Zf) hS k1 ZhL lk lk (hS.JP k2) (hS.on k2) ZKw) ?_ rfl rfl [4] Kq0 (.c (.s .z) (hS.dj (.c k1 (.c k4 .n))) Y3.e);rintro _ h65 ⟨a63,c64,rfl,hS⟩;obtain⟨x66,ZKJ,hL⟩:=bind_some hL;refine WX.w gN rfl (ZC WZ QO lk lk rfl Zmp ZKJ) ?_ Kq0;refine WX.hu gN (Zpu hS k1 QO (Yh fh rfl) (Yh (ZA rfl fh) rfl) Zmp Zl7 (j:=0) rfl (vs:= [.slice a63 z62.length c64]) rfl rfl rfl rfl rfl (cs':= [.slice a63 z62.length c64]) rfl rfl rfl) ?_ rfl Kq0 [] Kq0 Y3.e;rintro h68 hS;obtain⟨ZKk,ZPA,hS⟩:=hS.Zi6 (.c k0 (.c k0 .n)) Zl7;refine r2 ?_;refine YJ.Y4 ?_;have hr:=Oi0 hL;subst hr;exact YJ.gen (vs:= []) rfl ZX rfl ⟨_,⟨Zi,p0.Za.Zv.length,Zh,Zr,p0.Za.boxes.length,Zp,Qs,Zn,p0.Za.entries.length,Zm,QI,Zq,p0.Za.held.length,Zo,ZKk,Zl,p0.Za.wire.length,Zk,Z9,p0.events.length,Z8,rfl,rfl⟩,hT ▸ hS.only (.c k4 (.c k4 (.c k4 (.c k4 (.c k0 (.c k3 (.c k3 .n)))))))⟩
end Go.Proofs.YtbmbbcaaimehkaaGreat
end
end
section
namespace Go.Proofs.YtbmbbcaaimehkaaGreat
open Go.Lf
def ZgX:Int ->Option Bool:=fun v7=>
 some (decide (v7 >=0))
def ZgY (F:Nat) (p0:ZQ) (p1:Int) (p2:Int):Int ->(Int ->Option Bool) ->Option Bool:=fun v13 Zgr=>
 (bif decide (v13 < (p0.Za.wire.length:Int)) then(ZN p0.Za.wire v13).bind fun x16=>(gd (x16.kind==2) (ZoC F x16.places p1) default).bind fun x25=>(gd ((x16.kind==2) && x25) (ZoC F x16.places p2) default).bind fun WY=>(bif(((x16.kind==2) && x25) && WY) then(ZgX) v13 else Zgr (Xl (v13 + 1))) else(ZgX) (-1))
def ZoB (F:Nat) (p0:ZQ) (p1:Int) (p2:Int):Option Bool:=
 loop F (ZgY F p0 p1 p2) 0
def Zkg (p0:ZQ) (p1:Int) (p2:Int) (p3:Int):Option Bool:=
 (ZN p0.YH p1).bind fun x1=>(gd (!((decide (p3 < 0)) || (decide (p3 > x1.age)))) (Zkf p0 p2) default).bind fun x7=>(bif(((decide (p3 < 0)) || (decide (p3 > x1.age))) || (!x7)) then some false else(bif(p3==x1.age) then some (p2==x1.machine) else(ZN p0.Za.entries p2).bind fun x8=>(ZN x8 p1).bind fun x13=>some (decide (x13.age > p3))))
end Go.Proofs.YtbmbbcaaimehkaaGreat
end
section
set_option maxRecDepth 20000
noncomputable section
namespace Go.Proofs.YtbmbbcaaimehkaaGreat
open Go.Yr Go.Lf
theorem ZCX {F wm:Nat} {h:H} {p0:ZQ} {p1 p2:Int} {Zi:Option Addr} {Zh:Nat} {Zr:Option Addr} {Zp:Nat} {Zn:Option Addr} {Zm:Nat} {Zq:Option Addr} {Zo:Nat} {Zl:Option Addr} {Zk:Nat} {Z9:Option Addr} {Z8 YR UE:Nat} {r:Bool} (ZV:wm <=h.size) (Xx:At h YR UE [.slice Zi p0.Za.Zv.length Zh,.slice Zr p0.Za.boxes.length Zp,.slice Zn p0.Za.entries.length Zm,.slice Zq p0.Za.held.length Zo,.slice Zl p0.Za.wire.length Zk,.int .i64 p0.Za.said,.slice Z9 p0.YH.length Z8]) (Xw:KU wm h YR) (Zz:Sl (Zy .i64) wm h Zi Zh p0.Za.Zv) (ZL:Sl (Z6 (Zy .i64)) wm h Zr Zp p0.Za.boxes) (ZK:Sl (Z6 Zd) wm h Zn Zm p0.Za.entries) (ZM:Sl (Z6 Zf) wm h Zq Zo p0.Za.held) (ZJ:Sl Zg wm h Zl Zk p0.Za.wire) (YW:Sl Xb wm h Z9 Z8 p0.YH) (hL:ZoB F p0 p1 p2=some r):
 WR XX 92 #[.pointer (some ⟨YR,UE,none⟩),.int .i64 p1,.int .i64 p2] wm h (CP (fun(v:Value) (Gb:List (Ast wm))=>v= .bool r∧Gb= []) [] h):=by
 refine bg Tryz.ntmps92 ZV Ye.nil ?_;intro T hT hS;unfold ZoB at hL;refine r3 ?_;rintro _ h2 ⟨b1,eb1,rfl,hS⟩;refine r1 ?_;rintro _ h4 ⟨b3,eb3,rfl,hS⟩;refine r8 ?_;refine r1 ?_;refine WO.w gN rfl (ZU Zwm (Yh fh rfl) (At.fz hS.fz Xw Xx) (j:=4) rfl (v:= .slice Zl p0.Za.wire.length Zk) rfl) ?_;refine WO.w gN rfl (ZDV (Ze lk (Ze lk ZH))) ?_;refine WO.inl gN rfl (XP.fn ZBE (Ze lk (Ze lk ZH))) (WF.begin (args:= [_,_]) (fn:=Tryz.f105) Kq0 (by exact rfl) Tryz.ntmps105 (by simp) ?_);simp only [Y9,Xz,Nat.reduceAdd];refine r8 ?_;refine r1 ?_;refine WO.ZBg (r:=r) (fun(v7:Int) (v:Value) (h5:H)=>v= .int .i64 v7∧Sp wm T h [bx wm b1 [.int .i64 p1],bx wm b3 [.int .i64 p2]] h5) (ZgX) gN rfl (XP.fn ZBC (Ze lk (Ze lk ZH))) ?_ (WF.begin (args:= [_,_]) (fn:=Tryz.f109) Kq0 (by exact rfl) Tryz.ntmps109 (by simp) ?_)
 ·clear hL hS;rintro v7 v h5 hL ⟨rfl,hS⟩;dsimp only [ZgX] at hL;refine r4 ?_;refine r1 ?_;refine YJ.UC rfl (Z0 lk ZX) ?_;refine r4 ?_;exact rt hL hT hS
 ·skip;simp only [Y9,Xz,Nat.reduceAdd];refine XA ?_;refine r2 ?_;refine WC.loop (WL.lift hL (fun(v13:Int) (s:Fs)=>∃ (fr9:Fr) (h8:H),s= ⟨fr9,[],h8,none⟩∧Sp wm T h [bx wm b1 [.int .i64 p1],bx wm b3 [.int .i64 p2]] h8∧fr9.at 0= .slice Zl p0.Za.wire.length Zk∧fr9.at 1= .func (.func 106) #[] [.pointer (some ⟨b1,0,none⟩),.pointer (some ⟨b3,0,none⟩)].toArray∧fr9.at 7= .int .i64 (p0.Za.wire.length:Int)∧fr9.at 8= .int .i64 v13) ⟨_,_,rfl,hS.only (.c k1 (.c k0 .n)),YB⟩ ?_);clear hL hS;rintro Zgr v13 s Zj5 hL ⟨fr9,h8,rfl,hS,e10,e11,e12,e14⟩;dsimp only [ZgY] at hL;refine r6 ?_;refine cn hL ?_ ?_
  ·intro hc hL;refine XA ?_;refine r3 ?_;obtain⟨x16,hx16,hL⟩:=bind_some hL;obtain⟨b17,o18,⟨⟨a19,c20⟩,⟨a21,c22⟩⟩,ZuJ,Zva,ZuW,Zp5⟩:=Sl.at_ ZJ hx16;refine WO.w gN rfl (ZC Ja YF lk lk rfl ZuJ hx16) ?_;have ZpY:Sl (Zy .i64) wm h a19 c20 x16.places:=Zp5.1;have ZNh:Sl (Zy .i64) wm h a21 c22 x16.ZW:=Zp5.2;refine WO.w gN rfl (YX Km YF (Yh fh rfl) (At.fz hS.fz ZuW Zva) (j:=0) rfl rfl (ws:= [.int .i64 x16.kind,.int .i64 x16.ZR,.int .i64 x16.Zu.msg,.int .i64 x16.Zu.place,.int .i64 x16.Zu.from_,.int .i64 x16.Zu.age,.int .i64 x16.Zu.hops,.slice a19 x16.places.length c20,.slice a21 x16.ZW.length c22,.int .i64 x16.place,.int .i64 x16.at_,.int .i64 x16.age]) rfl) ?_;refine WO.inl gN rfl (XP.clo (first:= []) (cap:= [.pointer (some ⟨b1,0,none⟩),.pointer (some ⟨b3,0,none⟩)]) lk ZBD lks rfl) (WF.begin (args:= [_,_,_]) (fn:=Tryz.f106) Kq0 (by exact rfl) Tryz.ntmps106 (by simp) ?_);simp only [Y9,Xz,Nat.reduceAdd];refine r3 ?_;rintro _ h24 ⟨b23,ZQ3,rfl,hS⟩;refine XA ?_;obtain⟨x25,hx25,hL⟩:=Yf hL;refine WO.gcp (Zt.yes rfl rfl rfl (YP rfl (ZA rfl fh))) rfl (fun hg=>(XP.fn Zz8 (Ze (YL (ZA rfl fh) rfl hg) (Ze (YL fh rfl hg) ZH)))) (fun hg=>ZvA (hS.YE ZpY) (hx25 hg)) ?_;refine r4 ?_;refine r1 ?_;obtain⟨WY,Zma,hL⟩:=Yf hL;refine WO.gcp (Zt.yes rfl rfl rfl (YP rfl (ZA rfl fh))) rfl (fun hg=>(XP.fn Zz8 (Ze (YL (ZA rfl fh) rfl hg) (Ze (YL fh rfl hg) ZH)))) (fun hg=>ZvA (hS.YE ZpY) (Zma hg)) ?_;refine r4 ?_;refine r1 ?_;refine YJ.UC rfl (Z0 lk ZX) ?_;refine r2 ?_;refine cn hL ?_ ?_
   ·intro hc hL;refine XA ?_;exact YJ.UC rfl (Z0 lk ZX) ⟨_,hL,⟨rfl,hS.only (.c k1 (.c k1 .n))⟩⟩
   ·intro hc hL;refine r6 ?_;refine r1 ?_;exact Ya.Y4 (Zj5 _ _ hL ⟨_,_,rfl,hS.only (.c k1 (.c k1 .n)),YB⟩)
  ·intro hc hL;refine r8 ?_;refine r3 ?_;exact YJ.UC rfl (Z0 lk ZX) ⟨_,hL,⟨rfl,hS.only (.c k0 (.c k0 .n))⟩⟩
theorem ZCY {F:Nat} {h:H} {p0:ZQ} {p1 p2:Int} {Zi:Option Addr} {Zh:Nat} {Zr:Option Addr} {Zp:Nat} {Zn:Option Addr} {Zm:Nat} {Zq:Option Addr} {Zo:Nat} {Zl:Option Addr} {Zk:Nat} {Z9:Option Addr} {Z8 YR UE:Nat} {r:Bool} (Xx:At h YR UE [.slice Zi p0.Za.Zv.length Zh,.slice Zr p0.Za.boxes.length Zp,.slice Zn p0.Za.entries.length Zm,.slice Zq p0.Za.held.length Zo,.slice Zl p0.Za.wire.length Zk,.int .i64 p0.Za.said,.slice Z9 p0.YH.length Z8]) (Xw:KU h.size h YR) (Zz:Sl (Zy .i64) h.size h Zi Zh p0.Za.Zv) (ZL:Sl (Z6 (Zy .i64)) h.size h Zr Zp p0.Za.boxes) (ZK:Sl (Z6 Zd) h.size h Zn Zm p0.Za.entries) (ZM:Sl (Z6 Zf) h.size h Zq Zo p0.Za.held) (ZJ:Sl Zg h.size h Zl Zk p0.Za.wire) (YW:Sl Xb h.size h Z9 Z8 p0.YH) (hL:ZoB F p0 p1 p2=some r):Pure XX 92 #[.pointer (some ⟨YR,UE,none⟩),.int .i64 p1,.int .i64 p2] h (.bool r):=
 WR.XY rfl (ZCX (Nat.le_refl _) Xx Xw Zz ZL ZK ZM ZJ YW hL)
theorem ZCW {wm:Nat} {h:H} {p0:ZQ} {p1 p2 p3:Int} {Zi:Option Addr} {Zh:Nat} {Zr:Option Addr} {Zp:Nat} {Zn:Option Addr} {Zm:Nat} {Zq:Option Addr} {Zo:Nat} {Zl:Option Addr} {Zk:Nat} {Z9:Option Addr} {Z8 YR UE:Nat} {r:Bool} (ZV:wm <=h.size) (Xx:At h YR UE [.slice Zi p0.Za.Zv.length Zh,.slice Zr p0.Za.boxes.length Zp,.slice Zn p0.Za.entries.length Zm,.slice Zq p0.Za.held.length Zo,.slice Zl p0.Za.wire.length Zk,.int .i64 p0.Za.said,.slice Z9 p0.YH.length Z8]) (Xw:KU wm h YR) (Zz:Sl (Zy .i64) wm h Zi Zh p0.Za.Zv) (ZL:Sl (Z6 (Zy .i64)) wm h Zr Zp p0.Za.boxes) (ZK:Sl (Z6 Zd) wm h Zn Zm p0.Za.entries) (ZM:Sl (Z6 Zf) wm h Zq Zo p0.Za.held) (ZJ:Sl Zg wm h Zl Zk p0.Za.wire) (YW:Sl Xb wm h Z9 Z8 p0.YH) (hL:Zkg p0 p1 p2 p3=some r):
 WR XX 93 #[.pointer (some ⟨YR,UE,none⟩),.int .i64 p1,.int .i64 p2,.int .i64 p3] wm h (CP (fun(v:Value) (Gb:List (Ast wm))=>v= .bool r∧Gb= []) [] h):=by
 refine bg Tryz.ntmps93 ZV Ye.nil ?_;intro T hT hS;unfold Zkg at hL;refine r8 ?_;refine r2 ?_;refine WO.w gN rfl (ZU Zwo (Yh fh rfl) (At.fz hS.fz Xw Xx) (j:=6) rfl (v:= .slice Z9 p0.YH.length Z8) rfl) ?_;refine r1 ?_;obtain⟨x1,hx1,hL⟩:=bind_some hL;obtain⟨b2,o3,_,ZBN,ZCq,ZLE,ZB3⟩:=Sl.at_ YW hx1;refine WO.w gN rfl (ZC Zf4 Uj lk lk rfl ZBN hx1) ?_;refine WO.w gN rfl (YX Zk0 Uj (Yh fh rfl) (At.fz hS.fz ZLE ZCq) (j:=0) rfl rfl (ws:= [.int .i64 x1.machine,.bool x1.here,.int .i64 x1.age]) rfl) ?_;refine r1 ?_;rintro _ h5 ⟨b4,eb4,rfl,hS⟩;refine r1 ?_;rintro h6 hS;refine r16 ?_;obtain⟨x7,hx7,hL⟩:=Yf hL;refine WO.gcp (Zt.no rfl rfl rfl (YP rfl fh)) rfl (fun hg=>(XP.fn Zut (Ze (YL (ZA rfl fh) rfl hg) (Ze (YL fh rfl hg) ZH)))) (fun hg=>Zoz (At.fz hS.fz Xw Xx) (KU.up hS.hw (KU.fz hS.fz Xx Xw)) (hS.YE Zz) (hS.YE ZL) (hS.YE ZK) (hS.YE ZM) (hS.YE ZJ) (hS.YE YW) (hx7 hg)) ?_;refine r4 ?_;refine cn hL ?_ ?_
 ·intro hc hL;refine r6 ?_;refine r1 ?_;exact rt hL hT hS
 ·intro hc hL;refine r8 ?_;refine r3 ?_;refine cn hL ?_ ?_
  ·intro hc hL;refine r8 ?_;refine r3 ?_;exact rt hL hT hS
  ·intro hc hL;refine r8 ?_;refine WO.w gN rfl (ZU Zqr (Yh fh rfl) (At.fz hS.fz Xw Xx) (j:=2) rfl (v:= .slice Zn p0.Za.entries.length Zm) rfl) ?_;refine r1 ?_;obtain⟨x8,hx8,hL⟩:=bind_some hL;obtain⟨b9,o10,⟨a11,c12⟩,ZLk,ZLH,ZLD,ZLn⟩:=Sl.at_ ZK hx8;refine WO.w gN rfl (ZC Ur QR lk lk rfl ZLk hx8) ?_;have ZFP:Sl Zd wm h a11 c12 x8:=ZLn;refine WO.w gN rfl (ZU UJ (Yh fh rfl) (At.fz hS.fz ZLD ZLH) (j:=0) rfl (v:= .slice a11 x8.length c12) rfl) ?_;refine r1 ?_;obtain⟨x13,Zt4,hL⟩:=bind_some hL;obtain⟨b14,o15,_,ZuK,Zvb,ZuX,ZHk⟩:=Sl.at_ ZFP Zt4;refine WO.w gN rfl (ZC Uq Xt lk lk rfl ZuK Zt4) ?_;refine r1 ?_;refine WO.w gN rfl (ZU Xr (Yh fh rfl) (At.fz hS.fz ZuX Zvb) (j:=2) rfl (v:= .int .i64 x13.age) rfl) ?_;refine r6 ?_;exact rt hL hT hS
theorem ZoA {h:H} {p0:ZQ} {p1 p2 p3:Int} {Zi:Option Addr} {Zh:Nat} {Zr:Option Addr} {Zp:Nat} {Zn:Option Addr} {Zm:Nat} {Zq:Option Addr} {Zo:Nat} {Zl:Option Addr} {Zk:Nat} {Z9:Option Addr} {Z8 YR UE:Nat} {r:Bool} (Xx:At h YR UE [.slice Zi p0.Za.Zv.length Zh,.slice Zr p0.Za.boxes.length Zp,.slice Zn p0.Za.entries.length Zm,.slice Zq p0.Za.held.length Zo,.slice Zl p0.Za.wire.length Zk,.int .i64 p0.Za.said,.slice Z9 p0.YH.length Z8]) (Xw:KU h.size h YR) (Zz:Sl (Zy .i64) h.size h Zi Zh p0.Za.Zv) (ZL:Sl (Z6 (Zy .i64)) h.size h Zr Zp p0.Za.boxes) (ZK:Sl (Z6 Zd) h.size h Zn Zm p0.Za.entries) (ZM:Sl (Z6 Zf) h.size h Zq Zo p0.Za.held) (ZJ:Sl Zg h.size h Zl Zk p0.Za.wire) (YW:Sl Xb h.size h Z9 Z8 p0.YH) (hL:Zkg p0 p1 p2 p3=some r):Pure XX 93 #[.pointer (some ⟨YR,UE,none⟩),.int .i64 p1,.int .i64 p2,.int .i64 p3] h (.bool r):=
 WR.XY rfl (ZCW (Nat.le_refl _) Xx Xw Zz ZL ZK ZM ZJ YW hL)
end Go.Proofs.YtbmbbcaaimehkaaGreat
end
end
section
namespace Go.Proofs.YtbmbbcaaimehkaaGreat
open Go.Lf
def Zkz (p0:Zb) (v15:(List Xj)) (v64:Int) (Wy:(Int ->Option Bool)) (x67:(List Zx)):Int ->(Int ->Option Bool) ->Option Bool:=fun v81 Ztv=>
 (bif decide (v81 < (x67.length:Int)) then(ZN x67 v81).bind fun x84=>(gd (!x84.here) (ZN v15 v81) default).bind fun x90=>(gd (!x84.here) (Zkr p0 v81 x90 x84.ZR x84.age) default).bind fun x93=>(bif((!x84.here) && (!x93)) then some false else Ztv (Xl (v81 + 1))) else Wy (Xl (v64 + 1)))
def Zho (p0:Zb) (ZaI:Int) (ZfA:((List Xj)×Int ->Option Bool)) (x107:(List Zj)):(List Xj)×Int ->((List Xj)×Int ->Option Bool) ->Option Bool:=fun(Zlh,ZqF) ZpJ=>
 (bif decide (ZqF < (x107.length:Int)) then(ZN x107 ZqF).bind fun Znr=>(ZmF p0 Zlh Znr ZaI true).bind fun ZEp=>(bif(!ZEp) then some false else ZpJ (Zlh,Xl (ZqF + 1))) else ZfA (Zlh,Xl (ZaI + 1)))
def ZcE (p0:Zb) (x160:(List Int)):Int×(List Bool) ->(Int×(List Bool) ->Option Bool) ->Option Bool:=fun(ZcR,ZqD) ZpH=>
 (bif decide (ZcR < (x160.length:Int)) then(ZN x160 ZcR).bind fun Zjp=>(gd (!((decide (Zjp < 0)) || (decide (Zjp >=p0.said)))) (ZN ZqD Zjp) default).bind fun ZAJ=>(bif(((decide (Zjp < 0)) || (decide (Zjp >=p0.said))) || ZAJ) then some false else(ZN ZqD Zjp).bind fun ZJ0=>ZpH (Xl (ZcR + 1),Yz ZqD Zjp true)) else some ((x160.length:Int)==p0.said))
def Zen (F:Nat) (p0:Zb) (v97:(List Xj)):Int ->(Int ->Option Bool) ->Option Bool:=fun ZqE ZpI=>
 (bif decide (ZqE < (p0.wire.length:Int)) then(ZN p0.wire ZqE).bind fun J7=>(gd (J7.kind==1) (ZmF p0 v97 J7.Zu J7.ZR false) default).bind fun Zlb=>(gd ((!((J7.kind==1) && (!Zlb))) && (J7.kind==3)) (ZN v97 J7.place) default).bind fun Zla=>(gd ((!((J7.kind==1) && (!Zlb))) && (J7.kind==3)) (Zkr p0 J7.place Zla J7.at_ J7.age) default).bind fun x159=>(bif(((J7.kind==1) && (!Zlb)) || ((J7.kind==3) && (!x159))) then some false else ZpI (Xl (ZqE + 1))) else(ZvF F p0).bind fun x160=>(mkL false 1 p0.said p0.said).bind fun Zw0=>loop F (ZcE p0 x160) (0,Zw0))
def Zeo (F:Nat) (p0:Zb):(List Xj)×Int ->((List Xj)×Int ->Option Bool) ->Option Bool:=fun(v97,ZaI) ZfA=>
 (bif decide (ZaI < (p0.held.length:Int)) then(ZN p0.held ZaI).bind fun x107=>loop F (Zho p0 ZaI ZfA x107) (v97,0) else loop F (Zen F p0 v97) 0)
def Zep (F:Nat) (p0:Zb) (v15:(List Xj)):Int ->(Int ->Option Bool) ->Option Bool:=fun v64 Wy=>
 (bif decide (v64 < (p0.entries.length:Int)) then(ZN p0.entries v64).bind fun x67=>loop F (Zkz p0 v15 v64 Wy x67) 0 else loop F (Zeo F p0) (v15,0))
def Zeq (F:Nat) (p0:Zb) (v15:(List Xj)):Int ->(Int ->Option Bool) ->Option Bool:=fun v34 Zgq=>
 (bif decide (v34 < (p0.Zv.length:Int)) then(ZN p0.Zv v34).bind fun KX=>(gd (decide (KX >=0)) (ZN v15 v34) default).bind fun x40=>(gd (decide (KX >=0)) (ZN v15 KX) default).bind fun x43=>(gd ((decide (KX >=0)) && (!(x40.is !=x43.is))) (ZN v15 v34) default).bind fun x46=>(gd ((decide (KX >=0)) && (!(x40.is !=x43.is))) (ZN v15 KX) default).bind fun x49=>(gd ((decide (KX >=0)) && (!((x40.is !=x43.is) || (x46.at_ !=x49.at_)))) (ZN v15 v34) default).bind fun x52=>(gd ((decide (KX >=0)) && (!((x40.is !=x43.is) || (x46.at_ !=x49.at_)))) (ZN v15 KX) default).bind fun x55=>(bif((decide (KX >=0)) && (((x40.is !=x43.is) || (x46.at_ !=x49.at_)) || (x52.letter !=x55.letter))) then some false else Zgq (Xl (v34 + 1))) else loop F (Zep F p0 v15) 0)
def Zhp (F:Nat) (p0:Zb):Int×(List Xj) ->(Int×(List Xj) ->Option Bool) ->Option Bool:=fun(v13,v15) ZtG=>
 (bif decide (v13 < (p0.Zv.length:Int)) then(ZoF F p0 v13).bind fun XQ=>(bif(!XQ.2) then some false else(ZN v15 v13).bind fun x23=>ZtG (Xl (v13 + 1),Yz v15 v13 XQ.1)) else loop F (Zeq F p0 v15) 0)
def ZkA (F:Nat) (p0:Zb):Option Bool:=
 (ZvI F p0).bind fun x3=>(bif(!x3) then some false else(mkL (Xj.mk 0 0 0 false) 32 (p0.Zv.length:Int) (p0.Zv.length:Int)).bind fun z4=>loop F (Zhp F p0) (0,z4))
def ZvM (F:Nat) (p0:Zb):Option Bool:=
 (ZvQ F p0).bind fun x3=>(gd x3 (ZkA F p0) default).bind fun x4=>some (x3 && x4)
end Go.Proofs.YtbmbbcaaimehkaaGreat
end
section
set_option maxRecDepth 20000
set_option maxHeartbeats 4000000
noncomputable section
namespace Go.Proofs.YtbmbbcaaimehkaaGreat
open Go.Yr Go.Lf
theorem ZDs {F wm:Nat} {h:H} {p0:Zb} {Zi:Option Addr} {Zh:Nat} {Zr:Option Addr} {Zp:Nat} {Zn:Option Addr} {Zm:Nat} {Zq:Option Addr} {Zo:Nat} {Zl:Option Addr} {Zk:Nat} {r:Bool} (ZV:wm <=h.size) (Zz:Sl (Zy .i64) wm h Zi Zh p0.Zv) (ZL:Sl (Z6 (Zy .i64)) wm h Zr Zp p0.boxes) (ZK:Sl (Z6 Zd) wm h Zn Zm p0.entries) (ZM:Sl (Z6 Zf) wm h Zq Zo p0.held) (ZJ:Sl Zg wm h Zl Zk p0.wire) (hL:ZkA F p0=some r):
 WR XX 21 #[.agg [.slice Zi p0.Zv.length Zh,.slice Zr p0.boxes.length Zp,.slice Zn p0.entries.length Zm,.slice Zq p0.held.length Zo,.slice Zl p0.wire.length Zk,.int .i64 p0.said].toArray] wm h (CP (fun(v:Value) (Gb:List (Ast wm))=>v= .bool r∧Gb= []) [] h):=by
 refine bg Tryz.ntmps21 ZV Ye.nil ?_;intro T hT hS;unfold ZkA at hL;refine r3 ?_;rintro _ h2 ⟨b1,eb1,rfl,hS⟩;refine r6 ?_;refine r1 ?_;obtain⟨x3,hx3,hL⟩:=bind_some hL;refine WO.cp gN rfl (XP.fn ZGt (Ze lk ZH)) (WR.XY rfl (ZDk (Nat.le_refl _) (hS.YE Zz) (hS.YE ZL) (hS.YE ZK) (hS.YE ZM) (hS.YE ZJ) hx3)) ?_;refine r3 ?_;refine cn hL ?_ ?_
 ·intro hc hL;refine r6 ?_;refine r1 ?_;exact rt hL hT hS
 ·intro hc hL;refine r6 ?_;refine r1 ?_;obtain⟨z4,hz4,hL⟩:=bind_some hL;refine WO.hn gN rfl (ZsW (e:=ZaW) (x0:= (Xj.mk 0 0 0 false)) () hS Uz XH (ZyY) Zjn rfl rfl (Yh fh rfl) (Yh fh rfl) rfl trivial hz4) ?_;rintro _ h6 ⟨b5,c7,eb5,rfl,hS⟩;refine XA ?_;refine r1 ?_;refine WC.loop (WL.lift hL (fun(p:Int×(List Xj)) (s:Fs)=>match p with | (v13,v15)=>∃ (fr9:Fr) (h8:H),s= ⟨fr9,[],h8,none⟩∧Sp wm T h [bx wm b1 [.slice Zi p0.Zv.length Zh,.slice Zr p0.boxes.length Zp,.slice Zn p0.entries.length Zm,.slice Zq p0.held.length Zo,.slice Zl p0.wire.length Zk,.int .i64 p0.said],ow wm ZaW (some ⟨b5,0,none⟩) z4.length c7 v15] h8∧fr9.at 1= .pointer (some ⟨b1,0,none⟩)∧fr9.at 3= .slice (some ⟨b5,0,none⟩) z4.length c7∧fr9.at 32= .int .i64 (p0.Zv.length:Int)∧fr9.at 33= .int .i64 v13) ⟨_,_,rfl,hS.only (.c k1 (.c k0 .n)),YB⟩ ?_);clear hL hS;rintro ZtG ⟨v13,v15⟩ s Zx9 hL ⟨fr9,h8,rfl,hS,e10,e11,e12,e14⟩;dsimp only [Zhp] at hL;refine r6 ?_;refine cn hL ?_ ?_
  ·intro hc hL;refine XA ?_;refine r2 ?_;obtain⟨XQ,Zmd,hL⟩:=bind_some hL;refine WO.cl gN rfl (XP.fn ZAb (Ze lk (Ze lk ZH))) hS .n (fun g' hz hf hO=>ZvH (by rw [hz];exact hS.hw) ((hS.sl Zz).mono hf) ((hS.sl ZL).mono hf) ((hS.sl ZK).mono hf) ((hS.sl ZM).mono hf) ((hS.sl ZJ).mono hf) Zmd) ?_;rintro _ h18 _ ⟨rfl,rfl⟩ hS;refine r4 ?_;rintro _ h21 ⟨b20,ZQ4,rfl,hS⟩;refine r1 ?_;rintro h22 hS;refine r8 ?_;refine r2 ?_;refine cn hL ?_ ?_
   ·intro hc hL;refine XA ?_;exact rt hL hT hS
   ·intro hc hL;refine r6 ?_;obtain⟨x23,Zmc,hL⟩:=bind_some hL;obtain⟨b24,o25,_,Zp3,Zu9,ZHj⟩:=Src.at_ (hS.JP k2) Zmc;refine WO.w gN rfl (ZC Uz XH lk lk (hS.on k2) Zp3 Zmc) ?_;refine WO.hu gN (Zlu (e:=ZaW) XQ.1 () hS k2 XH (Yh fh rfl) (Yh (ZA rfl fh) rfl) Zp3 Zmc Zu9 (j:=0) rfl (vs:= [.int .i64 XQ.1.at_,.int .i64 XQ.1.age,.int .i64 XQ.1.letter,.bool XQ.1.is]) rfl rfl rfl rfl rfl (cs':= [.int .i64 XQ.1.at_,.int .i64 XQ.1.age,.int .i64 XQ.1.letter,.bool XQ.1.is]) rfl rfl trivial) ?_;rintro h26 ⟨hS,ZPZ⟩;refine r6 ?_;refine r1 ?_;exact Ya.Y4 (Zx9 _ _ hL ⟨_,_,rfl,hS.only (.c k2 (.c k0 .n)),YB⟩)
  ·intro hc hL;refine XA ?_;refine r3 ?_;refine WC.loop (WL.lift hL (fun(v34:Int) (s:Fs)=>∃ (ZaA:Fr) (h28:H),s= ⟨ZaA,[],h28,none⟩∧Sp wm T h [bx wm b1 [.slice Zi p0.Zv.length Zh,.slice Zr p0.boxes.length Zp,.slice Zn p0.entries.length Zm,.slice Zq p0.held.length Zo,.slice Zl p0.wire.length Zk,.int .i64 p0.said],ow wm ZaW (some ⟨b5,0,none⟩) z4.length c7 v15] h28∧ZaA.at 1= .pointer (some ⟨b1,0,none⟩)∧ZaA.at 3= .slice (some ⟨b5,0,none⟩) z4.length c7∧ZaA.at 50= .slice Zi p0.Zv.length Zh∧ZaA.at 51= .int .i64 (p0.Zv.length:Int)∧ZaA.at 52= .int .i64 v34) ⟨_,_,rfl,hS.only (.c k0 (.c k0 .n)),YB⟩ ?_);clear hL hS;rintro Zgq v34 s Zj2 hL ⟨ZaA,h28,rfl,hS,e30,e31,e32,e33,e35⟩;dsimp only [Zeq] at hL;refine r6 ?_;refine cn hL ?_ ?_
   ·intro hc hL;refine r6 ?_;refine r1 ?_;obtain⟨KX,Zd2,hL⟩:=bind_some hL;obtain⟨b38,o39,_,ZgL,ZgO,ZgN,Zi2⟩:=Sl.at_ Zz Zd2;refine WO.w gN rfl (ZC YG YN lk lk rfl ZgL Zd2) ?_;refine WO.w gN rfl (ZU Xr (Yh fh rfl) (At.fz hS.fz ZgN ZgO) (j:=0) rfl (v:= .int .i64 KX) rfl) ?_;refine r4 ?_;refine r1 ?_;refine WC.XD mixed Kq0 ?_;refine r4 ?_;refine r1 ?_;obtain⟨x40,ZFq,hL⟩:=Yf hL;obtain⟨b41,o42,_,hQ⟩:=Src.atG (fun hg=>(hS.JP k1)) ZFq;have ZGX:=fun hg=>(hQ hg).1
    have ZH9:=fun hg=>(hQ hg).2.1
    have ZNI:=fun hg=>(hQ hg).2.2
    refine WX.gv (Zt.yes rfl rfl rfl (YP rfl fh)) rfl (fun hg=>(ZC Uz XH (YL (ZA rfl fh) rfl hg) (YL fh rfl hg) (hS.on k1) (ZGX hg) (ZFq hg))) ?_ rfl;refine r1 ?_;refine WX.gv (Zt.yes rfl rfl rfl (YU rfl fh)) rfl (fun hg=>(ZU Zr0 (YL fh rfl hg) (ZH9 hg) (j:=3) rfl (v:= .bool x40.is) rfl)) ?_ rfl;refine r2 ?_;obtain⟨x43,Zn3,hL⟩:=Yf hL;obtain⟨b44,o45,_,hQ⟩:=Src.atG (fun hg=>(hS.JP k1)) Zn3;have ZuD:=fun hg=>(hQ hg).1
    have Zu5:=fun hg=>(hQ hg).2.1
    have ZuO:=fun hg=>(hQ hg).2.2
    refine WX.gv (Zt.yes rfl rfl rfl (YU rfl (YP rfl (ZA rfl fh)))) rfl (fun hg=>(ZC Uz XH (YL (ZA rfl fh) rfl hg) (YL fh rfl hg) (hS.on k1) (ZuD hg) (Zn3 hg))) ?_ rfl;refine r1 ?_;refine WX.gv (Zt.yes rfl rfl rfl (YK rfl (ZA rfl fh))) rfl (fun hg=>(ZU Zr0 (YL fh rfl hg) (Zu5 hg) (j:=3) rfl (v:= .bool x43.is) rfl)) ?_ rfl;refine WX.gv (Zt.yes rfl rfl rfl (YK rfl (YP rfl fh))) rfl (fun hg=>(JA (YL (YU rfl (ZA rfl fh)) rfl hg) (YL fh rfl hg) (ZbU Zxh))) ?_ rfl;refine r3 ?_;obtain⟨x46,ZFp,hL⟩:=Yf hL;obtain⟨b47,o48,_,hQ⟩:=Src.atG (fun hg=>(hS.JP k1)) ZFp;have ZGV:=fun hg=>(hQ hg).1
    have ZH7:=fun hg=>(hQ hg).2.1
    have ZNG:=fun hg=>(hQ hg).2.2
    refine WX.gv (Zt.no2 rfl rfl rfl (YP rfl fh)) rfl (fun hg=>(ZC Uz XH (YL (ZA rfl fh) rfl hg) (YL fh rfl hg) (hS.on k1) (ZGV hg) (ZFp hg))) ?_ rfl;refine r1 ?_;refine WX.gv (Zt.no2 rfl rfl rfl (YU rfl fh)) rfl (fun hg=>(ZU Xr (YL fh rfl hg) (ZH7 hg) (j:=0) rfl (v:= .int .i64 x46.at_) rfl)) ?_ rfl;refine r2 ?_;obtain⟨x49,Zl8,hL⟩:=Yf hL;obtain⟨b50,o51,_,hQ⟩:=Src.atG (fun hg=>(hS.JP k1)) Zl8;have Zmq:=fun hg=>(hQ hg).1
    have Zmw:=fun hg=>(hQ hg).2.1
    have Zp4:=fun hg=>(hQ hg).2.2
    refine WX.gv (Zt.no2 rfl rfl rfl (YU rfl (YP rfl (ZA rfl fh)))) rfl (fun hg=>(ZC Uz XH (YL (ZA rfl fh) rfl hg) (YL fh rfl hg) (hS.on k1) (Zmq hg) (Zl8 hg))) ?_ rfl;refine r1 ?_;refine WX.gv (Zt.no2 rfl rfl rfl (YK rfl (ZA rfl fh))) rfl (fun hg=>(ZU Xr (YL fh rfl hg) (Zmw hg) (j:=0) rfl (v:= .int .i64 x49.at_) rfl)) ?_ rfl;refine r1 ?_;refine WX.gv (Zt.yes rfl rfl rfl (YK rfl (YK rfl (YU rfl (YP rfl (ZA rfl fh)))))) rfl (fun hg=>(Zm1 (YL (YK rfl (YP rfl (ZA rfl fh))) rfl hg) lk (Zfa fh hg))) ?_ rfl;refine r3 ?_;obtain⟨x52,ZtZ,hL⟩:=Yf hL;obtain⟨b53,o54,_,hQ⟩:=Src.atG (fun hg=>(hS.JP k1)) ZtZ;have ZuC:=fun hg=>(hQ hg).1
    have Zu4:=fun hg=>(hQ hg).2.1
    have ZHe:=fun hg=>(hQ hg).2.2
    refine WX.gv (Zt.no2 rfl rfl rfl (YP rfl fh)) rfl (fun hg=>(ZC Uz XH (YL (ZA rfl fh) rfl hg) (YL fh rfl hg) (hS.on k1) (ZuC hg) (ZtZ hg))) ?_ rfl;refine r1 ?_;refine WX.gv (Zt.no2 rfl rfl rfl (YU rfl fh)) rfl (fun hg=>(ZU Xr (YL fh rfl hg) (Zu4 hg) (j:=2) rfl (v:= .int .i64 x52.letter) rfl)) ?_ rfl;refine r2 ?_;obtain⟨x55,Zn2,hL⟩:=Yf hL;obtain⟨b56,o57,_,hQ⟩:=Src.atG (fun hg=>(hS.JP k1)) Zn2;have ZuB:=fun hg=>(hQ hg).1
    have Zu2:=fun hg=>(hQ hg).2.1
    have ZHc:=fun hg=>(hQ hg).2.2
    refine WX.gv (Zt.no2 rfl rfl rfl (YU rfl (YP rfl (ZA rfl fh)))) rfl (fun hg=>(ZC Uz XH (YL (ZA rfl fh) rfl hg) (YL fh rfl hg) (hS.on k1) (ZuB hg) (Zn2 hg))) ?_ rfl;refine r1 ?_;refine WX.gv (Zt.no2 rfl rfl rfl (YK rfl (ZA rfl fh))) rfl (fun hg=>(ZU Xr (YL fh rfl hg) (Zu2 hg) (j:=2) rfl (v:= .int .i64 x55.letter) rfl)) ?_ rfl;refine r1 ?_;refine WX.gv (Zt.yes rfl rfl rfl (YK rfl (YK rfl (YK rfl (YK rfl (YU rfl fh)))))) rfl (fun hg=>(Zm1 (YL (YK rfl (YP rfl (ZA rfl fh))) rfl hg) lk (Zfa fh hg))) ?_ rfl;refine r3 ?_;refine cn hL ?_ ?_
    ·intro hc hL;refine r8 ?_;refine r3 ?_;exact rt hL hT hS
    ·intro hc hL;refine r6 ?_;refine r1 ?_;exact Ya.Y4 (Zj2 _ _ hL ⟨_,_,rfl,hS.only (.c k0 (.c k0 .n)),YB⟩)
   ·intro hc hL;refine XA ?_;refine r3 ?_;refine WC.loop (WL.lift hL (fun(v64:Int) (s:Fs)=>∃ (Zop:Fr) (h58:H),s= ⟨Zop,[],h58,none⟩∧Sp wm T h [bx wm b1 [.slice Zi p0.Zv.length Zh,.slice Zr p0.boxes.length Zp,.slice Zn p0.entries.length Zm,.slice Zq p0.held.length Zo,.slice Zl p0.wire.length Zk,.int .i64 p0.said],ow wm ZaW (some ⟨b5,0,none⟩) z4.length c7 v15] h58∧Zop.at 1= .pointer (some ⟨b1,0,none⟩)∧Zop.at 3= .slice (some ⟨b5,0,none⟩) z4.length c7∧Zop.at 100= .slice Zn p0.entries.length Zm∧Zop.at 101= .int .i64 (p0.entries.length:Int)∧Zop.at 102= .int .i64 v64) ⟨_,_,rfl,hS.only (.c k0 (.c k0 .n)),YB⟩ ?_);clear hL hS;rintro Wy v64 s ZjZ hL ⟨Zop,h58,rfl,hS,e60,e61,e62,e63,e65⟩;dsimp only [Zep] at hL;refine r6 ?_;refine cn hL ?_ ?_
    ·intro hc hL;refine r6 ?_;obtain⟨x67,ZFi,hL⟩:=bind_some hL;obtain⟨b68,o69,⟨a70,c71⟩,ZGM,ZHY,ZHs,ZG9⟩:=Sl.at_ ZK ZFi;refine WO.w gN rfl (ZC Ur QR lk lk rfl ZGM ZFi) ?_;have ZFG:Sl Zd wm h a70 c71 x67:=ZG9;refine WO.w gN rfl (ZU UJ (Yh fh rfl) (At.fz hS.fz ZHs ZHY) (j:=0) rfl (v:= .slice a70 x67.length c71) rfl) ?_;refine r8 ?_;refine r3 ?_;refine WC.loop (WL.lift hL (fun(v81:Int) (s:Fs)=>∃ (Zid:Fr) (h72:H),s= ⟨Zid,[],h72,none⟩∧Sp wm T h [bx wm b1 [.slice Zi p0.Zv.length Zh,.slice Zr p0.boxes.length Zp,.slice Zn p0.entries.length Zm,.slice Zq p0.held.length Zo,.slice Zl p0.wire.length Zk,.int .i64 p0.said],ow wm ZaW (some ⟨b5,0,none⟩) z4.length c7 v15] h72∧Zid.at 1= .pointer (some ⟨b1,0,none⟩)∧Zid.at 3= .slice (some ⟨b5,0,none⟩) z4.length c7∧Zid.at 100= .slice Zn p0.entries.length Zm∧Zid.at 101= .int .i64 (p0.entries.length:Int)∧Zid.at 102= .int .i64 v64∧Zid.at 106= .slice a70 x67.length c71∧Zid.at 107= .int .i64 (x67.length:Int)∧Zid.at 108= .int .i64 v81) ⟨_,_,rfl,hS.only (.c k0 (.c k0 .n)),YB⟩ ?_);clear hL hS;rintro Ztv v81 s ZxQ hL ⟨Zid,h72,rfl,hS,e74,e75,e76,e77,e78,e79,e80,e82⟩;dsimp only [Zkz] at hL;refine r6 ?_;refine cn hL ?_ ?_
     ·intro hc hL;refine r6 ?_;refine r1 ?_;obtain⟨x84,ZFg,hL⟩:=bind_some hL;obtain⟨b85,o86,_,ZGJ,ZHV,ZHo,ZNy⟩:=Sl.at_ ZFG ZFg;refine WO.w gN rfl (ZC Uq Xt lk lk rfl ZGJ ZFg) ?_;refine WO.w gN rfl (YX Zjj Xt (Yh fh rfl) (At.fz hS.fz ZHo ZHV) (j:=0) rfl rfl (ws:= [.bool x84.here,.int .i64 x84.ZR,.int .i64 x84.age]) rfl) ?_;refine r1 ?_;rintro _ h88 ⟨b87,ZQK,rfl,hS⟩;refine r2 ?_;rintro h89 hS;refine r3 ?_;refine WC.XD mixed Kq0 ?_;refine r8 ?_;obtain⟨x90,hx90,hL⟩:=Yf hL;obtain⟨b91,o92,_,hQ⟩:=Src.atG (fun hg=>(hS.JP k2)) hx90;have ZGG:=fun hg=>(hQ hg).1
      have ZHS:=fun hg=>(hQ hg).2.1
      have ZNw:=fun hg=>(hQ hg).2.2
      refine WX.gv (Zt.yes rfl rfl rfl (YU rfl fh)) rfl (fun hg=>(ZC Uz XH (YL (ZA rfl fh) rfl hg) (YL fh rfl hg) (hS.on k2) (ZGG hg) (hx90 hg))) ?_ rfl;refine WX.gv (Zt.yes rfl rfl rfl (YU rfl (ZA rfl fh))) rfl (fun hg=>(YX ZhM XH (YL fh rfl hg) (ZHS hg) (j:=0) rfl rfl (ws:= [.int .i64 x90.at_,.int .i64 x90.age,.int .i64 x90.letter,.bool x90.is]) rfl)) ?_ rfl;refine r4 ?_;obtain⟨x93,hx93,hL⟩:=Yf hL;refine WX.gcp (Zt.yes rfl rfl rfl (YK rfl (YP rfl fh))) rfl (fun hg=>(XP.fn Zuw (Ze (YL (YK rfl (ZA rfl fh)) rfl hg) (Ze (YL (YK rfl fh) rfl hg) (Ze (YL (YU rfl fh) rfl hg) (Ze (YL (YP rfl fh) rfl hg) (Ze (YL fh rfl hg) ZH))))))) (fun hg=>ZoE (hS.YE Zz) (hS.YE ZL) (hS.YE ZK) (hS.YE ZM) (hS.YE ZJ) (hx93 hg)) ?_ rfl rfl;refine r4 ?_;refine cn hL ?_ ?_
      ·intro hc hL;refine XA ?_;refine r3 ?_;exact rt hL hT hS
      ·intro hc hL;refine r6 ?_;refine r1 ?_;exact Ya.Y4 (ZxQ _ _ hL ⟨_,_,rfl,hS.only (.c k1 (.c k1 .n)),YB⟩)
     ·intro hc hL;refine r8 ?_;refine r2 ?_;exact Ya.Y4 (ZjZ _ _ hL ⟨_,_,rfl,hS.only (.c k0 (.c k0 .n)),YB⟩)
    ·intro hc hL;refine XA ?_;refine r3 ?_;refine WC.loop (WL.lift hL (fun(p:(List Xj)×Int) (s:Fs)=>match p with | (v97,ZaI)=>∃ (Zom:Fr) (h94:H) (a98:Option Addr) (c99:Nat) (n100:Nat),s= ⟨Zom,[],h94,none⟩∧Sp wm T h [ow wm ZaW a98 n100 c99 v97,bx wm b1 [.slice Zi p0.Zv.length Zh,.slice Zr p0.boxes.length Zp,.slice Zn p0.entries.length Zm,.slice Zq p0.held.length Zo,.slice Zl p0.wire.length Zk,.int .i64 p0.said]] h94∧Zom.at 1= .pointer (some ⟨b1,0,none⟩)∧Zom.at 3= .slice a98 n100 c99∧Zom.at 133= .slice Zq p0.held.length Zo∧Zom.at 134= .int .i64 (p0.held.length:Int)∧Zom.at 135= .int .i64 ZaI) ⟨_,_,(some ⟨b5,0,none⟩),c7,z4.length,rfl,hS.only (.c k1 (.c k0 .n)),YB⟩ ?_);clear hL hS;rintro ZfA ⟨v97,ZaI⟩ s Zun hL ⟨Zom,h94,a98,c99,n100,rfl,hS,e96,ZDC,ZMa,ZIC,ZDB⟩;obtain rfl:=hS.on k0;dsimp only [Zeo] at hL;refine r6 ?_;refine cn hL ?_ ?_
     ·intro hc hL;refine r6 ?_;refine r1 ?_;obtain⟨x107,ZzX,hL⟩:=bind_some hL;obtain⟨ZSI,ZPl,⟨ZD4,ZDL⟩,ZB1,ZCF,ZCi,ZB6⟩:=Sl.at_ ZM ZzX;refine WO.w gN rfl (ZC WZ QO lk lk rfl ZB1 ZzX) ?_;have ZBm:Sl Zf wm h ZD4 ZDL x107:=ZB6;refine WO.w gN rfl (ZU Zch (Yh fh rfl) (At.fz hS.fz ZCi ZCF) (j:=0) rfl (v:= .slice ZD4 x107.length ZDL) rfl) ?_;refine XA ?_;refine WC.loop (WL.lift hL (fun(p:(List Xj)×Int) (s:Fs)=>match p with | (Zlh,ZqF)=>∃ (JZ:Fr) (h112:H) (a116:Option Addr) (c117:Nat) (n118:Nat),s= ⟨JZ,[],h112,none⟩∧Sp wm T h [ow wm ZaW a116 n118 c117 Zlh,bx wm b1 [.slice Zi p0.Zv.length Zh,.slice Zr p0.boxes.length Zp,.slice Zn p0.entries.length Zm,.slice Zq p0.held.length Zo,.slice Zl p0.wire.length Zk,.int .i64 p0.said]] h112∧JZ.at 1= .pointer (some ⟨b1,0,none⟩)∧JZ.at 3= .slice a116 n118 c117∧JZ.at 13= .int .i64 ZaI∧JZ.at 133= .slice Zq p0.held.length Zo∧JZ.at 134= .int .i64 (p0.held.length:Int)∧JZ.at 135= .int .i64 ZaI∧JZ.at 140= .slice ZD4 x107.length ZDL∧JZ.at 141= .int .i64 (x107.length:Int)∧JZ.at 142= .int .i64 ZqF) ⟨_,_,a98,c99,v97.length,rfl,hS.only (.c k0 (.c k0 .n)),YB⟩ ?_);clear hL hS;rintro ZpJ ⟨Zlh,ZqF⟩ s Zui hL ⟨JZ,h112,a116,c117,n118,rfl,hS,ZDA,e119,e120,ZRL,ZRK,ZRJ,ZRI,e125,e127⟩;obtain rfl:=hS.on k0;dsimp only [Zho] at hL;refine r6 ?_;refine cn hL ?_ ?_
      ·intro hc hL;refine r6 ?_;obtain⟨Znr,ZzQ,hL⟩:=bind_some hL;obtain⟨ZSy,ZPc,_,ZBS,ZCw,ZCa,ZLv⟩:=Sl.at_ ZBm ZzQ;refine WO.w gN rfl (ZC Zan JU lk lk rfl ZBS ZzQ) ?_;refine WO.w gN rfl (YX Zji JU (Yh fh rfl) (At.fz hS.fz ZCa ZCw) (j:=0) rfl rfl (ws:= [.int .i64 Znr.msg,.int .i64 Znr.place,.int .i64 Znr.from_,.int .i64 Znr.age,.int .i64 Znr.hops]) rfl) ?_;refine r1 ?_;rintro _ ZQv ⟨ZSx,ZOc,rfl,hS⟩;refine r1 ?_;rintro ZQu hS;refine r8 ?_;obtain⟨ZEp,ZFv,hL⟩:=bind_some hL;refine WO.cp gN rfl (XP.fn ZAa (Ze lk (Ze lk (Ze lk (Ze lk (Ze lk ZH)))))) (ZvG (hS.YE Zz) (hS.YE ZL) (hS.YE ZK) (hS.YE ZM) (hS.YE ZJ) (hS.ord k1) ZFv) ?_;refine r3 ?_;refine cn hL ?_ ?_
       ·intro hc hL;refine XA ?_;refine r3 ?_;exact rt hL hT hS
       ·intro hc hL;refine r6 ?_;refine r1 ?_;exact Ya.Y4 (Zui _ _ hL ⟨_,_,a116,c117,Zlh.length,rfl,hS.only (.c k1 (.c k1 .n)),YB⟩)
      ·intro hc hL;refine r8 ?_;refine r2 ?_;exact Ya.Y4 (Zun _ _ hL ⟨_,_,a116,c117,Zlh.length,rfl,hS.only (.c k0 (.c k0 .n)),YB⟩)
     ·intro hc hL;refine XA ?_;refine r3 ?_;refine WC.loop (WL.lift hL (fun(ZqE:Int) (s:Fs)=>∃ (ZgS:Fr) (ZCM:H),s= ⟨ZgS,[],ZCM,none⟩∧Sp wm T h [bx wm b1 [.slice Zi p0.Zv.length Zh,.slice Zr p0.boxes.length Zp,.slice Zn p0.entries.length Zm,.slice Zq p0.held.length Zo,.slice Zl p0.wire.length Zk,.int .i64 p0.said],ow wm ZaW a98 v97.length c99 v97] ZCM∧ZgS.at 1= .pointer (some ⟨b1,0,none⟩)∧ZgS.at 3= .slice a98 v97.length c99∧ZgS.at 155= .slice Zl p0.wire.length Zk∧ZgS.at 156= .int .i64 (p0.wire.length:Int)∧ZgS.at 157= .int .i64 ZqE) ⟨_,_,rfl,hS.only (.c k1 (.c k0 .n)),YB⟩ ?_);clear hL hS;rintro ZpI ZqE s Zuh hL ⟨ZgS,ZCM,rfl,hS,e138,ZRH,ZRG,ZRF,e143⟩;dsimp only [Zen] at hL;refine r6 ?_;refine cn hL ?_ ?_
      ·intro hc hL;refine r6 ?_;obtain⟨J7,ZzP,hL⟩:=bind_some hL;obtain⟨ZSv,ZO9,⟨⟨a148,ZIR⟩,⟨ZJc,ZIQ⟩⟩,ZBR,ZCv,ZB9,ZuP⟩:=Sl.at_ ZJ ZzP;refine WO.w gN rfl (ZC Ja YF lk lk rfl ZBR ZzP) ?_;have ZKZ:Sl (Zy .i64) wm h a148 ZIR J7.places:=ZuP.1;have ZKY:Sl (Zy .i64) wm h ZJc ZIQ J7.ZW:=ZuP.2;refine WO.w gN rfl (YX Km YF (Yh fh rfl) (At.fz hS.fz ZB9 ZCv) (j:=0) rfl rfl (ws:= [.int .i64 J7.kind,.int .i64 J7.ZR,.int .i64 J7.Zu.msg,.int .i64 J7.Zu.place,.int .i64 J7.Zu.from_,.int .i64 J7.Zu.age,.int .i64 J7.Zu.hops,.slice a148 J7.places.length ZIR,.slice ZJc J7.ZW.length ZIQ,.int .i64 J7.place,.int .i64 J7.at_,.int .i64 J7.age]) rfl) ?_;refine r1 ?_;rintro _ ZQr ⟨ZSu,ZOb,rfl,hS⟩;refine r1 ?_;rintro ZQq hS;refine r3 ?_;refine WC.XD mixed Kq0 ?_;refine r8 ?_;refine r2 ?_;obtain⟨Zlb,ZFu,hL⟩:=Yf hL;refine WX.gcp (Zt.yes rfl rfl rfl (YU rfl (YP rfl fh))) rfl (fun hg=>(XP.fn ZAa (Ze (YL (YU rfl (ZA rfl fh)) rfl hg) (Ze (YL (YU rfl fh) rfl hg) (Ze (YL (YP rfl fh) rfl hg) (Ze (YL fh rfl hg) (Ze lk ZH))))))) (fun hg=>ZvG (hS.YE Zz) (hS.YE ZL) (hS.YE ZK) (hS.YE ZM) (hS.YE ZJ) (hS.ord k2) (ZFu hg)) ?_ rfl rfl;refine XA ?_;refine r1 ?_;obtain⟨Zla,ZzO,hL⟩:=Yf hL;obtain⟨ZSt,ZO7,_,hQ⟩:=Src.atG (fun hg=>(hS.JP k2)) ZzO;have ZBQ:=fun hg=>(hQ hg).1
       have ZCu:=fun hg=>(hQ hg).2.1
       have ZLu:=fun hg=>(hQ hg).2.2
       refine WX.gv (Zt.ZhW rfl rfl rfl (YU rfl (YP rfl fh))) rfl (fun hg=>(ZC Uz XH (YL (YP rfl fh) rfl hg) (YL fh rfl hg) rfl (ZBQ hg) (ZzO hg))) ?_ rfl;refine WX.gv (Zt.ZhW rfl rfl rfl (YU rfl (YP rfl (ZA rfl fh)))) rfl (fun hg=>(YX ZhM XH (YL fh rfl hg) (ZCu hg) (j:=0) rfl rfl (ws:= [.int .i64 Zla.at_,.int .i64 Zla.age,.int .i64 Zla.letter,.bool Zla.is]) rfl)) ?_ rfl;refine r4 ?_;obtain⟨x159,hx159,hL⟩:=Yf hL;refine WX.gcp (Zt.ZhW rfl rfl rfl (YK rfl (YU rfl fh))) rfl (fun hg=>(XP.fn Zuw (Ze (YL (YK rfl (YP rfl (ZA rfl fh))) rfl hg) (Ze (YL (YK rfl (ZA rfl fh)) rfl hg) (Ze (YL (YU rfl fh) rfl hg) (Ze (YL (YP rfl fh) rfl hg) (Ze (YL fh rfl hg) ZH))))))) (fun hg=>ZoE (hS.YE Zz) (hS.YE ZL) (hS.YE ZK) (hS.YE ZM) (hS.YE ZJ) (hx159 hg)) ?_ rfl rfl;refine r1 ?_;refine WX.gv (Zt.no rfl rfl rfl (YK rfl (YK rfl (YP rfl fh)))) rfl (fun hg=>(ZhI (YL (YK rfl (YU rfl (YP rfl fh))) rfl hg) (Zfa fh hg) lk)) ?_ rfl;refine r3 ?_;refine cn hL ?_ ?_
       ·intro hc hL;refine r8 ?_;refine r3 ?_;exact rt hL hT hS
       ·intro hc hL;refine r6 ?_;refine r1 ?_;exact Ya.Y4 (Zuh _ _ hL ⟨_,_,rfl,hS.only (.c k1 (.c k1 .n)),YB⟩)
      ·intro hc hL;refine r8 ?_;obtain⟨x160,hx160,hL⟩:=bind_some hL;refine WO.cl gN rfl (XP.fn ZGs (Ze lk ZH)) hS .n (fun g' hz hf hO=>ZDh (by rw [hz];exact hS.hw) ((hS.sl Zz).mono hf) ((hS.sl ZL).mono hf) ((hS.sl ZK).mono hf) ((hS.sl ZM).mono hf) ((hS.sl ZJ).mono hf) hx160) ?_;rintro _ ZQp _ ⟨ZD2,n162,ZDK,rfl,rfl⟩ hS;obtain rfl:=hS.on k0;refine r6 ?_;refine r1 ?_;obtain⟨Zw0,ZFb,hL⟩:=bind_some hL;refine WO.hn gN rfl (ZsW (e:=ZlP) (x0:=false) () hS Zjv Zlq (ZIT) Zsp rfl rfl (Yh fh rfl) (Yh fh rfl) rfl trivial ZFb) ?_;rintro _ ZQo ⟨ZI1,ZIP,ZOa,rfl,hS⟩;refine XA ?_;refine WC.loop (WL.lift hL (fun(p:Int×(List Bool)) (s:Fs)=>match p with | (ZcR,ZqD)=>∃ (Ze5:Fr) (ZCK:H),s= ⟨Ze5,[],ZCK,none⟩∧Sp wm T h [bx wm b1 [.slice Zi p0.Zv.length Zh,.slice Zr p0.boxes.length Zp,.slice Zn p0.entries.length Zm,.slice Zq p0.held.length Zo,.slice Zl p0.wire.length Zk,.int .i64 p0.said],ow wm (Zy .i64) ZD2 x160.length ZDK x160,ow wm ZlP (some ⟨ZI1,0,none⟩) Zw0.length ZIP ZqD] ZCK∧Ze5.at 1= .pointer (some ⟨b1,0,none⟩)∧Ze5.at 19= .slice ZD2 x160.length ZDK∧Ze5.at 20= .slice (some ⟨ZI1,0,none⟩) Zw0.length ZIP∧Ze5.at 201= .slice ZD2 x160.length ZDK∧Ze5.at 202= .int .i64 (x160.length:Int)∧Ze5.at 203= .int .i64 ZcR) ⟨_,_,rfl,hS.only (.c k2 (.c k1 (.c k0 .n))),YB⟩ ?_);clear hL hS;rintro ZpH ⟨ZcR,ZqD⟩ s Zug hL ⟨Ze5,ZCK,rfl,hS,ZRw,ZRv,ZRu,ZRt,ZRs,ZRr⟩;dsimp only [ZcE] at hL;refine r6 ?_;refine cn hL ?_ ?_
       ·intro hc hL;refine r6 ?_;obtain⟨Zjp,ZzN,hL⟩:=bind_some hL;obtain⟨ZSs,ZO5,_,ZBP,ZCt,ZLt⟩:=Src.at_ (hS.JP k1) ZzN;refine WO.w gN rfl (ZC YG YN lk lk rfl ZBP ZzN) ?_;refine WO.w gN rfl (ZU Xr (Yh fh rfl) ZCt (j:=0) rfl (v:= .int .i64 Zjp) rfl) ?_;refine r16 ?_;refine r1 ?_;obtain⟨ZAJ,ZzM,hL⟩:=Yf hL;obtain⟨ZSr,ZO4,_,hQ⟩:=Src.atG (fun hg=>(hS.JP k2)) ZzM;have ZBO:=fun hg=>(hQ hg).1
        have ZCs:=fun hg=>(hQ hg).2.1
        have ZLs:=fun hg=>(hQ hg).2.2
        refine WO.gv (Zt.no rfl rfl rfl (YP rfl fh)) rfl (fun hg=>(ZC Zjv Zlq (YL (ZA rfl fh) rfl hg) (YL fh rfl hg) (hS.on k2) (ZBO hg) (ZzM hg))) ?_;refine WO.gv (Zt.no rfl rfl rfl (YP rfl (ZA rfl fh))) rfl (fun hg=>(ZU Zr0 (YL fh rfl hg) (ZCs hg) (j:=0) rfl (v:= .bool ZAJ) rfl)) ?_;refine r3 ?_;refine cn hL ?_ ?_
        ·intro hc hL;refine XA ?_;exact rt hL hT hS
        ·intro hc hL;refine r4 ?_;refine r1 ?_;obtain⟨ZJ0,Zt3,hL⟩:=bind_some hL;obtain⟨ZSq,ZO3,_,ZuI,ZCr,ZLr⟩:=Src.at_ (hS.JP k2) Zt3;refine WO.w gN rfl (ZC Zjv Zlq lk lk (hS.on k2) ZuI Zt3) ?_;refine WO.hu gN (Zlu (e:=ZlP) true () hS k2 Zlq (Yh fh rfl) (evC rfl) ZuI Zt3 ZCr (j:=0) rfl (vs:= [.bool true]) rfl rfl rfl rfl rfl (cs':= [.bool true]) rfl rfl trivial) ?_;rintro ZQn ⟨hS,ZNT⟩;refine r6 ?_;refine r1 ?_;exact Ya.Y4 (Zug _ _ hL ⟨_,_,rfl,hS.only (.c k1 (.c k1 (.c k0 .n))),YB⟩)
       ·intro hc hL;refine r16 ?_;exact rt hL hT hS
theorem ZoG {F:Nat} {h:H} {p0:Zb} {Zi:Option Addr} {Zh:Nat} {Zr:Option Addr} {Zp:Nat} {Zn:Option Addr} {Zm:Nat} {Zq:Option Addr} {Zo:Nat} {Zl:Option Addr} {Zk:Nat} {r:Bool} (Zz:Sl (Zy .i64) h.size h Zi Zh p0.Zv) (ZL:Sl (Z6 (Zy .i64)) h.size h Zr Zp p0.boxes) (ZK:Sl (Z6 Zd) h.size h Zn Zm p0.entries) (ZM:Sl (Z6 Zf) h.size h Zq Zo p0.held) (ZJ:Sl Zg h.size h Zl Zk p0.wire) (hL:ZkA F p0=some r):Pure XX 21 #[.agg [.slice Zi p0.Zv.length Zh,.slice Zr p0.boxes.length Zp,.slice Zn p0.entries.length Zm,.slice Zq p0.held.length Zo,.slice Zl p0.wire.length Zk,.int .i64 p0.said].toArray] h (.bool r):=
 WR.XY rfl (ZDs (Nat.le_refl _) Zz ZL ZK ZM ZJ hL)
theorem ZDq {F wm:Nat} {h:H} {p0:Zb} {Zi:Option Addr} {Zh:Nat} {Zr:Option Addr} {Zp:Nat} {Zn:Option Addr} {Zm:Nat} {Zq:Option Addr} {Zo:Nat} {Zl:Option Addr} {Zk:Nat} {r:Bool} (ZV:wm <=h.size) (Zz:Sl (Zy .i64) wm h Zi Zh p0.Zv) (ZL:Sl (Z6 (Zy .i64)) wm h Zr Zp p0.boxes) (ZK:Sl (Z6 Zd) wm h Zn Zm p0.entries) (ZM:Sl (Z6 Zf) wm h Zq Zo p0.held) (ZJ:Sl Zg wm h Zl Zk p0.wire) (hL:ZvM F p0=some r):
 WR XX 35 #[.agg [.slice Zi p0.Zv.length Zh,.slice Zr p0.boxes.length Zp,.slice Zn p0.entries.length Zm,.slice Zq p0.held.length Zo,.slice Zl p0.wire.length Zk,.int .i64 p0.said].toArray] wm h (CP (fun(v:Value) (Gb:List (Ast wm))=>v= .bool r∧Gb= []) [] h):=by
 refine bg Tryz.ntmps35 ZV Ye.nil ?_;intro T hT hS;unfold ZvM at hL;refine r3 ?_;rintro _ h2 ⟨b1,eb1,rfl,hS⟩;refine r6 ?_;obtain⟨x3,hx3,hL⟩:=bind_some hL;refine WO.cp gN rfl (XP.fn ZGA (Ze lk ZH)) (WR.XY rfl (ZDt (Nat.le_refl _) (hS.YE Zz) (hS.YE ZL) (hS.YE ZK) (hS.YE ZM) (hS.YE ZJ) hx3)) ?_;refine r2 ?_;obtain⟨x4,hx4,hL⟩:=Yf hL;refine WO.gcp (Zt.yes rfl rfl rfl (ZA rfl fh)) rfl (fun hg=>(XP.fn Zux (Ze (YL fh rfl hg) ZH))) (fun hg=>ZoG (hS.YE Zz) (hS.YE ZL) (hS.YE ZK) (hS.YE ZM) (hS.YE ZJ) (hx4 hg)) ?_;refine r4 ?_;refine r1 ?_;exact rt hL hT hS
end Go.Proofs.YtbmbbcaaimehkaaGreat
end
end
section
namespace Go.Proofs.YtbmbbcaaimehkaaGreat
open Go.Lf
def Zku (p0:Zb) (x5:(List Int)) (YZ:(List (List Int))) (XQ:(List (List Zx))) (x23:(List (List Zj))):Int×(List Zc) ->(Int×(List Zc) ->Option Zb) ->Option Zb:=fun(v38,v40) ZtB=>
 (bif decide (v38 < (p0.wire.length:Int)) then(ZN p0.wire v38).bind fun Jc=>(Zkl Jc.places).bind fun x55=>(Zkl Jc.ZW).bind fun x61=>(app 128 v40 [(Zc.mk Jc.kind Jc.ZR Jc.Zu x55 x61 Jc.place Jc.at_ Jc.age)]).bind fun z75=>ZtB (Xl (v38 + 1),z75) else some (Zb.mk x5 YZ XQ x23 v40 p0.said))
def ZvJ (F:Nat) (p0:Zb):Option Zb:=
 (Zkl p0.Zv).bind fun x5=>(Zvz F p0.boxes).bind fun YZ=>(Zvy F p0.entries).bind fun XQ=>(Zvx F p0.held).bind fun x23=>loop F (Zku p0 x5 YZ XQ x23) (0,[])
def Zg9 (v152:Int) (ZbH:(Int×(List Int)×(List (List Int))×(List (List Zx))×(List (List Zj))×(List Zc)×Int×(List ZI) ->Option Yj)):(List Int)×(List (List Int))×(List (List Zx))×(List (List Zj))×(List Zc)×Int×(List ZI) ->Option Yj:=fun(v194,v198,v203,v208,ZsB,Zxa,v218)=>
 ZbH (Xl (v152 + 1),v194,v198,v203,v208,ZsB,Zxa,v218)
def Zha (x1:Zc) (v86:Int) (Zfz:(Int×(List Int)×(List (List Int))×(List (List Zx))×(List (List Zj))×(List Zc)×Int×(List ZI) ->Option Yj)) (ZfZ:Int) (Zjq:(List Zj)):Int×(List Int)×(List (List Int))×(List (List Zx))×(List (List Zj))×(List Zc)×Int×(List ZI) ->(Int×(List Int)×(List (List Int))×(List (List Zx))×(List (List Zj))×(List Zc)×Int×(List ZI) ->Option Yj) ->Option Yj:=fun(v152,v154,Zju,Zjt,v168,v173,ZcR,Zjs) ZbH=>
 (bif decide (v152 < (Zjq.length:Int)) then(ZN Zjq v152).bind fun ZfX=>(bif(ZfX.place !=ZfZ) then(ZN v168 x1.ZR).bind fun ZEo=>(app 40 ZEo [ZfX]).bind fun ZwZ=>(ZN v168 x1.ZR).bind fun ZJZ=>(Zg9 v152 ZbH) (v154,Zju,Zjt,Yz v168 x1.ZR ZwZ,v173,ZcR,Zjs) else(Ze8 (Yj.mk (Zb.mk v154 Zju Zjt v168 v173 ZcR) Zjs) x1.ZR ZfX).bind fun ZcO=>(Zg9 v152 ZbH) (ZcO.Za.Zv,ZcO.Za.boxes,ZcO.Za.entries,ZcO.Za.held,ZcO.Za.wire,ZcO.Za.said,ZcO.events)) else Zfz (Xl (v86 + 1),v154,Zju,Zjt,v168,v173,ZcR,Zjs))
def Zef (F:Nat) (x1:Zc):Int×(List Int)×(List (List Int))×(List (List Zx))×(List (List Zj))×(List Zc)×Int×(List ZI) ->(Int×(List Int)×(List (List Int))×(List (List Zx))×(List (List Zj))×(List Zc)×Int×(List ZI) ->Option Yj) ->Option Yj:=fun(v86,v88,v92,v97,ZbV,v107,Zf3,ZqG) Zfz=>
 (bif decide (v86 < (x1.places.length:Int)) then(ZN x1.places v86).bind fun ZfZ=>(app 40 ZqG [(ZI.mk 3 ZfZ x1.ZR 0 0)]).bind fun Zsq=>(ZN ZbV x1.ZR).bind fun ZJ1=>(ZN ZbV x1.ZR).bind fun Zjq=>loop F (Zha x1 v86 Zfz ZfZ Zjq) (0,v88,v92,v97,Yz ZbV x1.ZR ([]:(List Zj)),v107,Zf3,Zsq) else some (Yj.mk (Zb.mk v88 v92 v97 ZbV v107 Zf3) ZqG))
def Zhb (F:Nat) (p0:Yj) (x1:Zc) (YZ:(List Zc)):Int×(List (List Zx)) ->(Int×(List (List Zx)) ->Option Yj) ->Option Yj:=fun(v56,v58) Zty=>
 (bif decide (v56 < (x1.places.length:Int)) then(ZN x1.places v56).bind fun x61=>(ZN v58 x1.ZR).bind fun x64=>(ZN x1.ZW v56).bind fun JN=>(ZN x64 x61).bind fun x73=>Zty (Xl (v56 + 1),Yz v58 x1.ZR (Yz x64 x61 (Zx.mk true x1.ZR JN))) else loop F (Zef F x1) (0,p0.Za.Zv,p0.Za.boxes,v58,p0.Za.held,YZ,p0.Za.said,p0.events))
def Zg8 (p0:Yj) (YZ:(List Zc)):(List (List Zx)) ->Option Yj:=fun Zw9=>
 some (Yj.mk (Zb.mk p0.Za.Zv p0.Za.boxes Zw9 p0.Za.held YZ p0.Za.said) p0.events)
def Zrz (F:Nat) (p0:Yj) (p1:Int):Option Yj:=
 (ZN p0.Za.wire p1).bind fun x1=>(Zvw p0.Za.wire p1 (Xl (p1 + 1))).bind fun YZ=>(bif x1.kind==1 then(Zru (Yj.mk (Zb.mk p0.Za.Zv p0.Za.boxes p0.Za.entries p0.Za.held YZ p0.Za.said) p0.events) x1.ZR x1.Zu false).bind fun WY=>some WY else(bif x1.kind==2 then loop F (Zhb F p0 x1 YZ) (0,p0.Za.entries) else(bif x1.kind==3 then(ZN p0.Za.entries x1.ZR).bind fun ZEn=>(ZN ZEn x1.place).bind fun Zfg=>(bif((!Zfg.here) && (decide (Zfg.age < x1.age))) then(ZN p0.Za.entries x1.ZR).bind fun ZAI=>(ZN ZAI x1.place).bind fun ZJY=>(Zg8 p0 YZ) (Yz p0.Za.entries x1.ZR (Yz ZAI x1.place (Zx.mk false x1.at_ x1.age))) else(Zg8 p0 YZ) p0.Za.entries) else none)))
def Zbh (v6:Int) (Zab:(Int×(List Yl) ->Option (ZQ×Bool))):(List Yl) ->Option (ZQ×Bool):=fun v19=>
 Zab (Xl (v6 + 1),v19)
def Zeb (F:Nat) (p0:ZQ):Int×(List Yl) ->(Int×(List Yl) ->Option (ZQ×Bool)) ->Option (ZQ×Bool):=fun(v6,v8) Zab=>
 (bif decide (v6 < (p0.Za.Zv.length:Int)) then(ZN p0.Za.Zv v6).bind fun x23=>(Zik F p0.Za v6).bind fun WY=>(bif(WY.2 !=1) then some ((ZQ.mk p0.Za v8),false) else(ZN v8 v6).bind fun x32=>(bif decide (x23 < 0) then(Zbh v6 Zab) (Yz v8 v6 WY.1) else(Zik F p0.Za x23).bind fun KX=>(gd ((!((KX.1.machine !=WY.1.machine) || (KX.1.here !=WY.1.here))) && (!WY.1.here)) (ZoB F (ZQ.mk p0.Za (Yz v8 v6 WY.1)) v6 x23) default).bind fun x44=>(bif(((KX.1.machine !=WY.1.machine) || (KX.1.here !=WY.1.here)) || ((!WY.1.here) && (!x44))) then some ((ZQ.mk p0.Za (Yz v8 v6 WY.1)),false) else(Zbh v6 Zab) (Yz v8 v6 WY.1)))) else some ((ZQ.mk p0.Za v8),true))
def ZvD (F:Nat) (p0:ZQ):Option (ZQ×Bool):=
 loop F (Zeb F p0) (0,p0.YH)
def Zd9 (v23:Int) (Wz:(Int ->Option Bool)):Unit ->Option Bool:=fun _=>
 Wz (Xl (v23 + 1))
def Zea (p0:ZQ) (v6:Int) (Zb7:(Int ->Option Bool)) (x9:(List Zx)):Int ->(Int ->Option Bool) ->Option Bool:=fun v23 Wz=>
 (bif decide (v23 < (x9.length:Int)) then(ZN x9 v23).bind fun x36=>(bif J2 x36 (Zx.mk true v6 x36.age) then(bif((decide (x36.age < 0)) || (decide (x36.age > 30))) then some false else(Zd9 v23 Wz) ()) else(gd (!(x36.here || (x36.ZR==v6))) (Zkg p0 v23 x36.ZR x36.age) default).bind fun x42=>(bif((x36.here || (x36.ZR==v6)) || (!x42)) then some false else(Zd9 v23 Wz) ())) else Zb7 (Xl (v6 + 1)))
def Zg3 (F:Nat) (p0:ZQ):Int ->(Int ->Option Bool) ->Option Bool:=fun v6 Zb7=>
 (bif decide (v6 < (p0.Za.entries.length:Int)) then(ZN p0.Za.entries v6).bind fun x9=>loop F (Zea p0 v6 Zb7 x9) 0 else some true)
def Zrx (F:Nat) (p0:ZQ):Option Bool:=
 loop F (Zg3 F p0) 0
end Go.Proofs.YtbmbbcaaimehkaaGreat
end
