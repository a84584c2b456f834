/- Part 13. -/
import Derived.Shelf.SortM.Plain
import Derived.Shelf.SortM.SortNone
import Derived.Test.YtbnepjakjmnadaaGreatFp12
set_option linter.all false
set_option maxHeartbeats 2000000
section
set_option maxRecDepth 100000
noncomputable section
namespace Go.Proofs.YtbnepjakjmnadaaGreat
open Go.ZF Go.RowKit
section
open Go.ZF Go.RowKit Go.Maps Go.Sort Go.Shelf
def Zdn:Go.Shelf.Ren:=⟨fun|7=>67|10=>111|n=>n,fun|23=>70|26=>9|3=>4|28=>93|0=>0|27=>92|33=>25|4=>4|n=>n,fun n=>n⟩
def ZuB:SlLaysZ.n7 Tryz.prog Zdn:= {
 mixed:=by kernel_rfl,
 f7:= ⟨"maps.Keys[map[string]bool,string,bool]",by decide,Tryz.func67.trans (congrArg some Kq0)⟩,
 f10:= ⟨"maps.Keys[map[string]bool,string,bool]$1",by decide,Tryz.func111.trans (congrArg some Kq0)⟩,
 t0:=Tryz.underlying0,
 a0:=Tryz.isAgg0,
 z0:=Tryz.sizeOf0,
 v0:=Tryz.zeroValue0,
 t4:=Tryz.underlying4,
 a4:=Tryz.isAgg4,
 z4:=Tryz.sizeOf4,
 v4:=Tryz.zeroValue4,
 t23:=Tryz.underlying70,
 a23:=Tryz.isAgg70,
 z23:=Tryz.sizeOf70,
 v23:=Tryz.zeroValue70,
 t26:=Tryz.underlying9,
 a26:=Tryz.isAgg9,
 z26:=Tryz.sizeOf9,
 v26:=Tryz.zeroValue9,
 t27:=Tryz.underlying92,
 a27:=Tryz.isAgg92,
 z27:=Tryz.sizeOf92,
 v27:=Tryz.zeroValue92,
 t28:=Tryz.underlying93,
 a28:=Tryz.isAgg93,
 z28:=Tryz.sizeOf93,
 v28:=Tryz.zeroValue93,
 t33:=Tryz.underlying25,
 a33:=Tryz.isAgg25,
 z33:=Tryz.sizeOf25,
 v33:=Tryz.zeroValue25}
def Zhr:Go.Shelf.Ren:=⟨fun|6=>66|8=>109|9=>110|11=>140|13=>142|12=>141|23=>170|24=>171|14=>161|15=>162|16=>163|17=>164|18=>165|19=>166|20=>167|21=>168|22=>169|25=>174|26=>175|27=>176|28=>177|29=>178|30=>179|31=>181|n=>n,fun|26=>9|28=>93|24=>22|0=>0|3=>3|37=>192|48=>216|50=>218|4=>4|40=>208|39=>207|45=>213|5=>5|9=>9|51=>219|55=>86|57=>224|58=>225|33=>25|n=>n,fun n=>n⟩
def Znb:SlLaysZ.n6 Tryz.prog Zhr:= {
 mixed:=by kernel_rfl,
 f6:= ⟨"slices.Sorted[string]",by decide,Tryz.func66.trans (congrArg some Kq0)⟩,
 f8:= ⟨"slices.Collect[string]",by decide,Tryz.func109.trans (congrArg some Kq0)⟩,
 f11:= ⟨"slices.AppendSeq[[]string,string]",by decide,Tryz.func140.trans (congrArg some Kq0)⟩,
 t0:=Tryz.underlying0,
 a0:=Tryz.isAgg0,
 z0:=Tryz.sizeOf0,
 v0:=Tryz.zeroValue0,
 t24:=Tryz.underlying22,
 a24:=Tryz.isAgg22,
 z24:=Tryz.sizeOf22,
 v24:=Tryz.zeroValue22,
 t26:=Tryz.underlying9,
 a26:=Tryz.isAgg9,
 z26:=Tryz.sizeOf9,
 v26:=Tryz.zeroValue9,
 t28:=Tryz.underlying93,
 a28:=Tryz.isAgg93,
 z28:=Tryz.sizeOf93,
 v28:=Tryz.zeroValue93,
 i26:=by kernel_rfl}
def ZvZ:Go.Shelf.Ren:=⟨fun|6=>110|8=>142|9=>141|19=>170|20=>171|21=>161|22=>162|23=>163|24=>164|25=>165|26=>166|27=>167|28=>168|29=>169|36=>174|31=>175|32=>176|37=>177|38=>178|39=>179|41=>181|n=>n,fun|27=>22|29=>9|3=>3|32=>192|26=>22|0=>0|44=>216|46=>218|4=>4|36=>208|35=>207|41=>213|5=>5|9=>9|53=>219|57=>86|63=>224|64=>225|n=>n,fun n=>n⟩
def ZFl:SlLaysM.n6 Tryz.prog ZvZ:= {
 mixed:=by kernel_rfl,
 f6:= ⟨"slices.Sort[[]string,string]",by decide,Tryz.func110.trans (congrArg some Kq0)⟩,
 f8:=Tryz.func142.trans (congrArg some Kq0),
 f9:= ⟨"slices.pdqsortOrdered[string]",by decide,Tryz.func141.trans (congrArg some Kq0)⟩,
 f19:=Tryz.func170.trans (congrArg some Kq0),
 f20:=Tryz.func171.trans (congrArg some Kq0),
 f21:= ⟨"slices.insertionSortOrdered[string]",by decide,Tryz.func161.trans (congrArg some Kq0)⟩,
 f22:= ⟨"slices.heapSortOrdered[string]",by decide,Tryz.func162.trans (congrArg some Kq0)⟩,
 f23:= ⟨"slices.breakPatternsOrdered[string]",by decide,Tryz.func163.trans (congrArg some Kq0)⟩,
 f24:= ⟨"slices.choosePivotOrdered[string]",by decide,Tryz.func164.trans (congrArg some Kq0)⟩,
 f25:= ⟨"slices.reverseRangeOrdered[string]",by decide,Tryz.func165.trans (congrArg some Kq0)⟩,
 f26:= ⟨"slices.partialInsertionSortOrdered[string]",by decide,Tryz.func166.trans (congrArg some Kq0)⟩,
 f27:= ⟨"cmp.Less[string]",by decide,Tryz.func167.trans (congrArg some Kq0)⟩,
 f28:= ⟨"slices.partitionEqualOrdered[string]",by decide,Tryz.func168.trans (congrArg some Kq0)⟩,
 f29:= ⟨"slices.partitionOrdered[string]",by decide,Tryz.func169.trans (congrArg some Kq0)⟩,
 f31:=Tryz.func175.trans (congrArg some Kq0),
 f32:=Tryz.func176.trans (congrArg some Kq0),
 f36:= ⟨"slices.siftDownOrdered[string]",by decide,Tryz.func174.trans (congrArg some Kq0)⟩,
 f37:= ⟨"slices.medianAdjacentOrdered[string]",by decide,Tryz.func177.trans (congrArg some Kq0)⟩,
 f38:= ⟨"slices.medianOrdered[string]",by decide,Tryz.func178.trans (congrArg some Kq0)⟩,
 f39:= ⟨"cmp.isNaN[string]",by decide,Tryz.func179.trans (congrArg some Kq0)⟩,
 f41:= ⟨"slices.order2Ordered[string]",by decide,Tryz.func181.trans (congrArg some Kq0)⟩,
 t0:=Tryz.underlying0,
 a0:=Tryz.isAgg0,
 z0:=Tryz.sizeOf0,
 v0:=Tryz.zeroValue0,
 t3:=Tryz.underlying3,
 a3:=Tryz.isAgg3,
 z3:=Tryz.sizeOf3,
 v3:=Tryz.zeroValue3,
 t4:=Tryz.underlying4,
 a4:=Tryz.isAgg4,
 z4:=Tryz.sizeOf4,
 v4:=Tryz.zeroValue4,
 t5:=Tryz.underlying5,
 a5:=Tryz.isAgg5,
 z5:=Tryz.sizeOf5,
 v5:=Tryz.zeroValue5,
 t9:=Tryz.underlying9,
 a9:=Tryz.isAgg9,
 z9:=Tryz.sizeOf9,
 v9:=Tryz.zeroValue9,
 t26:=Tryz.underlying22,
 a26:=Tryz.isAgg22,
 z26:=Tryz.sizeOf22,
 v26:=Tryz.zeroValue22,
 t27:=Tryz.underlying22,
 a27:=Tryz.isAgg22,
 z27:=Tryz.sizeOf22,
 v27:=Tryz.zeroValue22,
 t29:=Tryz.underlying9,
 a29:=Tryz.isAgg9,
 z29:=Tryz.sizeOf9,
 v29:=Tryz.zeroValue9,
 t32:=Tryz.underlying192,
 a32:=Tryz.isAgg192,
 z32:=Tryz.sizeOf192,
 v32:=Tryz.zeroValue192,
 t35:=Tryz.underlying207,
 a35:=Tryz.isAgg207,
 z35:=Tryz.sizeOf207,
 v35:=Tryz.zeroValue207,
 t36:=Tryz.underlying208,
 a36:=Tryz.isAgg208,
 z36:=Tryz.sizeOf208,
 v36:=Tryz.zeroValue208,
 t41:=Tryz.underlying213,
 a41:=Tryz.isAgg213,
 z41:=Tryz.sizeOf213,
 v41:=Tryz.zeroValue213,
 t44:=Tryz.underlying216,
 a44:=Tryz.isAgg216,
 z44:=Tryz.sizeOf216,
 v44:=Tryz.zeroValue216,
 t46:=Tryz.underlying218,
 a46:=Tryz.isAgg218,
 z46:=Tryz.sizeOf218,
 v46:=Tryz.zeroValue218,
 t53:=Tryz.underlying219,
 a53:=Tryz.isAgg219,
 z53:=Tryz.sizeOf219,
 v53:=Tryz.zeroValue219,
 t57:=Tryz.underlying86,
 a57:=Tryz.isAgg86,
 z57:=Tryz.sizeOf86,
 v57:=Tryz.zeroValue86,
 t63:=Tryz.underlying224,
 a63:=Tryz.isAgg224,
 z63:=Tryz.sizeOf224,
 v63:=Tryz.zeroValue224,
 t64:=Tryz.underlying225,
 a64:=Tryz.isAgg225,
 z64:=Tryz.sizeOf225,
 v64:=Tryz.zeroValue225}
def sorts(m:Nat):AnyZ.SortsIn Tryz.prog Zhr base m:=
 ⟨fun blk off cap ss W hH hblk hsz=>Zd8 Kq0 fun D=>AnySM.slices_Sort_string_in ZFl D blk off cap ss W hH hblk hsz,
  fun p cap W=>Zd8 Kq0 fun D=>AnySM.slices_Sort_string_none_in ZFl D p cap W⟩
def ZuA{ρ:ZF.Ren}{h:H}{m:Nat}{args':Va N}{w:V9}(hr:Rel ρ h w)(hv:Jy ρ #[.map (some m)] args'):
 CallsIn base 0 Tryz.prog 67 args' w (fun e w'=>∃v' p l,e=.returned v'/\Below w.heap.size w w'/\w.heap.size<=p/\p<w'.heap.size/\
  VR (ρ.add h.size (p,0) l) (.func (.func 111) #[] #[(Vf h.size)]) v'/\Qd (ρ.add h.size (p,0) l) w' p 0 l (.box m)):=by
 obtain⟨b,rfl,hb⟩:∃b,args'=#[.map (some b)]/\ρ m=some (b,0):=by
  have h1:args'.size=1:=hv.1.symm;have h2:=hv.2 0 (.map (some m)) (args'[0]'Vg) (by simp) (by simp[h1])
  have h3:args'=#[args'[0]'Vg]:=by
   apply Array.ext
   ·simp[h1]
   ·intro i hi _;obtain rfl:i=0:=Vg
    rfl
  generalize args'[0]'Vg=y at h2 h3;cases h2 with
  | @map _ b hb=>exact⟨b,h3,hb⟩
 refine CallsIn.mono (Zdw (AnyZ.keys_in ZuB base 5 (inB Kq0) rfl (some b) w)) ?_;rintro e w' ⟨rfl,rfl⟩;have hle:=Ren.ZaH (p:=(w.heap.size,0)) (l:=(0,0)) hr.fresh;refine⟨_,w.heap.size,(0,0),rfl,(Below.refl _ w).alloc Vh _,K1 _,by simp,?_,rfl,b,70,(hle _ _ hb).1,(by show(w.heap.push _)[w.heap.size]? =_;rw[Array.getElem?_push_size];rfl)⟩;refine VR.func _ _ _ _ _ (fun l z=>by cases z) rfl rfl (fun i v v' a _=>by simp at a) (fun i v v' a a'=>?_);cases i with
 | zero=>
   simp at a a';subst a a';exact VR.ptr (d:=0) 0 (Ren.add_same _ _ _ _)
 | succ i=>simp at a
def Zwb{m:Nat}{h:H}{r:N×YD}(hr:ZCZ m h=some r):∃es clock ks,h.at m=.map es clock/\Xq clock es=true/\es.length<=1000000/\ZbI es=some ks/\nodupB ks=true/\Zpj h (Jq ks) (strKeys (Jq ks))=some r:=by
 unfold ZCZ at hr;split at hr
 ·rename_i es clock hat;generalize hc:(Xq clock es&&Nat.ble es.length 1000000)=c at hr;cases c with
  | false=>cases hr
  | true=>
    rw[Ba0]at hc;simp only[Cq1]at hr;split at hr
    ·rename_i ks hk;generalize hn:nodupB ks=c at hr;cases c with
     | false=>cases hr
     | true=>exact⟨es,clock,ks,hat,hc.1,Nl0 hc.2,hk,hn,hr⟩
    ·cases hr
 ·cases hr
def ZvY{ρ:ZF.Ren}{h:H}{i m:Nat}{args':Va N}{w:V9}{r:N×YD}(hr:Rel ρ h w)(hi:h.at i=.box m)(hs:ZCZ m h=some r)
 (hv:Jy ρ #[.func (.func 111) #[] #[(Vf i)]] args'):
 CallsIn base 0 Tryz.prog 66 args' w (fun e w'=>∃v' p l,e=.returned v'/\Below w.heap.size w w'/\w.heap.size<=p/\p<w'.heap.size/\
  VR (ρ.add h.size (p,0) l) r.1 v'/\Qd (ρ.add h.size (p,0) l) w' p 0 l r.2):=by
 obtain⟨b,d,rfl,hb⟩:∃b d,args'=#[.func (.func 111) #[] #[.pointer (some ⟨b,d+0,none⟩)]]/\ρ i=some (b,d):=by
  have h1:args'.size=1:=hv.1.symm;have h2:=hv.2 0 _ (args'[0]'Vg) (by rfl) (by simp[h1])
  have h3:args'=#[args'[0]'Vg]:=by
   apply Array.ext
   ·simp[h1]
   ·intro i hi _;obtain rfl:i=0:=Vg
    rfl
  generalize args'[0]'Vg=y at h2 h3;cases h2 with
  | func _ _ _ xs' ys' hf hx hy k1 k2=>
    have e1:xs'=#[]:=GT hx.symm;have hy:ys'.size=1:=hy.symm;have k3:=k2 0 _ (ys'[0]'Vg) (by rfl) (by simp[hy])
    have e2:ys'=#[ys'[0]'Vg]:=by
     apply Array.ext
     ·simp[hy]
     ·intro i hi _;obtain rfl:i=0:=Vg
      rfl
    generalize ys'[0]'Vg=z at k3 e2;cases k3 with
    | @ptr _ b d _ hb=>exact⟨b,d,by rw[h3,e1,e2],hb⟩
 have ho:=hr.obj _ _ _ hb;rw[hi]at ho;obtain⟨rfl,bm,el,hbm,hcell⟩:=ho;obtain⟨es,clock,ks,hat,c1,c2,c3,c4,c5⟩:=Zwb hs;have hom:=hr.obj _ _ _ hbm;rw[hat]at hom;obtain⟨_,es',hw,hes⟩:=hom;have hown:=Zsn hw hes c1 c2 c3 c4;obtain⟨_,_,hsz,_⟩:=ZiV c5;have hlt:=(hr.dom _ _ _ hb).2
 have hseq:SeqGives base 2 Tryz.prog 111 #[(Vf b)] encStr (fun ss=>ss.Perm (strKeys (Jq ks))) (Maps.size (Jq ks)) w:=
  AnyZ.keys_gives (ρ:=Zdn) {ZuB with} base _ (inB Kq0) rfl Vg b bm _ _ w hlt (by simp[World.cell?,hcell]) hown
 have h1m:(1000000:Nat)<=maxLen:=by decide
 have cS:=AnyZ.sorted_in Znb base 5 (inB Kq0) (inB Kq0) (inB Kq0) (inB Kq0) rfl Vg (sorts _) (enters_of Tryz.func110 Kq0 rfl) 111 #[(Vf b)] (inB Kq0) (enters_of Tryz.func111 Kq0 rfl) _ _ Vg Vg _ hseq;refine CallsIn.mono (Zdw cS) ?_;rintro e w' ⟨v,ss,rfl,hS,hrow,_,hbel⟩;obtain⟨p,l,q1,q2,q3,q4⟩:=row_of (ρ:=ρ) c5 hS hrow;exact⟨v,p,l,rfl,hbel,q1,q2,q3,q4⟩
def ZC0(f:V8)(args:Va N)(h:H)(v:N)(A:YD)(ho:ZHt f args h=some (v,A))(ρ:ZF.Ren)(args':Va N)(w:V9)(hr:Rel ρ h w)(hv:Jy ρ args args'):
 CallsIn base 0 Tryz.prog f args' w (fun e w'=>∃v' p l,e=.returned v'/\Below w.heap.size w w'/\w.heap.size<=p/\p<w'.heap.size/\VR (ρ.add h.size (p,0) l) v v'/\Qd (ρ.add h.size (p,0) l) w' p 0 l A):=by
 have harr:∀{a:N},args.toList=[a]->args=#[a]:=fun e=>by rw[<-Array.toArray_toList (xs:=args),e]
 unfold ZHt at ho;cases h1:Nat.beq f 67<;>rw[h1]at ho<;>simp only[Cq1,Cq0]at ho
 ·cases h2:Nat.beq f 66<;>rw[h2]at ho<;>simp only[Cq1,Cq0]at ho
  ·cases ho
  ·rw[Nb0 h2];split at ho
   ·rename_i g cap lb hargs;split at ho
    ·rename_i i hcap hlb;cases h3:Nat.beq g 111<;>rw[h3]at ho<;>simp only[Cq1,Cq0]at ho
     ·cases ho
     ·split at ho
      ·rename_i m hi;refine ZvY hr hi ho ?_;have e1:cap=#[]:=by rw[<-Array.toArray_toList (xs:=cap),hcap]
       have e2:lb=#[(Vf i)]:=by rw[<-Array.toArray_toList (xs:=lb),hlb]
       rw[harr hargs,Nb0 h3,e1,e2]at hv;exact hv
      ·cases ho
    ·cases ho
   ·cases ho
 ·rw[Nb0 h1];split at ho
  ·rename_i m hargs;cases ho;rw[harr hargs]at hv;exact ZuA hr hv
  ·cases ho
def XK:Ctx:= {XX with ZHu:=ZHt,Zyt:=fun f args h v A ho ρ args' w hr hv=>ZC0 f args h v A ho ρ args' w hr hv}
def CK:Cfg:=cfg XK (fun _=>false)
end
section
def St1:Fs:=mkS Tryz.f14.ntmps [(1,Ve 13),(2,Ve 0),(3,Ve 5),(4,Ve 0)] [] 660
def St2:Fs:=mkS Tryz.f14.ntmps [(1,Ve 13),(2,Ve 0),(3,Ve 5),(4,Ve 0),(5,.slice (some ⟨1105,0,none⟩) 3 1),(6,Ve 0),(7,.slice (some ⟨1406,0,none⟩) 2 5),(8,.slice (some ⟨1412,0,none⟩) 1 3),(9,Ve 0)] [(1105,.row [.string ⟨#[98]⟩,.string ⟨#[113]⟩,.string ⟨#[122]⟩] true 1),
 (1406,.row [.string ⟨#[120]⟩,.string ⟨#[121]⟩] true 1),
 (1412,.row [.string ⟨#[112]⟩] true 1)] 1413
def St3:Fs:=mkS Tryz.f14.ntmps [(0,ZoI)] [] 1416
def St4:Fs:=mkS Tryz.f14.ntmps [(10,(Vf 2601)),(2,Ve 0)] [(2245,.row [.string ⟨#[97]⟩] true 1),
 (2254,.row [.string ⟨#[99]⟩,.slice (some ⟨2245,0,none⟩) 1 3,.string ⟨#[121]⟩,Vd] true 2),
 (2286,.row [Ve 2,Ve 0,.string ⟨#[97]⟩,Vd,Ve 2,Ve 0,.string ⟨#[120]⟩,Vd] true 4),
 (2287,.row [Ve 2,.string ⟨#[122]⟩,.slice (some ⟨2286,0,none⟩) 2 5,Vd,Vd] true 5),
 (2314,.row [Ve 1,Ve 1,.string ⟨#[]⟩,Vd] true 4),
 (2316,.row [Ve 2,.string ⟨#[99]⟩,.slice (some ⟨2314,0,none⟩) 1 3,Vd,Vd] true 5),
 (2317,.row [Ve 6,.string ⟨#[113]⟩,Vd,Vd,.slice (some ⟨2316,0,none⟩) 1 3] true 5),
 (2319,.row [Ve 1,.string ⟨#[]⟩,.slice (some ⟨2254,0,none⟩) 2 5,Vd,.slice (some ⟨2287,0,none⟩) 1 2,Ve 2,.string ⟨#[112]⟩,Vd,Vd,.slice (some ⟨2317,0,none⟩) 1 2] true 5),
 (2345,.row [Ve 1,.string ⟨#[]⟩,Vd,Vd,Vd] true 5),
 (2347,.row [Ve 2,.string ⟨#[121]⟩,Vd,Vd,Vd,Ve 8,.string ⟨#[112]⟩,Vd,Vd,.slice (some ⟨2345,0,none⟩) 1 3] true 5),
 (2349,.row [Ve 3,.string ⟨#[]⟩,Vd,Vd,.slice (some ⟨2347,0,none⟩) 2 5] true 5),
 (2601,.row [Ve 4,.string ⟨#[]⟩,Vd,.slice (some ⟨2319,0,none⟩) 2 5,.slice (some ⟨2349,0,none⟩) 1 3] true 0)] 2602
def St5:Fs:=mkS Tryz.f14.ntmps [(10,(Vf 2601)),(2,Ve 0),(4,Ve 7)] [(2245,.row [.string ⟨#[97]⟩] true 1),
 (2254,.row [.string ⟨#[99]⟩,.slice (some ⟨2245,0,none⟩) 1 3,.string ⟨#[121]⟩,Vd] true 2),
 (2286,.row [Ve 2,Ve 0,.string ⟨#[97]⟩,Vd,Ve 2,Ve 0,.string ⟨#[120]⟩,Vd] true 4),
 (2287,.row [Ve 2,.string ⟨#[122]⟩,.slice (some ⟨2286,0,none⟩) 2 5,Vd,Vd] true 5),
 (2314,.row [Ve 1,Ve 1,.string ⟨#[]⟩,Vd] true 4),
 (2316,.row [Ve 2,.string ⟨#[99]⟩,.slice (some ⟨2314,0,none⟩) 1 3,Vd,Vd] true 5),
 (2317,.row [Ve 6,.string ⟨#[113]⟩,Vd,Vd,.slice (some ⟨2316,0,none⟩) 1 3] true 5),
 (2319,.row [Ve 1,.string ⟨#[]⟩,.slice (some ⟨2254,0,none⟩) 2 5,Vd,.slice (some ⟨2287,0,none⟩) 1 2,Ve 2,.string ⟨#[112]⟩,Vd,Vd,.slice (some ⟨2317,0,none⟩) 1 2] true 5),
 (2345,.row [Ve 1,.string ⟨#[]⟩,Vd,Vd,Vd] true 5),
 (2347,.row [Ve 2,.string ⟨#[121]⟩,Vd,Vd,Vd,Ve 8,.string ⟨#[112]⟩,Vd,Vd,.slice (some ⟨2345,0,none⟩) 1 3] true 5),
 (2349,.row [Ve 3,.string ⟨#[]⟩,Vd,Vd,.slice (some ⟨2347,0,none⟩) 2 5] true 5),
 (2601,.row [Ve 4,.string ⟨#[]⟩,Vd,.slice (some ⟨2319,0,none⟩) 2 5,.slice (some ⟨2349,0,none⟩) 1 3] true 0)] 3470
def St6:Fs:=mkS Tryz.f14.ntmps [(10,(Vf 2601)),(11,(Vf 4133)),(2,Ve 0),(4,Ve 7),(6,Ve 0)] [(2245,.row [.string ⟨#[97]⟩] true 1),
 (2254,.row [.string ⟨#[99]⟩,.slice (some ⟨2245,0,none⟩) 1 3,.string ⟨#[121]⟩,Vd] true 2),
 (2286,.row [Ve 2,Ve 0,.string ⟨#[97]⟩,Vd,Ve 2,Ve 0,.string ⟨#[120]⟩,Vd] true 4),
 (2287,.row [Ve 2,.string ⟨#[122]⟩,.slice (some ⟨2286,0,none⟩) 2 5,Vd,Vd] true 5),
 (2314,.row [Ve 1,Ve 1,.string ⟨#[]⟩,Vd] true 4),
 (2316,.row [Ve 2,.string ⟨#[99]⟩,.slice (some ⟨2314,0,none⟩) 1 3,Vd,Vd] true 5),
 (2317,.row [Ve 6,.string ⟨#[113]⟩,Vd,Vd,.slice (some ⟨2316,0,none⟩) 1 3] true 5),
 (2319,.row [Ve 1,.string ⟨#[]⟩,.slice (some ⟨2254,0,none⟩) 2 5,Vd,.slice (some ⟨2287,0,none⟩) 1 2,Ve 2,.string ⟨#[112]⟩,Vd,Vd,.slice (some ⟨2317,0,none⟩) 1 2] true 5),
 (2345,.row [Ve 1,.string ⟨#[]⟩,Vd,Vd,Vd] true 5),
 (2347,.row [Ve 2,.string ⟨#[121]⟩,Vd,Vd,Vd,Ve 8,.string ⟨#[112]⟩,Vd,Vd,.slice (some ⟨2345,0,none⟩) 1 3] true 5),
 (2349,.row [Ve 3,.string ⟨#[]⟩,Vd,Vd,.slice (some ⟨2347,0,none⟩) 2 5] true 5),
 (2601,.row [Ve 4,.string ⟨#[]⟩,Vd,.slice (some ⟨2319,0,none⟩) 2 5,.slice (some ⟨2349,0,none⟩) 1 3] true 0),
 (4031,.row [.string ⟨#[101]⟩] true 1),
 (4040,.row [.string ⟨#[97]⟩,.slice (some ⟨4031,0,none⟩) 1 3,.string ⟨#[99]⟩,Vd] true 2),
 (4069,.row [Ve 2,Ve 0,.string ⟨#[101]⟩,Vd,Ve 2,Ve 0,.string ⟨#[98]⟩,Vd] true 4),
 (4070,.row [Ve 2,.string ⟨#[122]⟩,.slice (some ⟨4069,0,none⟩) 2 5,Vd,Vd] true 5),
 (4097,.row [Ve 1,Ve 1,.string ⟨#[]⟩,Vd] true 4),
 (4099,.row [Ve 2,.string ⟨#[97]⟩,.slice (some ⟨4097,0,none⟩) 1 3,Vd,Vd] true 5),
 (4100,.row [Ve 6,.string ⟨#[113]⟩,Vd,Vd,.slice (some ⟨4099,0,none⟩) 1 3] true 5),
 (4102,.row [Ve 1,.string ⟨#[]⟩,.slice (some ⟨4040,0,none⟩) 2 5,Vd,.slice (some ⟨4070,0,none⟩) 1 2,Ve 2,.string ⟨#[100]⟩,Vd,Vd,.slice (some ⟨4100,0,none⟩) 1 2] true 5),
 (4128,.row [Ve 1,.string ⟨#[]⟩,Vd,Vd,Vd] true 5),
 (4130,.row [Ve 2,.string ⟨#[99]⟩,Vd,Vd,Vd,Ve 8,.string ⟨#[100]⟩,Vd,Vd,.slice (some ⟨4128,0,none⟩) 1 3] true 5),
 (4132,.row [Ve 3,.string ⟨#[]⟩,Vd,Vd,.slice (some ⟨4130,0,none⟩) 2 5] true 5),
 (4133,.row [Ve 4,.string ⟨#[]⟩,Vd,.slice (some ⟨4102,0,none⟩) 2 5,.slice (some ⟨4132,0,none⟩) 1 3] true 0)] 4134
def St7:Fs:=mkS Tryz.f14.ntmps [(10,(Vf 2601)),(11,(Vf 4133)),(2,Ve 0),(4,Ve 7),(6,Ve 0),(12,.slice (some ⟨4272,0,none⟩) 2 5),(9,Ve 0)] [(2245,.row [.string ⟨#[97]⟩] true 1),
 (2254,.row [.string ⟨#[99]⟩,.slice (some ⟨2245,0,none⟩) 1 3,.string ⟨#[121]⟩,Vd] true 2),
 (2286,.row [Ve 2,Ve 0,.string ⟨#[97]⟩,Vd,Ve 2,Ve 0,.string ⟨#[120]⟩,Vd] true 4),
 (2287,.row [Ve 2,.string ⟨#[122]⟩,.slice (some ⟨2286,0,none⟩) 2 5,Vd,Vd] true 5),
 (2314,.row [Ve 1,Ve 1,.string ⟨#[]⟩,Vd] true 4),
 (2316,.row [Ve 2,.string ⟨#[99]⟩,.slice (some ⟨2314,0,none⟩) 1 3,Vd,Vd] true 5),
 (2317,.row [Ve 6,.string ⟨#[113]⟩,Vd,Vd,.slice (some ⟨2316,0,none⟩) 1 3] true 5),
 (2319,.row [Ve 1,.string ⟨#[]⟩,.slice (some ⟨2254,0,none⟩) 2 5,Vd,.slice (some ⟨2287,0,none⟩) 1 2,Ve 2,.string ⟨#[112]⟩,Vd,Vd,.slice (some ⟨2317,0,none⟩) 1 2] true 5),
 (2345,.row [Ve 1,.string ⟨#[]⟩,Vd,Vd,Vd] true 5),
 (2347,.row [Ve 2,.string ⟨#[121]⟩,Vd,Vd,Vd,Ve 8,.string ⟨#[112]⟩,Vd,Vd,.slice (some ⟨2345,0,none⟩) 1 3] true 5),
 (2349,.row [Ve 3,.string ⟨#[]⟩,Vd,Vd,.slice (some ⟨2347,0,none⟩) 2 5] true 5),
 (2601,.row [Ve 4,.string ⟨#[]⟩,Vd,.slice (some ⟨2319,0,none⟩) 2 5,.slice (some ⟨2349,0,none⟩) 1 3] true 0),
 (4031,.row [.string ⟨#[101]⟩] true 1),
 (4040,.row [.string ⟨#[97]⟩,.slice (some ⟨4031,0,none⟩) 1 3,.string ⟨#[99]⟩,Vd] true 2),
 (4069,.row [Ve 2,Ve 0,.string ⟨#[101]⟩,Vd,Ve 2,Ve 0,.string ⟨#[98]⟩,Vd] true 4),
 (4070,.row [Ve 2,.string ⟨#[122]⟩,.slice (some ⟨4069,0,none⟩) 2 5,Vd,Vd] true 5),
 (4097,.row [Ve 1,Ve 1,.string ⟨#[]⟩,Vd] true 4),
 (4099,.row [Ve 2,.string ⟨#[97]⟩,.slice (some ⟨4097,0,none⟩) 1 3,Vd,Vd] true 5),
 (4100,.row [Ve 6,.string ⟨#[113]⟩,Vd,Vd,.slice (some ⟨4099,0,none⟩) 1 3] true 5),
 (4102,.row [Ve 1,.string ⟨#[]⟩,.slice (some ⟨4040,0,none⟩) 2 5,Vd,.slice (some ⟨4070,0,none⟩) 1 2,Ve 2,.string ⟨#[100]⟩,Vd,Vd,.slice (some ⟨4100,0,none⟩) 1 2] true 5),
 (4128,.row [Ve 1,.string ⟨#[]⟩,Vd,Vd,Vd] true 5),
 (4130,.row [Ve 2,.string ⟨#[99]⟩,Vd,Vd,Vd,Ve 8,.string ⟨#[100]⟩,Vd,Vd,.slice (some ⟨4128,0,none⟩) 1 3] true 5),
 (4132,.row [Ve 3,.string ⟨#[]⟩,Vd,Vd,.slice (some ⟨4130,0,none⟩) 2 5] true 5),
 (4133,.row [Ve 4,.string ⟨#[]⟩,Vd,.slice (some ⟨4102,0,none⟩) 2 5,.slice (some ⟨4132,0,none⟩) 1 3] true 0),
 (4263,.row [Ve 1,.string ⟨#[]⟩,Vd,Vd,Vd] true 5),
 (4272,.row [Ve 2,.string ⟨#[121]⟩,Vd,Vd,Vd,Ve 8,.string ⟨#[112]⟩,Vd,Vd,.slice (some ⟨4263,0,none⟩) 1 3] true 5)] 4273
def St8:Fs:=mkS Tryz.f14.ntmps [(10,(Vf 2601)),(11,(Vf 4133))] [(2245,.row [.string ⟨#[97]⟩] true 1),
 (2254,.row [.string ⟨#[99]⟩,.slice (some ⟨2245,0,none⟩) 1 3,.string ⟨#[121]⟩,Vd] true 2),
 (2286,.row [Ve 2,Ve 0,.string ⟨#[97]⟩,Vd,Ve 2,Ve 0,.string ⟨#[120]⟩,Vd] true 4),
 (2287,.row [Ve 2,.string ⟨#[122]⟩,.slice (some ⟨2286,0,none⟩) 2 5,Vd,Vd] true 5),
 (2314,.row [Ve 1,Ve 1,.string ⟨#[]⟩,Vd] true 4),
 (2316,.row [Ve 2,.string ⟨#[99]⟩,.slice (some ⟨2314,0,none⟩) 1 3,Vd,Vd] true 5),
 (2317,.row [Ve 6,.string ⟨#[113]⟩,Vd,Vd,.slice (some ⟨2316,0,none⟩) 1 3] true 5),
 (2319,.row [Ve 1,.string ⟨#[]⟩,.slice (some ⟨2254,0,none⟩) 2 5,Vd,.slice (some ⟨2287,0,none⟩) 1 2,Ve 2,.string ⟨#[112]⟩,Vd,Vd,.slice (some ⟨2317,0,none⟩) 1 2] true 5),
 (2345,.row [Ve 1,.string ⟨#[]⟩,Vd,Vd,Vd] true 5),
 (2347,.row [Ve 2,.string ⟨#[121]⟩,Vd,Vd,Vd,Ve 8,.string ⟨#[112]⟩,Vd,Vd,.slice (some ⟨2345,0,none⟩) 1 3] true 5),
 (2349,.row [Ve 3,.string ⟨#[]⟩,Vd,Vd,.slice (some ⟨2347,0,none⟩) 2 5] true 5),
 (2601,.row [Ve 4,.string ⟨#[]⟩,Vd,.slice (some ⟨2319,0,none⟩) 2 5,.slice (some ⟨2349,0,none⟩) 1 3] true 0),
 (4031,.row [.string ⟨#[101]⟩] true 1),
 (4040,.row [.string ⟨#[97]⟩,.slice (some ⟨4031,0,none⟩) 1 3,.string ⟨#[99]⟩,Vd] true 2),
 (4069,.row [Ve 2,Ve 0,.string ⟨#[101]⟩,Vd,Ve 2,Ve 0,.string ⟨#[98]⟩,Vd] true 4),
 (4070,.row [Ve 2,.string ⟨#[122]⟩,.slice (some ⟨4069,0,none⟩) 2 5,Vd,Vd] true 5),
 (4097,.row [Ve 1,Ve 1,.string ⟨#[]⟩,Vd] true 4),
 (4099,.row [Ve 2,.string ⟨#[97]⟩,.slice (some ⟨4097,0,none⟩) 1 3,Vd,Vd] true 5),
 (4100,.row [Ve 6,.string ⟨#[113]⟩,Vd,Vd,.slice (some ⟨4099,0,none⟩) 1 3] true 5),
 (4102,.row [Ve 1,.string ⟨#[]⟩,.slice (some ⟨4040,0,none⟩) 2 5,Vd,.slice (some ⟨4070,0,none⟩) 1 2,Ve 2,.string ⟨#[100]⟩,Vd,Vd,.slice (some ⟨4100,0,none⟩) 1 2] true 5),
 (4128,.row [Ve 1,.string ⟨#[]⟩,Vd,Vd,Vd] true 5),
 (4130,.row [Ve 2,.string ⟨#[99]⟩,Vd,Vd,Vd,Ve 8,.string ⟨#[100]⟩,Vd,Vd,.slice (some ⟨4128,0,none⟩) 1 3] true 5),
 (4132,.row [Ve 3,.string ⟨#[]⟩,Vd,Vd,.slice (some ⟨4130,0,none⟩) 2 5] true 5),
 (4133,.row [Ve 4,.string ⟨#[]⟩,Vd,.slice (some ⟨4102,0,none⟩) 2 5,.slice (some ⟨4132,0,none⟩) 1 3] true 0)] 4273
set_option maxRecDepth 100000 in
theorem pc1:Jc (ev CK 3000) Tryz.f14.ntmps [1,2,3,4] [] 3 (U5 0 (ZaL Tryz.f14)) (ZES Tryz.f14.ntmps)=some St1:=Kq0
set_option maxRecDepth 100000 in
theorem pc2:Jc (ev CK 3000) Tryz.f14.ntmps [1,2,3,4,5,6,7,8,9] [1105,1406,1412] 2 (U5 3 (ZaL Tryz.f14)) (St1)=some St2:=Kq0
set_option maxRecDepth 100000 in
theorem pc3:Jc (ev CK 3000) Tryz.f14.ntmps [0] [] 1 (U5 5 (ZaL Tryz.f14)) (St2)=some St3:=Kq0
set_option maxRecDepth 100000 in
theorem pc4:Jc (ev CK 3000) Tryz.f14.ntmps [10,2] [2245,2254,2286,2287,2314,2316,2317,2319,2345,2347,2349,2601] 1 (U5 6 (ZaL Tryz.f14)) (St3)=some St4:=Kq0
set_option maxRecDepth 100000 in
theorem pc5:Jc (ev CK 3000) Tryz.f14.ntmps [10,2,4] [2245,2254,2286,2287,2314,2316,2317,2319,2345,2347,2349,2601] 1 (U5 7 (ZaL Tryz.f14)) (St4)=some St5:=Kq0
set_option maxRecDepth 100000 in
theorem pc6:Jc (ev CK 3000) Tryz.f14.ntmps [10,11,2,4,6] [2245,2254,2286,2287,2314,2316,2317,2319,2345,2347,2349,2601,4031,4040,4069,4070,4097,4099,4100,4102,4128,4130,4132,4133] 1 (U5 8 (ZaL Tryz.f14)) (St5)=some St6:=Kq0
set_option maxRecDepth 100000 in
theorem pc7:Jc (ev CK 3000) Tryz.f14.ntmps [10,11,2,4,6,12,9] [2245,2254,2286,2287,2314,2316,2317,2319,2345,2347,2349,2601,4031,4040,4069,4070,4097,4099,4100,4102,4128,4130,4132,4133,4263,4272] 1 (U5 9 (ZaL Tryz.f14)) (St6)=some St7:=Kq0
set_option maxRecDepth 100000 in
theorem pc8:Jc (ev CK 3000) Tryz.f14.ntmps [10,11] [2245,2254,2286,2287,2314,2316,2317,2319,2345,2347,2349,2601,4031,4040,4069,4070,4097,4099,4100,4102,4128,4130,4132,4133] 1 (U5 10 (ZaL Tryz.f14)) (St7)=some St8:=Kq0
set_option maxRecDepth 100000 in
theorem pcl:isTrue (Zf6 (fun e s=>match xPM e with
 | some pm=>ev CK 3000 (.leave Tryz.f14 0 pm s)
 | none=>none) (ev CK 3000 (.code (U5 11 (ZaL Tryz.f14)) Tryz.f14.ntmps 0 none (St8))))=true:=Kq0
end
end Go.Proofs.YtbnepjakjmnadaaGreat
end
end
