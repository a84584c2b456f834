/- Part 12. -/
import Derived.Shelf.SortM.Plain
import Derived.Shelf.SortM.SortNone
import Derived.Test.YtbnepjakjmnadaaGreatSb11
set_option linter.all false
set_option maxHeartbeats 2000000
section
set_option maxRecDepth 100000
noncomputable section
namespace Go.Proofs.YtbnepjakjmnadaaGreat
open Go.ZU Go.RowKit Go.Maps Go.Sort Go.Shelf
section
def ZhU:Go.Shelf.Ren:=⟨fun|7=>67|10=>111|n=>n,fun|23=>70|26=>9|3=>4|28=>93|0=>0|27=>92|33=>25|4=>4|n=>n,fun n=>n⟩
def ZBb:SlLaysZ.n7 Tryz.prog ZhU:= {
 mixed:=by kernel_rfl,
 f7:= ⟨"maps.Keys[map[string]bool,string,bool]",by decide,Tryz.func67.trans (congrArg some Kq0)⟩,
 f10:= ⟨"maps.Keys[map[string]bool,string,bool]$1",by decide,Tryz.func111.trans (congrArg some Kq0)⟩,
 t0:=Tryz.underlying0,
 a0:=Tryz.isAgg0,
 z0:=Tryz.sizeOf0,
 v0:=Tryz.zeroValue0,
 t4:=Tryz.underlying4,
 a4:=Tryz.isAgg4,
 z4:=Tryz.sizeOf4,
 v4:=Tryz.zeroValue4,
 t23:=Tryz.underlying70,
 a23:=Tryz.isAgg70,
 z23:=Tryz.sizeOf70,
 v23:=Tryz.zeroValue70,
 t26:=Tryz.underlying9,
 a26:=Tryz.isAgg9,
 z26:=Tryz.sizeOf9,
 v26:=Tryz.zeroValue9,
 t27:=Tryz.underlying92,
 a27:=Tryz.isAgg92,
 z27:=Tryz.sizeOf92,
 v27:=Tryz.zeroValue92,
 t28:=Tryz.underlying93,
 a28:=Tryz.isAgg93,
 z28:=Tryz.sizeOf93,
 v28:=Tryz.zeroValue93,
 t33:=Tryz.underlying25,
 a33:=Tryz.isAgg25,
 z33:=Tryz.sizeOf25,
 v33:=Tryz.zeroValue25}
def ZiH:Go.Shelf.Ren:=⟨fun|6=>66|8=>109|9=>110|11=>140|13=>142|12=>141|23=>170|24=>171|14=>161|15=>162|16=>163|17=>164|18=>165|19=>166|20=>167|21=>168|22=>169|25=>174|26=>175|27=>176|28=>177|29=>178|30=>179|31=>181|n=>n,fun|26=>9|28=>93|24=>22|0=>0|3=>3|37=>192|48=>216|50=>218|4=>4|40=>208|39=>207|45=>213|5=>5|9=>9|51=>219|55=>86|57=>224|58=>225|33=>25|n=>n,fun n=>n⟩
def ZvS:SlLaysZ.n6 Tryz.prog ZiH:= {
 mixed:=by kernel_rfl,
 f6:= ⟨"slices.Sorted[string]",by decide,Tryz.func66.trans (congrArg some Kq0)⟩,
 f8:= ⟨"slices.Collect[string]",by decide,Tryz.func109.trans (congrArg some Kq0)⟩,
 f11:= ⟨"slices.AppendSeq[[]string,string]",by decide,Tryz.func140.trans (congrArg some Kq0)⟩,
 t0:=Tryz.underlying0,
 a0:=Tryz.isAgg0,
 z0:=Tryz.sizeOf0,
 v0:=Tryz.zeroValue0,
 t24:=Tryz.underlying22,
 a24:=Tryz.isAgg22,
 z24:=Tryz.sizeOf22,
 v24:=Tryz.zeroValue22,
 t26:=Tryz.underlying9,
 a26:=Tryz.isAgg9,
 z26:=Tryz.sizeOf9,
 v26:=Tryz.zeroValue9,
 t28:=Tryz.underlying93,
 a28:=Tryz.isAgg93,
 z28:=Tryz.sizeOf93,
 v28:=Tryz.zeroValue93,
 i26:=by kernel_rfl}
def Zx2:Go.Shelf.Ren:=⟨fun|6=>110|8=>142|9=>141|19=>170|20=>171|21=>161|22=>162|23=>163|24=>164|25=>165|26=>166|27=>167|28=>168|29=>169|36=>174|31=>175|32=>176|37=>177|38=>178|39=>179|41=>181|n=>n,fun|27=>22|29=>9|3=>3|32=>192|26=>22|0=>0|44=>216|46=>218|4=>4|36=>208|35=>207|41=>213|5=>5|9=>9|53=>219|57=>86|63=>224|64=>225|n=>n,fun n=>n⟩
def ZJd:SlLaysM.n6 Tryz.prog Zx2:= {
 mixed:=by kernel_rfl,
 f6:= ⟨"slices.Sort[[]string,string]",by decide,Tryz.func110.trans (congrArg some Kq0)⟩,
 f8:=Tryz.func142.trans (congrArg some Kq0),
 f9:= ⟨"slices.pdqsortOrdered[string]",by decide,Tryz.func141.trans (congrArg some Kq0)⟩,
 f19:=Tryz.func170.trans (congrArg some Kq0),
 f20:=Tryz.func171.trans (congrArg some Kq0),
 f21:= ⟨"slices.insertionSortOrdered[string]",by decide,Tryz.func161.trans (congrArg some Kq0)⟩,
 f22:= ⟨"slices.heapSortOrdered[string]",by decide,Tryz.func162.trans (congrArg some Kq0)⟩,
 f23:= ⟨"slices.breakPatternsOrdered[string]",by decide,Tryz.func163.trans (congrArg some Kq0)⟩,
 f24:= ⟨"slices.choosePivotOrdered[string]",by decide,Tryz.func164.trans (congrArg some Kq0)⟩,
 f25:= ⟨"slices.reverseRangeOrdered[string]",by decide,Tryz.func165.trans (congrArg some Kq0)⟩,
 f26:= ⟨"slices.partialInsertionSortOrdered[string]",by decide,Tryz.func166.trans (congrArg some Kq0)⟩,
 f27:= ⟨"cmp.Less[string]",by decide,Tryz.func167.trans (congrArg some Kq0)⟩,
 f28:= ⟨"slices.partitionEqualOrdered[string]",by decide,Tryz.func168.trans (congrArg some Kq0)⟩,
 f29:= ⟨"slices.partitionOrdered[string]",by decide,Tryz.func169.trans (congrArg some Kq0)⟩,
 f31:=Tryz.func175.trans (congrArg some Kq0),
 f32:=Tryz.func176.trans (congrArg some Kq0),
 f36:= ⟨"slices.siftDownOrdered[string]",by decide,Tryz.func174.trans (congrArg some Kq0)⟩,
 f37:= ⟨"slices.medianAdjacentOrdered[string]",by decide,Tryz.func177.trans (congrArg some Kq0)⟩,
 f38:= ⟨"slices.medianOrdered[string]",by decide,Tryz.func178.trans (congrArg some Kq0)⟩,
 f39:= ⟨"cmp.isNaN[string]",by decide,Tryz.func179.trans (congrArg some Kq0)⟩,
 f41:= ⟨"slices.order2Ordered[string]",by decide,Tryz.func181.trans (congrArg some Kq0)⟩,
 t0:=Tryz.underlying0,
 a0:=Tryz.isAgg0,
 z0:=Tryz.sizeOf0,
 v0:=Tryz.zeroValue0,
 t3:=Tryz.underlying3,
 a3:=Tryz.isAgg3,
 z3:=Tryz.sizeOf3,
 v3:=Tryz.zeroValue3,
 t4:=Tryz.underlying4,
 a4:=Tryz.isAgg4,
 z4:=Tryz.sizeOf4,
 v4:=Tryz.zeroValue4,
 t5:=Tryz.underlying5,
 a5:=Tryz.isAgg5,
 z5:=Tryz.sizeOf5,
 v5:=Tryz.zeroValue5,
 t9:=Tryz.underlying9,
 a9:=Tryz.isAgg9,
 z9:=Tryz.sizeOf9,
 v9:=Tryz.zeroValue9,
 t26:=Tryz.underlying22,
 a26:=Tryz.isAgg22,
 z26:=Tryz.sizeOf22,
 v26:=Tryz.zeroValue22,
 t27:=Tryz.underlying22,
 a27:=Tryz.isAgg22,
 z27:=Tryz.sizeOf22,
 v27:=Tryz.zeroValue22,
 t29:=Tryz.underlying9,
 a29:=Tryz.isAgg9,
 z29:=Tryz.sizeOf9,
 v29:=Tryz.zeroValue9,
 t32:=Tryz.underlying192,
 a32:=Tryz.isAgg192,
 z32:=Tryz.sizeOf192,
 v32:=Tryz.zeroValue192,
 t35:=Tryz.underlying207,
 a35:=Tryz.isAgg207,
 z35:=Tryz.sizeOf207,
 v35:=Tryz.zeroValue207,
 t36:=Tryz.underlying208,
 a36:=Tryz.isAgg208,
 z36:=Tryz.sizeOf208,
 v36:=Tryz.zeroValue208,
 t41:=Tryz.underlying213,
 a41:=Tryz.isAgg213,
 z41:=Tryz.sizeOf213,
 v41:=Tryz.zeroValue213,
 t44:=Tryz.underlying216,
 a44:=Tryz.isAgg216,
 z44:=Tryz.sizeOf216,
 v44:=Tryz.zeroValue216,
 t46:=Tryz.underlying218,
 a46:=Tryz.isAgg218,
 z46:=Tryz.sizeOf218,
 v46:=Tryz.zeroValue218,
 t53:=Tryz.underlying219,
 a53:=Tryz.isAgg219,
 z53:=Tryz.sizeOf219,
 v53:=Tryz.zeroValue219,
 t57:=Tryz.underlying86,
 a57:=Tryz.isAgg86,
 z57:=Tryz.sizeOf86,
 v57:=Tryz.zeroValue86,
 t63:=Tryz.underlying224,
 a63:=Tryz.isAgg224,
 z63:=Tryz.sizeOf224,
 v63:=Tryz.zeroValue224,
 t64:=Tryz.underlying225,
 a64:=Tryz.isAgg225,
 z64:=Tryz.sizeOf225,
 v64:=Tryz.zeroValue225}
def sorts(m:Nat):AnyZ.SortsIn Tryz.prog ZiH base m:=
 ⟨fun q off cap r W t h l=>Zfa Kq0 fun D=>AnySM.slices_Sort_string_in ZJd D q off cap r W t h l,
  fun p cap W=>Zfa Kq0 fun D=>AnySM.slices_Sort_string_none_in ZJd D p cap W⟩
def ZGy{ρ:ZU.Ren}{h:H}{m:Nat}{q:V5 N}{w:V4}(B:Rel ρ h w)(hv:Ub ρ #[.map (some m)] q):
 CallsIn base 0 Tryz.prog 67 q w (fun e w'=>∃v' p l,e=.returned v'/\Below w.heap.size w w'/\w.heap.size<=p/\p<w'.heap.size/\
  VR (ρ.add h.size (p,0) l) (.func (.func 111) #[] #[(Va h.size)]) v'/\Q0 (ρ.add h.size (p,0) l) w' p 0 l (.box m)):=by
 obtain⟨b,rfl,t⟩:∃b,q=#[.map (some b)]/\ρ m=some (b,0):=by
  have h1:q.size=1:=hv.1.symm;have h2:=hv.2 0 (.map (some m)) (q[0]'Vb) (by simp) (by simp[h1])
  have x:q=#[q[0]'Vb]:=by
   apply Array.ext;.simp[h1]
   intro i C _;obtain rfl:i=0:=Vb;rfl
  generalize q[0]'Vb=y at h2 x;cases h2 with|@map _ b t=>exact⟨b,x,t⟩
 refine CallsIn.mono (Zim (AnyZ.keys_in ZBb base 5 (inB Kq0) rfl (some b) w)) ?_;rintro e w' ⟨rfl,rfl⟩;have r:=Ren.Za8 (p:=(w.heap.size,0)) (l:=(0,0)) B.fresh;refine⟨_,w.heap.size,(0,0),rfl,(Below.refl _ w).alloc Vc _,K1 _,by simp,?_,rfl,b,70,(r _ _ t).1,(by show(w.heap.push _)[w.heap.size]? =_;rw[Array.getElem?_push_size];rfl)⟩;refine VR.func _ _ _ _ _ (fun l z=>by cases z) rfl rfl (fun i v v' a _=>by simp at a) (fun i v v' a A=>?_);cases i with
 | zero=>
   simp at a A;subst a A;exact VR.ptr (d:=0) 0 (Ren.add_same _ _ _ _)
 | succ i=>simp at a
end
end Go.Proofs.YtbnepjakjmnadaaGreat
end
end
