/- Part 5. -/
import Derived.Shelf.SortM.Plain
import Derived.Shelf.SortM.SortNone
import Derived.Test.YtbnepjakjmnadaaGreatAh4
set_option linter.all false
set_option maxHeartbeats 2000000
set_option maxRecDepth 100000
section
noncomputable section
namespace Go.Proofs.YtbnepjakjmnadaaGreat
open Go.Proofs.Tryz Go.Z9 Go.RowKit
variable{h:H}{m:Nat}
section
open Go.Z9 Go.RowKit Go.Maps Go.Sort Go.Shelf
def Zo6:Go.Shelf.Ren:=⟨fun|7=>67|10=>111|n=>n,fun|23=>70|26=>9|3=>4|28=>93|0=>0|27=>92|33=>25|4=>4|n=>n,fun n=>n⟩
def ZLo:SlLaysZ.n7 prog Zo6:= {
 mixed:=by kernel_rfl,
 f7:= ⟨"maps.Keys[map[string]bool,string,bool]",by decide,func67.trans (congrArg some Kq0)⟩,
 f10:= ⟨"maps.Keys[map[string]bool,string,bool]$1",by decide,func111.trans (congrArg some Kq0)⟩,
 t0:=underlying0,
 a0:=isAgg0,
 z0:=sizeOf0,
 v0:=zeroValue0,
 t4:=underlying4,
 a4:=isAgg4,
 z4:=sizeOf4,
 v4:=zeroValue4,
 t23:=underlying70,
 a23:=isAgg70,
 z23:=sizeOf70,
 v23:=zeroValue70,
 t26:=underlying9,
 a26:=isAgg9,
 z26:=sizeOf9,
 v26:=zeroValue9,
 t27:=underlying92,
 a27:=isAgg92,
 z27:=sizeOf92,
 v27:=zeroValue92,
 t28:=underlying93,
 a28:=isAgg93,
 z28:=sizeOf93,
 v28:=zeroValue93,
 t33:=underlying25,
 a33:=isAgg25,
 z33:=sizeOf25,
 v33:=zeroValue25}
def ZjV:Go.Shelf.Ren:=⟨fun|6=>66|8=>109|9=>110|11=>140|13=>142|12=>141|23=>170|24=>171|14=>161|15=>162|16=>163|17=>164|18=>165|19=>166|20=>167|21=>168|22=>169|25=>174|26=>175|27=>176|28=>177|29=>178|30=>179|31=>181|n=>n,fun|26=>9|28=>93|24=>22|0=>0|3=>3|37=>192|48=>216|50=>218|4=>4|40=>208|39=>207|45=>213|5=>5|9=>9|51=>219|55=>86|57=>224|58=>225|33=>25|n=>n,fun n=>n⟩
def ZG8:SlLaysZ.n6 prog ZjV:= {
 mixed:=by kernel_rfl,
 f6:= ⟨"slices.Sorted[string]",by decide,func66.trans (congrArg some Kq0)⟩,
 f8:= ⟨"slices.Collect[string]",by decide,func109.trans (congrArg some Kq0)⟩,
 f11:= ⟨"slices.AppendSeq[[]string,string]",by decide,func140.trans (congrArg some Kq0)⟩,
 t0:=underlying0,
 a0:=isAgg0,
 z0:=sizeOf0,
 v0:=zeroValue0,
 t24:=underlying22,
 a24:=isAgg22,
 z24:=sizeOf22,
 v24:=zeroValue22,
 t26:=underlying9,
 a26:=isAgg9,
 z26:=sizeOf9,
 v26:=zeroValue9,
 t28:=underlying93,
 a28:=isAgg93,
 z28:=sizeOf93,
 v28:=zeroValue93,
 i26:=by kernel_rfl}
def Zz2:Go.Shelf.Ren:=⟨fun|6=>110|8=>142|9=>141|19=>170|20=>171|21=>161|22=>162|23=>163|24=>164|25=>165|26=>166|27=>167|28=>168|29=>169|36=>174|31=>175|32=>176|37=>177|38=>178|39=>179|41=>181|n=>n,fun|27=>22|29=>9|3=>3|32=>192|26=>22|0=>0|44=>216|46=>218|4=>4|36=>208|35=>207|41=>213|5=>5|9=>9|53=>219|57=>86|63=>224|64=>225|n=>n,fun n=>n⟩
def ZKW:SlLaysM.n6 prog Zz2:= {
 mixed:=by kernel_rfl,
 f6:= ⟨"slices.Sort[[]string,string]",by decide,func110.trans (congrArg some Kq0)⟩,
 f8:=func142.trans (congrArg some Kq0),
 f9:= ⟨"slices.pdqsortOrdered[string]",by decide,func141.trans (congrArg some Kq0)⟩,
 f19:=func170.trans (congrArg some Kq0),
 f20:=func171.trans (congrArg some Kq0),
 f21:= ⟨"slices.insertionSortOrdered[string]",by decide,func161.trans (congrArg some Kq0)⟩,
 f22:= ⟨"slices.heapSortOrdered[string]",by decide,func162.trans (congrArg some Kq0)⟩,
 f23:= ⟨"slices.breakPatternsOrdered[string]",by decide,func163.trans (congrArg some Kq0)⟩,
 f24:= ⟨"slices.choosePivotOrdered[string]",by decide,func164.trans (congrArg some Kq0)⟩,
 f25:= ⟨"slices.reverseRangeOrdered[string]",by decide,func165.trans (congrArg some Kq0)⟩,
 f26:= ⟨"slices.partialInsertionSortOrdered[string]",by decide,func166.trans (congrArg some Kq0)⟩,
 f27:= ⟨"cmp.Less[string]",by decide,func167.trans (congrArg some Kq0)⟩,
 f28:= ⟨"slices.partitionEqualOrdered[string]",by decide,func168.trans (congrArg some Kq0)⟩,
 f29:= ⟨"slices.partitionOrdered[string]",by decide,func169.trans (congrArg some Kq0)⟩,
 f31:=func175.trans (congrArg some Kq0),
 f32:=func176.trans (congrArg some Kq0),
 f36:= ⟨"slices.siftDownOrdered[string]",by decide,func174.trans (congrArg some Kq0)⟩,
 f37:= ⟨"slices.medianAdjacentOrdered[string]",by decide,func177.trans (congrArg some Kq0)⟩,
 f38:= ⟨"slices.medianOrdered[string]",by decide,func178.trans (congrArg some Kq0)⟩,
 f39:= ⟨"cmp.isNaN[string]",by decide,func179.trans (congrArg some Kq0)⟩,
 f41:= ⟨"slices.order2Ordered[string]",by decide,func181.trans (congrArg some Kq0)⟩,
 t0:=underlying0,
 a0:=isAgg0,
 z0:=sizeOf0,
 v0:=zeroValue0,
 t3:=underlying3,
 a3:=isAgg3,
 z3:=sizeOf3,
 v3:=zeroValue3,
 t4:=underlying4,
 a4:=isAgg4,
 z4:=sizeOf4,
 v4:=zeroValue4,
 t5:=underlying5,
 a5:=isAgg5,
 z5:=sizeOf5,
 v5:=zeroValue5,
 t9:=underlying9,
 a9:=isAgg9,
 z9:=sizeOf9,
 v9:=zeroValue9,
 t26:=underlying22,
 a26:=isAgg22,
 z26:=sizeOf22,
 v26:=zeroValue22,
 t27:=underlying22,
 a27:=isAgg22,
 z27:=sizeOf22,
 v27:=zeroValue22,
 t29:=underlying9,
 a29:=isAgg9,
 z29:=sizeOf9,
 v29:=zeroValue9,
 t32:=underlying192,
 a32:=isAgg192,
 z32:=sizeOf192,
 v32:=zeroValue192,
 t35:=underlying207,
 a35:=isAgg207,
 z35:=sizeOf207,
 v35:=zeroValue207,
 t36:=underlying208,
 a36:=isAgg208,
 z36:=sizeOf208,
 v36:=zeroValue208,
 t41:=underlying213,
 a41:=isAgg213,
 z41:=sizeOf213,
 v41:=zeroValue213,
 t44:=underlying216,
 a44:=isAgg216,
 z44:=sizeOf216,
 v44:=zeroValue216,
 t46:=underlying218,
 a46:=isAgg218,
 z46:=sizeOf218,
 v46:=zeroValue218,
 t53:=underlying219,
 a53:=isAgg219,
 z53:=sizeOf219,
 v53:=zeroValue219,
 t57:=underlying86,
 a57:=isAgg86,
 z57:=sizeOf86,
 v57:=zeroValue86,
 t63:=underlying224,
 a63:=isAgg224,
 z63:=sizeOf224,
 v63:=zeroValue224,
 t64:=underlying225,
 a64:=isAgg225,
 z64:=sizeOf225,
 v64:=zeroValue225}
def sorts(m:Nat):AnyZ.SortsIn prog ZjV base m:=
 ⟨fun q off cap r W t h l=>ZfE Kq0 fun D=>AnySM.slices_Sort_string_in ZKW D q off cap r W t h l,
  fun p cap W=>ZfE Kq0 fun D=>AnySM.slices_Sort_string_none_in ZKW D p cap W⟩
def ZHH{ρ:Z9.Ren}{q:GZ N}{w:GY}(B:Rel ρ h w)(hv:UE ρ #[.map (some m)] q):
 CallsIn base 0 prog 67 q w (fun e w'=>∃v' p l,e=.returned v'/\Below w.heap.size w w'/\w.heap.size<=p/\p<w'.heap.size/\
  VR (ρ.add h.size (p,0) l) (.func (.func 111) #[] #[(V5 h.size)]) v'/\Jr (ρ.add h.size (p,0) l) w' p 0 l (.box m)):=by
 obtain⟨b,rfl,t⟩:∃b,q=#[.map (some b)]/\ρ m=some (b,0):=by
  have h1:q.size=1:=hv.1.symm;have h2:=hv.2 0 (.map (some m)) (q[0]'V6) Vd (by simp[h1])
  have x:q=#[q[0]'V6]:=by
   apply Array.ext;.simp[h1]
   intro i C _;obtain rfl:i=0:=V6;rfl
  generalize q[0]'V6=y at h2 x;cases h2 with|@map _ b t=>exact⟨b,x,t⟩
 refine CallsIn.mono (ZpC (AnyZ.keys_in ZLo base 5 (inB Kq0) rfl (some b) w)) ?_;rintro e w' ⟨rfl,rfl⟩;have r:=Ren.ZbK (p:=(w.heap.size,0)) (l:=(0,0)) B.fresh;refine⟨_,w.heap.size,(0,0),rfl,(Below.refl _ w).alloc V7 _,K2 _,by simp,?_,rfl,b,70,(r _ _ t).1,(by show(w.heap.push _)[w.heap.size]? =_;rw[Array.getElem?_push_size];rfl)⟩;refine VR.func _ _ _ _ _ (fun l z=>by cases z) rfl rfl (fun i v v' a _=>by simp at a) (fun i v v' a A=>?_);cases i with
 | zero=>
   simp at a A;subst a A;exact VR.ptr (d:=0) 0 (Ren.add_same _ _ _ _)
 | succ i=>simp at a
def ZAb{r:N×YN}(p:ZHp m h=some r):∃es l ks,h.at m=.map es l/\JA l es=true/\es.length<=1000000/\Zo7 es=some ks/\nodupB ks=true/\Zsm h (Zj5 ks) (strKeys (Zj5 ks))=some r:=by
 unfold ZHp at p;split at p
 .rename_i es l t;generalize q:(JA l es&&Nat.ble es.length 1000000)=c at p;cases c with|false=>cases p|true=>
    rw[Ba0]at q;simp only[Cq1]at p;split at p;.rename_i ks x;generalize hn:nodupB ks=c at p;cases c with|false=>cases p|true=>exact⟨es,l,ks,t,q.1,Nl0 q.2,x,hn,p⟩
    cases p
 cases p
def Zz1{ρ:Z9.Ren}{i:Nat}{args':GZ N}{w:GY}{r:N×YN}(hr:Rel ρ h w)(hi:h.at i=.box m)(hs:ZHp m h=some r)
 (hv:UE ρ #[.func (.func 111) #[] #[(V5 i)]] args'):
 CallsIn base 0 prog 66 args' w (fun e w'=>∃v' p l,e=.returned v'/\Below w.heap.size w w'/\w.heap.size<=p/\p<w'.heap.size/\
  VR (ρ.add h.size (p,0) l) r.1 v'/\Jr (ρ.add h.size (p,0) l) w' p 0 l r.2):=by
 obtain⟨b,d,rfl,hb⟩:∃b d,args'=#[.func (.func 111) #[] #[.pointer (some ⟨b,d+0,none⟩)]]/\ρ i=some (b,d):=by
  have h1:args'.size=1:=hv.1.symm;have h2:=hv.2 0 _ (args'[0]'V6) (by rfl) (by simp[h1])
  have h3:args'=#[args'[0]'V6]:=by
   apply Array.ext;·simp[h1]
   intro i hi _;obtain rfl:i=0:=V6;rfl
  generalize args'[0]'V6=y at h2 h3;cases h2 with|func _ _ _ xs' ys' hf hx hy k1 k2=>
    have e1:xs'=#[]:=Array.eq_empty_of_size_eq_zero hx.symm;have hy:ys'.size=1:=hy.symm;have k3:=k2 0 _ (ys'[0]'V6) (by rfl) (by simp[hy])
    have e2:ys'=#[ys'[0]'V6]:=by
     apply Array.ext;·simp[hy]
     intro i hi _;obtain rfl:i=0:=V6;rfl
    generalize ys'[0]'V6=z at k3 e2;cases k3 with|@ptr _ b d _ hb=>exact⟨b,d,by rw[h3,e1,e2],hb⟩
 have ho:=hr.obj _ _ _ hb;rw[hi]at ho;obtain⟨rfl,bm,el,hbm,hcell⟩:=ho;have⟨es,clock,ks,hat,c1,c2,c3,c4,c5⟩:=ZAb hs;have hom:=hr.obj _ _ _ hbm;rw[hat]at hom;have⟨_,es',hw,hes⟩:=hom;have hown:=ZM9 hw hes c1 c2 c3 c4;have⟨_,_,hsz,_⟩:=Zlb c5;have hlt:=(hr.dom _ _ _ hb).2
 have hseq:SeqGives base 2 prog 111 #[(V5 b)] encStr (fun ss=>ss.Perm (strKeys (Zj5 ks))) (Maps.size (Zj5 ks)) w:=
  AnyZ.keys_gives (ρ:=Zo6) {ZLo with} base _ (inB Kq0) rfl V6 b bm _ _ w hlt (by simp[World.cell?,hcell]) hown
 have h1m:(1000000:Nat)<=maxLen:=by decide
 have cS:=AnyZ.sorted_in ZG8 base 5 (inB Kq0) (inB Kq0) (inB Kq0) (inB Kq0) rfl V6 (sorts _) (enters_of func110 Kq0 rfl) 111 #[(V5 b)] (inB Kq0) (enters_of func111 Kq0 rfl) _ _ V6 V6 _ hseq;refine CallsIn.mono (ZpC cS) ?_;rintro e w' ⟨v,ss,rfl,hS,hrow,_,hbel⟩;have⟨p,l,q1,q2,q3,q4⟩:=row_of (ρ:=ρ) c5 hS hrow;exact⟨v,p,l,rfl,hbel,q1,q2,q3,q4⟩
def ZHq(f:GX)(args:GZ N)(h:H)(v:N)(A:YN)(q:ZNa f args h=some (v,A))(ρ:Z9.Ren)(t:GZ N)(w:GY)(D:Rel ρ h w)(hv:UE ρ args t):
 CallsIn base 0 prog f t w (fun e w'=>∃v' p l,e=.returned v'/\Below w.heap.size w w'/\w.heap.size<=p/\p<w'.heap.size/\VR (ρ.add h.size (p,0) l) v v'/\Jr (ρ.add h.size (p,0) l) w' p 0 l A):=by
 have x:∀{a:N},args.toList=[a]->args=#[a]:=fun e=>by rw[<-Array.toArray_toList (xs:=args),e]
 unfold ZNa at q;cases h1:Nat.beq f 67<;>rw[h1]at q<;>simp only[Cq1,Cq0]at q
 .cases h2:Nat.beq f 66<;>rw[h2]at q<;>simp only[Cq1,Cq0]at q;.cases q
  rw[Nb0 h2];split at q
  .rename_i g cap C r;split at q
   .rename_i i y B;cases E:Nat.beq g 111<;>rw[E]at q<;>simp only[Cq1,Cq0]at q;.cases q
    split at q
    .rename_i m F;refine Zz1 D F q ?_;have I:cap=#[]:=by rw[<-Array.toArray_toList (xs:=cap),y]
     have G:C=#[(V5 i)]:=by rw[<-Array.toArray_toList (xs:=C),B]
     rw[x r,Nb0 E,I,G]at hv;exact hv
    cases q
   cases q
  cases q
 rw[Nb0 h1];split at q;next m r=>cases q;rw[x r]at hv;exact ZHH D hv
 cases q
def XK:Ctx:= {XX with ZNb:=ZNa,ZCu:=fun f args h v A p ρ l w m hv=>ZHq f args h v A p ρ l w m hv}
def CK:Cfg:=cfg XK (fun _=>false)
end
def Za4:Nat×YN:=(2254,.row [.string ⟨#[99]⟩,.slice (some ⟨2245,0,none⟩) 1 3,.string ⟨#[121]⟩,V3] true 2)
def Za3:Nat×YN:=(2286,.row [V4 2,V4 0,.string ⟨#[97]⟩,V3,V4 2,V4 0,.string ⟨#[120]⟩,V3] true 4)
def Za2:Nat×YN:=(2287,.row [V4 2,.string ⟨#[122]⟩,.slice (some ⟨2286,0,none⟩) 2 5,V3,V3] true 5)
def Za1:Nat×YN:=(2314,.row [V4 1,V4 1,.string ⟨#[]⟩,V3] true 4)
def Za0:Nat×YN:=(2316,.row [V4 2,.string ⟨#[99]⟩,.slice (some ⟨2314,0,none⟩) 1 3,V3,V3] true 5)
def ZaZ:Nat×YN:=(2317,.row [V4 6,.string ⟨#[113]⟩,V3,V3,.slice (some ⟨2316,0,none⟩) 1 3] true 5)
def ZaY:Nat×YN:=(2319,.row [V4 1,.string ⟨#[]⟩,.slice (some ⟨2254,0,none⟩) 2 5,V3,.slice (some ⟨2287,0,none⟩) 1 2,V4 2,.string ⟨#[112]⟩,V3,V3,.slice (some ⟨2317,0,none⟩) 1 2] true 5)
def ZaX:Nat×YN:=(2345,.row [V4 1,.string ⟨#[]⟩,V3,V3,V3] true 5)
def ZaW:Nat×YN:=(2347,.row [V4 2,.string ⟨#[121]⟩,V3,V3,V3,V4 8,.string ⟨#[112]⟩,V3,V3,.slice (some ⟨2345,0,none⟩) 1 3] true 5)
def ZaV:Nat×YN:=(2349,.row [V4 3,.string ⟨#[]⟩,V3,V3,.slice (some ⟨2347,0,none⟩) 2 5] true 5)
def ZaU:Nat×YN:=(2601,.row [V4 4,.string ⟨#[]⟩,V3,.slice (some ⟨2319,0,none⟩) 2 5,.slice (some ⟨2349,0,none⟩) 1 3] true 0)
def Zf1:Nat×YN:=(4031,.row [.string ⟨#[101]⟩] true 1)
def Zf0:Nat×YN:=(4040,.row [.string ⟨#[97]⟩,.slice (some ⟨4031,0,none⟩) 1 3,.string ⟨#[99]⟩,V3] true 2)
def ZfZ:Nat×YN:=(4069,.row [V4 2,V4 0,.string ⟨#[101]⟩,V3,V4 2,V4 0,.string ⟨#[98]⟩,V3] true 4)
def ZfY:Nat×YN:=(4070,.row [V4 2,.string ⟨#[122]⟩,.slice (some ⟨4069,0,none⟩) 2 5,V3,V3] true 5)
def ZfX:Nat×YN:=(4097,.row [V4 1,V4 1,.string ⟨#[]⟩,V3] true 4)
def ZfW:Nat×YN:=(4099,.row [V4 2,.string ⟨#[97]⟩,.slice (some ⟨4097,0,none⟩) 1 3,V3,V3] true 5)
def ZfV:Nat×YN:=(4100,.row [V4 6,.string ⟨#[113]⟩,V3,V3,.slice (some ⟨4099,0,none⟩) 1 3] true 5)
def ZfU:Nat×YN:=(4102,.row [V4 1,.string ⟨#[]⟩,.slice (some ⟨4040,0,none⟩) 2 5,V3,.slice (some ⟨4070,0,none⟩) 1 2,V4 2,.string ⟨#[100]⟩,V3,V3,.slice (some ⟨4100,0,none⟩) 1 2] true 5)
def ZfT:Nat×YN:=(4128,.row [V4 1,.string ⟨#[]⟩,V3,V3,V3] true 5)
def ZfS:Nat×YN:=(4130,.row [V4 2,.string ⟨#[99]⟩,V3,V3,V3,V4 8,.string ⟨#[100]⟩,V3,V3,.slice (some ⟨4128,0,none⟩) 1 3] true 5)
def ZfR:Nat×YN:=(4132,.row [V4 3,.string ⟨#[]⟩,V3,V3,.slice (some ⟨4130,0,none⟩) 2 5] true 5)
def ZfQ:Nat×YN:=(4133,.row [V4 4,.string ⟨#[]⟩,V3,.slice (some ⟨4102,0,none⟩) 2 5,.slice (some ⟨4132,0,none⟩) 1 3] true 0)
def St1:Fs:=mkS f14.ntmps [(1,V4 13),(2,V4 0),(3,V4 5),(4,V4 0)] [] 660
def St2:Fs:=mkS f14.ntmps [(1,V4 13),(2,V4 0),(3,V4 5),(4,V4 0),(5,.slice (some ⟨1105,0,none⟩) 3 1),(6,V4 0),(7,.slice (some ⟨1406,0,none⟩) 2 5),(8,.slice (some ⟨1412,0,none⟩) 1 3),(9,V4 0)] [(1105,.row [.string ⟨#[98]⟩,.string ⟨#[113]⟩,.string ⟨#[122]⟩] true 1),
 (1406,.row [.string ⟨#[120]⟩,.string ⟨#[121]⟩] true 1),
 (1412,.row [.string ⟨#[112]⟩] true 1)] 1413
def St3:Fs:=mkS f14.ntmps [(0,ZrR)] [] 1416
def St4:Fs:=mkS f14.ntmps [(10,(V5 2601)),(2,V4 0)] [(2245,.row [.string ⟨#[97]⟩] true 1),
 Za4,
 Za3,
 Za2,
 Za1,
 Za0,
 ZaZ,
 ZaY,
 ZaX,
 ZaW,
 ZaV,
 ZaU] 2602
def St5:Fs:=mkS f14.ntmps [(10,(V5 2601)),(2,V4 0),(4,V4 7)] [(2245,.row [.string ⟨#[97]⟩] true 1),
 Za4,
 Za3,
 Za2,
 Za1,
 Za0,
 ZaZ,
 ZaY,
 ZaX,
 ZaW,
 ZaV,
 ZaU] 3470
def St6:Fs:=mkS f14.ntmps [(10,(V5 2601)),(11,(V5 4133)),(2,V4 0),(4,V4 7),(6,V4 0)] [(2245,.row [.string ⟨#[97]⟩] true 1),
 Za4,
 Za3,
 Za2,
 Za1,
 Za0,
 ZaZ,
 ZaY,
 ZaX,
 ZaW,
 ZaV,
 ZaU,
 Zf1,
 Zf0,
 ZfZ,
 ZfY,
 ZfX,
 ZfW,
 ZfV,
 ZfU,
 ZfT,
 ZfS,
 ZfR,
 ZfQ] 4134
def St7:Fs:=mkS f14.ntmps [(10,(V5 2601)),(11,(V5 4133)),(2,V4 0),(4,V4 7),(6,V4 0),(12,.slice (some ⟨4272,0,none⟩) 2 5),(9,V4 0)] [(2245,.row [.string ⟨#[97]⟩] true 1),
 Za4,
 Za3,
 Za2,
 Za1,
 Za0,
 ZaZ,
 ZaY,
 ZaX,
 ZaW,
 ZaV,
 ZaU,
 Zf1,
 Zf0,
 ZfZ,
 ZfY,
 ZfX,
 ZfW,
 ZfV,
 ZfU,
 ZfT,
 ZfS,
 ZfR,
 ZfQ,
 (4263,.row [V4 1,.string ⟨#[]⟩,V3,V3,V3] true 5),
 (4272,.row [V4 2,.string ⟨#[121]⟩,V3,V3,V3,V4 8,.string ⟨#[112]⟩,V3,V3,.slice (some ⟨4263,0,none⟩) 1 3] true 5)] 4273
def St8:Fs:=mkS f14.ntmps [(10,(V5 2601)),(11,(V5 4133))] [(2245,.row [.string ⟨#[97]⟩] true 1),
 Za4,
 Za3,
 Za2,
 Za1,
 Za0,
 ZaZ,
 ZaY,
 ZaX,
 ZaW,
 ZaV,
 ZaU,
 Zf1,
 Zf0,
 ZfZ,
 ZfY,
 ZfX,
 ZfW,
 ZfV,
 ZfU,
 ZfT,
 ZfS,
 ZfR,
 ZfQ] 4273
set_option maxRecDepth 100000 in
theorem pc1:J4 (ev CK 3000) f14.ntmps [1,2,3,4] [] 3 (Kq 0 (ZbO f14)) (ZKc f14.ntmps)=some St1:=Kq0
set_option maxRecDepth 100000 in
theorem pc2:J4 (ev CK 3000) f14.ntmps [1,2,3,4,5,6,7,8,9] [1105,1406,1412] 2 (Kq 3 (ZbO f14)) (St1)=some St2:=Kq0
set_option maxRecDepth 100000 in
theorem pc3:J4 (ev CK 3000) f14.ntmps [0] [] 1 (Kq 5 (ZbO f14)) (St2)=some St3:=Kq0
set_option maxRecDepth 100000 in
theorem pc4:J4 (ev CK 3000) f14.ntmps [10,2] [2245,2254,2286,2287,2314,2316,2317,2319,2345,2347,2349,2601] 1 (Kq 6 (ZbO f14)) (St3)=some St4:=Kq0
set_option maxRecDepth 100000 in
theorem pc5:J4 (ev CK 3000) f14.ntmps [10,2,4] [2245,2254,2286,2287,2314,2316,2317,2319,2345,2347,2349,2601] 1 (Kq 7 (ZbO f14)) (St4)=some St5:=Kq0
set_option maxRecDepth 100000 in
theorem pc6:J4 (ev CK 3000) f14.ntmps [10,11,2,4,6] [2245,2254,2286,2287,2314,2316,2317,2319,2345,2347,2349,2601,4031,4040,4069,4070,4097,4099,4100,4102,4128,4130,4132,4133] 1 (Kq 8 (ZbO f14)) (St5)=some St6:=Kq0
set_option maxRecDepth 100000 in
theorem pc7:J4 (ev CK 3000) f14.ntmps [10,11,2,4,6,12,9] [2245,2254,2286,2287,2314,2316,2317,2319,2345,2347,2349,2601,4031,4040,4069,4070,4097,4099,4100,4102,4128,4130,4132,4133,4263,4272] 1 (Kq 9 (ZbO f14)) (St6)=some St7:=Kq0
set_option maxRecDepth 100000 in
theorem pc8:J4 (ev CK 3000) f14.ntmps [10,11] [2245,2254,2286,2287,2314,2316,2317,2319,2345,2347,2349,2601,4031,4040,4069,4070,4097,4099,4100,4102,4128,4130,4132,4133] 1 (Kq 10 (ZbO f14)) (St7)=some St8:=Kq0
set_option maxRecDepth 100000 in
theorem pcl:isTrue (Zie (fun e s=>match xPM e with
 | some pm=>ev CK 3000 (.leave f14 0 pm s)
 | none=>none) (ev CK 3000 (.code (Kq 11 (ZbO f14)) f14.ntmps 0 none (St8))))=true:=Kq0
end Go.Proofs.YtbnepjakjmnadaaGreat
end
end
