/- Part 6. -/
import Derived.Laws.IdiomRangeMap
import Derived.Test.YtbnepjakjmnadaaGreatFp5
set_option linter.all false
set_option maxHeartbeats 2000000
section
noncomputable section
namespace Go.ZF
section
variable{X:Ctx}{ih:Qn->O YP}{ρ:Ren}{w:V9}
def VR.back{ρ ρ':Ren}(hr:ρ.le ρ'){v r0:N}(h:VR ρ v r0):∀{r1:N},VR ρ' v r1->VR ρ v r1:=by
 induction h with
 | bool b=>intro r1 h;cases h;exact .bool b
 | int k n=>intro r1 h;cases h;exact .int k n
 | float k b=>intro r1 h;cases h;exact .float k b
 | complex k a b=>intro r1 h;cases h;exact .complex k a b
 | string s=>intro r1 h;cases h;exact .string s
 | Zv8=>intro r1 h;cases h;exact .Zv8
 | ptr o h0=>
   intro r1 h;cases h with
   | ptr _ h1=>have:=(hr _ _ h0).1;rw[h1]at this;cases this;exact .ptr o h0
 | KV=>intro r1 h;cases h;exact .KV
 | slice o n c c' h0 hc=>
   intro r1 h;cases h with
   | slice _ _ _ c2 h1 hc1=>
     obtain⟨q1,q2⟩:=hr _ _ h0;rw[h1]at q1;cases q1;rw[q2]at hc1;exact .slice o n c c2 h0 hc1
   | X7 _ o' _ h1 hc1=>
     obtain⟨q1,q2⟩:=hr _ _ h0;rw[h1]at q1;cases q1;exact .X7 o o' c h0 hc1
 | X7 o o' c h0 hc=>
   intro r1 h;cases h with
   | slice _ _ _ c2 h1 hc1=>
     obtain⟨q1,q2⟩:=hr _ _ h0;rw[h1]at q1;cases q1;rw[q2]at hc1;exact .slice o 0 c c2 h0 hc1
   | X7 _ o2 _ h1 hc1=>
     obtain⟨q1,q2⟩:=hr _ _ h0;rw[h1]at q1;cases q1;exact .X7 o o2 c h0 hc1
 | UE a=>
   intro r1 h;cases h with
   | UE a'=>exact .UE a'
 | Zwg=>intro r1 h;cases h;exact .Zwg
 | map h0=>
   intro r1 h;cases h with
   | map h1=>have:=(hr _ _ h0).1;rw[h1]at this;cases this;exact .map h0
 | ZmD=>intro r1 h;cases h;exact .ZmD
 | nilFunc=>intro r1 h;cases h;exact .nilFunc
 | nilIface=>intro r1 h;cases h;exact .nilIface
 | func fn xs ys xs' ys' hf hx hy h1 h2 i1 i2=>
   intro r1 h;cases h with
   | func _ _ _ xs2 ys2 _ hx2 hy2 k1 k2=>
     refine .func fn xs ys xs2 ys2 hf hx2 hy2 (fun i v v' a b=>?_) (fun i v v' a b=>?_)
     ·have hlt:i<xs.size:=(Jn.1 a).1;exact i1 i v (xs'[i]'Vg) a (by simp[show i<xs'.size by omega]) (k1 i v v' a b)
     ·have hlt:i<ys.size:=(Jn.1 a).1;exact i2 i v (ys'[i]'Vg) a (by simp[show i<ys'.size by omega]) (k2 i v v' a b)
   | yield h1=>exact absurd rfl (hf _)
 | yield h0=>
   intro r1 h;cases h with
   | func _ _ _ _ _ hf=>exact absurd rfl (hf _)
   | yield h1=>have:=(hr _ _ h0).1;rw[h1]at this;cases this;exact .yield h0
 | iface t v v' _ ih=>intro r1 h;cases h with|iface _ _ v2 h=>exact .iface t v v2 (ih h)
 | agg xs xs' hx _ ih=>
   intro r1 h;cases h with
   | agg _ xs2 hx2 k=>
     refine .agg xs xs2 hx2 fun i v v' a b=>?_
     have hlt:i<xs.size:=(Jn.1 a).1;exact ih i v (xs'[i]'Vg) a (by simp[show i<xs'.size by omega]) (k i v v' a b)
 | tuple xs xs' hx _ ih=>
   intro r1 h;cases h with
   | tuple _ xs2 hx2 k=>
     refine .tuple xs xs2 hx2 fun i v v' a b=>?_
     have hlt:i<xs.size:=(Jn.1 a).1;exact ih i v (xs'[i]'Vg) a (by simp[show i<xs'.size by omega]) (k i v v' a b)
def Jy.back{ρ ρ':Ren}(hr:ρ.le ρ'){xs ys zs:Va N}(h:Jy ρ xs ys)(k:Jy ρ' xs zs):Jy ρ xs zs:=
 ⟨k.1,fun i v v' a b=>by
   have hlt:i<xs.size:=(Jn.1 a).1;have:=h.1;exact VR.back hr (h.2 i v (ys[i]'Vg) a (by simp[show i<ys.size by omega])) (k.2 i v v' a b)⟩
def ZoV.back{ρ ρ':Ren}(hr:ρ.le ρ'){d d1 d2:Vc}(h:ZoV ρ d d1)(k:ZoV ρ' d d2):ZoV ρ d d2:=by
 obtain⟨⟨f,c,c1,e1,e2,e3⟩,e4⟩:=h;obtain⟨⟨f',c',c2,k1,k2,k3⟩,k4⟩:=k;rw[e1]at k1;cases k1;exact⟨⟨f,c,c2,e1,k2,Jy.back hr e3 k3⟩,Jy.back hr e4 k4⟩
def DsR.back{ρ ρ':Ren}(hr:ρ.le ρ'){ds d1:U Vc}(h:DsR ρ ds d1):∀{d2:U Vc},DsR ρ' ds d2->DsR ρ ds d2:=by
 induction h with
 | nil=>intro d2 h;cases h;exact .nil
 | cons hd _ ih=>
   intro d2 h;cases h with
   | cons kd kt=>exact .cons (hd.back hr kd) (ih kt)
   | mark km kt=>obtain⟨⟨_,_,_,e1,_⟩,_⟩:=hd;cases e1
 | mark hm _ ih=>
   intro d2 h;cases h with
   | cons kd kt=>obtain⟨⟨_,_,_,e1,_⟩,_⟩:=kd;cases e1
   | mark km kt=>have:=(hr _ _ hm).1;rw[km]at this;cases this;exact .mark hm (ih kt)
def Rel.congr{h h':H}(r:Rel ρ h w)(hs:h'.size=h.size)(he:∀i,h'.at i=h.at i):Rel ρ h' w:=
 ⟨fun i b d e=>by rw[hs];exact r.dom i b d e,fun i b d e=>by rw[he];exact r.obj i b d e,fun i j b d d' e e' h1 h2=>by rw[he]at h1 h2;exact r.inj i j b d d' e e' h1 h2⟩
def Zem{h:H}{w w':V9}{i b:Nat}{A:YD}(r:Rel ρ (h.put i .dead) w)(hi:ρ i=some (b,0))(hex:∀j b' d,ρ j=some (b',d)->b'=b->j≠i->(h.at j).live=true->False)
 (hk:∀k,k≠b->w'.heap[k]? =w.heap[k]?) (hsz:w'.heap.size=w.heap.size) (hA:Qd ρ w' b 0 (ρ.lim i) A):Rel ρ (h.put i A) w':=by
 have hlt:=(r.dom i b 0 hi).1;rw[H.size_put]at hlt;have hat:∀(B:YD) j,j≠i->(h.put i B).at j=h.at j:=fun B j hj=>by rw[H.XM,if_neg (fun x=>hj x.1)]
 have ZsK:(h.put i A).at i=A:=by rw[H.XM,if_pos ⟨rfl,hlt⟩]
 refine⟨fun j b' d e=>by have:=r.dom j b' d e;rw[H.size_put]at *;omega,fun j b' d e=>?_,fun j k b' d d' e e' ho hl=>?_⟩
 ·by_cases hj:j=i
  ·subst hj;rw[hi]at e;cases e;rw[ZsK];exact hA
  ·rw[hat A j hj];by_cases hb:b'=b
   ·by_cases hl:(h.at j).live=true
    ·exact(hex j b' d e hb hj hl).elim
    ·rw[Ur hl];trivial
   ·have:=r.obj j b' d e;rw[hat _ j hj]at this;exact this.world (hk b' hb)
 ·by_cases hj:j=i
  ·by_cases hkk:k=i
   ·omega
   ·subst hj;rw[hi]at e;cases e;rw[hat A k hkk]at hl;exact(hex k _ d' e' rfl hkk hl).elim
  ·rw[hat A j hj]at ho;by_cases hkk:k=i
   ·subst hkk;rw[hi]at e';cases e';exact(hex j _ d e rfl hj (J4 ho)).elim
   ·rw[hat A k hkk]at hl;refine r.inj j k b' d d' e e' ?_ ?_
    ·rw[hat _ j hj];exact ho
    ·rw[hat _ k hkk];exact hl
def Zde{P:V7}{w:V9}(ty:J){b bm since c0:Nat}{seen:Va Nat}{es:Va Vb}{clock:Nat}(hb:w.heap[b]? =some (.mapIter (some bm) since seen c0))(hm:w.heap[bm]? =some (.map es clock))
 (hold:∀x∈es.toList,x.born<since) (hsc:since<=c0):
 ((leftOf es seen).size=0/\(Instr.next ((Vf b)) false ty).run P w=.ok QT w)\/
 ∃e∈(leftOf es seen).toList,∃w1:V9,w1.heap=w.heap/\Same w w1/\(Instr.next ((Vf b)) false ty).run P w=.ok (.tuple #[.bool true,e.key,e.val]) (w1.putObj b (.mapIter (some bm) since (seen.push e.born) clock)):=by
 simp only[Instr.next,getObj,Sem.run_bind,Sem.run,hb,hm,Result.andThen,next_test_false seen es since c0 hold hsc,Bool.false_eq_true,if_false];unfold leftOf;have hmem:∀x∈(Array.filter (fun e=>!seen.contains e.born) es).toList,x.born<since:=fun x hx=>hold x (by simp at hx ⊢;exact hx.1)
 generalize Array.filter (fun e=>!seen.contains e.born) es=L at hmem ⊢;have e1:L.filter (fun x=>decide (x.born<since))=L:=Array.filter_eq_self.2 (fun x hx=>by simpa using hmem x (by simpa using hx))
 have e2:L.filter (fun x=>decide (x.born >=since))=#[]:=by
  rw[Array.filter_eq_empty_iff];intro x hx;have:=hmem x (by simpa using hx);simp;omega
 simp only[e1,e2,Array.append_empty];by_cases h0:L.size=0
 ·left;have:L=#[]:=GT h0;subst this;refine⟨rfl,?_⟩;simp[choose,Sem.run,Question.forced,QT]
 ·right;have hne:L.isEmpty=false:=by simp[Array.isEmpty,h0]
  simp only[hne,Bool.false_eq_true,if_false,Array.empty_append,Array.size_map]
  have hch:∃(j:Nat) (w1:V9),j<L.size/\w1.heap=w.heap/\Same w w1/\(choose (Question.mapNext L.size)).run P w=.ok j w1:=by
   by_cases hf:L.size<=1
   ·exact⟨0,w,by omega,rfl,Same.refl w,by simp[choose,Sem.run,Question.forced,hf]⟩
   ·exact⟨_,w.drew,Nat.mod_lt _ Vg,rfl,⟨rfl,rfl,rfl⟩,by
     simp only[choose,Sem.run,Question.forced,decide_eq_true_eq,hf,if_false,Question.cut]
     rfl⟩
  obtain⟨j,w1,hj,hh,hal,hrun⟩:=hch;refine⟨L[j],by simp,w1,hh,hal,?_⟩
  have hset:∀(o':Obj),(setObj b o').run P w1=.ok () (w1.putObj b o'):=fun o'=>by
   have hlt:w1.heap[b]? =some (.mapIter (some bm) since seen c0):=by rw[hh];exact hb
   simp[setObj,Sem.run,hlt,World.putObj]
  simp only[hrun,Array.getElem?_map,GH hj,V2,Sem.run_bind,hset,Result.andThen]
  rfl
def EL.mem{es es':U Vb}(e:EL ρ es es'){x':Vb}(hx:x'∈es'):∃x∈es,x'.key=x.key/\plain x.key=true/\x'.born=x.born/\VR ρ x.val x'.val:=by
 induction e with
 | nil=>cases hx
 | cons hk hp hb hv _ ih=>
   rcases Kd.1 hx with rfl|h
   ·exact⟨_,by simp,hk,hp,hb,hv⟩
   ·obtain⟨x,h1,h2⟩:=ih h;exact⟨x,Kf _ h1,h2⟩
def Zag{clock:Nat}:∀{es:U Vb},Xq clock es=true->∀e∈es,e.born<clock:=by
 intro es
 induction es with
 | nil=>intro _ e h;cases h
 | cons x es ih=>
   intro h e he;simp only[Xq,Ba0,G6]at h;rcases Kd.1 he with rfl|he
   ·exact h.1.1
   ·exact ih h.2 e he
section
variable{C:Cfg}(HI:∀j r,ih j=some r->Yq C.X j r)(HW:∀j r,ih j=some r->ZBW j r)
def ZfZ(HI:∀j r,ih j=some r->Yq C.X j r){mi:MI}{n wm:Nat}{rd:O Nat}{s s':Fs}{e:XX}(h:Zae C ih mi n wm rd s=some (.code e s')){F:Fence}{a:Act}{w:V9}(hi:Inv ρ n s a w)(Zt:wm<=s.h.size)(hF:KO ρ rd F)
 {Q:Exit->Act->V9->Prop} (hq:∀e' a' w',Xj wm n ρ s.h w e s' e' a' w'->Q e' a' w'):wpListIn F 0 C.X.P mi.ops (Exit.then (mi.rest.wpIn F 0 C.X.P Q) Q) mi.l a w:=by
 unfold Zae at h;split at h
 ·rename_i s1 h1;obtain⟨_,_,e0,k⟩:=Y5.1 (HI _ _ h);cases e0;refine ZkK HI _ mi.l s s1 .normal h1 hi Zt hF fun e' a' w' hp=>?_
  obtain⟨ρ',he,hi',hst⟩:=hp;cases he;exact wpIn_mono (k ρ' a' w' F (KB Zt hst.size) hi' (hF.mono hst.ext)) fun e2 a2 w2 hp2=>hq _ _ _ (Xj.trans hi.rel.lt hst hp2)
 ·rename_i e1 s1 hne h1;cases h;refine ZkK HI _ mi.l s _ _ h1 hi Zt hF fun e' a' w' hp=>?_
  obtain⟨ρ',he,hi',hst⟩:=hp;cases he with
  | normal=>exact(hne rfl).elim
  | exit id=>exact hq _ _ _ ⟨ρ',.exit id,hi',hst⟩
  | goto id=>exact hq _ _ _ ⟨ρ',.goto id,hi',hst⟩
  | ret=>exact hq _ _ _ ⟨ρ',.ret,hi',hst⟩
  | panic hv=>exact hq _ _ _ ⟨ρ',.panic hv,hi',hst⟩
 ·cases h
include HI HW in
theorem ZqV:ZGz C ih:=by
 intro c n wm rd s r mi hmi h;obtain⟨rfl,hops,hop,hgu,hfr,hit,hm⟩:=Zju hmi;unfold Zkt at h;generalize (Zg6 (.seq (.region mi.id mi.ops false) mi.rest)).filter (allowed s.wr)=T at h;unfold Zod at h;generalize hb:Zl6 mi n wm T=b at h;cases b with
 | false=>cases h
 | true=>
 obtain⟨hs1,hs2,hborn,ZnL,htT,d,hd,hdn,hdT⟩:=Zes hb;simp only [Cq1] at h;generalize Zcn:Zbp C ih mi n rd (Zch T) (ZU T s.fr) s mi.es=b2 at h;cases b2 with
 | false=>cases h
 | true=>
 simp only [Cq1] at h
 have Zcn:∀ e ∈ mi.es,∃ s2,Zae C ih mi n s.h.size rd {fr:=QI (ZU T s.fr) mi.o.dst (.tuple #[.bool true,e.key,e.val]),ds:=s.ds,h:=s.h.put mi.it (.iter mi.m mi.since mi.clock (some e.born)),wr:=some (Zch T)}=some (.code .normal s2)∧s2.ds.length=s.ds.length:=by
  have:∀ es,Zbp C ih mi n rd (Zch T) (ZU T s.fr) s es=true ->∀ e ∈ es,∃ s2,Zae C ih mi n s.h.size rd {fr:=QI (ZU T s.fr) mi.o.dst (.tuple #[.bool true,e.key,e.val]),ds:=s.ds,h:=s.h.put mi.it (.iter mi.m mi.since mi.clock (some e.born)),wr:=some (Zch T)}=some (.code .normal s2)∧s2.ds.length=s.ds.length:=by
   intro es
   induction es with
   | nil=>intro _ e he;cases he
   | cons x es ihe=>
     intro hh e he;simp only [Zbp,Ba0] at hh;rcases List.mem_cons.1 he with rfl | he
     ·have h1:=hh.1;split at h1
      ·rename_i s2 h2;exact⟨s2,h2,Nb0 h1⟩
      ·cases h1
     ·exact ihe hh.2 e he
  exact this _ Zcn
 generalize hover:Zae C ih mi n wm rd {s with fr:=QI (ZU T s.fr) mi.o.dst QT,h:=s.h.put mi.it .dead}=rr at h
 have hrr:∃ e s2,rr=some (.code e s2):=by
  split at h
  ·exact⟨_,_,rfl⟩
  ·cases h
 obtain⟨e,s2,rfl⟩:=hrr
 have hres:e ≠ .normal∧r= .code e s2:=by
  cases e with
  | normal=>cases h
  | exit _=>cases h;exact⟨fun z=>(by cases z),rfl⟩
  | goto _=>cases h;exact⟨fun z=>(by cases z),rfl⟩
  | ret=>cases h;exact⟨fun z=>(by cases z),rfl⟩
  | panic _=>cases h;exact⟨fun z=>(by cases z),rfl⟩
 obtain⟨hne,rfl⟩:=hres;refine⟨e,s2,rfl,fun ρ a0 w0 F Zt hi0 hF=>?_⟩;obtain⟨dd,hdr⟩:∃ d,d=mi.it:= ⟨_,rfl⟩
 have ZjJ:=hi0.fr.val mi.t (by rw [hfr];rfl);rw [hfr] at ZjJ;generalize hpx:a0.tmps.getD mi.t undef=px at ZjJ;cases ZjJ with
 | @ptr _ bi di _ K8=>
 have hoi:=hi0.rel.obj _ _ _ K8;rw [hit] at hoi;obtain⟨rfl,bm,ZFq,ZdN,Zp9,_,K9⟩:=hoi;have K9:=K9 rfl;subst K9;have hom:=hi0.rel.obj _ _ _ ZdN;rw [hm] at hom;obtain⟨_,es',Zzy,hes⟩:=hom;have hilt:=hi0.rel.dom _ _ _ K8;have ZRa:=hi0.rel.dom _ _ _ ZdN;have ZsJ:mi.m ≠ mi.it:=fun z=>by rw [z,hit] at hm;cases hm
 have hold:∀ x ∈ es'.toList,x.born < mi.since:=by
  intro x hx;obtain⟨y,hy,_,_,hyb,_⟩:=hes.mem hx;rw [hyb,hs1];exact Zag hborn y hy
 have ZhH:∀ j b d,ρ j=some (b,d) ->b=bi ->j ≠ mi.it ->((s.h.at j).live=true ->False):=by
  intro j b d hj hbb hne' hl;subst hbb;exact hne' (hi0.rel.inj mi.it j b 0 d K8 hj (by rw [hit];rfl) hl).symm
 have hbne:bm ≠ bi:=fun z=>ZhH mi.m bm 0 ZdN z ZsJ (by rw [hm];rfl)
 have ZMF:s.h.size= (s.h.put mi.it .dead).size:=rfl
 have Zck:∀ {a:Act} {w:World} {K:Act ->World ->Prop} {Q:Exit ->Act ->World ->Prop} {v:Value} {w1:World},a.tmps.getD mi.t undef= .pointer (some ⟨bi,0,none⟩) ->(Instr.next (.pointer (some ⟨bi,0,none⟩)) false mi.o.type).run C.X.P w= .ok v w1 ->
  K (a.put mi.o.dst v) w1 ->(if Region.wanted mi.o (yielded mi.ops a.tmps) then mi.o.wpIn F 0 C.X.P a w K Q else(∀ f,mi.o.about C.X.P w a.eval=some f ->F.fn f)∧K (a.put mi.o.dst undef) w):=by
  intro a w K Q v w1 ht hrun hK;have hw:Region.wanted mi.o (yielded mi.ops a.tmps)=true:=by unfold Region.wanted;rw [hgu]
  rw [if_pos hw];refine⟨fun f hab=>(by unfold Oper.about at hab;rw [hop] at hab;cases hab),?_⟩;have ZjH:mi.o.semAt F.round a.eval=execOp a.eval mi.o:=Oper.semAt_eq _ _ _ fun c hc=>by rw [hop] at hc;cases hc
  have he:a.eval (.tmp mi.t)= .pointer (some ⟨bi,0,none⟩):=ht
  have hx:(execOp a.eval mi.o).run C.X.P w= .ok (.value v) w1:=by
   unfold execOp;rw [hop];simp [he,hrun]
  rw [ZjH,hx];exact hK
 have ZMB:∀ t,t ∉ T ->t ≠ d:=fun t ht z=>by rw [z] at ht;exact ht hdT
 have ZhF:∀ (a:Act) (w:World),Inv ρ n {s with fr:=ZU T s.fr,h:=s.h.put mi.it .dead} a w ->a.tmps.getD mi.t undef= .pointer (some ⟨bi,0,none⟩):=by
  intro a w hi;have h0:VR ρ ((ZU T s.fr).at mi.t) (a.tmps.getD mi.t undef):=hi.fr.val mi.t (by show Xt ((ZU T s.fr).at mi.t)=false;rw [YV,if_neg htT,hfr];rfl);rw [YV,if_neg htT,hfr] at h0;generalize a.tmps.getD mi.t undef=y at h0;cases h0 with
  | ptr _ h1=>rw [K8] at h1;cases h1;rfl
 have Zp1:∀ (a:Act) (w:World),Inv ρ n {s with fr:=ZU T s.fr,h:=s.h.put mi.it .dead} a w ->Stp wm ρ s.h w0 ρ (s.h.put mi.it .dead) w ->a.tmps.getD mi.t undef= .pointer (some ⟨bi,0,none⟩) ->
  (Instr.next (.pointer (some ⟨bi,0,none⟩)) false mi.o.type).run C.X.P w= .ok QT w ->∀ (_:Unit),LoopIn F 0 C.X.P (.seq (.region mi.id mi.ops false) mi.rest) (Xj wm n ρ s.h w0 e s2) a w:=by
  intro a w hi hst ht hrun _;refine Xo (wpIn_seq (wpIn_region_list ?_));rw [hops];refine Zck ht hrun ?_
  have hio:Inv ρ n {s with fr:=QI (ZU T s.fr) mi.o.dst QT,h:=s.h.put mi.it .dead} (a.put mi.o.dst QT) w:=by
   refine⟨hi.rel,?_,?_⟩
   ·rw [hd];exact hi.fr.set hdn (VR.ZC rfl)
   ·rw [hd];exact hi.ds
  refine ZfZ HI hover hio Zt hF fun e3 a3 w3 hp=>?_
  have hp2:=Xj.trans hi0.rel.lt hst hp;obtain⟨ρ3,hx3,hi3,XV⟩:=hp2;cases hx3 with
  | normal=>exact(hne rfl).elim
  | exit id=>exact⟨ρ3,.exit id,hi3,XV⟩
  | goto id=>exact⟨ρ3,.goto id,hi3,XV⟩
  | ret=>exact⟨ρ3,.ret,hi3,XV⟩
  | panic hv=>exact⟨ρ3,.panic hv,hi3,XV⟩
 have head:∀ (k:Nat) (seen:Array Nat) (last:Nat) (a:Act) (w:World),(leftOf es' seen).size <=k ->mi.clock <=last ->w.heap[bi]? =some (.mapIter (some bm) mi.since seen last) ->w.heap[bm]? =some (.map es' mi.clock) ->
  Inv ρ n {s with fr:=ZU T s.fr,h:=s.h.put mi.it .dead} a w ->
  Stp wm ρ s.h w0 ρ (s.h.put mi.it .dead) w ->LoopIn F 0 C.X.P (.seq (.region mi.id mi.ops false) mi.rest) (Xj wm n ρ s.h w0 e s2) a w:=by
  intro k
  induction k with
  | zero=>
    intro seen last a w hk hlast hblk Za1 hi hst;have ht:=ZhF a w hi;rcases Zde (P:=C.X.P) mi.o.type hblk Za1 hold (by rw [hs1];exact hlast) with⟨_,hrun⟩ | ⟨e',he',_⟩
    ·exact Zp1 a w hi hst ht hrun ()
    ·have:=Array.length_toList ▸ List.length_pos_of_mem he';omega
  | succ k ihk=>
    intro seen last a w hk hlast hblk Za1 hi hst;have ht:=ZhF a w hi;rcases Zde (P:=C.X.P) mi.o.type hblk Za1 hold (by rw [hs1];exact hlast) with⟨_,hrun⟩ | ⟨e',he',w1,hw1,hsame,hrun⟩
    ·exact Zp1 a w hi hst ht hrun ()
    ·have hmem:= (mem_left he').1;obtain⟨x,hx,hkey,hkp,hbn,hval⟩:=hes.mem hmem;obtain⟨s3,hbody,hlen⟩:=Zcn x hx;have hW:=ZqW HW hbody;have Zmd:bi < w.heap.size:= (hi.rel.dom _ _ _ K8).2;have ZMD:bm < w.heap.size:= (hi.rel.dom _ _ _ ZdN).2;obtain⟨w2,hw2⟩:∃ w2,w2=w1.putObj bi (.mapIter (some bm) mi.since (seen.push e'.born) mi.clock):= ⟨_,rfl⟩
     rw [← hw2] at hrun;have hsz2:w2.heap.size=w.heap.size:=by rw [hw2,World.putObj_size,hw1]
     have hother:∀ k,k ≠ bi ->w2.heap[k]? =w.heap[k]?:=fun k hk=>by rw [hw2,World.putObj_heap_other hk,hw1]
     have Zqa:w2.heap[bi]? =some (.mapIter (some bm) mi.since (seen.push e'.born) mi.clock):=by rw [hw2];exact World.putObj_heap_same (by rw [hw1];exact Zmd)
     have Zaa:Same w w2:=by rw [hw2];exact⟨hsame.os,hsame.tape,hsame.output⟩
     have hrel:Rel ρ (s.h.put mi.it (.iter mi.m mi.since mi.clock (some x.born))) w2:=by
      refine Zem hi.rel K8 ZhH hother hsz2 ⟨rfl,bm,seen.push e'.born,ZdN,Zqa,fun z hz=>?_,fun z=>by cases z⟩;cases hz;rw [← hbn];simp
     have hie:Inv ρ n {fr:=QI (ZU T s.fr) mi.o.dst (.tuple #[.bool true,x.key,x.val]),ds:=s.ds,h:=s.h.put mi.it (.iter mi.m mi.since mi.clock (some x.born)),wr:=some (Zch T)} (a.put mi.o.dst (.tuple #[.bool true,e'.key,e'.val])) w2:=by
      refine⟨hrel,?_,?_⟩
      ·rw [hd];refine hi.fr.set hdn (.tuple _ _ rfl fun j y y' p q=>?_)
       match j,p,q with
       | 0,p,q=>simp at p q;subst p q;exact .bool true
       | 1,p,q=>simp at p q;subst p q;rw [hkey];exact VR.ZC hkp
       | 2,p,q=>simp at p q;subst p q;exact hval
       | j + 3,p,q=>simp at p
      ·rw [hd];exact hi.ds
     refine Xo (wpIn_seq (wpIn_region_list ?_));rw [hops];refine Zck ht hrun ?_;refine ZfZ HI hbody hie (Nat.le_refl _) hF fun e3 a3 w3 hp=>?_
     obtain⟨ρ3,hx3,hi3,XV⟩:=hp;cases hx3;show LoopIn F 0 C.X.P _ _ a3 w3;obtain⟨q1,q2⟩:=Za6 hrel XV;have Zlj:∀ b,b < w2.heap.size ->w3.heap[b]? =w2.heap[b]?:=fun b hb=>XV.frame b hb fun i d hi' e _=>by have:=hrel.lt i _ e;simp at this hi';omega
     have hwr:∀ t,t ∉ T ->s3.fr.at t=s.fr.at t:=by
      intro t Zam;rw [hW.fr t (by show bit (Zch T) t=false;rw [Bool.eq_false_iff];intro z;exact Zam (ZwZ.1 z))];show(QI (ZU T s.fr) mi.o.dst _).at t=_;rw [Zbh,if_neg (by rw [hd];intro z;cases z;exact Zam hdT),YV,if_neg Zam]
     have ZzB:s3.ds=s.ds:=by
      obtain⟨l,hl⟩:=hW.ds;have hl:s3.ds=l ++ s.ds:=hl;rw [hl,List.length_append] at hlen;have:l= []:=List.eq_nil_of_length_eq_zero (by omega);rw [hl,this];rfl
     refine ihk (seen.push e'.born) mi.clock a3 w3 (by have:=left_shrinks es' seen e' he';omega) (Nat.le_refl _) (by rw [Zlj bi (by omega)];exact Zqa) (by rw [Zlj bm (by omega),hother bm hbne];exact Za1) ⟨?_,⟨hi3.fr.size,fun t hany=>?_⟩,?_⟩ ?_
     ·refine(KY (i:=mi.it) q1).congr rfl fun i=>?_
      rw [H.XM,H.XM];by_cases hii:i=mi.it∧i < s.h.size
      ·rw [if_pos hii,if_pos (by simpa using hii)]
      ·rw [if_neg hii,if_neg (by simpa using hii),H.XM,if_neg hii]
     ·change Xt ((ZU T s.fr).at t)=false at hany
      show VR ρ ((ZU T s.fr).at t) _;rw [YV] at hany ⊢;by_cases Zam:t ∈ T
      ·rw [if_pos Zam] at hany;cases hany
      ·rw [if_neg Zam] at hany ⊢;have h0:=hi.fr.val t (by show Xt ((ZU T s.fr).at t)=false;rw [YV,if_neg Zam];exact hany);have h0:VR ρ ((ZU T s.fr).at t) _:=h0;rw [YV,if_neg Zam] at h0;have h1:=hi3.fr.val t (by rw [hwr t Zam];exact hany);rw [hwr t Zam] at h1;exact VR.back XV.ext h0 h1
     ·have h0:DsR ρ s.ds a.defers:=hi.ds;have h1:=hi3.ds;rw [ZzB] at h1;exact DsR.back XV.ext h0 h1
     ·refine⟨Ren.le_refl _,hst.size,hst.keep,hst.own,hst.live,XV.os.trans (Zaa.os.trans hst.os),XV.tape.trans (Zaa.tape.trans hst.tape),XV.output.trans (Zaa.output.trans hst.output),
       Nat.le_trans hst.Y8 (by rw [← hsz2];exact XV.Y8),fun b hb hno=>?_,fun i b d p q=>by rw [p] at q;cases q⟩
      have hbb:b ≠ bi:=fun z=>by subst z;exact hno mi.it 0 ZnL K8 (by rw [hit];rfl)
      have:=hst.Y8;rw [Zlj b (by omega),hother b hbb,hst.frame b hb hno]
 have ZnM:Stp wm ρ s.h w0 ρ (s.h.put mi.it .dead) w0:=by
  have kk:=JD (h:=s.h) (A:= .dead) ZnL (by rw [hit];rfl);exact⟨Ren.le_refl _,Nat.le_refl _,kk.keep,kk.own,kk.live,rfl,rfl,rfl,Nat.le_refl _,fun _ _ _=>rfl,fun i b d e e'=>by rw [e] at e';cases e'⟩
 refine head _ #[] mi.Y6 a0 w0 (Nat.le_refl _) hs2 Zp9 Zzy ⟨KY hi0.rel,⟨hi0.fr.size,fun t hany=>?_⟩,hi0.ds⟩ ZnM
 change Xt ((ZU T s.fr).at t)=false at hany
 show VR ρ ((ZU T s.fr).at t) _;rw [YV] at hany ⊢;by_cases ht:t ∈ T
 ·rw [if_pos ht] at hany;cases hany
 ·rw [if_neg ht] at hany ⊢;exact hi0.fr.val t hany
end
end
section
variable{X:Ctx}{YX:V8->Z}{ih:Qn->O YP}
def Zc5(hm:X.P.follows .mixedOrders=true)(k:Nat):∀(j:Qn)(r:YP),ev (cfg X YX) k j=some r->Yq X j r:=by
 induction k with
 | zero=>intro j r h;cases h
 | succ k ihk=>
   have HK:=ZEx (C:=cfg X YX) ZBc k
   have Zp8:∀n wm rd (ops:Va Oper) s s',(cfg X YX).draw (ev (cfg X YX) k) n wm rd ops.toList s=some s' ->
    ∀id ρ a w F,wm<=s.h.size->Inv ρ n s a w->KO ρ rd F->(Code.region id ops true).wpIn F 0 X.P (Xj wm n ρ s.h w .normal s') a w:=by
    intro n wm rd ops s s' hr id ρ a w F Zt hi hF;have hr:Zhl X YX (ev (cfg X YX) k) n wm ops.toList s=some s':=hr;obtain⟨D,d1,d2,d3,d4,d5⟩:=Zrz (rd:=rd) ihk HK hr Zt;have hi2:Inv ρ n {fr:=D.fs 0,ds:=s.ds,h:=D.hs 0} a w:=⟨by rw[d1];exact hi.rel,by rw[d2];exact hi.fr,hi.ds⟩
    have:=D.region hm hi2 hF id;rw[d1,d3,d4]at this;exact wpIn_mono this fun e' a' w' ⟨ρ',q1,q2,q3⟩=>⟨ρ',q1,⟨q2.rel,q2.fr,by rw[d5];exact q2.ds⟩,q3⟩
   intro j r h;have h':Jf (cfg X YX) (ev (cfg X YX) k) j=some r:=h;exact ZwM (C:=cfg X YX) (ZqV ihk (ZR7 k)) Zp8 ihk h'
end
end Go.ZF
end
end
