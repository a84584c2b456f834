/- Part 6. -/
import Derived.Laws.IdiomRangeMap
import Derived.Test.YtbnepjakjmnadaaGreatCa5
set_option linter.all false
set_option maxHeartbeats 2000000
section
noncomputable section
namespace Go.Yj
variable {X:Ctx} {ih:Qg ->Option YF} {ρ:Ren} {w:World}
theorem VR.back {ρ ρ':Ren} (hr:ρ.le ρ') {v r0:Value} (h:VR ρ v r0):∀ {r1:Value},VR ρ' v r1 ->VR ρ v r1:=by
 induction h with
 | bool b=>intro r1 h;cases h;exact .bool b
 | int k n=>intro r1 h;cases h;exact .int k n
 | float k b=>intro r1 h;cases h;exact .float k b
 | complex k a b=>intro r1 h;cases h;exact .complex k a b
 | string s=>intro r1 h;cases h;exact .string s
 | Zp2=>intro r1 h;cases h;exact .Zp2
 | ptr o h0=>
   intro r1 h;cases h with
   | ptr _ h1=>have:= (hr _ _ h0).1;rw [h1] at this;cases this;exact .ptr o h0
 | Wz=>intro r1 h;cases h;exact .Wz
 | slice o n c c' h0 hc=>
   intro r1 h;cases h with
   | slice _ _ _ c2 h1 hc1=>
     obtain⟨q1,q2⟩:=hr _ _ h0;rw [h1] at q1;cases q1;rw [q2] at hc1;exact .slice o n c c2 h0 hc1
   | XE _ o' _ h1 hc1=>
     obtain⟨q1,q2⟩:=hr _ _ h0;rw [h1] at q1;cases q1;exact .XE o o' c h0 hc1
 | XE o o' c h0 hc=>
   intro r1 h;cases h with
   | slice _ _ _ c2 h1 hc1=>
     obtain⟨q1,q2⟩:=hr _ _ h0;rw [h1] at q1;cases q1;rw [q2] at hc1;exact .slice o 0 c c2 h0 hc1
   | XE _ o2 _ h1 hc1=>
     obtain⟨q1,q2⟩:=hr _ _ h0;rw [h1] at q1;cases q1;exact .XE o o2 c h0 hc1
 | Ub a=>
   intro r1 h;cases h with
   | Ub a'=>exact .Ub a'
 | Zp8=>intro r1 h;cases h;exact .Zp8
 | map h0=>
   intro r1 h;cases h with
   | map h1=>have:= (hr _ _ h0).1;rw [h1] at this;cases this;exact .map h0
 | ZiK=>intro r1 h;cases h;exact .ZiK
 | nilFunc=>intro r1 h;cases h;exact .nilFunc
 | nilIface=>intro r1 h;cases h;exact .nilIface
 | func fn xs ys xs' ys' hf hx hy h1 h2 i1 i2=>
   intro r1 h;cases h with
   | func _ _ _ xs2 ys2 _ hx2 hy2 k1 k2=>
     refine .func fn xs ys xs2 ys2 hf hx2 hy2 (fun i v v' a b=>?_) (fun i v v' a b=>?_)
     ·have hlt:i < xs.size:= (Array.getElem?_eq_some_iff.1 a).1;exact i1 i v (xs'[i]'(by omega)) a (by simp [show i < xs'.size by omega]) (k1 i v v' a b)
     ·have hlt:i < ys.size:= (Array.getElem?_eq_some_iff.1 a).1;exact i2 i v (ys'[i]'(by omega)) a (by simp [show i < ys'.size by omega]) (k2 i v v' a b)
   | yield h1=>exact absurd rfl (hf _)
 | yield h0=>
   intro r1 h;cases h with
   | func _ _ _ _ _ hf=>exact absurd rfl (hf _)
   | yield h1=>have:= (hr _ _ h0).1;rw [h1] at this;cases this;exact .yield h0
 | iface t v v' _ ih=>intro r1 h;cases h with | iface _ _ v2 h=>exact .iface t v v2 (ih h)
 | agg xs xs' hx _ ih=>
   intro r1 h;cases h with
   | agg _ xs2 hx2 k=>
     refine .agg xs xs2 hx2 fun i v v' a b=>?_
     have hlt:i < xs.size:= (Array.getElem?_eq_some_iff.1 a).1;exact ih i v (xs'[i]'(by omega)) a (by simp [show i < xs'.size by omega]) (k i v v' a b)
 | tuple xs xs' hx _ ih=>
   intro r1 h;cases h with
   | tuple _ xs2 hx2 k=>
     refine .tuple xs xs2 hx2 fun i v v' a b=>?_
     have hlt:i < xs.size:= (Array.getElem?_eq_some_iff.1 a).1;exact ih i v (xs'[i]'(by omega)) a (by simp [show i < xs'.size by omega]) (k i v v' a b)
theorem Jq.back {ρ ρ':Ren} (hr:ρ.le ρ') {xs ys zs:Array Value} (h:Jq ρ xs ys) (k:Jq ρ' xs zs):Jq ρ xs zs:=
 ⟨k.1,fun i v v' a b=>by
   have hlt:i < xs.size:= (Array.getElem?_eq_some_iff.1 a).1;have:=h.1;exact VR.back hr (h.2 i v (ys[i]'(by omega)) a (by simp [show i < ys.size by omega])) (k.2 i v v' a b)⟩
theorem Zkx.back {ρ ρ':Ren} (hr:ρ.le ρ') {d d1 d2:Deferred} (h:Zkx ρ d d1) (k:Zkx ρ' d d2):Zkx ρ d d2:=by
 obtain⟨⟨f,c,c1,e1,e2,e3⟩,e4⟩:=h;obtain⟨⟨f',c',c2,k1,k2,k3⟩,k4⟩:=k;rw [e1] at k1;cases k1;exact⟨⟨f,c,c2,e1,k2,Jq.back hr e3 k3⟩,Jq.back hr e4 k4⟩
theorem DsR.back {ρ ρ':Ren} (hr:ρ.le ρ') {ds d1:List Deferred} (h:DsR ρ ds d1):∀ {d2:List Deferred},DsR ρ' ds d2 ->DsR ρ ds d2:=by
 induction h with
 | nil=>intro d2 h;cases h;exact .nil
 | cons hd _ ih=>
   intro d2 h;cases h with
   | cons kd kt=>exact .cons (hd.back hr kd) (ih kt)
   | mark km kt=>obtain⟨⟨_,_,_,e1,_⟩,_⟩:=hd;cases e1
 | mark hm _ ih=>
   intro d2 h;cases h with
   | cons kd kt=>obtain⟨⟨_,_,_,e1,_⟩,_⟩:=kd;cases e1
   | mark km kt=>have:= (hr _ _ hm).1;rw [km] at this;cases this;exact .mark hm (ih kt)
theorem Rel.congr {h h':H} (r:Rel ρ h w) (hs:h'.size=h.size) (he:∀ i,h'.at i=h.at i):Rel ρ h' w:=
 ⟨fun i b d e=>by rw [hs];exact r.dom i b d e,fun i b d e=>by rw [he];exact r.obj i b d e,fun i j b d d' e e' h1 h2=>by rw [he] at h1 h2;exact r.inj i j b d d' e e' h1 h2⟩
theorem Zga {h:H} {w w':World} {i b:Nat} {A:YN} (r:Rel ρ (h.put i .dead) w) (hi:ρ i=some (b,0)) (hex:∀ j b' d,ρ j=some (b',d) ->b'=b ->j ≠ i ->(h.at j).live=true ->False)
 (hk:∀ k,k ≠ b ->w'.heap[k]? =w.heap[k]?) (hsz:w'.heap.size=w.heap.size) (hA:QW ρ w' b 0 (ρ.lim i) A):Rel ρ (h.put i A) w':=by
 have hlt:= (r.dom i b 0 hi).1;rw [H.size_put] at hlt;have hat:∀ (B:YN) j,j ≠ i ->(h.put i B).at j=h.at j:=fun B j hj=>by rw [H.Xq,if_neg (fun x=>hj x.1)]
 have Znq:(h.put i A).at i=A:=by rw [H.Xq,if_pos ⟨rfl,hlt⟩]
 refine⟨fun j b' d e=>by have:=r.dom j b' d e;rw [H.size_put] at *;omega,fun j b' d e=>?_,fun j k b' d d' e e' ho hl=>?_⟩
 ·by_cases hj:j=i
  ·subst hj;rw [hi] at e;cases e;rw [Znq];exact hA
  ·rw [hat A j hj];by_cases hb:b'=b
   ·by_cases hl:(h.at j).live=true
    ·exact(hex j b' d e hb hj hl).elim
    ·rw [J3 hl];trivial
   ·have:=r.obj j b' d e;rw [hat _ j hj] at this;exact this.world (hk b' hb)
 ·by_cases hj:j=i
  ·by_cases hkk:k=i
   ·omega
   ·subst hj;rw [hi] at e;cases e;rw [hat A k hkk] at hl;exact(hex k _ d' e' rfl hkk hl).elim
  ·rw [hat A j hj] at ho;by_cases hkk:k=i
   ·subst hkk;rw [hi] at e';cases e';exact(hex j _ d e rfl hj (Ud ho)).elim
   ·rw [hat A k hkk] at hl;refine r.inj j k b' d d' e e' ?_ ?_
    ·rw [hat _ j hj];exact ho
    ·rw [hat _ k hkk];exact hl
theorem ZfI {P:Program} {w:World} (ty:TypeId) {b bm since c0:Nat} {seen:Array Nat} {es:Array MapEntry} {clock:Nat} (hb:w.heap[b]? =some (.mapIter (some bm) since seen c0)) (hm:w.heap[bm]? =some (.map es clock))
 (hold:∀ x ∈ es.toList,x.born < since) (hsc:since <=c0):
 ((leftOf es seen).size=0∧(Instr.next (.pointer (some ⟨b,0,none⟩)) false ty).run P w= .ok Jw w)∨
 ∃ e ∈ (leftOf es seen).toList,∃ w1:World,w1.heap=w.heap∧Same w w1∧(Instr.next (.pointer (some ⟨b,0,none⟩)) false ty).run P w= .ok (.tuple #[.bool true,e.key,e.val]) (w1.putObj b (.mapIter (some bm) since (seen.push e.born) clock)):=by
 simp only [Instr.next,getObj,Sem.run_bind,Sem.run,hb,hm,Result.andThen,next_test_false seen es since c0 hold hsc,Bool.false_eq_true,if_false];unfold leftOf;have hmem:∀ x ∈ (Array.filter (fun e=>!seen.contains e.born) es).toList,x.born < since:=fun x hx=>hold x (by simp at hx ⊢;exact hx.1)
 generalize Array.filter (fun e=>!seen.contains e.born) es=L at hmem ⊢;have e1:L.filter (fun x=>decide (x.born < since))=L:=Array.filter_eq_self.2 (fun x hx=>by simpa using hmem x (by simpa using hx))
 have e2:L.filter (fun x=>decide (x.born >=since))=#[]:=by
  rw [Array.filter_eq_empty_iff];intro x hx;have:=hmem x (by simpa using hx);simp;omega
 simp only [e1,e2,Array.append_empty];by_cases h0:L.size=0
 ·left;have:L=#[]:=Array.eq_empty_of_size_eq_zero h0;subst this;refine⟨rfl,?_⟩;simp [choose,Sem.run,Question.forced,Jw]
 ·right;have hne:L.isEmpty=false:=by simp [Array.isEmpty,h0]
  simp only [hne,Bool.false_eq_true,if_false,Array.empty_append,Array.size_map]
  have hch:∃ (j:Nat) (w1:World),j < L.size∧w1.heap=w.heap∧Same w w1∧(choose (Question.mapNext L.size)).run P w= .ok j w1:=by
   by_cases hf:L.size <=1
   ·exact⟨0,w,by omega,rfl,Same.refl w,by simp [choose,Sem.run,Question.forced,hf]⟩
   ·exact⟨_,w.drew,Nat.mod_lt _ (by omega),rfl,⟨rfl,rfl,rfl⟩,by
     simp only [choose,Sem.run,Question.forced,decide_eq_true_eq,hf,if_false,Question.cut]
     rfl⟩
  obtain⟨j,w1,hj,hh,hal,hrun⟩:=hch;refine⟨L[j],by simp,w1,hh,hal,?_⟩
  have hset:∀ (o':Obj),(setObj b o').run P w1= .ok () (w1.putObj b o'):=fun o'=>by
   have hlt:w1.heap[b]? =some (.mapIter (some bm) since seen c0):=by rw [hh];exact hb
   simp [setObj,Sem.run,hlt,World.putObj]
  simp only [hrun,Array.getElem?_map,Array.getElem?_eq_getElem hj,Option.map_some,Sem.run_bind,hset,Result.andThen]
  rfl
theorem EL.mem {es es':List MapEntry} (e:EL ρ es es') {x':MapEntry} (hx:x' ∈ es'):∃ x ∈ es,x'.key=x.key∧plain x.key=true∧x'.born=x.born∧VR ρ x.val x'.val:=by
 induction e with
 | nil=>cases hx
 | cons hk hp hb hv _ ih=>
   rcases List.mem_cons.1 hx with rfl | h
   ·exact⟨_,by simp,hk,hp,hb,hv⟩
   ·obtain⟨x,h1,h2⟩:=ih h;exact⟨x,List.mem_cons_of_mem _ h1,h2⟩
theorem ZcQ {clock:Nat}:∀ {es:List MapEntry},Qs clock es=true ->∀ e ∈ es,e.born < clock:=by
 intro es
 induction es with
 | nil=>intro _ e h;cases h
 | cons x es ih=>
   intro h e he;simp only [Qs,Ba0,Nat.blt_eq] at h;rcases List.mem_cons.1 he with rfl | he
   ·exact h.1.1
   ·exact ih h.2 e he
section
variable {C:Cfg} (HI:∀ j r,ih j=some r ->Yu C.X j r) (HW:∀ j r,ih j=some r ->Zuw j r)
theorem ZdY (HI:∀ j r,ih j=some r ->Yu C.X j r) {mi:MI} {n wm:Nat} {rd:Option Nat} {s s':Fs} {e:XX} (h:WT C ih mi n wm rd s=some (.code e s')) {F:Fence} {a:Act} {w:World} (hi:Inv ρ n s a w) (ZQ:wm <=s.h.size) (hF:Kl ρ rd F)
 {Q:Exit ->Act ->World ->Prop} (hq:∀ e' a' w',Xu wm n ρ s.h w e s' e' a' w' ->Q e' a' w'):wpListIn F 0 C.X.P mi.ops (Exit.then (mi.rest.wpIn F 0 C.X.P Q) Q) mi.l a w:=by
 unfold WT at h;split at h
 ·rename_i s1 h1;obtain⟨_,_,e0,k⟩:=Y4.1 (HI _ _ h);cases e0;refine Zhr HI _ mi.l s s1 .normal h1 hi ZQ hF fun e' a' w' hp=>?_
  obtain⟨ρ',he,hi',hst⟩:=hp;cases he;exact wpIn_mono (k ρ' a' w' F (Nat.le_trans ZQ hst.size) hi' (hF.mono hst.ext)) fun e2 a2 w2 hp2=>hq _ _ _ (Xu.trans hi.rel.lt hst hp2)
 ·rename_i e1 s1 hne h1;cases h;refine Zhr HI _ mi.l s _ _ h1 hi ZQ hF fun e' a' w' hp=>?_
  obtain⟨ρ',he,hi',hst⟩:=hp;cases he with
  | normal=>exact(hne rfl).elim
  | exit id=>exact hq _ _ _ ⟨ρ',.exit id,hi',hst⟩
  | goto id=>exact hq _ _ _ ⟨ρ',.goto id,hi',hst⟩
  | ret=>exact hq _ _ _ ⟨ρ',.ret,hi',hst⟩
  | panic hv=>exact hq _ _ _ ⟨ρ',.panic hv,hi',hst⟩
 ·cases h
include HI HW in
theorem Zl5:ZxZ C ih:=by
 intro c n wm rd s r mi hmi h;obtain⟨rfl,hops,hop,hgu,hfr,hit,hm⟩:=Zgs hmi;unfold Zhd at h;generalize (ZeS (.seq (.region mi.id mi.ops false) mi.rest)).filter (allowed s.wr)=T at h;unfold Zj1 at h;generalize hb:Zim mi n wm T=b at h;cases b with
 | false=>cases h
 | true=>
 obtain⟨hs1,hs2,hborn,Znk,htT,d,hd,hdn,hdT⟩:=Zcz hb;simp only [Cq1] at h;generalize ZgE:Zae C ih mi n rd (Za9 T) (Yq T s.fr) s mi.es=b2 at h;cases b2 with
 | false=>cases h
 | true=>
 simp only [Cq1] at h
 have ZgE:∀ e ∈ mi.es,∃ s2,WT C ih mi n s.h.size rd {fr:=QZ (Yq T s.fr) mi.o.dst (.tuple #[.bool true,e.key,e.val]),ds:=s.ds,h:=s.h.put mi.it (.iter mi.m mi.since mi.clock (some e.born)),wr:=some (Za9 T)}=some (.code .normal s2)∧s2.ds.length=s.ds.length:=by
  have:∀ es,Zae C ih mi n rd (Za9 T) (Yq T s.fr) s es=true ->∀ e ∈ es,∃ s2,WT C ih mi n s.h.size rd {fr:=QZ (Yq T s.fr) mi.o.dst (.tuple #[.bool true,e.key,e.val]),ds:=s.ds,h:=s.h.put mi.it (.iter mi.m mi.since mi.clock (some e.born)),wr:=some (Za9 T)}=some (.code .normal s2)∧s2.ds.length=s.ds.length:=by
   intro es
   induction es with
   | nil=>intro _ e he;cases he
   | cons x es ihe=>
     intro hh e he;simp only [Zae,Ba0] at hh;rcases List.mem_cons.1 he with rfl | he
     ·have h1:=hh.1;split at h1
      ·rename_i s2 h2;exact⟨s2,h2,Nb0 h1⟩
      ·cases h1
     ·exact ihe hh.2 e he
  exact this _ ZgE
 generalize hover:WT C ih mi n wm rd {s with fr:=QZ (Yq T s.fr) mi.o.dst Jw,h:=s.h.put mi.it .dead}=rr at h
 have hrr:∃ e s2,rr=some (.code e s2):=by
  split at h
  ·exact⟨_,_,rfl⟩
  ·cases h
 obtain⟨e,s2,rfl⟩:=hrr
 have hres:e ≠ .normal∧r= .code e s2:=by
  cases e with
  | normal=>cases h
  | exit _=>cases h;exact⟨fun z=>(by cases z),rfl⟩
  | goto _=>cases h;exact⟨fun z=>(by cases z),rfl⟩
  | ret=>cases h;exact⟨fun z=>(by cases z),rfl⟩
  | panic _=>cases h;exact⟨fun z=>(by cases z),rfl⟩
 obtain⟨hne,rfl⟩:=hres;refine⟨e,s2,rfl,fun ρ a0 w0 F ZQ hi0 hF=>?_⟩;obtain⟨dd,hdr⟩:∃ d,d=mi.it:= ⟨_,rfl⟩
 have Znn:=hi0.fr.val mi.t (by rw [hfr];rfl);rw [hfr] at Znn;generalize hpx:a0.tmps.getD mi.t undef=px at Znn;cases Znn with
 | @ptr _ bi di _ ZcB=>
 have hoi:=hi0.rel.obj _ _ _ ZcB;rw [hit] at hoi;obtain⟨rfl,bm,ZBD,Zgz,ZsG,_,ZcD⟩:=hoi;have ZcD:=ZcD rfl;subst ZcD;have hom:=hi0.rel.obj _ _ _ Zgz;rw [hm] at hom;obtain⟨_,es',ZsE,hes⟩:=hom;have hilt:=hi0.rel.dom _ _ _ ZcB;have ZGF:=hi0.rel.dom _ _ _ Zgz;have Zno:mi.m ≠ mi.it:=fun z=>by rw [z,hit] at hm;cases hm
 have hold:∀ x ∈ es'.toList,x.born < mi.since:=by
  intro x hx;obtain⟨y,hy,_,_,hyb,_⟩:=hes.mem hx;rw [hyb,hs1];exact ZcQ hborn y hy
 have Zlr:∀ j b d,ρ j=some (b,d) ->b=bi ->j ≠ mi.it ->((s.h.at j).live=true ->False):=by
  intro j b d hj hbb hne' hl;subst hbb;exact hne' (hi0.rel.inj mi.it j b 0 d ZcB hj (by rw [hit];rfl) hl).symm
 have hbne:bm ≠ bi:=fun z=>Zlr mi.m bm 0 Zgz z Zno (by rw [hm];rfl)
 have ZCN:s.h.size= (s.h.put mi.it .dead).size:=rfl
 have ZgC:∀ {a:Act} {w:World} {K:Act ->World ->Prop} {Q:Exit ->Act ->World ->Prop} {v:Value} {w1:World},a.tmps.getD mi.t undef= .pointer (some ⟨bi,0,none⟩) ->(Instr.next (.pointer (some ⟨bi,0,none⟩)) false mi.o.type).run C.X.P w= .ok v w1 ->
  K (a.put mi.o.dst v) w1 ->(if Region.wanted mi.o (yielded mi.ops a.tmps) then mi.o.wpIn F 0 C.X.P a w K Q else(∀ f,mi.o.about C.X.P w a.eval=some f ->F.fn f)∧K (a.put mi.o.dst undef) w):=by
  intro a w K Q v w1 ht hrun hK;have hw:Region.wanted mi.o (yielded mi.ops a.tmps)=true:=by unfold Region.wanted;rw [hgu]
  rw [if_pos hw];refine⟨fun f hab=>(by unfold Oper.about at hab;rw [hop] at hab;cases hab),?_⟩;have ZjE:mi.o.semAt F.round a.eval=execOp a.eval mi.o:=Oper.semAt_eq _ _ _ fun c hc=>by rw [hop] at hc;cases hc
  have he:a.eval (.tmp mi.t)= .pointer (some ⟨bi,0,none⟩):=ht
  have hx:(execOp a.eval mi.o).run C.X.P w= .ok (.value v) w1:=by
   unfold execOp;rw [hop];simp [he,hrun]
  rw [ZjE,hx];exact hK
 have ZCK:∀ t,t ∉ T ->t ≠ d:=fun t ht z=>by rw [z] at ht;exact ht hdT
 have Zlm:∀ (a:Act) (w:World),Inv ρ n {s with fr:=Yq T s.fr,h:=s.h.put mi.it .dead} a w ->a.tmps.getD mi.t undef= .pointer (some ⟨bi,0,none⟩):=by
  intro a w hi;have h0:VR ρ ((Yq T s.fr).at mi.t) (a.tmps.getD mi.t undef):=hi.fr.val mi.t (by show QC ((Yq T s.fr).at mi.t)=false;rw [Xi,if_neg htT,hfr];rfl);rw [Xi,if_neg htT,hfr] at h0;generalize a.tmps.getD mi.t undef=y at h0;cases h0 with
  | ptr _ h1=>rw [ZcB] at h1;cases h1;rfl
 have Zss:∀ (a:Act) (w:World),Inv ρ n {s with fr:=Yq T s.fr,h:=s.h.put mi.it .dead} a w ->Stp wm ρ s.h w0 ρ (s.h.put mi.it .dead) w ->a.tmps.getD mi.t undef= .pointer (some ⟨bi,0,none⟩) ->
  (Instr.next (.pointer (some ⟨bi,0,none⟩)) false mi.o.type).run C.X.P w= .ok Jw w ->∀ (_:Unit),LoopIn F 0 C.X.P (.seq (.region mi.id mi.ops false) mi.rest) (Xu wm n ρ s.h w0 e s2) a w:=by
  intro a w hi hst ht hrun _;refine Xz (wpIn_seq (wpIn_region_list ?_));rw [hops];refine ZgC ht hrun ?_
  have hio:Inv ρ n {s with fr:=QZ (Yq T s.fr) mi.o.dst Jw,h:=s.h.put mi.it .dead} (a.put mi.o.dst Jw) w:=by
   refine⟨hi.rel,?_,?_⟩
   ·rw [hd];exact hi.fr.set hdn (VR.Z0 rfl)
   ·rw [hd];exact hi.ds
  refine ZdY HI hover hio ZQ hF fun e3 a3 w3 hp=>?_
  have hp2:=Xu.trans hi0.rel.lt hst hp;obtain⟨ρ3,hx3,hi3,UB⟩:=hp2;cases hx3 with
  | normal=>exact(hne rfl).elim
  | exit id=>exact⟨ρ3,.exit id,hi3,UB⟩
  | goto id=>exact⟨ρ3,.goto id,hi3,UB⟩
  | ret=>exact⟨ρ3,.ret,hi3,UB⟩
  | panic hv=>exact⟨ρ3,.panic hv,hi3,UB⟩
 have head:∀ (k:Nat) (seen:Array Nat) (last:Nat) (a:Act) (w:World),(leftOf es' seen).size <=k ->mi.clock <=last ->w.heap[bi]? =some (.mapIter (some bm) mi.since seen last) ->w.heap[bm]? =some (.map es' mi.clock) ->
  Inv ρ n {s with fr:=Yq T s.fr,h:=s.h.put mi.it .dead} a w ->
  Stp wm ρ s.h w0 ρ (s.h.put mi.it .dead) w ->LoopIn F 0 C.X.P (.seq (.region mi.id mi.ops false) mi.rest) (Xu wm n ρ s.h w0 e s2) a w:=by
  intro k
  induction k with
  | zero=>
    intro seen last a w hk hlast hblk Zdt hi hst;have ht:=Zlm a w hi;rcases ZfI (P:=C.X.P) mi.o.type hblk Zdt hold (by rw [hs1];exact hlast) with⟨_,hrun⟩ | ⟨e',he',_⟩
    ·exact Zss a w hi hst ht hrun ()
    ·have:=Array.length_toList ▸ List.length_pos_of_mem he';omega
  | succ k ihk=>
    intro seen last a w hk hlast hblk Zdt hi hst;have ht:=Zlm a w hi;rcases ZfI (P:=C.X.P) mi.o.type hblk Zdt hold (by rw [hs1];exact hlast) with⟨_,hrun⟩ | ⟨e',he',w1,hw1,hsame,hrun⟩
    ·exact Zss a w hi hst ht hrun ()
    ·have hmem:= (mem_left he').1;obtain⟨x,hx,hkey,hkp,hbn,hval⟩:=hes.mem hmem;obtain⟨s3,hbody,hlen⟩:=ZgE x hx;have hW:=Zl6 HW hbody;have ZsF:bi < w.heap.size:= (hi.rel.dom _ _ _ ZcB).2;have ZCM:bm < w.heap.size:= (hi.rel.dom _ _ _ Zgz).2;obtain⟨w2,hw2⟩:∃ w2,w2=w1.putObj bi (.mapIter (some bm) mi.since (seen.push e'.born) mi.clock):= ⟨_,rfl⟩
     rw [← hw2] at hrun;have hsz2:w2.heap.size=w.heap.size:=by rw [hw2,World.putObj_size,hw1]
     have hother:∀ k,k ≠ bi ->w2.heap[k]? =w.heap[k]?:=fun k hk=>by rw [hw2,World.putObj_heap_other hk,hw1]
     have ZsH:w2.heap[bi]? =some (.mapIter (some bm) mi.since (seen.push e'.born) mi.clock):=by rw [hw2];exact World.putObj_heap_same (by rw [hw1];exact ZsF)
     have ZcE:Same w w2:=by rw [hw2];exact⟨hsame.os,hsame.tape,hsame.output⟩
     have hrel:Rel ρ (s.h.put mi.it (.iter mi.m mi.since mi.clock (some x.born))) w2:=by
      refine Zga hi.rel ZcB Zlr hother hsz2 ⟨rfl,bm,seen.push e'.born,Zgz,ZsH,fun z hz=>?_,fun z=>by cases z⟩;cases hz;rw [← hbn];simp
     have hie:Inv ρ n {fr:=QZ (Yq T s.fr) mi.o.dst (.tuple #[.bool true,x.key,x.val]),ds:=s.ds,h:=s.h.put mi.it (.iter mi.m mi.since mi.clock (some x.born)),wr:=some (Za9 T)} (a.put mi.o.dst (.tuple #[.bool true,e'.key,e'.val])) w2:=by
      refine⟨hrel,?_,?_⟩
      ·rw [hd];refine hi.fr.set hdn (.tuple _ _ rfl fun j y y' p q=>?_)
       match j,p,q with
       | 0,p,q=>simp at p q;subst p q;exact .bool true
       | 1,p,q=>simp at p q;subst p q;rw [hkey];exact VR.Z0 hkp
       | 2,p,q=>simp at p q;subst p q;exact hval
       | j + 3,p,q=>simp at p
      ·rw [hd];exact hi.ds
     refine Xz (wpIn_seq (wpIn_region_list ?_));rw [hops];refine ZgC ht hrun ?_;refine ZdY HI hbody hie (Nat.le_refl _) hF fun e3 a3 w3 hp=>?_
     obtain⟨ρ3,hx3,hi3,UB⟩:=hp;cases hx3;show LoopIn F 0 C.X.P _ _ a3 w3;obtain⟨q1,q2⟩:=KS hrel UB;have Znp:∀ b,b < w2.heap.size ->w3.heap[b]? =w2.heap[b]?:=fun b hb=>UB.frame b hb fun i d hi' e _=>by have:=hrel.lt i _ e;simp at this hi';omega
     have hwr:∀ t,t ∉ T ->s3.fr.at t=s.fr.at t:=by
      intro t Zba;rw [hW.fr t (by show bit (Za9 T) t=false;rw [Bool.eq_false_iff];intro z;exact Zba (ZqE.1 z))];show(QZ (Yq T s.fr) mi.o.dst _).at t=_;rw [K6,if_neg (by rw [hd];intro z;cases z;exact Zba hdT),Xi,if_neg Zba]
     have ZyZ:s3.ds=s.ds:=by
      obtain⟨l,hl⟩:=hW.ds;have hl:s3.ds=l ++ s.ds:=hl;rw [hl,List.length_append] at hlen;have:l= []:=List.eq_nil_of_length_eq_zero (by omega);rw [hl,this];rfl
     refine ihk (seen.push e'.born) mi.clock a3 w3 (by have:=left_shrinks es' seen e' he';omega) (Nat.le_refl _) (by rw [Znp bi (by omega)];exact ZsH) (by rw [Znp bm (by omega),hother bm hbne];exact Zdt) ⟨?_,⟨hi3.fr.size,fun t hany=>?_⟩,?_⟩ ?_
     ·refine(ZaT (i:=mi.it) q1).congr rfl fun i=>?_
      rw [H.Xq,H.Xq];by_cases hii:i=mi.it∧i < s.h.size
      ·rw [if_pos hii,if_pos (by simpa using hii)]
      ·rw [if_neg hii,if_neg (by simpa using hii),H.Xq,if_neg hii]
     ·change QC ((Yq T s.fr).at t)=false at hany
      show VR ρ ((Yq T s.fr).at t) _;rw [Xi] at hany ⊢;by_cases Zba:t ∈ T
      ·rw [if_pos Zba] at hany;cases hany
      ·rw [if_neg Zba] at hany ⊢;have h0:=hi.fr.val t (by show QC ((Yq T s.fr).at t)=false;rw [Xi,if_neg Zba];exact hany);have h0:VR ρ ((Yq T s.fr).at t) _:=h0;rw [Xi,if_neg Zba] at h0;have h1:=hi3.fr.val t (by rw [hwr t Zba];exact hany);rw [hwr t Zba] at h1;exact VR.back UB.ext h0 h1
     ·have h0:DsR ρ s.ds a.defers:=hi.ds;have h1:=hi3.ds;rw [ZyZ] at h1;exact DsR.back UB.ext h0 h1
     ·refine⟨Ren.le_refl _,hst.size,hst.keep,hst.own,hst.live,UB.os.trans (ZcE.os.trans hst.os),UB.tape.trans (ZcE.tape.trans hst.tape),UB.output.trans (ZcE.output.trans hst.output),
       Nat.le_trans hst.Y9 (by rw [← hsz2];exact UB.Y9),fun b hb hno=>?_,fun i b d p q=>by rw [p] at q;cases q⟩
      have hbb:b ≠ bi:=fun z=>by subst z;exact hno mi.it 0 Znk ZcB (by rw [hit];rfl)
      have:=hst.Y9;rw [Znp b (by omega),hother b hbb,hst.frame b hb hno]
 have Znl:Stp wm ρ s.h w0 ρ (s.h.put mi.it .dead) w0:=by
  have kk:=Jj (h:=s.h) (A:= .dead) Znk (by rw [hit];rfl);exact⟨Ren.le_refl _,Nat.le_refl _,kk.keep,kk.own,kk.live,rfl,rfl,rfl,Nat.le_refl _,fun _ _ _=>rfl,fun i b d e e'=>by rw [e] at e';cases e'⟩
 refine head _ #[] mi.Qm a0 w0 (Nat.le_refl _) hs2 ZsG ZsE ⟨ZaT hi0.rel,⟨hi0.fr.size,fun t hany=>?_⟩,hi0.ds⟩ Znl
 change QC ((Yq T s.fr).at t)=false at hany
 show VR ρ ((Yq T s.fr).at t) _;rw [Xi] at hany ⊢;by_cases ht:t ∈ T
 ·rw [if_pos ht] at hany;cases hany
 ·rw [if_neg ht] at hany ⊢;exact hi0.fr.val t hany
end
end Go.Yj
end
end
section
noncomputable section
namespace Go.Yj
variable {X:Ctx} {YK:FuncId ->Bool} {ih:Qg ->Option YF}
theorem ZbJ (hm:X.P.follows .mixedOrders=true) (k:Nat):∀ (j:Qg) (r:YF),ev (cfg X YK) k j=some r ->Yu X j r:=by
 induction k with
 | zero=>intro j r h;cases h
 | succ k ihk=>
   have HK:=Zwe (C:=cfg X YK) ZtT k
   have Zlt:∀ n wm rd (ops:Array Oper) s s',(cfg X YK).draw (ev (cfg X YK) k) n wm rd ops.toList s=some s' ->
    ∀ id ρ a w F,wm <=s.h.size ->Inv ρ n s a w ->Kl ρ rd F ->(Code.region id ops true).wpIn F 0 X.P (Xu wm n ρ s.h w .normal s') a w:=by
    intro n wm rd ops s s' hr id ρ a w F ZQ hi hF;have hr:Ze2 X YK (ev (cfg X YK) k) n wm ops.toList s=some s':=hr;obtain⟨D,d1,d2,d3,d4,d5⟩:=ZmE (rd:=rd) ihk HK hr ZQ;have hi2:Inv ρ n {fr:=D.fs 0,ds:=s.ds,h:=D.hs 0} a w:= ⟨by rw [d1];exact hi.rel,by rw [d2];exact hi.fr,hi.ds⟩
    have:=D.region hm hi2 hF id;rw [d1,d3,d4] at this;exact wpIn_mono this fun e' a' w' ⟨ρ',q1,q2,q3⟩=>⟨ρ',q1,⟨q2.rel,q2.fr,by rw [d5];exact q2.ds⟩,q3⟩
   intro j r h;have h':evF (cfg X YK) (ev (cfg X YK) k) j=some r:=h;exact Zqv (C:=cfg X YK) (Zl5 ihk (ZHb k)) Zlt ihk h'
end Go.Yj
end
end
