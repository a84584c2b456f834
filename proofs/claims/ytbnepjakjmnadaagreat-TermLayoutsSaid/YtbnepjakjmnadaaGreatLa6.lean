/- Part 6. -/
import Derived.Laws.IdiomRangeMap
import Derived.Test.YtbnepjakjmnadaaGreatLa5
set_option linter.all false
set_option maxHeartbeats 2000000
section
noncomputable section
namespace Go.ZP
section
variable{X:Ctx}{ih:Qr->O YL}{ρ:Ren}{w:V3}
def VR.back{ρ ρ':Ren}(hr:ρ.le ρ'){v r0:N}(h:VR ρ v r0):∀{r1:N},VR ρ' v r1->VR ρ v r1:=by
 induction h with
 | bool b=>intro r1 h;cases h;exact .bool b
 | int k n=>intro r1 h;cases h;exact .int k n
 | float k b=>intro r1 h;cases h;exact .float k b
 | complex k a b=>intro r1 h;cases h;exact .complex k a b
 | string s=>intro r1 h;cases h;exact .string s
 | Zu0=>intro r1 h;cases h;exact .Zu0
 | ptr o h0=>
   intro r1 h;cases h with
   | ptr _ h1=>have:=(hr _ _ h0).1;rw[h1]at this;cases this;exact .ptr o h0
 | KF=>intro r1 h;cases h;exact .KF
 | slice o n c c' h0 hc=>
   intro r1 h;cases h with
   | slice _ _ _ c2 h1 hc1=>
     obtain⟨q1,q2⟩:=hr _ _ h0;rw[h1]at q1;cases q1;rw[q2]at hc1;exact .slice o n c c2 h0 hc1
   | Qb _ o' _ h1 hc1=>
     obtain⟨q1,q2⟩:=hr _ _ h0;rw[h1]at q1;cases q1;exact .Qb o o' c h0 hc1
 | Qb o o' c h0 hc=>
   intro r1 h;cases h with
   | slice _ _ _ c2 h1 hc1=>
     obtain⟨q1,q2⟩:=hr _ _ h0;rw[h1]at q1;cases q1;rw[q2]at hc1;exact .slice o 0 c c2 h0 hc1
   | Qb _ o2 _ h1 hc1=>
     obtain⟨q1,q2⟩:=hr _ _ h0;rw[h1]at q1;cases q1;exact .Qb o o2 c h0 hc1
 | UG a=>
   intro r1 h;cases h with
   | UG a'=>exact .UG a'
 | Zu9=>intro r1 h;cases h;exact .Zu9
 | map h0=>
   intro r1 h;cases h with
   | map h1=>have:=(hr _ _ h0).1;rw[h1]at this;cases this;exact .map h0
 | Zl6=>intro r1 h;cases h;exact .Zl6
 | nilFunc=>intro r1 h;cases h;exact .nilFunc
 | nilIface=>intro r1 h;cases h;exact .nilIface
 | func fn xs ys xs' ys' hf hx hy h1 h2 i1 i2=>
   intro r1 h;cases h with
   | func _ _ _ xs2 ys2 _ hx2 hy2 k1 k2=>
     refine .func fn xs ys xs2 ys2 hf hx2 hy2 (fun i v v' a b=>?_) (fun i v v' a b=>?_)
     ·have hlt:i<xs.size:=(J0.1 a).1;exact i1 i v (xs'[i]'Va) a (by simp[show i<xs'.size by omega]) (k1 i v v' a b)
     ·have hlt:i<ys.size:=(J0.1 a).1;exact i2 i v (ys'[i]'Va) a (by simp[show i<ys'.size by omega]) (k2 i v v' a b)
   | yield h1=>exact absurd rfl (hf _)
 | yield h0=>
   intro r1 h;cases h with
   | func _ _ _ _ _ hf=>exact absurd rfl (hf _)
   | yield h1=>have:=(hr _ _ h0).1;rw[h1]at this;cases this;exact .yield h0
 | iface t v v' _ ih=>intro r1 h;cases h with|iface _ _ v2 h=>exact .iface t v v2 (ih h)
 | agg xs xs' hx _ ih=>
   intro r1 h;cases h with
   | agg _ xs2 hx2 k=>
     refine .agg xs xs2 hx2 fun i v v' a b=>?_
     have hlt:i<xs.size:=(J0.1 a).1;exact ih i v (xs'[i]'Va) a (by simp[show i<xs'.size by omega]) (k i v v' a b)
 | tuple xs xs' hx _ ih=>
   intro r1 h;cases h with
   | tuple _ xs2 hx2 k=>
     refine .tuple xs xs2 hx2 fun i v v' a b=>?_
     have hlt:i<xs.size:=(J0.1 a).1;exact ih i v (xs'[i]'Va) a (by simp[show i<xs'.size by omega]) (k i v v' a b)
def Jr.back{ρ ρ':Ren}(hr:ρ.le ρ'){xs ys zs:V4 N}(h:Jr ρ xs ys)(k:Jr ρ' xs zs):Jr ρ xs zs:=
 ⟨k.1,fun i v v' a b=>by
   have hlt:i<xs.size:=(J0.1 a).1;have:=h.1;exact VR.back hr (h.2 i v (ys[i]'Va) a (by simp[show i<ys.size by omega])) (k.2 i v v' a b)⟩
def Zob.back{ρ ρ':Ren}(hr:ρ.le ρ'){d d1 d2:V6}(h:Zob ρ d d1)(k:Zob ρ' d d2):Zob ρ d d2:=by
 obtain⟨⟨f,c,c1,e1,e2,e3⟩,e4⟩:=h;obtain⟨⟨f',c',c2,k1,k2,k3⟩,k4⟩:=k;rw[e1]at k1;cases k1;exact⟨⟨f,c,c2,e1,k2,Jr.back hr e3 k3⟩,Jr.back hr e4 k4⟩
def DsR.back{ρ ρ':Ren}(hr:ρ.le ρ'){ds d1:U V6}(h:DsR ρ ds d1):∀{d2:U V6},DsR ρ' ds d2->DsR ρ ds d2:=by
 induction h with
 | nil=>intro d2 h;cases h;exact .nil
 | cons hd _ ih=>
   intro d2 h;cases h with
   | cons kd kt=>exact .cons (hd.back hr kd) (ih kt)
   | mark km kt=>obtain⟨⟨_,_,_,e1,_⟩,_⟩:=hd;cases e1
 | mark hm _ ih=>
   intro d2 h;cases h with
   | cons kd kt=>obtain⟨⟨_,_,_,e1,_⟩,_⟩:=kd;cases e1
   | mark km kt=>have:=(hr _ _ hm).1;rw[km]at this;cases this;exact .mark hm (ih kt)
def Rel.congr{h h':H}(r:Rel ρ h w)(hs:h'.size=h.size)(he:∀i,h'.at i=h.at i):Rel ρ h' w:=
 ⟨fun i b d e=>by rw[hs];exact r.dom i b d e,fun i b d e=>by rw[he];exact r.obj i b d e,fun i j b d d' e e' h1 h2=>by rw[he]at h1 h2;exact r.inj i j b d d' e e' h1 h2⟩
def Zin{h:H}{w w':V3}{i b:Nat}{A:YS}(r:Rel ρ (h.put i .dead) w)(hi:ρ i=some (b,0))(hex:∀j b' d,ρ j=some (b',d)->b'=b->j≠i->(h.at j).live=true->False)
 (hk:∀k,k≠b->w'.heap[k]? =w.heap[k]?) (hsz:w'.heap.size=w.heap.size) (hA:QE ρ w' b 0 (ρ.lim i) A):Rel ρ (h.put i A) w':=by
 have hlt:=(r.dom i b 0 hi).1;rw[H.size_put]at hlt;have hat:∀(B:YS) j,j≠i->(h.put i B).at j=h.at j:=fun B j hj=>by rw[H.XM,if_neg (fun x=>hj x.1)]
 have Zr1:(h.put i A).at i=A:=by rw[H.XM,if_pos ⟨rfl,hlt⟩]
 refine⟨fun j b' d e=>by have:=r.dom j b' d e;rw[H.size_put]at *;omega,fun j b' d e=>?_,fun j k b' d d' e e' ho hl=>?_⟩
 ·by_cases hj:j=i
  ·subst hj;rw[hi]at e;cases e;rw[Zr1];exact hA
  ·rw[hat A j hj];by_cases hb:b'=b
   ·by_cases hl:(h.at j).live=true
    ·exact(hex j b' d e hb hj hl).elim
    ·rw[Ut hl];trivial
   ·have:=r.obj j b' d e;rw[hat _ j hj]at this;exact this.world (hk b' hb)
 ·by_cases hj:j=i
  ·by_cases hkk:k=i
   ·omega
   ·subst hj;rw[hi]at e;cases e;rw[hat A k hkk]at hl;exact(hex k _ d' e' rfl hkk hl).elim
  ·rw[hat A j hj]at ho;by_cases hkk:k=i
   ·subst hkk;rw[hi]at e';cases e';exact(hex j _ d e rfl hj (UJ ho)).elim
   ·rw[hat A k hkk]at hl;refine r.inj j k b' d d' e e' ?_ ?_
    ·rw[hat _ j hj];exact ho
    ·rw[hat _ k hkk];exact hl
def Zhu{P:V0}{w:V3}(ty:J){b bm since c0:Nat}{seen:V4 Nat}{es:V4 V5}{clock:Nat}(hb:w.heap[b]? =some (.mapIter (some bm) since seen c0))(hm:w.heap[bm]? =some (.map es clock))
 (hold:∀x∈es.toList,x.born<since) (hsc:since<=c0):
 ((leftOf es seen).size=0/\(Instr.next ((V9 b)) false ty).run P w=.ok JU w)\/
 ∃e∈(leftOf es seen).toList,∃w1:V3,w1.heap=w.heap/\Same w w1/\(Instr.next ((V9 b)) false ty).run P w=.ok (.tuple #[.bool true,e.key,e.val]) (w1.putObj b (.mapIter (some bm) since (seen.push e.born) clock)):=by
 simp only[Instr.next,getObj,Sem.run_bind,Sem.run,hb,hm,Result.andThen,next_test_false seen es since c0 hold hsc,Bool.false_eq_true,if_false];unfold leftOf;have hmem:∀x∈(Array.filter (fun e=>!seen.contains e.born) es).toList,x.born<since:=fun x hx=>hold x (by simp at hx ⊢;exact hx.1)
 generalize Array.filter (fun e=>!seen.contains e.born) es=L at hmem ⊢;have e1:L.filter (fun x=>decide (x.born<since))=L:=Array.filter_eq_self.2 (fun x hx=>by simpa using hmem x (by simpa using hx))
 have e2:L.filter (fun x=>decide (x.born >=since))=#[]:=by
  rw[Array.filter_eq_empty_iff];intro x hx;have:=hmem x (by simpa using hx);simp;omega
 simp only[e1,e2,Array.append_empty];by_cases h0:L.size=0
 ·left;have:L=#[]:=GP h0;subst this;refine⟨rfl,?_⟩;simp[choose,Sem.run,Question.forced,JU]
 ·right;have hne:L.isEmpty=false:=by simp[Array.isEmpty,h0]
  simp only[hne,Bool.false_eq_true,if_false,Array.empty_append,Array.size_map]
  have hch:∃(j:Nat) (w1:V3),j<L.size/\w1.heap=w.heap/\Same w w1/\(choose (Question.mapNext L.size)).run P w=.ok j w1:=by
   by_cases hf:L.size<=1
   ·exact⟨0,w,by omega,rfl,Same.refl w,by simp[choose,Sem.run,Question.forced,hf]⟩
   ·exact⟨_,w.drew,Nat.mod_lt _ Va,rfl,⟨rfl,rfl,rfl⟩,by
     simp only[choose,Sem.run,Question.forced,decide_eq_true_eq,hf,if_false,Question.cut]
     rfl⟩
  obtain⟨j,w1,hj,hh,hal,hrun⟩:=hch;refine⟨L[j],by simp,w1,hh,hal,?_⟩
  have hset:∀(o':Obj),(setObj b o').run P w1=.ok () (w1.putObj b o'):=fun o'=>by
   have hlt:w1.heap[b]? =some (.mapIter (some bm) since seen c0):=by rw[hh];exact hb
   simp[setObj,Sem.run,hlt,World.putObj]
  simp only[hrun,Array.getElem?_map,Gz hj,Option.map_some,Sem.run_bind,hset,Result.andThen]
  rfl
def EL.mem{es es':U V5}(e:EL ρ es es'){x':V5}(hx:x'∈es'):∃x∈es,x'.key=x.key/\plain x.key=true/\x'.born=x.born/\VR ρ x.val x'.val:=by
 induction e with
 | nil=>cases hx
 | cons hk hp hb hv _ ih=>
   rcases Kx.1 hx with rfl|h
   ·exact⟨_,by simp,hk,hp,hb,hv⟩
   ·obtain⟨x,h1,h2⟩:=ih h;exact⟨x,Ks _ h1,h2⟩
def Zeh{clock:Nat}:∀{es:U V5},Xr clock es=true->∀e∈es,e.born<clock:=by
 intro es
 induction es with
 | nil=>intro _ e h;cases h
 | cons x es ih=>
   intro h e he;simp only[Xr,Ba0,G4]at h;rcases Kx.1 he with rfl|he
   ·exact h.1.1
   ·exact ih h.2 e he
section
variable{C:Cfg}(HI:∀j r,ih j=some r->Yn C.X j r)(HW:∀j r,ih j=some r->ZA8 j r)
def Zfs(HI:∀j r,ih j=some r->Yn C.X j r){mi:MI}{n wm:Nat}{rd:O Nat}{s s':Fs}{e:XX}(h:KS C ih mi n wm rd s=some (.code e s')){F:Fence}{a:Act}{w:V3}(hi:Inv ρ n s a w)(Zy:wm<=s.h.size)(hF:FR' ρ rd F)
 {Q:Exit->Act->V3->Prop} (hq:∀e' a' w',XH wm n ρ s.h w e s' e' a' w'->Q e' a' w'):wpListIn F 0 C.X.P mi.ops (Exit.then (mi.rest.wpIn F 0 C.X.P Q) Q) mi.l a w:=by
 unfold KS at h;split at h
 ·rename_i s1 h1;obtain⟨_,_,e0,k⟩:=Y9.1 (HI _ _ h);cases e0;refine Zkm HI _ mi.l s s1 .normal h1 hi Zy hF fun e' a' w' hp=>?_
  obtain⟨ρ',he,hi',hst⟩:=hp;cases he;exact wpIn_mono (k ρ' a' w' F (KB Zy hst.size) hi' (hF.mono hst.ext)) fun e2 a2 w2 hp2=>hq _ _ _ (XH.trans hi.rel.lt hst hp2)
 ·rename_i e1 s1 hne h1;cases h;refine Zkm HI _ mi.l s _ _ h1 hi Zy hF fun e' a' w' hp=>?_
  obtain⟨ρ',he,hi',hst⟩:=hp;cases he with
  | normal=>exact(hne rfl).elim
  | exit id=>exact hq _ _ _ ⟨ρ',.exit id,hi',hst⟩
  | goto id=>exact hq _ _ _ ⟨ρ',.goto id,hi',hst⟩
  | ret=>exact hq _ _ _ ⟨ρ',.ret,hi',hst⟩
  | panic hv=>exact hq _ _ _ ⟨ρ',.panic hv,hi',hst⟩
 ·cases h
include HI HW in
theorem Zp9:ZFN C ih:=by
 intro c n wm rd s r mi hmi h;obtain⟨rfl,hops,hop,hgu,hfr,hit,hm⟩:=ZiO hmi;unfold Zj4 at h;generalize (Zgq (.seq (.region mi.id mi.ops false) mi.rest)).filter (allowed s.wr)=T at h;unfold Zny at h;generalize hb:ZlB mi n wm T=b at h;cases b with
 | false=>cases h
 | true=>
 obtain⟨hs1,hs2,hborn,ZrV,htT,d,hd,hdn,hdT⟩:=Zd0 hb;simp only [Cq1] at h;generalize Zi7:Zba C ih mi n rd (Zb0 T) (YA T s.fr) s mi.es=b2 at h;cases b2 with
 | false=>cases h
 | true=>
 simp only [Cq1] at h
 have Zi7:∀ e ∈ mi.es,∃ s2,KS C ih mi n s.h.size rd {fr:=Ji (YA T s.fr) mi.o.dst (.tuple #[.bool true,e.key,e.val]),ds:=s.ds,h:=s.h.put mi.it (.iter mi.m mi.since mi.clock (some e.born)),wr:=some (Zb0 T)}=some (.code .normal s2)∧s2.ds.length=s.ds.length:=by
  have:∀ es,Zba C ih mi n rd (Zb0 T) (YA T s.fr) s es=true ->∀ e ∈ es,∃ s2,KS C ih mi n s.h.size rd {fr:=Ji (YA T s.fr) mi.o.dst (.tuple #[.bool true,e.key,e.val]),ds:=s.ds,h:=s.h.put mi.it (.iter mi.m mi.since mi.clock (some e.born)),wr:=some (Zb0 T)}=some (.code .normal s2)∧s2.ds.length=s.ds.length:=by
   intro es
   induction es with
   | nil=>intro _ e he;cases he
   | cons x es ihe=>
     intro hh e he;simp only [Zba,Ba0] at hh;rcases List.mem_cons.1 he with rfl | he
     ·have h1:=hh.1;split at h1
      ·rename_i s2 h2;exact⟨s2,h2,Nb0 h1⟩
      ·cases h1
     ·exact ihe hh.2 e he
  exact this _ Zi7
 generalize hover:KS C ih mi n wm rd {s with fr:=Ji (YA T s.fr) mi.o.dst JU,h:=s.h.put mi.it .dead}=rr at h
 have hrr:∃ e s2,rr=some (.code e s2):=by
  split at h
  ·exact⟨_,_,rfl⟩
  ·cases h
 obtain⟨e,s2,rfl⟩:=hrr
 have hres:e ≠ .normal∧r= .code e s2:=by
  cases e with
  | normal=>cases h
  | exit _=>cases h;exact⟨fun z=>(by cases z),rfl⟩
  | goto _=>cases h;exact⟨fun z=>(by cases z),rfl⟩
  | ret=>cases h;exact⟨fun z=>(by cases z),rfl⟩
  | panic _=>cases h;exact⟨fun z=>(by cases z),rfl⟩
 obtain⟨hne,rfl⟩:=hres;refine⟨e,s2,rfl,fun ρ a0 w0 F Zy hi0 hF=>?_⟩;obtain⟨dd,hdr⟩:∃ d,d=mi.it:= ⟨_,rfl⟩
 have ZrY:=hi0.fr.val mi.t (by rw [hfr];rfl);rw [hfr] at ZrY;generalize hpx:a0.tmps.getD mi.t undef=px at ZrY;cases ZrY with
 | @ptr _ bi di _ Zd2=>
 have hoi:=hi0.rel.obj _ _ _ Zd2;rw [hit] at hoi;obtain⟨rfl,bm,ZKb,Zi1,Zyy,_,Zd3⟩:=hoi;have Zd3:=Zd3 rfl;subst Zd3;have hom:=hi0.rel.obj _ _ _ Zi1;rw [hm] at hom;obtain⟨_,es',Zyu,hes⟩:=hom;have hilt:=hi0.rel.dom _ _ _ Zd2;have ZP3:=hi0.rel.dom _ _ _ Zi1;have ZrZ:mi.m ≠ mi.it:=fun z=>by rw [z,hit] at hm;cases hm
 have hold:∀ x ∈ es'.toList,x.born < mi.since:=by
  intro x hx;obtain⟨y,hy,_,_,hyb,_⟩:=hes.mem hx;rw [hyb,hs1];exact Zeh hborn y hy
 have Zpl:∀ j b d,ρ j=some (b,d) ->b=bi ->j ≠ mi.it ->((s.h.at j).live=true ->False):=by
  intro j b d hj hbb hne' hl;subst hbb;exact hne' (hi0.rel.inj mi.it j b 0 d Zd2 hj (by rw [hit];rfl) hl).symm
 have hbne:bm ≠ bi:=fun z=>Zpl mi.m bm 0 Zi1 z ZrZ (by rw [hm];rfl)
 have ZLB:s.h.size= (s.h.put mi.it .dead).size:=rfl
 have Zi5:∀ {a:Act} {w:World} {K:Act ->World ->Prop} {Q:Exit ->Act ->World ->Prop} {v:Value} {w1:World},a.tmps.getD mi.t undef= .pointer (some ⟨bi,0,none⟩) ->(Instr.next (.pointer (some ⟨bi,0,none⟩)) false mi.o.type).run C.X.P w= .ok v w1 ->
  K (a.put mi.o.dst v) w1 ->(if Region.wanted mi.o (yielded mi.ops a.tmps) then mi.o.wpIn F 0 C.X.P a w K Q else(∀ f,mi.o.about C.X.P w a.eval=some f ->F.fn f)∧K (a.put mi.o.dst undef) w):=by
  intro a w K Q v w1 ht hrun hK;have hw:Region.wanted mi.o (yielded mi.ops a.tmps)=true:=by unfold Region.wanted;rw [hgu]
  rw [if_pos hw];refine⟨fun f hab=>(by unfold Oper.about at hab;rw [hop] at hab;cases hab),?_⟩;have Zm6:mi.o.semAt F.round a.eval=execOp a.eval mi.o:=Oper.semAt_eq _ _ _ fun c hc=>by rw [hop] at hc;cases hc
  have he:a.eval (.tmp mi.t)= .pointer (some ⟨bi,0,none⟩):=ht
  have hx:(execOp a.eval mi.o).run C.X.P w= .ok (.value v) w1:=by
   unfold execOp;rw [hop];simp [he,hrun]
  rw [Zm6,hx];exact hK
 have ZLy:∀ t,t ∉ T ->t ≠ d:=fun t ht z=>by rw [z] at ht;exact ht hdT
 have Zpd:∀ (a:Act) (w:World),Inv ρ n {s with fr:=YA T s.fr,h:=s.h.put mi.it .dead} a w ->a.tmps.getD mi.t undef= .pointer (some ⟨bi,0,none⟩):=by
  intro a w hi;have h0:VR ρ ((YA T s.fr).at mi.t) (a.tmps.getD mi.t undef):=hi.fr.val mi.t (by show X6 ((YA T s.fr).at mi.t)=false;rw [Xv,if_neg htT,hfr];rfl);rw [Xv,if_neg htT,hfr] at h0;generalize a.tmps.getD mi.t undef=y at h0;cases h0 with
  | ptr _ h1=>rw [Zd2] at h1;cases h1;rfl
 have Zyl:∀ (a:Act) (w:World),Inv ρ n {s with fr:=YA T s.fr,h:=s.h.put mi.it .dead} a w ->Stp wm ρ s.h w0 ρ (s.h.put mi.it .dead) w ->a.tmps.getD mi.t undef= .pointer (some ⟨bi,0,none⟩) ->
  (Instr.next (.pointer (some ⟨bi,0,none⟩)) false mi.o.type).run C.X.P w= .ok JU w ->∀ (_:Unit),LoopIn F 0 C.X.P (.seq (.region mi.id mi.ops false) mi.rest) (XH wm n ρ s.h w0 e s2) a w:=by
  intro a w hi hst ht hrun _;refine XZ (wpIn_seq (wpIn_region_list ?_));rw [hops];refine Zi5 ht hrun ?_
  have hio:Inv ρ n {s with fr:=Ji (YA T s.fr) mi.o.dst JU,h:=s.h.put mi.it .dead} (a.put mi.o.dst JU) w:=by
   refine⟨hi.rel,?_,?_⟩
   ·rw [hd];exact hi.fr.set hdn (VR.ZL rfl)
   ·rw [hd];exact hi.ds
  refine Zfs HI hover hio Zy hF fun e3 a3 w3 hp=>?_
  have hp2:=XH.trans hi0.rel.lt hst hp;obtain⟨ρ3,hx3,hi3,QX⟩:=hp2;cases hx3 with
  | normal=>exact(hne rfl).elim
  | exit id=>exact⟨ρ3,.exit id,hi3,QX⟩
  | goto id=>exact⟨ρ3,.goto id,hi3,QX⟩
  | ret=>exact⟨ρ3,.ret,hi3,QX⟩
  | panic hv=>exact⟨ρ3,.panic hv,hi3,QX⟩
 have head:∀ (k:Nat) (seen:Array Nat) (last:Nat) (a:Act) (w:World),(leftOf es' seen).size <=k ->mi.clock <=last ->w.heap[bi]? =some (.mapIter (some bm) mi.since seen last) ->w.heap[bm]? =some (.map es' mi.clock) ->
  Inv ρ n {s with fr:=YA T s.fr,h:=s.h.put mi.it .dead} a w ->
  Stp wm ρ s.h w0 ρ (s.h.put mi.it .dead) w ->LoopIn F 0 C.X.P (.seq (.region mi.id mi.ops false) mi.rest) (XH wm n ρ s.h w0 e s2) a w:=by
  intro k
  induction k with
  | zero=>
    intro seen last a w hk hlast hblk ZeT hi hst;have ht:=Zpd a w hi;rcases Zhu (P:=C.X.P) mi.o.type hblk ZeT hold (by rw [hs1];exact hlast) with⟨_,hrun⟩ | ⟨e',he',_⟩
    ·exact Zyl a w hi hst ht hrun ()
    ·have:=Array.length_toList ▸ List.length_pos_of_mem he';omega
  | succ k ihk=>
    intro seen last a w hk hlast hblk ZeT hi hst;have ht:=Zpd a w hi;rcases Zhu (P:=C.X.P) mi.o.type hblk ZeT hold (by rw [hs1];exact hlast) with⟨_,hrun⟩ | ⟨e',he',w1,hw1,hsame,hrun⟩
    ·exact Zyl a w hi hst ht hrun ()
    ·have hmem:= (mem_left he').1;obtain⟨x,hx,hkey,hkp,hbn,hval⟩:=hes.mem hmem;obtain⟨s3,hbody,hlen⟩:=Zi7 x hx;have hW:=Zqa HW hbody;have Zyw:bi < w.heap.size:= (hi.rel.dom _ _ _ Zd2).2;have ZLA:bm < w.heap.size:= (hi.rel.dom _ _ _ Zi1).2;obtain⟨w2,hw2⟩:∃ w2,w2=w1.putObj bi (.mapIter (some bm) mi.since (seen.push e'.born) mi.clock):= ⟨_,rfl⟩
     rw [← hw2] at hrun;have hsz2:w2.heap.size=w.heap.size:=by rw [hw2,World.putObj_size,hw1]
     have hother:∀ k,k ≠ bi ->w2.heap[k]? =w.heap[k]?:=fun k hk=>by rw [hw2,World.putObj_heap_other hk,hw1]
     have Zyz:w2.heap[bi]? =some (.mapIter (some bm) mi.since (seen.push e'.born) mi.clock):=by rw [hw2];exact World.putObj_heap_same (by rw [hw1];exact Zyw)
     have Zd4:Same w w2:=by rw [hw2];exact⟨hsame.os,hsame.tape,hsame.output⟩
     have hrel:Rel ρ (s.h.put mi.it (.iter mi.m mi.since mi.clock (some x.born))) w2:=by
      refine Zin hi.rel Zd2 Zpl hother hsz2 ⟨rfl,bm,seen.push e'.born,Zi1,Zyz,fun z hz=>?_,fun z=>by cases z⟩;cases hz;rw [← hbn];simp
     have hie:Inv ρ n {fr:=Ji (YA T s.fr) mi.o.dst (.tuple #[.bool true,x.key,x.val]),ds:=s.ds,h:=s.h.put mi.it (.iter mi.m mi.since mi.clock (some x.born)),wr:=some (Zb0 T)} (a.put mi.o.dst (.tuple #[.bool true,e'.key,e'.val])) w2:=by
      refine⟨hrel,?_,?_⟩
      ·rw [hd];refine hi.fr.set hdn (.tuple _ _ rfl fun j y y' p q=>?_)
       match j,p,q with
       | 0,p,q=>simp at p q;subst p q;exact .bool true
       | 1,p,q=>simp at p q;subst p q;rw [hkey];exact VR.ZL hkp
       | 2,p,q=>simp at p q;subst p q;exact hval
       | j + 3,p,q=>simp at p
      ·rw [hd];exact hi.ds
     refine XZ (wpIn_seq (wpIn_region_list ?_));rw [hops];refine Zi5 ht hrun ?_;refine Zfs HI hbody hie (Nat.le_refl _) hF fun e3 a3 w3 hp=>?_
     obtain⟨ρ3,hx3,hi3,QX⟩:=hp;cases hx3;show LoopIn F 0 C.X.P _ _ a3 w3;obtain⟨q1,q2⟩:=ZaO hrel QX;have Zr0:∀ b,b < w2.heap.size ->w3.heap[b]? =w2.heap[b]?:=fun b hb=>QX.frame b hb fun i d hi' e _=>by have:=hrel.lt i _ e;simp at this hi';omega
     have hwr:∀ t,t ∉ T ->s3.fr.at t=s.fr.at t:=by
      intro t Zb7;rw [hW.fr t (by show bit (Zb0 T) t=false;rw [Bool.eq_false_iff];intro z;exact Zb7 (Zv0.1 z))];show(Ji (YA T s.fr) mi.o.dst _).at t=_;rw [Za0,if_neg (by rw [hd];intro z;cases z;exact Zb7 hdT),Xv,if_neg Zb7]
     have ZHi:s3.ds=s.ds:=by
      obtain⟨l,hl⟩:=hW.ds;have hl:s3.ds=l ++ s.ds:=hl;rw [hl,List.length_append] at hlen;have:l= []:=List.eq_nil_of_length_eq_zero (by omega);rw [hl,this];rfl
     refine ihk (seen.push e'.born) mi.clock a3 w3 (by have:=left_shrinks es' seen e' he';omega) (Nat.le_refl _) (by rw [Zr0 bi (by omega)];exact Zyz) (by rw [Zr0 bm (by omega),hother bm hbne];exact ZeT) ⟨?_,⟨hi3.fr.size,fun t hany=>?_⟩,?_⟩ ?_
     ·refine(ZbQ (i:=mi.it) q1).congr rfl fun i=>?_
      rw [H.XM,H.XM];by_cases hii:i=mi.it∧i < s.h.size
      ·rw [if_pos hii,if_pos (by simpa using hii)]
      ·rw [if_neg hii,if_neg (by simpa using hii),H.XM,if_neg hii]
     ·change X6 ((YA T s.fr).at t)=false at hany
      show VR ρ ((YA T s.fr).at t) _;rw [Xv] at hany ⊢;by_cases Zb7:t ∈ T
      ·rw [if_pos Zb7] at hany;cases hany
      ·rw [if_neg Zb7] at hany ⊢;have h0:=hi.fr.val t (by show X6 ((YA T s.fr).at t)=false;rw [Xv,if_neg Zb7];exact hany);have h0:VR ρ ((YA T s.fr).at t) _:=h0;rw [Xv,if_neg Zb7] at h0;have h1:=hi3.fr.val t (by rw [hwr t Zb7];exact hany);rw [hwr t Zb7] at h1;exact VR.back QX.ext h0 h1
     ·have h0:DsR ρ s.ds a.defers:=hi.ds;have h1:=hi3.ds;rw [ZHi] at h1;exact DsR.back QX.ext h0 h1
     ·refine⟨Ren.le_refl _,hst.size,hst.keep,hst.own,hst.live,QX.os.trans (Zd4.os.trans hst.os),QX.tape.trans (Zd4.tape.trans hst.tape),QX.output.trans (Zd4.output.trans hst.output),
       Nat.le_trans hst.Y8 (by rw [← hsz2];exact QX.Y8),fun b hb hno=>?_,fun i b d p q=>by rw [p] at q;cases q⟩
      have hbb:b ≠ bi:=fun z=>by subst z;exact hno mi.it 0 ZrV Zd2 (by rw [hit];rfl)
      have:=hst.Y8;rw [Zr0 b (by omega),hother b hbb,hst.frame b hb hno]
 have ZrW:Stp wm ρ s.h w0 ρ (s.h.put mi.it .dead) w0:=by
  have kk:=JH (h:=s.h) (A:= .dead) ZrV (by rw [hit];rfl);exact⟨Ren.le_refl _,Nat.le_refl _,kk.keep,kk.own,kk.live,rfl,rfl,rfl,Nat.le_refl _,fun _ _ _=>rfl,fun i b d e e'=>by rw [e] at e';cases e'⟩
 refine head _ #[] mi.Qe a0 w0 (Nat.le_refl _) hs2 Zyy Zyu ⟨ZbQ hi0.rel,⟨hi0.fr.size,fun t hany=>?_⟩,hi0.ds⟩ ZrW
 change X6 ((YA T s.fr).at t)=false at hany
 show VR ρ ((YA T s.fr).at t) _;rw [Xv] at hany ⊢;by_cases ht:t ∈ T
 ·rw [if_pos ht] at hany;cases hany
 ·rw [if_neg ht] at hany ⊢;exact hi0.fr.val t hany
end
end
section
variable{X:Ctx}{YR:V2->Z}{ih:Qr->O YL}
def ZcP(hm:X.P.follows .mixedOrders=true)(k:Nat):∀(j:Qr)(r:YL),ev (cfg X YR) k j=some r->Yn X j r:=by
 induction k with
 | zero=>intro j r h;cases h
 | succ k ihk=>
   have HK:=ZDy (C:=cfg X YR) ZAg k
   have Zpn:∀n wm rd (ops:V4 Oper) s s',(cfg X YR).draw (ev (cfg X YR) k) n wm rd ops.toList s=some s' ->
    ∀id ρ a w F,wm<=s.h.size->Inv ρ n s a w->FR' ρ rd F->(Code.region id ops true).wpIn F 0 X.P (XH wm n ρ s.h w .normal s') a w:=by
    intro n wm rd ops s s' hr id ρ a w F Zy hi hF;have hr:ZgF X YR (ev (cfg X YR) k) n wm ops.toList s=some s':=hr;obtain⟨D,d1,d2,d3,d4,d5⟩:=ZqN (rd:=rd) ihk HK hr Zy;have hi2:Inv ρ n {fr:=D.fs 0,ds:=s.ds,h:=D.hs 0} a w:=⟨by rw[d1];exact hi.rel,by rw[d2];exact hi.fr,hi.ds⟩
    have:=D.region hm hi2 hF id;rw[d1,d3,d4]at this;exact wpIn_mono this fun e' a' w' ⟨ρ',q1,q2,q3⟩=>⟨ρ',q1,⟨q2.rel,q2.fr,by rw[d5];exact q2.ds⟩,q3⟩
   intro j r h;have h':Qd (cfg X YR) (ev (cfg X YR) k) j=some r:=h;exact ZvL (C:=cfg X YR) (Zp9 ihk (ZQO k)) Zpn ihk h'
end
end Go.ZP
end
end
