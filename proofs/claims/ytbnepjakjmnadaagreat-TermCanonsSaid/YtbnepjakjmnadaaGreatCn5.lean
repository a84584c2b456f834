/- Part 5. -/
import Derived.RangeFuncRecord
import Derived.Test.YtbnepjakjmnadaaGreatCn4
set_option linter.all false
set_option maxHeartbeats 2000000
def Go.Oi0{α:Type _}{a b:α}(h:some a=some b):a=b:=Option.some.inj h
section
noncomputable section
namespace Go.ZK
section
variable{ρ:Ren}{w:GY}{X:Ctx}{ih:Ql->O YL}
def XJ.trans{wm n:Nat}{ρ ρ1:Ren}{h h1:H}{w w1:GY}(hd:∀i p,ρ i=some p->i<h.size)(st:Stp wm ρ h w ρ1 h1 w1){e:XX}{s':Fs}{e':Exit}{a':Act}{w':GY}
 (hp:XJ wm n ρ1 h1 w1 e s' e' a' w'):XJ wm n ρ h w e s' e' a' w':=by
 obtain⟨ρ',h1,h2,h3⟩:=hp;exact⟨ρ',h1,h2,st.trans hd h3⟩
def Uz.trans{wm:Nat}{ρ ρ1:Ren}{h h1:H}{w w1:GY}(hd:∀i p,ρ i=some p->i<h.size)(st:Stp wm ρ h w ρ1 h1 w1){e:UG}{h':H}{e':Ending}{w':GY}
 (hp:Uz wm ρ1 h1 w1 e h' e' w'):Uz wm ρ h w e h' e' w':=by
 obtain⟨ρ',h1,h2,h3⟩:=hp;exact⟨ρ',h1,h2,st.trans hd h3⟩
def QR{k:XX->Fs->O YL}{r:O YL}{x:YL}(h:Zfk k r=some x):∃e s,r=some (.code e s)/\k e s=some x:=by
 unfold Zfk at h;split at h
 ·exact⟨_,_,rfl,h⟩
 ·cases h
def ZhI{k:XX->PM->Fs->O YL}{r:O YL}{x:YL}(h:Zzt k r=some x):∃e pm s,r=some (.Xv e pm s)/\k e pm s=some x:=by
 unfold Zzt at h;split at h
 ·exact⟨_,_,_,rfl,h⟩
 ·cases h
def Zcs(X:Ctx)(c:Code)(n wm:Nat)(rd:O Nat)(s:Fs)(r:YL):Prop:=
 ∃e s',r=.code e s'/\∀ρ a w F,wm<=s.h.size->Inv ρ n s a w->K7 ρ rd F->c.wpIn F 0 X.P (XJ wm n ρ s.h w e s') a w
def YX{c:Code}{n wm:Nat}{rd:O Nat}{s:Fs}{r:YL}:Ym X (.code c n wm rd s) r↔Zcs X c n wm rd s r:=by
 cases r with
 | code e s'=>exact⟨fun h=>⟨e,s',rfl,h⟩,fun⟨_,_,e1,h⟩=>by cases e1;exact h⟩
 | fin e h=>exact⟨fun h=>h.elim,fun⟨_,_,e1,_⟩=>by cases e1⟩
 | Zdb e h=>exact⟨fun h=>h.elim,fun⟨_,_,e1,_⟩=>by cases e1⟩
 | Xv e h s=>exact⟨fun h=>h.elim,fun⟨_,_,e1,_⟩=>by cases e1⟩
def Zss(X:Ctx)(c:Code)(n wm:Nat)(rd:O Nat)(s:Fs)(r:YL):Prop:=
 ∃e s',r=.code e s'/\∀ρ a w F,wm<=s.h.size->Inv ρ n s a w->K7 ρ rd F->LoopIn F 0 X.P c (XJ wm n ρ s.h w e s') a w
def Zat{c:Code}{n wm:Nat}{rd:O Nat}{s:Fs}{r:YL}:Ym X (.loop c n wm rd s) r↔Zss X c n wm rd s r:=by
 cases r with
 | code e s'=>exact⟨fun h=>⟨e,s',rfl,h⟩,fun⟨_,_,e1,h⟩=>by cases e1;exact h⟩
 | fin e h=>exact⟨fun h=>h.elim,fun⟨_,_,e1,_⟩=>by cases e1⟩
 | Zdb e h=>exact⟨fun h=>h.elim,fun⟨_,_,e1,_⟩=>by cases e1⟩
 | Xv e h s=>exact⟨fun h=>h.elim,fun⟨_,_,e1,_⟩=>by cases e1⟩
def ZhQ(X:Ctx)(c:Code)(n wm:Nat)(pm:PM)(s:Fs)(r:YL):Prop:=
 ∃e WV s',r=.Xv e WV s'/\∀ρ a c0 cs w,wm<=s.h.size->Inv ρ n s a w->PmR ρ pm c0.mode ->
     c.wpSIn base 0 X.P (fun e' a' cs' w'=>∃ρ' u',cs'= {c0 with mode:=u'}::cs/\PmR ρ' WV u'/\ExR ρ' e e'/\Inv ρ' n s' a' w'/\Stp wm ρ s.h w ρ' s'.h w') a (c0::cs) w
def X5{c:Code}{n wm:Nat}{pm:PM}{s:Fs}{r:YL}:Ym X (.Xv c n wm pm s) r↔ZhQ X c n wm pm s r:=by
 cases r with
 | Xv e WV s'=>exact⟨fun h=>⟨e,WV,s',rfl,h⟩,fun⟨_,_,_,e1,h⟩=>by cases e1;exact h⟩
 | fin e h=>exact⟨fun h=>h.elim,fun⟨_,_,_,e1,_⟩=>by cases e1⟩
 | Zdb e h=>exact⟨fun h=>h.elim,fun⟨_,_,_,e1,_⟩=>by cases e1⟩
 | code e s=>exact⟨fun h=>h.elim,fun⟨_,_,_,e1,_⟩=>by cases e1⟩
section
variable(HI:∀j r,ih j=some r->Ym X j r)
include HI
theorem Zpy{a b:Code}{n wm:Nat}{rd:O Nat}{s:Fs}{r:YL}(h:ZEC ih a b n wm rd s=some r):Zcs X (.seq a b) n wm rd s r:=by
 obtain⟨e,s1,ha,hk⟩:=QR h;have ka:=YX.1 (HI _ _ ha);obtain⟨_,_,e0,ka⟩:=ka;cases e0;cases e with
 | normal=>
   obtain⟨e2,s2,rfl,kb⟩:=YX.1 (HI _ _ hk);refine⟨e2,s2,rfl,fun ρ a w F Zx hi hF=>wpIn_seq (wpIn_mono (ka ρ a w F Zx hi hF) ?_)⟩;rintro e' a' w' ⟨ρ',he,hi',hst⟩;cases he;exact wpIn_mono (kb ρ' a' w' F (KB Zx hst.size) hi' (hF.mono hst.ext)) fun _ _ _ hp=>XJ.trans hi.rel.lt hst hp
 | exit id=>
   cases hk;refine⟨_,_,rfl,fun ρ a w F Zx hi hF=>wpIn_seq (wpIn_mono (ka ρ a w F Zx hi hF) ?_)⟩;rintro e' a' w' ⟨ρ',he,hi',hst⟩;cases he;exact⟨ρ',.exit id,hi',hst⟩
 | goto id=>
   cases hk;refine⟨_,_,rfl,fun ρ a w F Zx hi hF=>wpIn_seq (wpIn_mono (ka ρ a w F Zx hi hF) ?_)⟩;rintro e' a' w' ⟨ρ',he,hi',hst⟩;cases he;exact⟨ρ',.goto id,hi',hst⟩
 | ret=>
   cases hk;refine⟨_,_,rfl,fun ρ a w F Zx hi hF=>wpIn_seq (wpIn_mono (ka ρ a w F Zx hi hF) ?_)⟩;rintro e' a' w' ⟨ρ',he,hi',hst⟩;cases he;exact⟨ρ',.ret,hi',hst⟩
 | panic v=>
   cases hk;refine⟨_,_,rfl,fun ρ a w F Zx hi hF=>wpIn_seq (wpIn_mono (ka ρ a w F Zx hi hF) ?_)⟩;rintro e' a' w' ⟨ρ',he,hi',hst⟩;cases he with
   | panic hv=>exact⟨ρ',.panic hv,hi',hst⟩
theorem Zm4{c:GV}{a b:Code}{n wm:Nat}{rd:O Nat}{s:Fs}{r:YL}(h:ZjL ih c a b n wm rd s=some r):Zcs X (.cond c a b) n wm rd s r:=by
 unfold ZjL at h;split at h
 ·rename_i t hc
  have:∃e s',r=.code e s'/\∀ρ a' w F,wm<=s.h.size->Inv ρ n s a' w->K7 ρ rd F->(if t then a else b).wpIn F 0 X.P (XJ wm n ρ s.h w e s') a' w:=by
   cases t with
   | true=>exact YX.1 (HI _ _ h)
   | false=>exact YX.1 (HI _ _ h)
  obtain⟨e,s',rfl,k⟩:=this;refine⟨e,s',rfl,fun ρ a' w F Zx hi hF=>?_⟩;have hv:=UX hi.fr _ _ hc;generalize hx:a'.eval c=x at hv;cases hv;exact wpIn_cond hx (k ρ a' w F Zx hi hF)
 ·cases h
theorem ZkB{id:Nat}{c:Code}{n wm:Nat}{rd:O Nat}{s:Fs}{r:YL}(h:ZtM ih id c n wm rd s=some r):Zcs X (.block id c) n wm rd s r:=by
 obtain⟨e,s1,ha,hk⟩:=QR h;obtain⟨_,_,e0,ka⟩:=YX.1 (HI _ _ ha);cases e0;cases e with
 | exit k=>
   by_cases hkk:k=id
   ·subst hkk;simp only[show Nat.beq k k=true from Nat.beq_refl k,Cq1,Q4]at hk;subst hk;refine⟨_,_,rfl,fun ρ a w F Zx hi hF=>wpIn_block (wpIn_mono (ka ρ a w F Zx hi hF) ?_)⟩;rintro e' a' w' ⟨ρ',he,hi',hst⟩;cases he;show if _ then _ else _
    rw[if_pos rfl];exact⟨ρ',.normal,hi',hst⟩
   ·have hb:Nat.beq k id=false:=by rw[Qx];simpa using hkk
    simp only[hb,Cq0,Q4]at hk;subst hk;refine⟨_,_,rfl,fun ρ a w F Zx hi hF=>wpIn_block (wpIn_mono (ka ρ a w F Zx hi hF) ?_)⟩;rintro e' a' w' ⟨ρ',he,hi',hst⟩;cases he;show if _ then _ else _
    rw[if_neg hkk];exact⟨ρ',.exit k,hi',hst⟩
 | normal=>
   cases hk;refine⟨_,_,rfl,fun ρ a w F Zx hi hF=>wpIn_block (wpIn_mono (ka ρ a w F Zx hi hF) ?_)⟩;rintro e' a' w' ⟨ρ',he,hi',hst⟩;cases he;exact⟨ρ',.normal,hi',hst⟩
 | goto k=>
   cases hk;refine⟨_,_,rfl,fun ρ a w F Zx hi hF=>wpIn_block (wpIn_mono (ka ρ a w F Zx hi hF) ?_)⟩;rintro e' a' w' ⟨ρ',he,hi',hst⟩;cases he;exact⟨ρ',.goto k,hi',hst⟩
 | ret=>
   cases hk;refine⟨_,_,rfl,fun ρ a w F Zx hi hF=>wpIn_block (wpIn_mono (ka ρ a w F Zx hi hF) ?_)⟩;rintro e' a' w' ⟨ρ',he,hi',hst⟩;cases he;exact⟨ρ',.ret,hi',hst⟩
 | panic v=>
   cases hk;refine⟨_,_,rfl,fun ρ a w F Zx hi hF=>wpIn_block (wpIn_mono (ka ρ a w F Zx hi hF) ?_)⟩;rintro e' a' w' ⟨ρ',he,hi',hst⟩;cases he with
   | panic hv=>exact⟨ρ',.panic hv,hi',hst⟩
theorem Zky{c:Code}{n wm:Nat}{rd:O Nat}{s:Fs}{r:YL}(h:ZtK ih c n wm rd s=some r):Zcs X (.scope c) n wm rd s r:=by
 obtain⟨e,s1,ha,hk⟩:=QR h;obtain⟨_,_,e0,ka⟩:=YX.1 (HI _ _ ha);cases e0;cases e with
 | goto l=>cases hk
 | exit k=>
   cases hk;refine⟨_,_,rfl,fun ρ a w F Zx hi hF=>ZaN (wpIn_mono (ka ρ a w F Zx hi hF) ?_)⟩;rintro e' a' w' ⟨ρ',he,hi',hst⟩;cases he;exact⟨ρ',.exit k,hi',hst⟩
 | normal=>
   cases hk;refine⟨_,_,rfl,fun ρ a w F Zx hi hF=>ZaN (wpIn_mono (ka ρ a w F Zx hi hF) ?_)⟩;rintro e' a' w' ⟨ρ',he,hi',hst⟩;cases he;exact⟨ρ',.normal,hi',hst⟩
 | ret=>
   cases hk;refine⟨_,_,rfl,fun ρ a w F Zx hi hF=>ZaN (wpIn_mono (ka ρ a w F Zx hi hF) ?_)⟩;rintro e' a' w' ⟨ρ',he,hi',hst⟩;cases he;exact⟨ρ',.ret,hi',hst⟩
 | panic v=>
   cases hk;refine⟨_,_,rfl,fun ρ a w F Zx hi hF=>ZaN (wpIn_mono (ka ρ a w F Zx hi hF) ?_)⟩;rintro e' a' w' ⟨ρ',he,hi',hst⟩;cases he with
   | panic hv=>exact⟨ρ',.panic hv,hi',hst⟩
theorem Zfb{c:Code}{n wm:Nat}{rd:O Nat}{s:Fs}{r:YL}(h:ZjJ ih c n wm rd s=some r):Zss X c n wm rd s r:=by
 obtain⟨e,s1,ha,hk⟩:=QR h;obtain⟨_,_,e0,ka⟩:=YX.1 (HI _ _ ha);cases e0;cases e with
 | normal=>
   obtain⟨e2,s2,rfl,kb⟩:=Zat.1 (HI _ _ hk);refine⟨e2,s2,rfl,fun ρ a w F Zx hi hF=>XV (wpIn_mono (ka ρ a w F Zx hi hF) ?_)⟩;rintro e' a' w' ⟨ρ',he,hi',hst⟩;cases he;have:=kb ρ' a' w' F (KB Zx hst.size) hi' (hF.mono hst.ext);intro b k cs h1 h2 h3;obtain⟨e3,a3,w3,hp,harr⟩:=this b k cs h1 h2 h3;exact⟨e3,a3,w3,XJ.trans hi.rel.lt hst hp,harr⟩
 | exit id=>
   cases hk;refine⟨_,_,rfl,fun ρ a w F Zx hi hF=>XV (wpIn_mono (ka ρ a w F Zx hi hF) ?_)⟩;rintro e' a' w' ⟨ρ',he,hi',hst⟩;cases he;exact⟨ρ',.exit id,hi',hst⟩
 | goto id=>
   cases hk;refine⟨_,_,rfl,fun ρ a w F Zx hi hF=>XV (wpIn_mono (ka ρ a w F Zx hi hF) ?_)⟩;rintro e' a' w' ⟨ρ',he,hi',hst⟩;cases he;exact⟨ρ',.goto id,hi',hst⟩
 | ret=>
   cases hk;refine⟨_,_,rfl,fun ρ a w F Zx hi hF=>XV (wpIn_mono (ka ρ a w F Zx hi hF) ?_)⟩;rintro e' a' w' ⟨ρ',he,hi',hst⟩;cases he;exact⟨ρ',.ret,hi',hst⟩
 | panic v=>
   cases hk;refine⟨_,_,rfl,fun ρ a w F Zx hi hF=>XV (wpIn_mono (ka ρ a w F Zx hi hF) ?_)⟩;rintro e' a' w' ⟨ρ',he,hi',hst⟩;cases he with
   | panic hv=>exact⟨ρ',.panic hv,hi',hst⟩
end
end
section
variable{ρ:Ren}{w:GY}{X:Ctx}{ih:Ql->O YL}
def Zrw:∀(vs:U N)(i:Nat)(fr:Fr)(t:Nat),(X4 vs i fr).at t=if i<=t/\t<i+vs.length then vs.getD (t-i) undef else fr.at t:=by
 intro vs
 induction vs with
 | nil=>intro i fr t;rw[if_neg (by simp)];rfl
 | cons v vs ih=>
   intro i fr t;rw[X4,ih];by_cases h1:i+1<=t/\t<i+1+vs.length
   ·rw[if_pos h1,if_pos (by simp;omega)];have:t-i=(t-(i+1))+1:=V6
    rw[this];rfl
   ·rw[if_neg h1];by_cases h2:t=i
    ·subst h2;rw[if_pos (by simp)];simp[Fr.at,Tr.XE]
    ·rw[if_neg (by simp;omega)];simp[Fr.at,Tr.XE,h2]
def Fr.at_nil(t:Nat):Fr.at .nil t=undef:=rfl
def UY{args args':GZ N}{n:Nat}(hv:Jo ρ args args')(hn:args.toList.length<=n):
 FrR ρ (X4 args.toList 0 .nil) n (args'++Array.replicate (n-args'.size) undef):=by
 have hs:args'.size=args.size:=hv.1.symm;rw[G5]at hn;refine⟨by simp;omega,fun t _=>?_⟩;rw[Zrw];by_cases h:0<=t/\t<0+args.toList.length
 ·rw[if_pos h];have h2:=h.2;simp only[G5,JT]at h2;have e1:args.toList.getD (t-0) undef=args[t]:=by simp[List.getD,h2]
  have e2:(args'++Array.replicate (n-args'.size) undef).getD t undef=args'[t]'V6:=by
   rw[Q2,Array.getElem?_append_left V6];simp[show t<args'.size by omega]
  rw[e1,e2];exact hv.2 t _ _ (by simp[h2]) (by simp[show t<args'.size by omega])
 ·rw[if_neg h];have h2:args.size<=t:=by simp at h;exact h
  have e2:(args'++Array.replicate (n-args'.size) undef).getD t undef=undef:=by
   rw[Q2,Array.getElem?_append_right V6];rcases Gl (t-args'.size) (n-args'.size) with h3|h3
   ·simp[h3]
   ·rw[Array.getElem?_eq_none (by simpa using h3)];rfl
  rw[e2,Fr.at_nil];exact VR.undef ρ
def Zko{P:GW}{h:H}{w:GY}(r:Rel ρ h w){t:J}{a a' v:N}(ha:VR ρ a a')(hl:WJ P h t a=some v):
 ∃v',VR ρ v v'/\(do loadVar t (<-asAddr a'):Sem N).run P w=.ok v' w:=by
 obtain⟨v',q1,q2⟩:=ZiL r ha hl;refine⟨v',q1,?_⟩;unfold WJ at hl;split at hl
 ·cases ha with
  | ptr o hi=>
    rw[ZdG]at q2
    simpa[Sem.run_bind,asAddr]using q2
 ·cases hl
def ZwA(tmps:GZ N):ResultVar->Sem N
 | .tmp t=>pure (tmps.getD t undef)
 | .cell a t=>do loadVar t (<-asAddr (tmps.getD a undef))
def Zr8{P:GW}{h:H}{w:GY}(r:Rel ρ h w){fr:Fr}{n:Nat}{tmps:GZ N}(hf:FrR ρ fr n tmps):∀(rs:U ResultVar)(vs:U N),Zcg P fr h rs=some vs ->
 ∃vs',LR ρ vs vs'/\(rs.mapM (m:=Sem) (ZwA tmps)).run P w=.ok vs' w:=by
 intro rs
 induction rs with
 | nil=>
   intro vs h1;cases h1;exact⟨[],LR.nil,by simp⟩
 | cons x rs ihr=>
   intro vs h1;simp only[Zcg]at h1;split at h1
   ·rename_i v vs1 e1 e2;cases h1;obtain⟨vs',q1,q2⟩:=ihr _ e2
    have:∃v',VR ρ v v'/\(ZwA tmps x).run P w=.ok v' w:=by
     cases x with
     | tmp t=>
       simp only[Zp4]at e1;cases hany:XG (fr.at t)<;>rw[hany]at e1<;>simp only[Cq1,Cq0]at e1
       ·cases e1;exact⟨_,hf.val t hany,rfl⟩
       ·cases e1
     | cell a t=>
       have hany:XG (fr.at a)=false:=by
        simp only[Zp4]at e1;unfold WJ at e1;split at e1
        ·rename_i hh;rw[hh];rfl
        ·cases e1
       exact Zko r (hf.val a hany) e1
    obtain⟨v',p1,p2⟩:=this;refine⟨v'::vs',LR.cons p1 q1,?_⟩;rw[List.mapM_cons];simp only[Sem.run_bind,p2,Gq,q2,Sem.run_pure]
   ·cases h1
def ZdC{P:GW}{fn:Func}{h:H}{w:GY}(r:Rel ρ h w){fr:Fr}{n:Nat}{tmps:GZ N}(hf:FrR ρ fr n tmps){v:N}(ha:QB P fn fr h=some v):
 ∃v',VR ρ v v'/\(results fn tmps).run P w=.ok v' w:=by
 unfold QB at ha
 have key:∀vs,Zcg P fr h fn.results.toList=some vs->∃vs',LR ρ vs vs'/\(results fn tmps).run P w=.ok (if h:vs'.toArray.size=1 then vs'.toArray[0] else .tuple vs'.toArray) w:=by
  intro vs hvs;obtain⟨vs',q1,q2⟩:=Zr8 (P:=P) r hf _ _ hvs;refine⟨vs',q1,?_⟩;have e:results fn tmps=(do let vs <-fn.results.mapM (ZwA tmps);pure (if h:vs.size=1 then vs[0] else .tuple vs):Sem N):=rfl;rw[e,<-Array.toArray_toList (xs:=fn.results),List.mapM_toArray];simp only[Sem.run_bind,Sem.run_map,q2,Gq,Sem.run_pure]
 split at ha
 ·rename_i x hx;cases ha;obtain⟨vs',q1,q2⟩:=key _ hx;obtain⟨y,rfl,hy⟩:=LR.one q1;exact⟨y,hy,by rw[q2];simp⟩
 ·rename_i vs hno hx;cases ha;obtain⟨vs',q1,q2⟩:=key _ hx
  have hl:vs.length≠1:=by
   intro hh
   match vs,hh with
   | [x],_=>exact hno x rfl
  refine⟨.tuple vs'.toArray,.tuple _ _ q1.arr.1 q1.arr.2,?_⟩;rw[q2,dif_neg];simp only[List.size_toArray];rw[<-q1.1];exact hl
 ·cases ha
def CallsDIn.mono'{F:Fence}{n:Nat}{P:GW}{f:GX}{args:GZ N}{u:FrameMode}{w:GY}{R R':Ending->FrameMode->GY->Prop}(h:CallsDIn F n P f args u w R)
 (hr:∀e u w,R e u w->R' e u w):CallsDIn F n P f args u w R':=
 ⟨h.1,fun c cs hc hroom=>let⟨e,u',w',fr,q,r⟩:=h.2 c cs hc hroom;⟨e,u',w',fr,hr _ _ _ q,r⟩⟩
def PmR.settle{p:PM}{u:FrameMode}(h:PmR ρ p u):PmR ρ (Zhs p) (settle u):=by
 cases h with
 | ret=>exact .ret
 | Z6 h=>exact .Z6 h
 | rcv h=>exact .ret
def DsR.nil_eq{ds:U V2}(h:DsR ρ [] ds):ds=[]:=by cases h;rfl
def PmR.ZsR{p:PM}{u:FrameMode}(h:PmR ρ p u):u≠.run:=by cases h<;>simp
section
variable{C:Cfg}(HI:∀j r,ih j=some r->Ym C.X j r)
include HI
theorem Q8{fn:Func}{wm:Nat}{pm:PM}{s:Fs}{r:YL}(h:J5 C ih fn wm pm s=some r):Ym C.X (.leave fn wm pm s) r:=by
 unfold J5 at h;split at h
 ·rename_i hds
  have hd:∀{ρ n a w},Inv ρ n s a w->a.defers=[]:=fun hi=>by
   have:=hi.ds;rw[hds]at this;exact this.nil_eq
  split at h
  ·split at h
   ·rename_i v hv;cases h;intro ρ n a u w R Zx hi hpm hR;cases hpm;obtain⟨v',q1,q2⟩:=ZdC hi.rel hi.fr hv;rw[hd hi];exact⟨v',q2,hR _ _ ⟨ρ,.ret q1,hi.rel,Stp.refl _ _ _ _⟩⟩
   ·cases h
  ·rename_i v;cases h;intro ρ n a u w R Zx hi hpm hR;cases hpm with
   | Z6 hv=>
     rw[hd hi];exact hR _ _ ⟨ρ,.Z6 hv,hi.rel,Stp.refl _ _ _ _⟩
  ·cases h
 ·rename_i d ds hds;split at h
  ·rename_i r0 htar;split at h
   ·rename_i hat;cases hb:Nat.ble wm r0<;>rw[hb]at h<;>simp only[Cq1,Cq0]at h
    ·cases h
    ·have hr0:=Nl0 hb;have hj:=HI _ _ h;cases r with
     | fin e h'=>
       intro ρ n a u w R Zx hi hpm hR;have hdd:=hi.ds;rw[hds]at hdd;generalize hx:a.defers=x at hdd;cases hdd with
       | cons hdf _=>obtain⟨⟨f,c,c',e1,_⟩,_⟩:=hdf;rw[htar]at e1;cases e1
       | @mark rr r' _ ds' hm ht=>
         simp only at htar;cases htar;have ho:=hi.rel.obj _ _ _ hm;rw[hat]at ho;obtain⟨_,ho⟩:=ho;have hlt:=(hi.rel.dom _ _ _ hm).2;obtain⟨q1,q2⟩:=Zmd (wm:=wm) (A:=.dead) (w':=w.putObj r' (.deferred none)) hi.rel hr0 (by rw[hat];rfl) ⟨rfl,rfl,rfl⟩ hm World.putObj_size (fun k hk=>World.putObj_heap_other hk) trivial;refine⟨hpm.ZsR,.inl ⟨r',_,rfl,run_takeDeferred ho,?_⟩⟩;have hi2:Inv ρ n {s with ds:=ds,h:=s.h.put r0 .dead} {a with defers:=ds'} (w.putObj r' (.deferred none)):=⟨q1,hi.fr,ht⟩
         exact hj ρ n _ u _ R Zx hi2 hpm (fun e' w' hp=>hR _ _ (Uz.trans hi.rel.lt q2 hp))
     | code e h'=>exact hj.elim
     | Zdb e h'=>exact hj.elim
     | Xv e h' _=>exact hj.elim
   ·cases h
  ·rename_i f cap htar;split at h
   ·rename_i fnn hfn;split at h
    ·rename_i WV h' hc;have hj:=HI _ _ h;have hcj:=HI _ _ hc;cases r with
     | fin e h2=>
       intro ρ n a u w R Zx hi hpm hR;have hdd:=hi.ds;rw[hds]at hdd;generalize hx:a.defers=x at hdd;cases hdd with
       | @cons _ d' _ ds' hdf ht=>
         obtain⟨⟨f1,c1,c1',e1,e2,hv⟩,hargs⟩:=hdf;rw[htar]at e1;cases e1
         have hargs':Jo ρ (d.args.toList++cap.toList).toArray (d'.args++c1'):=by
          have:=((Jo.list hargs).append (Jo.list hv)).arr;have e:(d'.args.toList++c1'.toList).toArray=d'.args++c1':=by apply GO.1;simp
          rwa[e]at this
         refine⟨hpm.ZsR,.inr ⟨fun hh=>(by cases hh),.func f,c1',f,d'.args++c1',e2,?_,fun g hg=>(by rw[e2]at hg;simp only[Target.leads]at hg;cases hg;exact Zgb hfn),?_⟩⟩
         ·rw[e2,<-WU (w:=w) (args:=d'.args++c1') hfn];simp[invoke]
         ·refine CallsDIn.mono' (hcj ρ _ u w Zx hi.rel hargs' hpm) ?_;rintro e3 u3 w3 ⟨v,rfl,ρ3,p1,p2,p3⟩;have hi2:Inv ρ3 n {s with ds:=ds,h:=h'} {a with defers:=ds'} w3:=⟨p2,hi.fr.mono p3.ext,ht.mono p3.ext⟩
          exact hj ρ3 n _ _ _ R (KB Zx p3.size) hi2 p1.settle (fun e' w' hp=>hR _ _ (Uz.trans hi.rel.lt p3 hp))
       | mark hm ht=>cases htar
     | code e h'=>exact hj.elim
     | Zdb e h'=>exact hj.elim
     | Xv e h' _=>exact hj.elim
    ·cases h
   ·cases h
  ·cases h
theorem Zm6{f:GX}{args:GZ N}{wm:Nat}{h:H}{r:YL}(hc:Zm7 C ih f args wm h=some r):Ym C.X (.call f args wm h) r:=by
 unfold Zm7 at hc;split at hc
 ·rename_i fn hfn;split at hc
  ·rename_i c hb;cases hn:Nat.ble args.toList.length fn.ntmps<;>rw[hn]at hc<;>simp only[Cq1,Cq0]at hc
   ·cases hc
   ·obtain⟨e,s1,ha,hk⟩:=QR hc;obtain⟨_,_,e0,ka⟩:=YX.1 (HI _ _ ha);cases e0;split at hk
    ·rename_i pm hpm;have hj:=HI _ _ hk;cases r with
     | fin e2 h2=>
       intro ρ args' w Zx hr hv
       have hi:Inv ρ fn.ntmps {fr:=X4 args.toList 0 .nil,ds:=[],h:=h} {tmps:=args'++Array.replicate (fn.ntmps-args'.size) undef,defers:=[]} w:=
        ⟨hr,UY hv (Nl0 hn),.nil⟩
       refine callsIn_of_wp_marks (C.X.ok f fn hfn).1 hb (Zgb hfn) (wpIn_mono (ka ρ _ w base Zx hi rfl) ?_);rintro e' a' w' ⟨ρ',he,hi',hst⟩;cases he with
       | normal=>cases hpm;exact hj ρ' _ a' .returning w' _ (KB Zx hst.size) hi' .ret (fun _ _ hp=>Uz.trans hr.lt hst hp)
       | ret=>cases hpm;exact hj ρ' _ a' .returning w' _ (KB Zx hst.size) hi' .ret (fun _ _ hp=>Uz.trans hr.lt hst hp)
       | panic hv'=>cases hpm;exact hj ρ' _ a' _ w' _ (KB Zx hst.size) hi' (.Z6 hv') (fun _ _ hp=>Uz.trans hr.lt hst hp)
       | exit id=>cases hpm
       | goto id=>cases hpm
     | code e h'=>exact hj.elim
     | Zdb e h'=>exact hj.elim
     | Xv e h' _=>exact hj.elim
    ·cases hk
  ·cases hc
 ·cases hc
omit HI in
theorem ZqX{wm:Nat}{ρ:Ren}{h:H}{w w':GY}{A:YR}{l:Nat×Nat}{p:Nat}(r:Rel ρ h w)(Zx:wm<=h.size)(hb:RowKit.Below w.heap.size w w')(hp:w.heap.size<=p)(hp2:p<w'.heap.size)
 (hA:Qz (ρ.add h.size (p,0) l) w' p 0 l A):
 Rel (ρ.add h.size (p,0) l) (h.push A) w'/\Stp wm ρ h w (ρ.add h.size (p,0) l) (h.push A) w':=by
 have hle:=Ren.Zaa (p:=(p,0)) (l:=l) r.fresh
 have hold:∀i b d,i≠h.size->(ρ.add h.size (p,0) l) i=some (b,d)->ρ i=some (b,d):=fun i b d hi e=>by
  rwa[(Ren.J7 hi).1]at e
 have hnew:∀b d,(ρ.add h.size (p,0) l) h.size=some (b,d)->b=p/\d=0:=fun b d e=>by
  rw[Ren.add_same]at e;cases e;exact⟨rfl,rfl⟩
 have hat:∀i,i≠h.size->(h.push A).at i=h.at i:=fun i hi=>by rw[H.Qd,if_neg hi]
 have ZxQ:(h.push A).at h.size=A:=by rw[H.Qd,if_pos rfl]
 have hsz:=hb.size;refine⟨⟨?_,?_,?_⟩,⟨hle,by simp,?_,?_,?_,hb.os,hb.tape,hb.output,hb.size,?_,?_⟩⟩
 ·intro i b d e;rw[H.size_push];by_cases hi:i=h.size
  ·subst hi;have:=hnew b d e;omega
  ·have:=r.dom i b d (hold i b d hi e);omega
 ·intro i b d e;by_cases hi:i=h.size
  ·subst hi;obtain⟨rfl,rfl⟩:=hnew b d e;rw[ZxQ,Ren.K6];exact hA
  ·have e0:=hold i b d hi e;rw[hat i hi,(Ren.J7 hi).2];exact((r.obj i b d e0).mono hle).world (hb.block b (r.dom i b d e0).2)
 ·intro i j b d d' e e' ho hl;by_cases hi:i=h.size
  ·subst hi;obtain⟨rfl,rfl⟩:=hnew b d e;by_cases hj:j=h.size
   ·exact hj.symm
   ·have:=(r.dom _ _ _ (hold j _ _ hj e')).2;omega
  ·have e0:=hold i b d hi e;by_cases hj:j=h.size
   ·subst hj;obtain⟨rfl,rfl⟩:=hnew b d' e';have:=(r.dom _ _ _ e0).2;omega
   ·rw[hat i hi]at ho;rw[hat j hj]at hl;exact r.inj i j b d d' e0 (hold j _ _ hj e') ho hl
 ·intro i hi;exact hat i V6
 ·intro i hi x;rwa[hat i V6]at x
 ·intro i hi x;rwa[hat i V6]at x
 ·intro b hb' _;exact hb.block b hb'
 ·intro i b d e e';by_cases hi:i=h.size
  ·subst hi;obtain⟨rfl,rfl⟩:=hnew b d e';exact⟨K1 _,.inl hp⟩
  ·rw[hold i b d hi e']at e;cases e
theorem ZkA{f:GX}{args:GZ N}{wm:Nat}{h:H}{r:YL}(hc:ZhG C ih f args wm h=some r):Ym C.X (.call f args wm h) r:=by
 unfold ZhG at hc;split at hc
 ·rename_i v hv;obtain⟨hp,ZGh⟩:=C.X.ZwL f v hv;split at hc
  ·rename_i ha;cases hc;intro ρ args' w Zx hr hvs
   have hargs:args'=#[]:=by
    have h1:args.size=0:=by rw[<-G5,ha];rfl
    have h2:=hvs.1;exact GN V6
   subst hargs;refine(ZGh w).mono fun e w' ⟨he,hb⟩=>?_
   subst he;refine⟨ρ,.ret (VR.ZL hp),⟨fun i b d e=>?_,fun i b d e=>?_,hr.inj⟩,⟨Ren.le_refl ρ,K1 _,fun _ _=>rfl,fun _ _ x=>x,fun _ _ x=>x,hb.os,hb.tape,hb.output,hb.size,fun b hb' _=>hb.block b hb',fun i b d e e'=>by rw[e]at e';cases e'⟩⟩
   ·obtain⟨q1,q2⟩:=hr.dom i b d e;exact⟨q1,Jx q2 hb.size⟩
   ·exact(hr.obj i b d e).world (hb.block b (hr.dom i b d e).2)
  ·cases hc
 ·split at hc
  ·rename_i v A hv;cases hc;intro ρ args' w Zx hr hvs;refine(C.X.ZwM f args h v A hv ρ args' w hr hvs).mono fun e w' ⟨v',p,l,he,hb,hp,hp2,hvr,ho⟩=>?_
   subst he;obtain⟨q1,q2⟩:=ZqX hr Zx hb hp hp2 ho;exact⟨_,.ret hvr,q1,q2⟩
  ·exact Zm6 HI hc
end
def QN{F:Fence}{n:Nat}{P:GW}{c:Code}{Q Q':Exit->Act->U Frame->GY->Prop}{a:Act}{cs:U Frame}{w:GY}(h:c.wpSIn F n P Q a cs w)
 (hq:∀e a cs w,Q e a cs w->Q' e a cs w):c.wpSIn F n P Q' a cs w:=
 fun b k h1 h2 h3 h4=>let⟨e,a',cs',w',l,q,r⟩:=h b k h1 h2 h3 h4;⟨e,a',cs',w',l,hq _ _ _ _ q,r⟩
def ZrQ{n wm:Nat}{ops:GZ Oper}:∀(l:U Oper)(k:Nat),(∀j,l[j]? =ops[k+j]?)->∀(pm WV:PM)(s s':Fs),ZpI X n wm ops.toList l pm s=some (WV,s') ->
 ∀{ρ:Ren}{c0:Frame}{cs:U Frame}{a:Act}{w:GY},Inv ρ n s a w->wm<=s.h.size->PmR ρ pm c0.mode->∀(Q:Exit->Act->U Frame->GY->Prop),
   (∀ρ' u' a' w',PmR ρ' WV u'->Inv ρ' n s' a' w'->Stp wm ρ s.h w ρ' s'.h w'->Q .normal a' ({c0 with mode:=u'}::cs) w') ->
   wpOpsSIn base 0 X.P ops Q (List.range' k l.length) a (c0::cs) w:=by
 intro l
 induction l with
 | nil=>
   intro k hl pm WV s s' hs ρ c0 cs a w hi Zx hpm Q hQ;cases hs;exact hQ ρ c0.mode a w hpm hi (Stp.refl _ _ _ _)
 | cons o l ihl=>
   intro k hl pm WV s s' hs ρ c0 cs a w hi Zx hpm Q hQ;have h0:ops[k]? =some o:=by simpa using (hl 0).symm
   have hl':∀j,l[j]? =ops[k+1+j]?:=fun j=>by have:=hl (j+1);simpa[GG,Nat.add_comm 1 j]using this
   simp only[KK,List.range'_succ,wpOpsSIn,h0];simp only[ZpI]at hs;split at hs
   ·rename_i pm1 s1 hd
    have ZOz:∀f,o.about X.P w a.eval=some f->f<nfs:=by
     intro f hab;unfold dop at hd;dsimp only at hd;cases hok:okG ops.toList o s.fr<;>rw[hok]at hd<;>simp only[Gz,QP,Cq1,Cq0]at hd
     ·cases hd
     cases hwt:YZ ops.toList o s.fr<;>rw[hwt]at hd<;>simp only[Cq1,Cq0]at hd
     ·exact Zec (ρ:=ρ) (fun t _ hx=>hi.fr.val t hx) hok hwt hab
     ·split at hd
      ·rename_i nx E ha;obtain⟨ρ1,w1,p1,p2,p3⟩:=ZaH hi.rel (UX hi.fr) ha;exact Zbi ha p3 hab
      ·cases hd
    refine⟨fun f hab=>ZOz f hab,?_⟩
    have go:∀{ρ1:Ren}{u1:FrameMode}{a1:Act}{w1:GY},Inv ρ1 n s1 a1 w1->PmR ρ1 pm1 u1->Stp wm ρ s.h w ρ1 s1.h w1 ->
     wpOpsSIn base 0 X.P ops Q (List.range' (k+1) l.length) a1 ({c0 with mode:=u1}::cs) w1:=by
     intro ρ1 u1 a1 w1 h1 h2 h3;refine ihl (k+1) hl' pm1 WV s1 s' hs (c0:= {c0 with mode:=u1}) h1 (KB Zx h3.size) h2 Q (fun ρ' u' a' w' q1 q2 q3=>?_);exact hQ ρ' u' a' w' q1 q2 (h3.trans hi.rel.lt q3)
    unfold dop at hd;dsimp only at hd;cases hok:okG ops.toList o s.fr<;>rw[hok]at hd<;>simp only[Gz,QP,Cq1,Cq0]at hd
    ·cases hd
    rw[ZdB hi.fr ops o hok];cases hwt:YZ ops.toList o s.fr<;>rw[hwt]at hd<;>simp only[Cq1,Cq0]at hd
    ·rw[if_neg (by simp)];split at hd
     ·rename_i s2 hp2;cases hd;obtain⟨q1,q2⟩:=QS hi (VR.undef ρ) hp2;have:=go (u1:=c0.mode) q1 hpm (by rw[q2];exact Stp.refl _ _ _ _);exact this
     ·cases hd
    ·rw[if_pos rfl];split at hd
     ·rename_i nx E ha;split at hd
      ·rename_i h1 hE;obtain⟨ρ1,w1,p1,p2,p3⟩:=ZaH hi.rel (UX hi.fr) ha;obtain⟨r1,st1⟩:=Eff.sound hi.rel Zx p1 hE p2;have hi1:=hi.step r1 st1;split at hd
       ·rename_i v;obtain⟨v',hv,hrun⟩:=p3;rw[hrun];split at hd
        ·rename_i s2 hp2;cases hd;obtain⟨q1,q2⟩:=QS hi1 hv hp2;exact go (u1:=c0.mode) q1 (hpm.mono st1.ext) (by rw[q2];exact st1)
        ·cases hd
       ·have hrun:(execOp a.eval o).run X.P w=.ok .skip w1:=p3;rw[hrun];split at hd
        ·rename_i s2 hp2;cases hd;obtain⟨q1,q2⟩:=QS hi1 (VR.undef _) hp2;exact go (u1:=c0.mode) q1 (hpm.mono st1.ext) (by rw[q2];exact st1)
        ·cases hd
       ·have hrun:(execOp a.eval o).run X.P w=.ok .recover w1:=p3;rw[hrun];have ZuZ:=hpm.mono st1.ext;cases pm with
        | Z6 v=>
          simp only at hd;generalize hm:c0.mode=m at ZuZ;cases ZuZ with
          | @Z6 _ v' hv=>
            have hrec:recoverD (c0::cs)=some (v',{c0 with mode:=.panicking [{v:=v',recovered:=true}]}::cs):=by
             simp[recoverD,hm,chainOf]
            simp only[hrec];split at hd
            ·rename_i s2 hp2;cases hd;obtain⟨q1,q2⟩:=QS hi1 hv hp2;exact go q1 (.rcv hv) (by rw[q2];exact st1)
            ·cases hd
        | ret=>
          simp only at hd;generalize hm:c0.mode=m at ZuZ;cases ZuZ;have hrec:recoverD (c0::cs)=none:=by simp[recoverD,hm]
          simp only[hrec];split at hd
          ·rename_i s2 hp2;cases hd;obtain⟨q1,q2⟩:=QS hi1 (v:=.nilIface) (v':=.nilIface) (VR.ZL rfl) hp2;exact go (u1:=c0.mode) q1 (by rw[hm];exact .ret) (by rw[q2];exact st1)
          ·cases hd
        | rcv v=>
          simp only at hd;generalize hm:c0.mode=m at ZuZ;cases ZuZ with
          | @rcv _ v' hv=>
            have hrec:recoverD (c0::cs)=none:=by simp[recoverD,hm]
            simp only[hrec];split at hd
            ·rename_i s2 hp2;cases hd;obtain⟨q1,q2⟩:=QS hi1 (v:=.nilIface) (v':=.nilIface) (VR.ZL rfl) hp2;exact go (u1:=c0.mode) q1 (by rw[hm];exact .rcv hv) (by rw[q2];exact st1)
            ·cases hd
       ·cases hd
      ·cases hd
     ·cases hd
   ·cases hs
section
variable{C:Cfg}(HI:∀j r,ih j=some r->Ym C.X j r)
include HI
theorem Zca{c:Code}{n wm:Nat}{pm:PM}{s:Fs}{r:YL}(h:ZaD ih c n wm pm s=some r):ZhQ C.X c n wm pm s r:=by
 obtain⟨e,s1,ha,hk⟩:=QR h;obtain⟨_,_,e0,ka⟩:=YX.1 (HI _ _ ha);cases e0;cases hk;refine⟨e,pm,s1,rfl,fun ρ a c0 cs w Zx hi hpm=>wpSIn_of_wpIn rfl (wpIn_mono (ka ρ a w base Zx hi rfl) ?_)⟩;rintro e' a' w' ⟨ρ',he,hi',hst⟩;exact⟨ρ',c0.mode,rfl,hpm.mono hst.ext,he,hi',hst⟩
theorem Q9{c:Code}{n wm:Nat}{pm:PM}{s:Fs}{r:YL}(h:Kb C ih c n wm pm s=some r):ZhQ C.X c n wm pm s r:=by
 unfold Kb at h;split at h
 ·rename_i a b;obtain⟨e,pm1,s1,ha,hk⟩:=ZhI h;obtain⟨_,_,_,e0,ka⟩:=X5.1 (HI _ _ ha);cases e0;have simple:∀{x:Exit},(∀ρ,ExR ρ e x->True)->True:=fun _=>trivial
  cases e with
  | normal=>
    obtain⟨e2,pm2,s2,rfl,kb⟩:=X5.1 (HI _ _ hk);refine⟨e2,pm2,s2,rfl,fun ρ a c0 cs w Zx hi hpm=>wpSIn_seq (QN (ka ρ a c0 cs w Zx hi hpm) ?_)⟩;rintro e' a' cs' w' ⟨ρ',u',rfl,hp',he,hi',hst⟩;cases he;refine QN (kb ρ' a' {c0 with mode:=u'} cs w' (KB Zx hst.size) hi' hp') ?_;rintro e3 a3 cs3 w3 ⟨ρ3,u3,rfl,q1,q2,q3,q4⟩;exact⟨ρ3,u3,rfl,q1,q2,q3,hst.trans hi.rel.lt q4⟩
  | exit id=>
    cases hk;refine⟨_,_,_,rfl,fun ρ a c0 cs w Zx hi hpm=>wpSIn_seq (QN (ka ρ a c0 cs w Zx hi hpm) ?_)⟩;rintro e' a' cs' w' ⟨ρ',u',rfl,hp',he,hi',hst⟩;cases he;exact⟨ρ',u',rfl,hp',.exit id,hi',hst⟩
  | goto id=>
    cases hk;refine⟨_,_,_,rfl,fun ρ a c0 cs w Zx hi hpm=>wpSIn_seq (QN (ka ρ a c0 cs w Zx hi hpm) ?_)⟩;rintro e' a' cs' w' ⟨ρ',u',rfl,hp',he,hi',hst⟩;cases he;exact⟨ρ',u',rfl,hp',.goto id,hi',hst⟩
  | ret=>
    cases hk;refine⟨_,_,_,rfl,fun ρ a c0 cs w Zx hi hpm=>wpSIn_seq (QN (ka ρ a c0 cs w Zx hi hpm) ?_)⟩;rintro e' a' cs' w' ⟨ρ',u',rfl,hp',he,hi',hst⟩;cases he;exact⟨ρ',u',rfl,hp',.ret,hi',hst⟩
  | panic v=>
    cases hk;refine⟨_,_,_,rfl,fun ρ a c0 cs w Zx hi hpm=>wpSIn_seq (QN (ka ρ a c0 cs w Zx hi hpm) ?_)⟩;rintro e' a' cs' w' ⟨ρ',u',rfl,hp',he,hi',hst⟩;cases he with
    | panic hv=>exact⟨ρ',u',rfl,hp',.panic hv,hi',hst⟩
 ·rename_i c a b;split at h
  ·rename_i t hc
   have:ZhQ C.X (if t then a else b) n wm pm s r:=by
    cases t with
    | true=>exact X5.1 (HI _ _ h)
    | false=>exact X5.1 (HI _ _ h)
   obtain⟨e,WV,s',rfl,k⟩:=this;refine⟨e,WV,s',rfl,fun ρ a' c0 cs w Zx hi hpm=>?_⟩;have hv:=UX hi.fr _ _ hc;generalize hx:a'.eval c=x at hv;cases hv;exact wpSIn_cond hx (k ρ a' c0 cs w Zx hi hpm)
  ·cases h
 ·rename_i id ops d;cases hd:(!d&&ops.toList.any isRecover)<;>rw[hd]at h<;>simp only[Cq1,Cq0]at h
  ·exact Zca HI h
  ·split at h
   ·rename_i WV s' hs;cases h;have:d=false:=by simp at hd;exact hd.1
    subst this;refine⟨.normal,WV,s',rfl,fun ρ a c0 cs w Zx hi hpm=>wpSIn_region ?_⟩;rw[List.range_eq_range',<-G5];exact ZrQ ops.toList 0 (by simp) pm WV s s' hs hi Zx hpm _ (fun ρ' u' a' w' q1 q2 q3=>⟨ρ',u',rfl,q1,.normal,q2,q3⟩)
   ·cases h
 ·exact Zca HI h
theorem Zdy{f:GX}{args:GZ N}{pm:PM}{wm:Nat}{h:H}{r:YL}(hc:Zfd C ih f args pm wm h=some r):Ym C.X (.dcall f args pm wm h) r:=by
 unfold Zfd at hc;split at hc
 ·rename_i fn hfn;split at hc
  ·rename_i c hb;cases hn:Nat.ble args.toList.length fn.ntmps<;>rw[hn]at hc<;>simp only[Cq1,Cq0]at hc
   ·cases hc
   ·obtain⟨e,pm1,s1,ha,hk⟩:=ZhI hc;obtain⟨_,_,_,e0,ka⟩:=X5.1 (HI _ _ ha);cases e0
    have key:∀v,s1.ds=[]->(e=.normal\/e=.ret)->QB C.X.P fn s1.fr s1.h=some v->Ym C.X (.dcall f args pm wm h) (.Zdb pm1 s1.h):=by
     intro v hds he hv ρ args' u w Zx hr hva hpm
     have hi:Inv ρ fn.ntmps {fr:=X4 args.toList 0 .nil,ds:=[],h:=h} {tmps:=args'++Array.replicate (fn.ntmps-args'.size) undef,defers:=[]} w:=
      ⟨hr,UY hva (Nl0 hn),.nil⟩
     refine callsDIn_of_wpSIn (C.X.ok f fn hfn).1 hb (Zgb hfn) fun c0 cs hm=>QN (ka ρ _ c0 cs w Zx hi (by rw[hm];exact hpm)) ?_
     rintro e' a' cs' w' ⟨ρ',u',rfl,hp',he',hi',hst⟩
     have hd:a'.defers=[]:=by
      have:=hi'.ds;rw[hds]at this;exact this.nil_eq
     obtain⟨v',q1,q2⟩:=ZdC hi'.rel hi'.fr hv;rcases he with rfl|rfl
     ·cases he';exact⟨hd,u',rfl,v',q2,v',rfl,ρ',hp',hi'.rel,hst⟩
     ·cases he';exact⟨hd,u',rfl,v',q2,v',rfl,ρ',hp',hi'.rel,hst⟩
    split at hk
    ·rename_i hds hv;cases hk;exact key _ hds (.inl rfl) hv
    ·rename_i hds hv;cases hk;exact key _ hds (.inr rfl) hv
    ·cases hk
  ·cases hc
 ·cases hc
end
end
section
variable{ρ:Ren}{w:GY}{X:Ctx}{ih:Ql->O YL}
def run_enterLoop_inner{P:GW}(fn:GX)(tmps:GZ N)(ps:GZ Tmp)(assign body:Code){l:Nat}{r:Loop}(h:w.heap[l]? =some (.loop r)):
 (Instr.enterLoop fn tmps ps assign body (some l)).run P w=
   .ok (w.heap.size,[]) (w.alloc (.loop {state:=.ready,pending:=none,fn,tmps,params:=ps,assign,body,defers:=r.defers})):=by
 unfold Instr.enterLoop;simp only[Sem.run_bind,run_getLoop h,run_newObj_alloc,Result.andThen,Sem.run_pure]
def Zbe(w:GY)(o:Obj):(w.alloc o).heap=w.heap.push o:=rfl
def Zd6(w:GY)(o:Obj):Same w (w.alloc o):=⟨rfl,rfl,rfl⟩
def Zok(w:GY)(r:Nat)(o:Obj):Same w (w.putObj r o):=⟨rfl,rfl,rfl⟩
def Zbk{n:Nat}:∀(ps:U Tmp)(vs vs':U N)(fr Wj:Fr)(tmps:GZ N),LR ρ vs vs'->FrR ρ fr n tmps->XL (ps.zip vs) n fr=some Wj ->
 FrR ρ Wj n ((ps.zip vs').foldl (fun tmps (t,a)=>tmps.setIfInBounds t a) tmps):=by
 intro ps
 induction ps with
 | nil=>intro vs vs' fr Wj tmps hv hf h;simp[XL]at h;subst h;simpa using hf
 | cons p ps ih=>
   intro vs vs' fr Wj tmps hv hf h
   match vs,vs',hv with
   | [],[],_=>simp[XL]at h;subst h;simpa using hf
   | [],_::_,hv=>exact absurd hv.1 (by simp)
   | _::_,[],hv=>exact absurd hv.1 (by simp)
   | v::vs,v'::vs',hv=>
     simp only[List.zip_cons_cons,XL]at h;cases hb:Nat.blt p n<;>rw[hb]at h<;>simp only[Cq1,Cq0]at h
     ·cases h
     ·rw[G0]at hb;simp only[List.zip_cons_cons,Gn];have h1:VR ρ v v':=hv.2 0 v v' rfl rfl;have h2:LR ρ vs vs':=⟨by simpa using hv.1,fun i x x' a b=>hv.2 (i+1) x x' (by simpa using a) (by simpa using b)⟩
      exact ih vs vs' _ Wj _ h2 (hf.set hb h1) h
def ZyM{ρ:Ren}{rd:O Nat}{F:Fence}(h:K7 ρ rd F){f:GX}(hf:F.fn f):f<nfs:=(KE h f).1 hf
def Zcz{wm:Nat}{h:H}{w:GY}{l l':Nat}{st st2:LoopState}{pd pd2:O Code}{fr:Fr}{n:Nat}{ps:GZ Tmp}{Yg bd:Code}{df:Nat}(r:Rel ρ h w)(hl:ρ l=some (l',0))(Zx:wm<=l)
 (hat:h.at l=.loop st pd fr n ps Yg bd df):∃k:Loop,w.heap[l']? =some (.loop k)/\k.state=st/\k.pending=pd/\k.params=ps/\k.assign=Yg/\k.body=bd/\FrR ρ fr n k.tmps/\
   Rel ρ (h.put l (.loop st2 pd2 fr n ps Yg bd df)) (w.putObj l' (.loop {k with state:=st2,pending:=pd2}))/\
   Stp wm ρ h w ρ (h.put l (.loop st2 pd2 fr n ps Yg bd df)) (w.putObj l' (.loop {k with state:=st2,pending:=pd2})):=by
 have ho:=r.obj _ _ _ hl;rw[hat]at ho;obtain⟨_,fn,tmps,df',hw,hfr,hdf,hnf⟩:=ho;have hlt:=(r.dom _ _ _ hl).2;refine⟨_,hw,rfl,rfl,rfl,rfl,rfl,hfr,?_⟩;refine Zmd r Zx (by rw[hat];rfl) (Zok _ _ _) hl World.putObj_size (fun k hk=>World.putObj_heap_other hk) ?_;exact⟨rfl,fn,tmps,df',World.putObj_heap_same hlt,hfr,hdf,hnf⟩
def Zid{F:Fence}{n:Nat}{P:GW}{l:Nat}{f:GX}{tmps:GZ N}{assign body:Code}{w:GY}{R:Ending->GY->Prop}(hF:F.fn f)(hfn:∃fn,P.funcs[f]? =some fn)
 (h:assign.wpIn (F.inRound l) n P (fun e a1 w1=>e=.normal/\∃w2,(Instr.beginRound l).run P w1=.ok () w2/\body.wpIn (F.inRound l) n P (fun e a w=>∃ch,e=.panic ch/\a.defers=[]/\R (.panicked ch) w) a1 w2) {tmps:=tmps,defers:=[]} w):
 RoundIn F n P l f tmps assign body w R:=by
 refine⟨hF,fun c cs hroom=>?_⟩
 have e0:Frame.round l f tmps assign body .normal=({(default:Frame) with fn:=f,kind:=.normal,roundOf:=some l}:Frame).atR {tmps:=tmps,defers:=[]} [.code assign,.beginRound,.code body]:=by
  simp[Frame.round,Frame.atR]
 generalize hb:({(default:Frame) with fn:=f,kind:=.normal,roundOf:=some l}:Frame)=b at e0;have hk:b.fn=f/\b.kind=.normal/\b.roundOf=some l:=by subst hb;exact⟨rfl,rfl,rfl⟩
 have g1:(F.inRound l).fn b.fn:=by rw[hk.1];exact hF
 have g2:(F.inRound l).room ((c::cs).length+1+n):=hroom;obtain⟨e1,a1,w1,⟨rfl,w2,r1,k2⟩,s1⟩:=h b [.beginRound,.code body] (c::cs) (by rw[hk.2.2];rfl) g1 g2;obtain⟨e2,a2,w3,⟨ch,rfl,hd,hR⟩,todo,s3⟩:=k2 b [] (c::cs) (by rw[hk.2.2];rfl) g1 g2;refine⟨.panicked ch,w3,hR,?_⟩;rw[e0];refine StepsIn.trans s1 (StepsIn.trans (.one (fenced_calm (fr:=b.atR a1 [.beginRound,.code body]) g1 g2 rfl) (stepR_beginRound hk.2.2 r1)) (StepsIn.trans s3 (.one ?_ (step_leave_panicked (fr:= {b.atR a2 todo with mode:=.panicking ch}) ⟨rfl,hd,?_⟩))))
 ·refine fenced_lone (.inl g1) (fun f hf=>?_) (Fence.room_le g2 V6);exfalso;unfold Frame.about at hf;simp[Frame.atR,hd]at hf
 ·have:({b.atR a2 todo with mode:=.panicking ch}:Frame).fn=f:=hk.1;rw[this];exact hfn
section
variable{C:Cfg}(HI:∀j r,ih j=some r->Ym C.X j r)
include HI
theorem Zb9{g:GV}{n wm:Nat}{rd:O Nat}{l:Nat}{s0 s:Fs}{ps:GZ Tmp}{Yg bd:Code}{r:YL}(ZOt:s.fr=s0.fr)(h:Xt C ih g n wm rd l s=some r)(ZmB:∀ρ w,Rel ρ s0.h w->wm<=s0.h.size->wm<=l)
 (henter:∀ρ a w F,Inv ρ n s0 a w->wm<=s0.h.size->K7 ρ rd F->∀fn,fn<nfs->∃l' mark w₁ ρ1,(Instr.enterLoop fn a.tmps ps Yg bd F.round).run C.X.P w=.ok (l',mark) w₁/\ρ1 l=some (l',0)/\
   Inv ρ1 n s {a with defers:=mark++a.defers} w₁/\Stp wm ρ s0.h w ρ1 s.h w₁):
 Zcs C.X (.rangeFunc g ps Yg bd) n wm rd s0 r:=by
 unfold Xt at h;split at h
 ·rename_i gv hg;split at h
  ·rename_i f args hcall
   have hfn:∃g1 first cap fn,gv=.func (.func g1) first cap/\C.X.fns.get g1=some fn/\f=g1/\args=(first.toList++[Value.func (.yield l) #[] #[]]++cap.toList).toArray:=by
    unfold Ul at hcall;split at hcall
    ·split at hcall
     ·rename_i fnn ZB2;cases hcall;exact⟨_,_,_,_,rfl,ZB2,rfl,rfl⟩
     ·cases hcall
    ·split at hcall
     ·exfalso
      revert hcall
      generalize Nat.beq _ _=b;cases b<;>simp
     ·cases hcall
    ·cases hcall
   obtain⟨g1,first,cap,fnn,rfl,ZB2,rfl,rfl⟩:=hfn
   have hres:∃e s',r=.code e s':=by
    unfold Q5 at h;split at h
    ·split at h
     ·rename_i st pd fr n' ps' as' bd' df hat;cases hst:(st==.busy)<;>rw[hst]at h<;>simp only[Cq1,Cq0]at h
      ·split at h
       ·cases h;exact⟨_,_,rfl⟩
       ·obtain⟨e,s',e1,_⟩:=YX.1 (HI _ _ h);exact⟨e,s',e1⟩
      ·cases h
     ·cases h
    ·cases h;exact⟨_,_,rfl⟩
    ·cases h
   obtain⟨e,s',rfl⟩:=hres;refine⟨e,s',rfl,fun ρ a w F Zx hi hF=>wpIn_rangeFunc fun fn ZKs=>?_⟩;obtain⟨l',mark,w₁,ρ1,he,hl1,hi1,st1⟩:=henter ρ a w F hi Zx hF fn (ZyM hF ZKs)
   have hgv:VR ρ1 (.func (.func f) first cap) (a.eval g):=by
    have:=UX hi.fr _ _ (by rw[ZOt]at hg;exact hg);exact this.mono st1.ext
   generalize hgx:a.eval g=gx at hgv;cases hgv with
   | func _ _ _ first' cap' hy hx1 hx2 h1 h2=>
     have hv:Jo ρ1 (first.toList++[Value.func (.yield l) #[] #[]]++cap.toList).toArray (first'++#[Value.func (.yield l') #[] #[]]++cap'):=by
      have e1:LR ρ1 first.toList first'.toList:=Jo.list ⟨hx1,h1⟩;have e2:LR ρ1 cap.toList cap'.toList:=Jo.list ⟨hx2,h2⟩;have e3:LR ρ1 [.func (.yield l) #[] #[]] [.func (.yield l') #[] #[]]:=LR.cons (.yield hl1) LR.nil;have:=((e1.append e3).append e2).arr;have e:(first'.toList++[Value.func (.yield l') #[] #[]]++cap'.toList).toArray=first'++#[Value.func (.yield l') #[] #[]]++cap':=by apply GO.1;simp
      rwa[e]at this
     refine⟨l',mark,w₁,{target:=.fn (.func f) cap',args:=first'++#[Value.func (.yield l') #[] #[]]},w₁,f,first'++#[Value.func (.yield l') #[] #[]]++cap',w₁,he,?_,fun f' hab=>(KE hF f').2 (by simp only[Target.leads]at hab;cases hab;exact Zgb ZB2),?_,fun hh=>?_,?_⟩
     ·have e:∀v,a.eval (.const v)=v:=fun _=>rfl
      simp only[resolve,hgx,Deferred.ofValue];simp[e]
     ·rw[<-WU (w:=w₁) (args:=first'++#[Value.func (.yield l') #[] #[]]++cap') ZB2];simp[invoke]
     ·rw[KY hF]at hh;cases hh
     ·unfold Q5 at h;split at h
      ·rename_i rv h2 hc;have hcj:=HI _ _ hc;have Zkq:=KB Zx st1.size;refine(QK hF (hcj ρ1 _ w₁ Zkq hi1.rel hv)).mono ?_;rintro e2 w2 ⟨ρ2,he2,hr2,Zc9⟩;cases he2 with
       | ret hv2=>
         split at h
         ·rename_i st pd fr n' ps' as' bd' df hat;cases hst:(st==.busy)<;>rw[hst]at h<;>simp only[Cq1,Cq0]at h
          ·have hl2:=(Zc9.ext _ _ hl1).1;obtain⟨k,k1,k2,k3,k4,k5,k6,k7,k8,k9⟩:=Zcz (st2:=.exhausted) (pd2:=pd) (wm:=wm) hr2 hl2 (ZmB ρ w hi.rel Zx) hat
           have hend:(Instr.endLoop l').run C.X.P w2=.ok pd (w2.putObj l' (.loop {k with state:=.exhausted,pending:=pd})):=by
            rw[run_endLoop k1 (by rw[k2];intro hb;rw[hb]at hst;cases hst),<-k3]
           have hi2:Inv ρ2 n {s with h:=h2.put l (.loop .exhausted pd fr n' ps' as' bd' df)} {a with defers:=mark++a.defers} (w2.putObj l' (.loop {k with state:=.exhausted,pending:=pd})):=
            ⟨k8,hi1.fr.mono Zc9.ext,hi1.ds.mono Zc9.ext⟩
           have ZBI:=(st1.trans hi.rel.lt Zc9).trans hi.rel.lt k9;refine⟨pd,_,hend,?_⟩;cases pd with
           | none=>
             cases h;exact⟨ρ2,.normal,hi2,ZBI⟩
           | some c=>
             obtain⟨_,_,e1,kc⟩:=YX.1 (HI _ _ h);cases e1;exact wpIn_mono (kc ρ2 _ _ F (KB Zx ZBI.size) hi2 (hF.mono ZBI.ext)) fun _ _ _ hp=>XJ.trans hi.rel.lt ZBI hp
          ·cases h
         ·cases h
      ·rename_i v h2 hc;cases h;have hcj:=HI _ _ hc;have Zkq:=KB Zx st1.size;refine(QK hF (hcj ρ1 _ w₁ Zkq hi1.rel hv)).mono ?_;rintro e2 w2 ⟨ρ2,he2,hr2,Zc9⟩;cases he2 with
       | Z6 hv2=>exact⟨ρ2,.panic hv2,⟨hr2,hi1.fr.mono Zc9.ext,hi1.ds.mono Zc9.ext⟩,st1.trans hi.rel.lt Zc9⟩
      ·cases h
  ·cases h
 ·cases h
theorem Qu{g:GV}{ps:GZ Tmp}{Yg bd:Code}{n wm:Nat}{rd:O Nat}{s:Fs}{r:YL}(h:Zfa C ih g ps Yg bd n wm rd s=some r):Zcs C.X (.rangeFunc g ps Yg bd) n wm rd s r:=by
 unfold Zfa at h;split at h
 ·refine Zb9 HI (s0:=s) (by rfl) h (fun ρ w _ hw=>by omega) fun ρ a w F hi Zx hF fn hnf=>?_
  have hF0:F=base:=hF;subst hF0;obtain⟨p1,p2⟩:=ZbF (wm:=wm) (A:=.deferred) (o:=.deferred (some [])) (l:=(0,0)) hi.rel Zx (Zd6 w _) (Zbe w _) ⟨rfl,World.alloc_heap_new w _⟩;have hdf:=Ren.add_same ρ s.h.size (w.heap.size,0) (0,0);generalize ZSg:ρ.add s.h.size (w.heap.size,0) (0,0)=ρ1 at p1 p2 hdf;have hsz:(w.alloc (.deferred (some []))).heap.size=w.heap.size+1:=by rw[Zbe];simp
  have hle:ρ1.le (ρ1.add (s.h.push .deferred).size ((w.alloc (.deferred (some []))).heap.size,0) (0,0)):=Ren.Zaa p1.fresh
  obtain⟨q1,q2⟩:=ZbF (wm:=wm) (A:=.loop .ready none s.fr n ps Yg bd s.h.size) (l:=(0,0))
   (o:=.loop {state:=.ready,pending:=none,fn,tmps:=a.tmps,params:=ps,assign:=Yg,body:=bd,defers:=w.heap.size}) p1 (KB Zx p2.size) (Zd6 _ _) (Zbe _ _)
   ⟨rfl,fn,a.tmps,w.heap.size,World.alloc_heap_new _ _,(hi.fr.mono p2.ext).mono hle,(hle _ _ hdf).1,hnf⟩
  refine⟨w.heap.size+1,_,_,_,run_enterLoop_outer fn a.tmps ps Yg bd,?_,⟨q1,(hi.fr.mono p2.ext).mono hle,?_⟩,p2.trans hi.rel.lt q2⟩
  ·have:=Ren.add_same ρ1 (s.h.push .deferred).size ((w.alloc (.deferred (some []))).heap.size,0) (0,0);rw[hsz]at this
   simpa[hsz]using this
  ·exact .mark (hle _ _ hdf).1 ((hi.ds.mono p2.ext).mono hle)
 ·rename_i l;split at h
  ·rename_i st pd fr n' ps' as' bd' df hat;refine Zb9 HI (s0:=s) (by rfl) h (fun ρ w _ hw=>hw) fun ρ a w F hi Zx hF fn hnf=>?_
   obtain⟨l',hl',rfl⟩:=hF;have ho:=hi.rel.obj _ _ _ hl';rw[hat]at ho;obtain⟨_,fn0,ZDz,df',hw,hfr,hdf,_⟩:=ho;have hle:ρ.le (ρ.add s.h.size (w.heap.size,0) (0,0)):=Ren.Zaa hi.rel.fresh
   obtain⟨q1,q2⟩:=ZbF (wm:=wm) (A:=.loop .ready none s.fr n ps Yg bd df) (l:=(0,0))
    (o:=.loop {state:=.ready,pending:=none,fn,tmps:=a.tmps,params:=ps,assign:=Yg,body:=bd,defers:=df'}) hi.rel Zx (Zd6 _ _) (Zbe _ _)
    ⟨rfl,fn,a.tmps,df',World.alloc_heap_new _ _,hi.fr.mono hle,(hle _ _ hdf).1,hnf⟩
   refine⟨w.heap.size,[],_,_,run_enterLoop_inner fn a.tmps ps Yg bd hw,?_,⟨q1,hi.fr.mono hle,hi.ds.mono hle⟩,q2⟩;exact Ren.add_same ρ s.h.size (w.heap.size,0) (0,0)
  ·cases h
theorem U0{l:Nat}{args:GZ N}{wm:Nat}{h:H}{r:YL}(hc:Za6 ih l args wm h=some r):Ym C.X (.round l args wm h) r:=by
 unfold Za6 at hc;split at hc
 ·rename_i st0 pd0 fr n ps Yg bd df0 hat;cases hb:(Nat.ble wm l&&Nat.beq args.toList.length ps.toList.length)<;>rw[hb]at hc<;>simp only[Cq1,Cq0]at hc
  ·cases hc
  rw[Ba0]at hb;have ZmB:=Nl0 hb.1;split at hc
  ·rename_i Wj hset;obtain⟨e1,s1,ha,hk⟩:=QR hc;obtain⟨_,_,e0,ka⟩:=YX.1 (HI _ _ ha);cases e0;unfold Uw at hk;split at hk
   ·split at hk
    ·rename_i pd Xm n2 ps2 as2 bd2 df2 ZxR;obtain⟨e2,s2,hb2,hk2⟩:=QR hk;obtain⟨_,_,e0,kb⟩:=YX.1 (HI _ _ hb2);cases e0;unfold Qt at hk2;split at hk2
     ·rename_i st3 pd3 fr3 n3 ps3 as3 bd3 df3 ZGj;by_cases hp:∃v0,e2=.panic v0
      ·obtain⟨v0,rfl⟩:=hp;dsimp only at hk2;split at hk2
       ·rename_i hds;cases hk2;intro ρ l' k args' w Zx hr hv hl hw
        have hkk:k.params=ps/\k.assign=Yg/\k.body=bd/\FrR ρ fr n k.tmps/\k.fn<nfs:=by
         have ho:=hr.obj _ _ _ hl;rw[hat]at ho;obtain⟨_,fn0,ZDz,df',hw',hfr,hdf,hnf⟩:=ho;rw[hw]at hw';cases hw';exact⟨rfl,rfl,rfl,hfr,hnf⟩
        obtain⟨rfl,rfl,rfl,hfr,hnf⟩:=hkk;have hfn:∃fn,C.X.P.funcs[k.fn]? =some fn:=⟨_,Gy (by rw[C.X.sz];exact hnf)⟩
        refine Zid hnf hfn ?_
        have hi:Inv ρ n {fr:=Wj,ds:=[],h:=h} {tmps:=(k.params.zip args').foldl (fun tmps (t,a)=>tmps.setIfInBounds t a) k.tmps,defers:=[]} w:=by
         refine⟨hr,?_,.nil⟩;have:=Zbk k.params.toList args.toList args'.toList fr Wj k.tmps (Jo.list hv) hfr hset;rw[<-Array.foldl_toList,Array.toList_zip];exact this
        have hF:K7 ρ (some l) (base.inRound l'):=⟨l',hl,rfl⟩
        refine wpIn_mono (ka ρ _ w _ Zx hi hF) ?_;rintro x1 a1 w1 ⟨ρ1,he1,hi1,st1⟩;cases he1;have hl1:=(st1.ext _ _ hl).1;obtain⟨k1,q1,q2,q3,q4,q5,q6,q7,q8,q9⟩:=Zcz (st2:=.busy) (pd2:=pd) (wm:=wm) hi1.rel hl1 ZmB ZxR;refine⟨rfl,_,run_beginRound q1 q2,?_⟩;have ZxA:({k1 with state:=.busy}:Loop)= {k1 with state:=.busy,pending:=pd}:=by rw[<-q3]
        rw[ZxA];have ZGf:Inv ρ1 n {s1 with h:=s1.h.put l (.loop .busy pd Xm n2 ps2 as2 bd2 df2)} a1 (w1.putObj l' (.loop {k1 with state:=.busy,pending:=pd})):=⟨q8,hi1.fr,hi1.ds⟩
        have st1':=st1.trans hr.lt q9;refine wpIn_mono (kb ρ1 _ _ _ (KB Zx st1'.size) ZGf ⟨l',hl1,rfl⟩) ?_;rintro x2 a2 w2 ⟨ρ2,he2,hi2,st2⟩;cases he2 with
        | panic hv2=>
          have hd:=hi2.ds;rw[hds]at hd;refine⟨_,rfl,(by generalize a2.defers=dd at hd;cases hd;rfl),ρ2,.Z6 hv2,hi2.rel,st1'.trans hr.lt st2⟩
       ·cases hk2
      have hfin:∃v h',r=.fin (.ret v) h':=by
       split at hk2<;>first|exact(hp ⟨_,rfl⟩).elim | (cases hk2;exact⟨_,_,rfl⟩) | cases hk2
      obtain⟨v,h',rfl⟩:=hfin;intro ρ l' k args' w Zx hr hv hl hw
      have hkk:k.params=ps/\k.assign=Yg/\k.body=bd/\FrR ρ fr n k.tmps/\k.fn<nfs:=by
       have ho:=hr.obj _ _ _ hl;rw[hat]at ho;obtain⟨_,fn0,ZDz,df',hw',hfr,hdf,hnf⟩:=ho;rw[hw]at hw';cases hw';exact⟨rfl,rfl,rfl,hfr,hnf⟩
      obtain⟨rfl,rfl,rfl,hfr,hnf⟩:=hkk;refine roundIn_of_wpIn hnf ?_
      have hi:Inv ρ n {fr:=Wj,ds:=[],h:=h} {tmps:=(k.params.zip args').foldl (fun tmps (t,a)=>tmps.setIfInBounds t a) k.tmps,defers:=[]} w:=by
       refine⟨hr,?_,.nil⟩;have:=Zbk k.params.toList args.toList args'.toList fr Wj k.tmps (Jo.list hv) hfr hset;rw[<-Array.foldl_toList,Array.toList_zip];exact this
      have hF:K7 ρ (some l) (base.inRound l'):=⟨l',hl,rfl⟩
      refine wpIn_mono (ka ρ _ w _ Zx hi hF) ?_;rintro x1 a1 w1 ⟨ρ1,he1,hi1,st1⟩;cases he1;have hl1:=(st1.ext _ _ hl).1;obtain⟨k1,q1,q2,q3,q4,q5,q6,q7,q8,q9⟩:=Zcz (st2:=.busy) (pd2:=pd) (wm:=wm) hi1.rel hl1 ZmB ZxR;refine⟨_,run_beginRound q1 q2,?_⟩;have ZxA:({k1 with state:=.busy}:Loop)= {k1 with state:=.busy,pending:=pd}:=by rw[<-q3]
      rw[ZxA];have ZGf:Inv ρ1 n {s1 with h:=s1.h.put l (.loop .busy pd Xm n2 ps2 as2 bd2 df2)} a1 (w1.putObj l' (.loop {k1 with state:=.busy,pending:=pd})):=⟨q8,hi1.fr,hi1.ds⟩
      have st1':=st1.trans hr.lt q9;refine wpIn_mono (kb ρ1 _ _ _ (KB Zx st1'.size) ZGf ⟨l',hl1,rfl⟩) ?_;rintro x2 a2 w2 ⟨ρ2,he2,hi2,st2⟩;have hl2:=(st2.ext _ _ hl1).1;have st2':=st1'.trans hr.lt st2
      have fin:∀(st4:LoopState)(pd4:O Code)(b:Z),v=.bool b->h'=s2.h.put l (.loop st4 pd4 fr3 n3 ps3 as3 bd3 df3)->b=pd4.isNone->st4=(if pd4.isNone then .ready else .done) ->
       ∃v' w',(Instr.endRound l' pd4).run C.X.P w2=.ok v' w'/\Uz wm ρ h w (.ret v) h' (.returned v') w':=by
       rintro st4 pd4 b rfl rfl rfl rfl;obtain⟨k2,r1,r2,r3,r4,r5,r6,r7,r8,r9⟩:=Zcz (st2:=if pd4.isNone then .ready else .done) (pd2:=pd4) (wm:=wm) hi2.rel hl2 ZmB ZGj;exact⟨_,_,run_endRound pd4 r1,ρ2,.ret (.bool _),r8,st2'.trans hr.lt r9⟩
      cases he2 with
      | normal=>cases hk2;exact fin .ready none true rfl rfl rfl rfl
      | ret=>cases hk2;exact fin .done (some .ret) false rfl rfl rfl rfl
      | exit id=>cases hk2;exact fin .done (some (.exit id)) false rfl rfl rfl rfl
      | goto id=>cases hk2;exact fin .done (some (.goto id)) false rfl rfl rfl rfl
      | panic hv=>exact(hp ⟨_,rfl⟩).elim
     ·cases hk2
    ·cases hk
   ·cases hk
  ·cases hc
 ·cases hc
end
def ZAn(C:Cfg)(ih:Ql->O YL):Prop:=∀n wm rd (ops:GZ Oper) s s',C.draw ih n wm rd ops.toList s=some s' ->
 ∀id ρ a w F,wm<=s.h.size->Inv ρ n s a w->K7 ρ rd F->(Code.region id ops true).wpIn F 0 C.X.P (XJ wm n ρ s.h w .normal s') a w
def Zm5{C:Cfg}(Zo3:ZAn C ih)(HI:∀j r,ih j=some r->Ym C.X j r){c:Code}{n wm:Nat}{rd:O Nat}{s:Fs}{r:YL}(h:Wv C ih c n wm rd s=some r):Zcs C.X c n wm rd s r:=by
 cases c with
 | skip=>cases h;exact⟨_,_,rfl,fun ρ a w F Zx hi hF=>wpIn_skip ⟨ρ,.normal,hi,Stp.refl _ _ _ _⟩⟩
 | label l=>cases h;exact⟨_,_,rfl,fun ρ a w F Zx hi hF=>wpIn_label ⟨ρ,.normal,hi,Stp.refl _ _ _ _⟩⟩
 | ret=>cases h;exact⟨_,_,rfl,fun ρ a w F Zx hi hF=>wpIn_ret ⟨ρ,.ret,hi,Stp.refl _ _ _ _⟩⟩
 | exit id=>cases h;exact⟨_,_,rfl,fun ρ a w F Zx hi hF=>wpIn_exit ⟨ρ,.exit id,hi,Stp.refl _ _ _ _⟩⟩
 | goto l=>cases h;exact⟨_,_,rfl,fun ρ a w F Zx hi hF=>wpIn_goto ⟨ρ,.goto l,hi,Stp.refl _ _ _ _⟩⟩
 | seq a b=>exact Zpy HI h
 | cond c a b=>exact Zm4 HI h
 | block id c=>exact ZkB HI h
 | scope c=>exact Zky HI h
 | rangeFunc g ps Yg bd=>exact Qu HI h
 | refuse _=>cases h
 | loop c=>
   obtain⟨e,s',rfl,k⟩:=Zat.1 (HI _ _ h);exact⟨e,s',rfl,fun ρ a w F Zx hi hF=>ZbA (k ρ a w F Zx hi hF)⟩
 | region id ops d=>
   cases d with
   | true=>
     simp only[Wv,Cq1,Zm3]at h;split at h
     ·rename_i s' hs;cases h;exact⟨_,_,rfl,fun ρ a w F Zx hi hF=>Zo3 n wm rd ops s s' hs id ρ a w F Zx hi hF⟩
     ·cases h
   | false=>
     simp only[Wv,Cq0,Ze9]at h;split at h
     ·rename_i e s' hs;cases h;exact⟨_,_,rfl,fun ρ a w F Zx hi hF=>wpIn_region_list (Zj0 HI _ ops.toList s s' e hs hi Zx hF (fun _ _ _ hp=>hp))⟩
     ·cases h
def ZEM(C:Cfg)(ih:Ql->O YL):Prop:=∀c n wm rd s r mi,ZoD c s=some mi->ZjI C ih mi c n wm rd s=some r->Zss C.X c n wm rd s r
def Zvf{C:Cfg}(hmap:ZEM C ih)(Zo3:ZAn C ih)(HI:∀j r,ih j=some r->Ym C.X j r){j:Ql}{r:YL}(h':JY C ih j=some r):Ym C.X j r:=by
 cases j with
 | code c n wm rd s=>exact YX.2 (Zm5 Zo3 HI h')
 | loop c n wm rd s=>
   have h':Zfc C ih c n wm rd s=some r:=h';unfold Zfc at h';split at h'
   ·rename_i mi hmi;split at h'
    ·rename_i r' hr;cases h';exact Zat.2 (hmap c n wm rd s r mi hmi hr)
    ·exact Zat.2 (Zfb HI h')
   ·exact Zat.2 (Zfb HI h')
 | call f args wm h=>exact ZkA HI h'
 | round l args wm h=>exact U0 HI h'
 | dcall f args pm wm h=>exact Zdy HI h'
 | Xv c n wm pm s=>exact X5.2 (Q9 HI h')
 | leave fn wm pm s=>exact Q8 HI h'
end
section
variable{X:Ctx}{ih:Ql->O YL}
structure Yl(wm:Nat)(h h':H):Prop where
 size:h.size<=h'.size
 keep:∀i,i<wm->h'.at i=h.at i
 own:∀i,i<h.size->(h'.at i).own=true->(h.at i).own=true
 live:∀i,i<h.size->(h'.at i).live=true->(h.at i).live=true
def Yl.refl(wm:Nat)(h:H):Yl wm h h:=⟨K1 _,fun _ _=>rfl,fun _ _ x=>x,fun _ _ x=>x⟩
def Yl.trans{wm:Nat}{h h1 h2:H}(a:Yl wm h h1)(b:Yl wm h1 h2):Yl wm h h2:=
 ⟨KB a.size b.size,fun i hi=>(b.keep i hi).trans (a.keep i hi),fun i hi x=>a.own i hi (b.own i (Jx hi a.size) x),
  fun i hi x=>a.live i hi (b.live i (Jx hi a.size) x)⟩
def Kk{wm:Nat}{h:H}(A:YR)(hw:wm<=h.size):Yl wm h (h.push A):=by
 have e:∀i,i<h.size->(h.push A).at i=h.at i:=fun i hi=>by rw[H.Qd,if_neg V6]
 exact⟨by simp,fun i hi=>e i V6,fun i hi x=>by rwa[e i hi]at x,fun i hi x=>by rwa[e i hi]at x⟩
def Jv{wm:Nat}{h:H}{l:Nat}{A:YR}(hw:wm<=l)(ho:(h.at l).own=true):Yl wm h (h.put l A):=by
 have e:∀i,i≠l->(h.put l A).at i=h.at i:=fun i hi=>by rw[H.XP,if_neg (by simp[hi])]
 refine⟨by simp,fun i hi=>e i V6,fun i hi x=>?_,fun i hi x=>?_⟩
 ·by_cases hil:i=l
  ·subst hil;exact ho
  ·rwa[e i hil]at x
 ·by_cases hil:i=l
  ·subst hil;exact Ur ho
  ·rwa[e i hil]at x
def ZeD{wm:Nat}{h h':H}{E:Eff}(hw:wm<=h.size)(he:E.apply wm h=some h'):Yl wm h h':=by
 cases E with
 | none=>cases he;exact Yl.refl _ _
 | new A=>
   simp only[Eff.apply]at he;cases hA:A.own<;>rw[hA]at he<;>simp only[Cq1,Cq0]at he
   ·cases he
   ·cases he;exact Kk A hw
 | upd i A=>
   simp only[Eff.apply]at he;cases hA:(Nat.ble wm i&&(h.at i).own)<;>rw[hA]at he<;>simp only[Cq1,Cq0]at he
   ·cases he
   ·cases he;rw[Ba0]at hA;exact Jv (Nl0 hA.1) hA.2
 | grow i A=>
   simp only[Eff.apply]at he;cases hA:(Nat.ble wm i&&(h.at i).own&&A.own)<;>rw[hA]at he<;>simp only[Cq1,Cq0]at he
   ·cases he
   ·cases he;rw[Ba0,Ba0]at hA;exact(Jv (Nl0 hA.1.1) hA.1.2).trans (Kk A hw)
def QV:Ql->YL->Prop
 | .code _ _ wm _ s,r=>∃e s',r=.code e s'/\(wm<=s.h.size->Yl wm s.h s'.h)
 | .loop _ _ wm _ s,r=>∃e s',r=.code e s'/\(wm<=s.h.size->Yl wm s.h s'.h)
 | .call _ _ wm h,r=>∃e h',r=.fin e h'/\(wm<=h.size->Yl wm h h')
 | .round _ _ wm h,r=>∃e h',r=.fin e h'/\(wm<=h.size->Yl wm h h')
 | .leave _ wm _ s,r=>∃e h',r=.fin e h'/\(wm<=s.h.size->Yl wm s.h h')
 | .dcall _ _ _ wm h,r=>∃e h',r=.Zdb e h'/\(wm<=h.size->Yl wm h h')
 | .Xv _ _ wm _ s,r=>∃e pm s',r=.Xv e pm s'/\(wm<=s.h.size->Yl wm s.h s'.h)
def Yl.next{wm:Nat}{h h1 h2:H}(hw:wm<=h.size)(a:Yl wm h h1)(b:wm<=h1.size->Yl wm h1 h2):Yl wm h h2:=a.trans (b (KB hw a.size))
def Zgx{n:Nat}{s s':Fs}{dst:O Tmp}{v:N}(h:Zgy n s dst v=some s'):s'.h=s.h:=by
 rw[ZhM]at h;split at h
 ·cases h;rfl
 ·rename_i d;cases hd:(Nat.blt d n&&allowed s.wr d)<;>rw[hd]at h<;>simp only[Cq1,Cq0]at h
  ·cases h
  ·cases h;rfl
section
variable(HI:∀j r,ih j=some r->QV j r)
include HI
theorem JJ{f:GX}{args:GZ N}{wm:Nat}{h h':H}{e:UG}(hc:ih (.call f args wm h)=some (.fin e h'))(hw:wm<=h.size):Yl wm h h':=by
 obtain⟨_,_,e1,k⟩:=HI _ _ hc;cases e1;exact k hw
theorem ZdI{l:Nat}{args:GZ N}{wm:Nat}{h h':H}{e:UG}(hc:ih (.round l args wm h)=some (.fin e h'))(hw:wm<=h.size):Yl wm h h':=by
 obtain⟨_,_,e1,k⟩:=HI _ _ hc;cases e1;exact k hw
theorem UQ{c:Code}{n wm:Nat}{rd:O Nat}{s s':Fs}{e:XX}(hc:ih (.code c n wm rd s)=some (.code e s'))(hw:wm<=s.h.size):Yl wm s.h s'.h:=by
 obtain⟨_,_,e1,k⟩:=HI _ _ hc;cases e1;exact k hw
theorem Ua{c:Code}{n wm:Nat}{pm WV:PM}{s s':Fs}{e:XX}(hc:ih (.Xv c n wm pm s)=some (.Xv e WV s'))(hw:wm<=s.h.size):Yl wm s.h s'.h:=by
 obtain⟨_,_,_,e1,k⟩:=HI _ _ hc;cases e1;exact k hw
theorem ZrT{f:GX}{args:GZ N}{pm WV:PM}{wm:Nat}{h h':H}(hc:ih (.dcall f args pm wm h)=some (.Zdb WV h'))(hw:wm<=h.size):Yl wm h h':=by
 obtain⟨_,_,e1,k⟩:=HI _ _ hc;cases e1;exact k hw
theorem Zr6{YS:GX->Z}{n wm:Nat}{rd:O Nat}{dst:O Tmp}{s s':Fs}{nx:AN}{h':H}{e:XX}(h:WI YS ih n wm rd dst s nx h'=some (e,s'))(hw:wm<=h'.size):Yl wm h' s'.h:=by
 have go:∀{s1:Fs}{v:N},(match Zgy n s1 dst v with|some s=>some (XX.normal,s) | none=>none)=some (e,s')->s'.h=s1.h:=by
  intro s1 v hh;split at hh
  ·rename_i s2 hp;cases hh;exact Zgx hp
  ·cases hh
 unfold WI at h;dsimp only[Jp]at h;split at h
 ·rw[go h];exact Yl.refl _ _
 ·rw[go h];exact Yl.refl _ _
 ·rename_i f args;cases hp:YS f<;>rw[hp]at h<;>simp only[Cq1,Cq0]at h
  ·split at h
   ·rename_i v h2 hc;rw[go h];exact JJ HI hc hw
   ·rename_i v h2 hc;cases h;exact JJ HI hc hw
   ·cases h
  ·split at h
   ·rename_i v h2 hc;cases hpl:plain v<;>rw[hpl]at h<;>simp only[Cq1,Cq0]at h
    ·cases h
    ·rw[go h];exact Yl.refl _ _
   ·cases h
 ·split at h
  ·rename_i v h2 hc;rw[go h];exact ZdI HI hc hw
  ·rename_i v h2 hc;cases h;exact ZdI HI hc hw
  ·cases h
 ·split at h
  ·rw[go h];exact Yl.refl _ _
  ·cases h
 ·cases h
 ·cases h;exact Yl.refl _ _
theorem Zgz{YS:GX->Z}{n wm:Nat}{rd:O Nat}{ops:U Oper}:∀(l:U Oper)(s s':Fs)(e:XX),ZkJ X YS ih n wm rd ops l s=some (e,s')->wm<=s.h.size->Yl wm s.h s'.h:=by
 have step:∀(o:Oper)(s s':Fs)(e:XX),JO X YS ih n wm rd ops o s=some (e,s')->wm<=s.h.size->Yl wm s.h s'.h:=by
  intro o s s' e h hw;unfold JO at h;cases hok:okG ops o s.fr<;>rw[hok]at h<;>simp only[Gz,QP,Cq1,Cq0]at h
  ·cases h
  cases hwt:YZ ops o s.fr<;>rw[hwt]at h<;>simp only[Cq1,Cq0]at h
  ·split at h
   ·rename_i s2 hp;cases h;rw[Zgx hp];exact Yl.refl _ _
   ·cases h
  ·split at h
   ·split at h
    ·rename_i nx E ha h1 hE;exact(ZeD hw hE).next hw (Zr6 HI h)
    ·cases h
   ·cases h
 intro l
 induction l with
 | nil=>intro s s' e h hw;cases h;exact Yl.refl _ _
 | cons o l ihl=>
   intro s s' e h hw;simp only[ZkJ]at h;split at h
   ·rename_i s1 h1;exact(step o s s1 _ h1 hw).next hw (ihl s1 s' e h)
   ·rename_i v s1 h1;cases h;exact step o s s' _ h1 hw
   ·cases h
theorem ZpB{C:Cfg}{mi:MI}{n wm:Nat}{rd:O Nat}{s:Fs}{r:YL}(h:KH C ih mi n wm rd s=some r):∃e s',r=.code e s'/\(wm<=s.h.size->Yl wm s.h s'.h):=by
 unfold KH at h;split at h
 ·rename_i s1 h1;obtain⟨e,s2,rfl,k⟩:=HI _ _ h;exact⟨e,s2,rfl,fun hw=>(Zgz HI _ _ _ _ h1 hw).next hw k⟩
 ·rename_i e s1 _ h1;cases h;exact⟨_,_,rfl,fun hw=>Zgz HI _ _ _ _ h1 hw⟩
 ·cases h
omit HI in
theorem ZiG{c:Code}{s:Fs}{mi:MI}(h:ZoD c s=some mi):c=.seq (.region mi.id mi.ops false) mi.rest/\mi.ops.toList=mi.o::mi.l/\mi.o.op=.next (.tmp mi.t) false/\mi.o.guard=none/\
 s.fr.at mi.t=(V5 mi.it)/\s.h.at mi.it=.iter mi.m mi.since mi.Qb none/\s.h.at mi.m=.map mi.es mi.clock:=by
 unfold ZoD at h;split at h
 ·unfold Zw9 at h;split at h
  ·rename_i o l e1;split at h
   ·rename_i t e2 e3;unfold Zw8 at h;split at h
    ·rename_i it e4;split at h
     ·rename_i m since Qb e5;split at h
      ·rename_i es clock e6;cases h;exact⟨rfl,e1,e2,e3,e4,e5,e6⟩
      ·cases h
     ·cases h
    ·cases h
   ·cases h
  ·cases h
 ·cases h
theorem ZrK{C:Cfg}{mi:MI}{c:Code}{n wm:Nat}{rd:O Nat}{s:Fs}{r:YL}(hmi:ZoD c s=some mi)(h:ZjI C ih mi c n wm rd s=some r):∃e s',r=.code e s'/\(wm<=s.h.size->Yl wm s.h s'.h):=by
 obtain⟨_,_,_,_,_,hit,_⟩:=ZiG hmi;unfold ZjI ZmZ at h;generalize hb:Zlb mi n wm ((Zgn c).filter (allowed s.wr))=b at h;cases b with
 | false=>cases h
 | true=>
   obtain⟨_,_,_,Zrj,_,_⟩:=ZdL hb;simp only[Cq1]at h;generalize ZaZ C ih mi n rd _ _ s mi.es=b2 at h;cases b2 with
   | false=>cases h
   | true=>
     simp only[Cq1]at h;split at h
     ·rename_i e s2 h2;obtain⟨_,_,e1,k⟩:=ZpB HI h2;cases e1;have hk:wm<=s.h.size->Yl wm s.h s2.h:=fun hw=>(Jv Zrj (by rw[hit];rfl)).next hw k
      cases e with
      | normal=>cases h
      | exit _=>cases h;exact⟨_,_,rfl,hk⟩
      | goto _=>cases h;exact⟨_,_,rfl,hk⟩
      | ret=>cases h;exact⟨_,_,rfl,hk⟩
      | panic _=>cases h;exact⟨_,_,rfl,hk⟩
     ·cases h
theorem Zc2{c:Code}{n wm:Nat}{rd:O Nat}{s:Fs}{k:XX->Fs->O YL}{r:YL}(h:Zfk k (ih (.code c n wm rd s))=some r)
 (hk:∀e s1 r,k e s1=some r->∃e' s',r=.code e' s'/\(wm<=s1.h.size->Yl wm s1.h s'.h)):∃e s',r=.code e s'/\(wm<=s.h.size->Yl wm s.h s'.h):=by
 obtain⟨e,s1,h1,h2⟩:=QR h;obtain⟨e',s',rfl,k2⟩:=hk e s1 r h2;exact⟨e',s',rfl,fun hw=>(UQ HI h1 hw).next hw k2⟩
omit HI in
theorem here{wm:Nat}{e:XX}{s:Fs}{r:YL}(h:some (.code e s)=some r):∃e' s',r=.code e' s'/\(wm<=s.h.size->Yl wm s.h s'.h):=by
 cases h;exact⟨_,_,rfl,fun _=>Yl.refl _ _⟩
theorem Zkz{n wm:Nat}{rd:O Nat}{l:Nat}{s:Fs}{f:GX}{args:GZ N}{r:YL}(h:Q5 ih n wm rd l s (ih (.call f args wm s.h))=some r):
 ∃e s',r=.code e s'/\(wm<=s.h.size->wm<=l->Yl wm s.h s'.h):=by
 unfold Q5 at h;split at h
 ·rename_i v h2 hc;split at h
  ·rename_i st pd fr n' ps Yg bd df hat;cases hst:(st==LoopState.busy)<;>rw[hst]at h<;>simp only[Cq1,Cq0]at h
   ·split at h
    ·cases h;exact⟨_,_,rfl,fun hw hl=>(JJ HI hc hw).trans (Jv hl (by rw[hat];rfl))⟩
    ·obtain⟨e,s',rfl,k⟩:=HI _ _ h;exact⟨_,_,rfl,fun hw hl=>((JJ HI hc hw).trans (Jv hl (by rw[hat];rfl))).next hw k⟩
   ·cases h
  ·cases h
 ·rename_i v h2 hc;cases h;exact⟨_,_,rfl,fun hw _=>JJ HI hc hw⟩
 ·cases h
theorem Zdx{C:Cfg}{g:GV}{n wm:Nat}{rd:O Nat}{l:Nat}{s:Fs}{r:YL}(h:Xt C ih g n wm rd l s=some r):
 ∃e s',r=.code e s'/\(wm<=s.h.size->wm<=l->Yl wm s.h s'.h):=by
 unfold Xt at h;split at h
 ·split at h
  ·exact Zkz HI h
  ·cases h
 ·cases h
end
def Zkb(C:Cfg):Prop:=∀ih,(∀j r,ih j=some r->QV j r)->∀n wm rd ops s s',C.draw ih n wm rd ops s=some s'->wm<=s.h.size->Yl wm s.h s'.h
def Zzk{C:Cfg}(hd:Zkb C)(HI:∀j r,ih j=some r->QV j r)(j:Ql)(r:YL)(h:JY C ih j=some r):QV j r:=by
 cases j with
 | code c n wm rd s=>
   simp only[JY]at h;cases c with
   | skip=>exact here h
   | label l=>exact here h
   | ret=>exact here h
   | exit id=>exact here h
   | goto l=>exact here h
   | seq a b=>
     refine Zc2 HI h fun e s1 r hk=>?_
     cases e with
     | normal=>exact HI _ _ hk
     | exit _=>exact here hk
     | goto _=>exact here hk
     | ret=>exact here hk
     | panic _=>exact here hk
   | cond c a b=>
     simp only[Wv,ZjL]at h;split at h
     ·rename_i t _;cases t with
      | true=>exact HI (.code a n wm rd s) _ h
      | false=>exact HI (.code b n wm rd s) _ h
     ·cases h
   | block id c=>
     refine Zc2 HI h fun e s1 r hk=>?_
     cases e with
     | exit k=>
       dsimp only at hk;cases hb:Nat.beq k id<;>rw[hb]at hk<;>exact here hk
     | normal=>exact here hk
     | goto _=>exact here hk
     | ret=>exact here hk
     | panic _=>exact here hk
   | scope c=>
     refine Zc2 HI h fun e s1 r hk=>?_
     cases e with
     | exit k=>exact here hk
     | normal=>exact here hk
     | goto _=>cases hk
     | ret=>exact here hk
     | panic _=>exact here hk
   | loop c=>
     obtain⟨e,s',rfl,k⟩:=HI _ _ h;exact⟨e,s',rfl,k⟩
   | refuse _=>cases h
   | rangeFunc g ps Yg bd=>
     simp only[Wv,Zfa]at h;split at h
     ·obtain⟨e,s',rfl,k⟩:=Zdx HI h;exact⟨e,s',rfl,fun hw=>((Kk _ hw).trans (Kk _ (by simp;omega))).next hw (fun hw2=>k hw2 V6)⟩
     ·split at h
      ·obtain⟨e,s',rfl,k⟩:=Zdx HI h;exact⟨e,s',rfl,fun hw=>(Kk _ hw).next hw (fun hw2=>k hw2 hw)⟩
      ·cases h
   | region id ops d=>
     cases d with
     | true=>
       simp only[Wv,Cq1,Zm3]at h;split at h
       ·rename_i s' hs;cases h;exact⟨_,_,rfl,fun hw=>hd ih HI n wm rd _ s s' hs hw⟩
       ·cases h
     | false=>
       simp only[Wv,Cq0,Ze9]at h;split at h
       ·rename_i e s' hs;cases h;exact⟨_,_,rfl,fun hw=>Zgz HI _ _ _ _ hs hw⟩
       ·cases h
 | loop c n wm rd s=>
   simp only[JY,Zfc]at h
   have hL:ZjJ ih c n wm rd s=some r->QV (.loop c n wm rd s) r:=by
    intro h;refine Zc2 HI h fun e s1 r hk=>?_
    cases e with
    | normal=>exact HI _ _ hk
    | exit _=>exact here hk
    | goto _=>exact here hk
    | ret=>exact here hk
    | panic _=>exact here hk
   split at h
   ·rename_i mi hmi;split at h
    ·rename_i r' hr;cases h;exact ZrK HI hmi hr
    ·exact hL h
   ·exact hL h
 | call f args wm h0=>
   simp only[JY,ZhG]at h;split at h
   ·split at h
    ·cases h;exact⟨_,_,rfl,fun _=>Yl.refl _ _⟩
    ·cases h
   split at h
   ·cases h;exact⟨_,_,rfl,fun hw=>Kk _ hw⟩
   unfold Zm7 at h;split at h
   ·rename_i fn hfn;split at h
    ·rename_i c hb;cases hn:Nat.ble args.toList.length fn.ntmps<;>rw[hn]at h<;>simp only[Cq1,Cq0]at h
     ·cases h
     ·obtain⟨e,s1,h1,h2⟩:=QR h;split at h2
      ·rename_i pm hpm;obtain⟨e,h',rfl,k⟩:=HI _ _ h2;exact⟨e,h',rfl,fun hw=>(UQ HI h1 hw).next hw k⟩
      ·cases h2
    ·cases h
   ·cases h
 | leave fn wm pm s=>
   simp only[JY,J5]at h;split at h
   ·split at h
    ·split at h
     ·cases h;exact⟨_,_,rfl,fun _=>Yl.refl _ _⟩
     ·cases h
    ·cases h;exact⟨_,_,rfl,fun _=>Yl.refl _ _⟩
    ·cases h
   ·split at h
    ·split at h
     ·rename_i r0 _ _ hat;cases hb:Nat.ble wm r0<;>rw[hb]at h<;>simp only[Cq1,Cq0]at h
      ·cases h
      ·obtain⟨e,h',rfl,k⟩:=HI _ _ h;exact⟨e,h',rfl,fun hw=>(Jv (Nl0 hb) (by rw[hat];rfl)).next hw k⟩
     ·cases h
    ·split at h
     ·split at h
      ·rename_i WV h' hc;obtain⟨e,h2,rfl,k⟩:=HI _ _ h;exact⟨e,h2,rfl,fun hw=>(ZrT HI hc hw).next hw k⟩
      ·cases h
     ·cases h
    ·cases h
 | dcall f args pm wm h0=>
   simp only[JY,Zfd]at h;split at h
   ·rename_i fn hfn;split at h
    ·rename_i c hb;cases hn:Nat.ble args.toList.length fn.ntmps<;>rw[hn]at h<;>simp only[Cq1,Cq0]at h
     ·cases h
     ·obtain⟨e,pm1,s1,h1,h2⟩:=ZhI h;split at h2
      ·cases h2;exact⟨_,_,rfl,fun hw=>Ua HI h1 hw⟩
      ·cases h2;exact⟨_,_,rfl,fun hw=>Ua HI h1 hw⟩
      ·cases h2
    ·cases h
   ·cases h
 | round l args wm h0=>
   simp only[JY,Za6]at h;split at h
   ·rename_i st0 pd0 fr n ps Yg bd df0 hat;cases hb:(Nat.ble wm l&&Nat.beq args.toList.length ps.toList.length)<;>rw[hb]at h<;>simp only[Cq1,Cq0]at h
    ·cases h
    rw[Ba0]at hb;have ZmB:=Nl0 hb.1;split at h
    ·obtain⟨e1,s1,h1,h2⟩:=QR h;unfold Uw at h2;split at h2
     ·split at h2
      ·rename_i pd Xm n2 ps2 as2 bd2 df2 ZxR;obtain⟨e2,s2,h3,h4⟩:=QR h2;unfold Qt at h4;split at h4
       ·rename_i st3 pd3 fr3 n3 ps3 as3 bd3 df3 ZGj
        have key:∀A,wm<=h0.size->Yl wm h0 (s2.h.put l A):=fun A hw=>
         (((UQ HI h1 hw).trans (Jv ZmB (by rw[ZxR];rfl))).next hw (fun hw2=>UQ HI h3 hw2)).trans (Jv ZmB (by rw[ZGj];rfl))
        have ZNW:wm<=h0.size->Yl wm h0 s2.h:=fun hw=>
         ((UQ HI h1 hw).trans (Jv ZmB (by rw[ZxR];rfl))).next hw (fun hw2=>UQ HI h3 hw2)
        split at h4<;>first | (cases h4;exact⟨_,_,rfl,key _⟩) | cases h4 | (split at h4<;>first | (cases h4;exact⟨_,_,rfl,ZNW⟩) | cases h4)
       ·cases h4
      ·cases h2
     ·cases h2
    ·cases h
   ·cases h
 | Xv c n wm pm s=>
   have ZwI:∀(c:Code),ZaD ih c n wm pm s=some r->QV (.Xv c n wm pm s) r:=by
    intro c h;obtain⟨e1,s1,h1,h2⟩:=QR h;cases h2;exact⟨_,_,_,rfl,fun hw=>UQ HI h1 hw⟩
   simp only[JY,Kb]at h;split at h
   ·obtain⟨e,pm1,s1,h1,h2⟩:=ZhI h;cases e with
    | normal=>
      obtain⟨e,pm2,s2,rfl,k⟩:=HI _ _ h2;exact⟨_,_,_,rfl,fun hw=>(Ua HI h1 hw).next hw k⟩
    | exit _=>cases h2;exact⟨_,_,_,rfl,fun hw=>Ua HI h1 hw⟩
    | goto _=>cases h2;exact⟨_,_,_,rfl,fun hw=>Ua HI h1 hw⟩
    | ret=>cases h2;exact⟨_,_,_,rfl,fun hw=>Ua HI h1 hw⟩
    | panic _=>cases h2;exact⟨_,_,_,rfl,fun hw=>Ua HI h1 hw⟩
   ·rename_i c a b;split at h
    ·rename_i t hc;cases t with
     | true=>exact HI (.Xv a n wm pm s) _ h
     | false=>exact HI (.Xv b n wm pm s) _ h
    ·cases h
   ·rename_i id ops d;cases hd:(!d&&ops.toList.any isRecover)<;>rw[hd]at h<;>simp only[Cq1,Cq0]at h
    ·exact ZwI _ h
    ·split at h
     ·rename_i WV s' hs;cases h;refine⟨_,_,_,rfl,fun hw=>?_⟩
      have fin:∀{o:Oper}{p p':PM}{t t':Fs}{v:N},(match Zgy n t o.dst v with|some s=>some (p,s) | none=>none)=some (p',t')->t'.h=t.h:=by
       intro o p p' t t' v hh;split at hh
       ·rename_i hp;cases hh;exact Zgx hp
       ·cases hh
      have one:∀(o:Oper)(p p':PM)(t t':Fs),dop C.X n wm ops.toList o p t=some (p',t')->wm<=t.h.size->Yl wm t.h t'.h:=by
       intro o p p' t t' h1 hw;unfold dop at h1;dsimp only at h1;cases hok:okG ops.toList o t.fr<;>rw[hok]at h1<;>simp only[Gz,QP,Cq1,Cq0]at h1
       ·cases h1
       cases hwt:YZ ops.toList o t.fr<;>rw[hwt]at h1<;>simp only[Cq1,Cq0]at h1
       ·rw[fin h1];exact Yl.refl _ _
       ·split at h1
        ·split at h1
         ·rename_i nx E ha h2 hE;have k:=ZeD hw hE;split at h1
          ·rw[fin h1];exact k
          ·rw[fin h1];exact k
          ·split at h1
           ·rw[fin h1];exact k
           ·rw[fin h1];exact k
          ·cases h1
         ·cases h1
        ·cases h1
      have all:∀(l:U Oper)(p p':PM)(t t':Fs),ZpI C.X n wm ops.toList l p t=some (p',t')->wm<=t.h.size->Yl wm t.h t'.h:=by
       intro l
       induction l with
       | nil=>intro p p' t t' h1 hw;cases h1;exact Yl.refl _ _
       | cons o l ihl=>
         intro p p' t t' h1 hw;simp only[ZpI]at h1;split at h1
         ·rename_i p1 t1 h2;exact(one o p p1 t t1 h2 hw).next hw (ihl p1 p' t1 t' h1)
         ·cases h1
      exact all _ _ _ _ _ hs hw
     ·cases h
   ·exact ZwI _ h
def ZCP{C:Cfg}(hd:Zkb C):∀(n:Nat)(j:Ql)(r:YL),ev C n j=some r->QV j r:=by
 intro n
 induction n with
 | zero=>intro j r h;cases h
 | succ n ihn=>intro j r h;exact Zzk hd ihn j r h
end
section
variable{X:Ctx}{ih:Ql->O YL}
structure Kh(M:Nat->Prop)(ρ:Ren)(h:H)(w:World)(ρ':Ren)(w':World):Prop where
 ext:ρ.le ρ'
 os:w'.os=w.os
 tape:w'.tape=w.tape
 output:w'.output=w.output
 Xc:w.heap.size<=w'.heap.size
 frame:∀b,b<w.heap.size->(∀i d,M i->ρ i=some (b,d)->(h.at i).own=true->False)->w'.heap[b]? =w.heap[b]?
 JH:∀i b d,ρ i=none->ρ' i=some (b,d)->h.size<=i/\(w.heap.size<=b\/∃j d',M j/\ρ j=some (b,d')/\(h.at j).own=true)
structure J2(M:Nat->Prop)(h h':H):Prop where
 size:h.size<=h'.size
 keep:∀i,i<h.size->¬ M i->h'.at i=h.at i
 own:∀i,i<h.size->(h'.at i).own=true->(h.at i).own=true
 live:∀i,i<h.size->(h'.at i).live=true->(h.at i).live=true
def Stp.toM{wm:Nat}{ρ ρ':Ren}{h h':H}{w w':GY}(a:Stp wm ρ h w ρ' h' w'):Kh (fun i=>wm<=i) ρ h w ρ' w':=
 ⟨a.ext,a.os,a.tape,a.output,a.Xc,a.frame,a.JH⟩
def Kh.weaken{M M':Nat->Prop}{ρ ρ':Ren}{h:H}{w w':GY}(hM:∀i,i<h.size->M i->M' i)(hd:∀i p,ρ i=some p->i<h.size)(a:Kh M ρ h w ρ' w'):Kh M' ρ h w ρ' w':=
 ⟨a.ext,a.os,a.tape,a.output,a.Xc,fun b hb hno=>a.frame b hb fun i d hi hr=>hno i d (hM i (hd _ _ hr) hi) hr,
  fun i b d e e'=>let⟨x,y⟩:=a.JH i b d e e';⟨x,y.imp id fun⟨j,d',p,q,r⟩=>⟨j,d',hM j (hd _ _ q) p,q,r⟩⟩⟩
def Kh.trans{M:Nat->Prop}{ρ ρ' Zv0:Ren}{h h':H}{w w' w'':GY}(hd:∀i p,ρ i=some p->i<h.size)(hs:h.size<=h'.size)(ho:∀i,i<h.size->(h'.at i).own=true->(h.at i).own=true)
 (a:Kh M ρ h w ρ' w') (b:Kh M ρ' h' w' Zv0 w''):Kh M ρ h w Zv0 w'' where
 ext:=Ren.le_trans a.ext b.ext
 os:=b.os.trans a.os
 tape:=b.tape.trans a.tape
 output:=b.output.trans a.output
 Xc:=KB a.Xc b.Xc
 frame k hk hno:=by
  rw[b.frame k (Jx hk a.Xc) ?_,a.frame k hk hno];intro i d hi hr hown;cases e:ρ i with
  | some p=>
    have e':=(a.ext _ _ e).1;rw[hr]at e';cases e';exact hno i d hi e (ho i (hd _ _ e) hown)
  | none=>
    rcases(a.JH i k d e hr).2 with h1|⟨j,d',h1,h2,h3⟩
    ·omega
    ·exact hno j d' h1 h2 h3
 JH i k d e e'':=by
  cases e':ρ' i with
  | some p=>
    have e2:=(b.ext _ _ e').1;rw[e'']at e2;cases e2;exact a.JH i k d e e'
  | none=>
    obtain⟨h1,h2⟩:=b.JH i k d e' e'';refine⟨KB hs h1,?_⟩;rcases h2 with h2|⟨j,d',j1,j2,j3⟩
    ·exact .inl (KB a.Xc h2)
    ·cases ej:ρ j with
     | some p=>
       have e2:=(a.ext _ _ ej).1;rw[j2]at e2;cases e2;exact .inr ⟨j,d',j1,ej,ho j (hd _ _ ej) j3⟩
     | none=>exact(a.JH j k d' ej j2).2
def J2.trans{M:Nat->Prop}{h h1 h2:H}(a:J2 M h h1)(b:J2 M h1 h2):J2 M h h2:=
 ⟨KB a.size b.size,fun i hi hm=>(b.keep i (Jx hi a.size) hm).trans (a.keep i hi hm),
  fun i hi x=>a.own i hi (b.own i (Jx hi a.size) x),fun i hi x=>a.live i hi (b.live i (Jx hi a.size) x)⟩
def Yl.toM{wm:Nat}{h h':H}(a:Yl wm h h'):J2 (fun i=>wm<=i) h h':=⟨a.size,fun i _ hm=>a.keep i V6,a.own,a.live⟩
def J2.weaken{M M':Nat->Prop}{h h':H}(hM:∀i,i<h.size->M i->M' i)(a:J2 M h h'):J2 M' h h':=⟨a.size,fun i hi hm=>a.keep i hi fun x=>hm (hM i hi x),a.own,a.live⟩
def Eff.tgt:Eff->O Nat
 | .upd i _=>some i
 | .grow i _=>some i
 | _=>Option.none
def Eff.ZI5{wm:Nat}{ρ ρ':Ren}{h h':H}{w w':GY}{E:Eff}(r:Rel ρ h w)(Zx:wm<=h.size)(s:Same w w')(ha:E.apply wm h=some h')(hr:E.real ρ h w ρ' w'):
 Kh (fun x=>E.tgt=some x) ρ h w ρ' w'/\J2 (fun x=>E.tgt=some x) h h'/\∀x,E.tgt=some x->wm<=x:=by
 obtain⟨_,st⟩:=Eff.sound r Zx s ha hr;have kh:=ZeD Zx ha;refine⟨⟨st.ext,s.os,s.tape,s.output,st.Xc,fun b hb hno=>?_,fun i b d e e'=>?_⟩,⟨kh.size,fun i hi hm=>?_,kh.own,kh.live⟩,fun x hx=>?_⟩
 ·cases E with
  | none=>obtain⟨rfl,hw⟩:=hr;rw[hw]
  | new A=>obtain⟨l,rfl,⟨o,hw⟩,hA⟩:=hr;exact ZbJ hw hb
  | upd i A=>
    obtain⟨rfl,b',d,hi,hsz,hk,hA⟩:=hr;refine hk b fun e=>?_
    subst e;simp only[Eff.apply]at ha;cases hc:(Nat.ble wm i&&(h.at i).own)<;>rw[hc]at ha<;>simp at ha
    rw[Ba0]at hc;exact hno i d rfl hi hc.2
  | grow i A=>
    simp only[Eff.apply]at ha;cases hc:(Nat.ble wm i&&(h.at i).own&&A.own)<;>rw[hc]at ha<;>simp at ha
    rw[Ba0,Ba0]at hc;obtain⟨b',d,hi,⟨d',l,rfl,hsz,hk,hA⟩|⟨l,rfl,⟨o,hw⟩,hA⟩⟩:=hr
    ·refine hk b fun e=>?_
     subst e;exact hno i d rfl hi hc.1.2
    ·exact ZbJ hw hb
 ·refine⟨(st.JH i b d e e').1,?_⟩;cases E with
  | none=>obtain⟨rfl,hw⟩:=hr;rw[e]at e';cases e'
  | new A=>
    obtain⟨l,rfl,_⟩:=hr;by_cases hii:i=h.size
    ·subst hii;rw[Ren.add_same]at e';cases e';exact .inl V7
    ·rw[(Ren.J7 hii).1]at e';rw[e]at e';cases e'
  | upd i A=>obtain⟨rfl,_⟩:=hr;rw[e]at e';cases e'
  | grow i0 A=>
    simp only[Eff.apply]at ha;cases hc:(Nat.ble wm i0&&(h.at i0).own&&A.own)<;>rw[hc]at ha<;>simp at ha
    rw[Ba0,Ba0]at hc;obtain⟨b',d',hi,⟨d2,l,rfl,hsz,hk,hA⟩|⟨l,rfl,⟨o,hw⟩,hA⟩⟩:=hr
    ·by_cases hii:i=h.size
     ·subst hii;rw[Ren.add_same]at e';cases e';exact .inr ⟨i0,d',rfl,hi,hc.1.2⟩
     ·rw[(Ren.J7 hii).1]at e';rw[e]at e';cases e'
    ·by_cases hii:i=h.size
     ·subst hii;rw[Ren.add_same]at e';cases e';exact .inl V7
     ·rw[(Ren.J7 hii).1]at e';rw[e]at e';cases e'
 ·cases E with
  | none=>cases ha;rfl
  | new A=>
    simp only[Eff.apply]at ha;cases hA:A.own<;>rw[hA]at ha<;>simp at ha
    subst ha;rw[H.Qd,if_neg V6]
  | upd i0 A=>
    simp only[Eff.apply]at ha;cases hc:(Nat.ble wm i0&&(h.at i0).own)<;>rw[hc]at ha<;>simp at ha
    subst ha;rw[H.XP,if_neg fun x=>hm (by rw[x.1];rfl)]
  | grow i0 A=>
    simp only[Eff.apply]at ha;cases hc:(Nat.ble wm i0&&(h.at i0).own&&A.own)<;>rw[hc]at ha<;>simp at ha
    subst ha;rw[H.Qd,H.size_put,if_neg V6,H.XP,if_neg fun x=>hm (by rw[x.1];rfl)]
 ·cases E with
  | none=>cases hx
  | new A=>cases hx
  | upd i0 A=>
    cases hx;simp only[Eff.apply]at ha;cases hc:(Nat.ble wm x&&(h.at x).own)<;>rw[hc]at ha<;>simp at ha
    rw[Ba0]at hc;exact Nl0 hc.1
  | grow i0 A=>
    cases hx;simp only[Eff.apply]at ha;cases hc:(Nat.ble wm x&&(h.at x).own&&A.own)<;>rw[hc]at ha<;>simp at ha
    rw[Ba0,Ba0]at hc;exact Nl0 hc.1.1
def ZjN(h:H):Nat->Nat->Z
 | 0,_=>true
 | k+1,y=>bif(h.at y).live then false else ZjN h k (y+1)
def ZpM{h:H}:∀{k y:Nat},ZjN h k y=true->∀z,y<=z->z<y+k->(h.at z).live=false:=by
 intro k
 induction k with
 | zero=>intro y _ z h1 h2;omega
 | succ k ih=>
   intro y hd z h1 h2;unfold ZjN at hd;cases e:(h.at y).live<;>rw[e]at hd<;>simp only[Cq1,Cq0]at hd
   ·rcases Nat.eq_or_lt_of_le h1 with q|q
    ·subst q;exact e
    ·exact ih hd z q V6
   ·cases hd
def ZkZ(skip:Z)(wm:Nat)(args:GZ N)(h:H):O Nat:=
 bif skip then none else match args.toList with
  | .slice (some a) _ _::_=>bif Nat.ble wm a.block&&Nat.blt a.block h.size&&ZjN h (h.size-(a.block+1)) (a.block+1) then some a.block else none
  | _=>none
def Zis{skip:Z}{wm:Nat}{args:GZ N}{h:H}{x:Nat}(e:ZkZ skip wm args h=some x):skip=false/\wm<=x/\x<h.size/\∀z,x<z->z<h.size->(h.at z).live=false:=by
 unfold ZkZ at e;cases skip with
 | true=>cases e
 | false=>
   simp only[Cq0]at e;split at e
   ·rename_i a _ _ _ _;cases hc:(Nat.ble wm a.block&&Nat.blt a.block h.size&&ZjN h (h.size-(a.block+1)) (a.block+1))<;>rw[hc]at e<;>simp only[Cq1,Cq0]at e
    ·cases e
    ·cases e;rw[Ba0,Ba0]at hc;exact⟨rfl,Nl0 hc.1.1,by have:=hc.1.2;rwa[G0]at this,fun z h1 h2=>ZpM hc.2 z h1 V6⟩
   ·cases e
def Kh.ZkO{M M':Nat->Prop}{ρ ρ':Ren}{h:H}{w w':GY}(hM:∀i,i<h.size->M i->(h.at i).own=true->M' i)(hd:∀i p,ρ i=some p->i<h.size)(a:Kh M ρ h w ρ' w'):Kh M' ρ h w ρ' w':=
 ⟨a.ext,a.os,a.tape,a.output,a.Xc,fun b hb hno=>a.frame b hb fun i d hi hr ho=>hno i d (hM i (hd _ _ hr) hi ho) hr ho,
  fun i b d e e'=>let⟨x,y⟩:=a.JH i b d e e';⟨x,y.imp id fun⟨j,d',p,q,r⟩=>⟨j,d',hM j (hd _ _ q) p r,q,r⟩⟩⟩
def Yl.ZI3{x:Nat}{h h':H}(a:Yl x h h')(hd:∀z,x<z->z<h.size->(h.at z).live=false):J2 (fun y=>x=y) h h':=by
 refine⟨a.size,fun i hi hm=>?_,a.own,a.live⟩;rcases Gl i x with q|q
 ·exact a.keep i q
 ·have hl:=hd i V6 hi;have h1:=Ug (A:=h.at i) (by rw[hl];simp);rw[h1];exact Ug fun z=>by rw[a.live i hi z]at hl;cases hl
def Jj(X:Ctx)(YS:GX->Z)(ih:Ql->O YL)(n wm:Nat)(wr:O Nat)(free:Z)(ops:U Oper)(o:Oper)(fr:Fr)(h:H):O (O Nat×N×H):=
 bif(match o.dst with|none=>true|some d=>Nat.blt d n&&allowed wr d) then
  bif !okG ops o fr then none else bif YZ ops o fr then
   match Xx X h (YI fr) o with
   | some (nx,E)=>match E.apply wm h with
     | some h1=>match nx with
       | .val v=>some (E.tgt,v,h1)
       | .skip=>some (E.tgt,undef,h1)
       | .enter f args=>match ZkZ (free||YS f||E.tgt.isSome) wm args h1 with
         | some x=>match ih (.call f args x h1) with
           | some (.fin (.ret v) h2)=>some (some x,v,h2)
           | _=>none
         | none=>match ih (.call f args (bif free && !YS f then wm else h1.size) h1) with
           | some (.fin (.ret v) h2)=>bif YS f&&plain v then some (E.tgt,v,h1) else some (E.tgt,v,h2)
           | _=>none
       | .round l args=>bif free then match ih (.round l args wm h1) with
           | some (.fin (.ret v) h2)=>some (E.tgt,v,h2)
           | _=>none
         else none
       | _=>none
     | none=>none
   | none=>none
  else some (none,undef,h)
 else none
def MOf(free:Z)(wm:Nat)(t:O Nat):Nat->Prop:=fun x=>if free then wm<=x else t=some x
def looks(ops:U Oper)(o:Oper):U Tmp:=
 (match o.guard with
  | some (j,_)=>match ops[j]? with
    | some g=>g.dst.toList
    | none=>[]
  | none=>[])++o.op.operands.toList.filterMap fun | .tmp t=>some t|_=>none
def Zcd{ρ:Ren}{fr:Fr}{a:Act}(ops:GZ Oper)(o:Oper)(hf:∀t∈looks ops.toList o,XG (fr.at t)=false->VR ρ (fr.at t) (a.tmps.getD t undef))(hok:okG ops.toList o fr=true):
 Region.wanted o (yielded ops a.tmps)=YZ ops.toList o fr:=by
 unfold Region.wanted YZ;cases hg:o.guard with
 | none=>rfl
 | some p=>
   obtain⟨j,want⟩:=p
   have key:yielded ops a.tmps j=Ww ops.toList fr j:=by
    unfold yielded Ww;rw[<-G7];cases ho:ops.toList[j]? with
    | none=>rfl
    | some o'=>
      cases hd:o'.dst with
      | none=>simp[hd]
      | some d=>
        have:=hf d (by unfold looks;rw[hg];simp[ho,hd]) (by
         unfold okG at hok;rw[hg]at hok;simp only[ho,hd,Ba0]at hok
         simpa using hok.1)
        simp only[Bq0,hd];cases ht:a.tmps[d]? with
        | none=>
          rw[Q2,ht]at this;simp only[Option.getD_none]at this;generalize fr.at d=x at this;unfold undef at this;cases this
          rfl
        | some y=>
          rw[Q2,ht]at this;simp only[Option.getD_some]at this;generalize fr.at d=x at this;cases this<;>rfl
   simp only[key];cases Ww ops.toList fr j with
   | none=>rfl
   | some b=>cases want<;>cases b<;>rfl
def Zg6{ρ:Ren}{fr:Fr}{a:Act}(ops:GZ Oper)(o:Oper)(hf:∀t∈looks ops.toList o,XG (fr.at t)=false->VR ρ (fr.at t) (a.tmps.getD t undef)){h:H}{nx:AN}{E:Eff}
 (ha:Xx X h (YI fr) o=some (nx,E)):∃ev2,EvR ρ ev2 a.eval/\Xx X h ev2 o=some (nx,E):=by
 classical
 refine⟨fun x=>if x∈o.op.operands then YI fr x else none,fun x v hx=>?_,?_⟩
 ·dsimp only at hx;split at hx
  ·rename_i hm;cases x with
   | tmp t=>
     simp only[YI]at hx;cases hany:XG (fr.at t)<;>rw[hany]at hx<;>simp only[Cq1,Cq0]at hx
     ·cases hx;exact hf t (by unfold looks;simp only[Q1,List.mem_filterMap];exact .inr ⟨.tmp t,by simpa using hm,rfl⟩) hany
     ·cases hx
   | const u=>
     simp only[YI]at hx;cases hp:plain u<;>rw[hp]at hx<;>simp at hx
     subst hx;exact VR.ZL hp
   | func f=>
     simp only[YI,Q4]at hx;subst hx;exact .func (.func f) #[] #[] #[] #[] (fun l e=>by cases e) rfl rfl (fun i v v' e=>by simp at e) (fun i v v' e=>by simp at e)
   | global g=>cases hx
  ·cases hx
 ·rw[<-ha];exact ZlL X h o fun x hx=>by simp[hx]
def Qj(P:GW)(wm:Nat)(rd:O Nat)(ops:GZ Oper)(o:Oper)(M:Nat->Prop)(fr:Fr)(h:H)(v:N)(h':H):Prop:=
 ∀(ρ:Ren)(a:Act)(w:GY)(F:Fence)(K:Act->GY->Prop)(Q:Exit->Act->GY->Prop),Rel ρ h w->wm<=h.size->(∀t∈looks ops.toList o,XG (fr.at t)=false->VR ρ (fr.at t) (a.tmps.getD t undef))->K7 ρ rd F ->
   (∀ρ' v' w',VR ρ' v v'->Rel ρ' h' w'->Kh M ρ h w ρ' w'->K (a.put o.dst v') w') ->
   if Region.wanted o (yielded ops a.tmps) then o.wpIn F 0 P a w K Q else(∀f,o.about P w a.eval=some f->F.fn f)/\K (a.put o.dst undef) w
def Kh.refl(M:Nat->Prop)(ρ:Ren)(h:H)(w:GY):Kh M ρ h w ρ w:=
 ⟨Ren.le_refl ρ,rfl,rfl,rfl,K1 _,fun _ _ _=>rfl,fun i b d e e'=>by rw[e]at e';cases e'⟩
def JC{YS:GX->Z}(HI:∀j r,ih j=some r->Ym X j r)(HK:∀j r,ih j=some r->QV j r){n wm:Nat}{wr rd:O Nat}{free:Z}{ops:GZ Oper}{o:Oper}{fr:Fr}{h h':H}{t:O Nat}{v:N}
 (hs:Jj X YS ih n wm wr free ops.toList o fr h=some (t,v,h')):Qj X.P wm rd ops o (MOf free wm t) fr h v h':=by
 intro ρ a w F K Q r Zx hf hF hK;unfold Jj at hs;cases hd:(match o.dst with|none=>true|some d=>Nat.blt d n&&allowed wr d)<;>rw[hd]at hs<;>simp only[Cq1,Cq0]at hs
 ·cases hs
 cases hok:okG ops.toList o fr<;>rw[hok]at hs<;>simp only[Gz,QP,Cq1,Cq0]at hs
 ·cases hs
 rw[Zcd ops o hf hok];cases hwt:YZ ops.toList o fr<;>rw[hwt]at hs<;>simp only[Cq1,Cq0]at hs
 ·cases hs;rw[if_neg (by simp)];exact⟨fun f hab=>(KE hF f).2 (Zec (ρ:=ρ) (fun t ho hx=>hf t (G4 _ (by rw[ho];exact List.mem_filterMap.2 ⟨.tmp t,by simp[Op.operands,Call.operands],rfl⟩)) hx) hok hwt hab),hK ρ _ w (VR.undef ρ) r (Kh.refl _ _ _ _)⟩
 ·rw[if_pos rfl];split at hs
  ·rename_i nx E ha;split at hs
   ·rename_i h1 hE;obtain⟨ev2,e1,e2⟩:=Zg6 ops o hf ha;obtain⟨ρ1,w1,p1,p2,p3⟩:=ZaH r e1 e2;obtain⟨r1,st1⟩:=Eff.sound r Zx p1 hE p2;obtain⟨sm,km,Zxr⟩:=Eff.ZI5 r Zx p1 hE p2;refine⟨fun f hab=>(KE hF f).2 (Zbi ha p3 hab),?_⟩
    have ZmC:o.semAt F.round a.eval=execOp a.eval o:=by
     cases hrd:rd with
     | none=>rw[hrd]at hF;unfold K7 at hF;subst hF;rfl
     | some l=>
       refine Oper.semAt_eq _ _ _ fun c hc=>?_
       obtain⟨d,rfl⟩:=ZgA ha hc;simp at hs
    rw[ZmC];have ZB4:F.depth.isSome=true->1<=0:=fun hh=>by rw[KY hF]at hh;cases hh
    have hF1:=hF.mono st1.ext
    have toM:Kh (MOf free wm E.tgt) ρ h w ρ1 w1:=by
     refine sm.weaken (fun i _ hi=>?_) r.lt;unfold MOf;split
     ·exact Zxr i hi
     ·exact hi
    generalize hrun:(execOp a.eval o).run X.P w=res at p3;split at hs
    ·rename_i v1;cases hs;obtain⟨v',hv,rfl⟩:=p3;exact hK ρ1 v' w1 hv r1 toM
    ·cases hs;have:res=.ok .skip w1:=p3;subst this;exact hK ρ1 undef w1 (VR.undef ρ1) r1 toM
    ·rename_i f args;obtain⟨args',hva,rfl⟩:=p3;refine⟨ZB4,?_⟩;cases how:ZkZ (free||YS f||E.tgt.isSome) wm args h1 with
     | some x=>
       rw[how]at hs;dsimp only at hs;obtain⟨q1,q2,q3,q4⟩:=Zis how;simp only[Ge]at q1;obtain⟨⟨rfl,-⟩,hT⟩:=q1;have hT:E.tgt=none:=by cases e:E.tgt<;>rw[e]at hT<;>simp at hT
       split at hs
       ·rename_i rv h2 hc;cases hs;have hkeep:=JJ HK hc (GP q3);refine(QK hF1 (HI _ _ hc ρ1 args' w1 (GP q3) r1 hva)).mono ?_;rintro e' w' ⟨ρ',he,hr,hst⟩;cases he with
        | @ret _ v' hv=>
          have st2:Kh (MOf false wm (some x)) ρ1 h1 w1 ρ' w':=hst.toM.ZkO (fun i hi1 hi2 hi3=>by
           unfold MOf;rw[if_neg (by simp)];rcases Nat.eq_or_lt_of_le hi2 with z|z
           ·rw[z]
           ·have:=q4 i z hi1;rw[Ur hi3]at this;cases this) r1.lt
          have ZNz:Kh (MOf false wm (some x)) ρ h w ρ1 w1:=sm.weaken (fun i _ hi=>by rw[hT]at hi;cases hi) r.lt;exact hK ρ' v' w' hv hr (ZNz.trans r.lt km.size km.own st2)
       ·cases hs
     | none=>
     rw[how]at hs;dsimp only at hs;split at hs
     ·rename_i rv h2 hc;have ZxL:=HI _ _ hc
      have Zkq:(bif free && !YS f then wm else h1.size)<=h1.size:=by
       cases free<;>cases YS f<;>simp[cond,KB Zx st1.size]
      have hkeep:=JJ HK hc Zkq;refine(QK hF1 (ZxL ρ1 args' w1 Zkq r1 hva)).mono ?_;rintro e' w' ⟨ρ',he,hr,hst⟩;cases he with
      | @ret _ v' hv=>
        have tail:v=rv->h'=h2->t=E.tgt->K (a.put o.dst v') w':=by
         rintro rfl rfl rfl
         have st2:Kh (MOf free wm E.tgt) ρ1 h1 w1 ρ' w':=by
          refine hst.toM.weaken (fun i hi1 hi2=>?_) r1.lt;unfold MOf;cases free with
          | true=>
            cases hpf:YS f with
            | true=>rw[hpf]at hi2;simp at hi2;omega
            | false=>rw[hpf]at hi2;simpa using hi2
          | false=>simp at hi2;omega
         exact hK ρ' v' w' hv hr (toM.trans r.lt km.size km.own st2)
        cases hpp:(YS f&&plain rv)<;>rw[hpp]at hs<;>simp only[Cq1,Cq0]at hs
        ·cases hs;exact tail rfl rfl rfl
        ·rw[Ba0]at hpp;cases hs;have hpf:=hpp.1;simp only[hpf,QP,Bool.and_false,Cq0]at hst;rw[VR.Y5 hpp.2 hv];obtain⟨q1,q2⟩:=ZaE r1 hst;have st2:Kh (MOf free wm E.tgt) ρ1 h' w1 ρ1 w':=(q2 h'.size).toM.weaken (fun i hi1 hi2=>absurd hi1 V6) r1.lt;exact hK ρ1 _ w' (VR.ZL hpp.2) q1 (toM.trans r.lt km.size km.own st2)
     ·cases hs
    ·rename_i l args;obtain⟨l',k,args',hl,hw,hv,rfl⟩:=p3;refine⟨ZB4,?_⟩;cases free with
     | false=>cases hs
     | true=>
       simp only[Cq1]at hs;split at hs
       ·rename_i rv h2 hc;cases hs;have Zkq:wm<=h1.size:=KB Zx st1.size;refine(Zb0 hF1 (HI _ _ hc ρ1 l' k args' w1 Zkq r1 hv hl hw)).mono ?_;rintro e' w' ⟨ρ',he,hr,hst⟩;cases he with
        | @ret _ v' hv'=>exact hK ρ' v' w' hv' hr (toM.trans r.lt km.size km.own hst.toM)
       ·cases hs
    ·cases hs
   ·cases hs
  ·cases hs
def Xu{YS:GX->Z}(HK:∀j r,ih j=some r->QV j r){n wm:Nat}{wr:O Nat}{free:Z}{ops:U Oper}{o:Oper}{fr:Fr}{h h':H}{t:O Nat}{v:N}
 (hs:Jj X YS ih n wm wr free ops o fr h=some (t,v,h')) (Zx:wm<=h.size):J2 (MOf free wm t) h h'/\(∀x,MOf free wm t x->wm<=x)/\(∀d,o.dst=some d->d<n/\allowed wr d=true):=by
 unfold Jj at hs;cases hd:(match o.dst with|none=>true|some d=>Nat.blt d n&&allowed wr d)<;>rw[hd]at hs<;>simp only[Cq1,Cq0]at hs
 ·cases hs
 have hdst:∀d,o.dst=some d->d<n/\allowed wr d=true:=fun d e=>by rw[e]at hd;simpa[G0]using hd
 cases hok:okG ops o fr<;>rw[hok]at hs<;>simp only[Gz,QP,Cq1,Cq0]at hs
 ·cases hs
 cases hwt:YZ ops o fr<;>rw[hwt]at hs<;>simp only[Cq1,Cq0]at hs
 ·cases hs;refine⟨⟨K1 _,fun _ _ _=>rfl,fun _ _ x=>x,fun _ _ x=>x⟩,fun x hx=>?_,hdst⟩;unfold MOf at hx;split at hx
  ·exact hx
  ·cases hx
 ·split at hs
  ·rename_i nx E ha;split at hs
   ·rename_i h1 hE;have kh:=ZeD Zx hE
    have Zxr:∀x,E.tgt=some x->wm<=x:=by
     intro x hx;cases E with
     | none=>cases hx
     | new A=>cases hx
     | upd i0 A=>
       cases hx;simp only[Eff.apply]at hE;cases hc:(Nat.ble wm x&&(h.at x).own)<;>rw[hc]at hE<;>simp at hE
       rw[Ba0]at hc;exact Nl0 hc.1
     | grow i0 A=>
       cases hx;simp only[Eff.apply]at hE;cases hc:(Nat.ble wm x&&(h.at x).own&&A.own)<;>rw[hc]at hE<;>simp at hE
       rw[Ba0,Ba0]at hc;exact Nl0 hc.1.1
    have km:J2 (fun x=>E.tgt=some x) h h1:=by
     refine⟨kh.size,fun i hi hm=>?_,kh.own,kh.live⟩;cases E with
     | none=>cases hE;rfl
     | new A=>
       simp only[Eff.apply]at hE;cases hA:A.own<;>rw[hA]at hE<;>simp at hE
       subst hE;rw[H.Qd,if_neg V6]
     | upd i0 A=>
       simp only[Eff.apply]at hE;cases hc:(Nat.ble wm i0&&(h.at i0).own)<;>rw[hc]at hE<;>simp at hE
       subst hE;rw[H.XP,if_neg fun x=>hm (by rw[x.1];rfl)]
     | grow i0 A=>
       simp only[Eff.apply]at hE;cases hc:(Nat.ble wm i0&&(h.at i0).own&&A.own)<;>rw[hc]at hE<;>simp at hE
       subst hE;rw[H.Qd,H.size_put,if_neg V6,H.XP,if_neg fun x=>hm (by rw[x.1];rfl)]
    have hM:∀x,MOf free wm E.tgt x->wm<=x:=fun x hx=>by
     unfold MOf at hx;split at hx
     ·exact hx
     ·exact Zxr x hx
    have toM:J2 (MOf free wm E.tgt) h h1:=km.weaken fun i _ hi=>by
     unfold MOf;split
     ·exact Zxr i hi
     ·exact hi
    split at hs
    ·cases hs;exact⟨toM,hM,hdst⟩
    ·cases hs;exact⟨toM,hM,hdst⟩
    ·rename_i f args;cases how:ZkZ (free||YS f||E.tgt.isSome) wm args h1 with
     | some x=>
       rw[how]at hs;dsimp only at hs;obtain⟨q1,q2,q3,q4⟩:=Zis how;simp only[Ge]at q1;obtain⟨⟨rfl,-⟩,hT⟩:=q1;have hT:E.tgt=none:=by cases e:E.tgt<;>rw[e]at hT<;>simp at hT
       split at hs
       ·rename_i rv h2 hc;cases hs;have hk2:=(JJ HK hc (GP q3)).ZI3 q4
        have hx:∀y,MOf false wm (some x) y->y=x:=fun y hy=>by
         unfold MOf at hy;rw[if_neg (by simp)]at hy;exact(Oi0 hy).symm
        refine⟨(km.weaken fun i _ hi=>by rw[hT]at hi;cases hi).trans (hk2.weaken fun i _ hi=>?_),fun y hy=>by rw[hx y hy];exact q2,hdst⟩;subst hi;unfold MOf;rw[if_neg (by simp)]
       ·cases hs
     | none=>
     rw[how]at hs;dsimp only at hs;split at hs
     ·rename_i rv h2 hc
      have Zkq:(bif free && !YS f then wm else h1.size)<=h1.size:=by
       cases free<;>cases YS f<;>simp[cond,KB Zx kh.size]
      have hkeep:=JJ HK hc Zkq;cases hpp:(YS f&&plain rv)<;>rw[hpp]at hs<;>simp only[Cq1,Cq0]at hs
      ·cases hs;refine⟨toM.trans (hkeep.toM.weaken fun i hi1 hi2=>?_),hM,hdst⟩;unfold MOf;cases free with
       | true=>
         cases hpf:YS f with
         | true=>rw[hpf]at hi2;simp at hi2;omega
         | false=>rw[hpf]at hi2;simpa using hi2
       | false=>simp at hi2;omega
      ·cases hs;exact⟨toM,hM,hdst⟩
     ·cases hs
    ·cases free with
     | false=>cases hs
     | true=>
       simp only[Cq1]at hs;split at hs
       ·rename_i rv h2 hc;cases hs;exact⟨toM.trans (ZdI HK hc (KB Zx kh.size)).toM,hM,hdst⟩
       ·cases hs
    ·cases hs
   ·cases hs
  ·cases hs
def ZtO{YS:GX->Z}{n wm:Nat}{wr:O Nat}{free:Z}{ops:U Oper}{o:Oper}{fr:Fr}{h h':H}{t:O Nat}{v:N}
 (hs:Jj X YS ih n wm wr free ops o fr h=some (t,v,h')):∀d,o.dst=some d->allowed wr d=true:=by
 intro d e;unfold Jj at hs;cases hd:(match o.dst with|none=>true|some d=>Nat.blt d n&&allowed wr d)<;>rw[hd]at hs<;>simp only[Cq1,Cq0]at hs
 ·cases hs
 ·rw[e]at hd;rw[Ba0]at hd;exact hd.2
end
section
section
variable{α:Type}(base:α)(val:Nat->α)(S:Nat->Prop)(tc:Nat->Prop)
open Classical in
def last:Nat ->α
 | 0=>base
 | k + 1=>if S k∧tc k then val k else last k
def ZcO{m:Nat}(h:∀k,k<m->tc k->¬ S k):last base val S tc m=base:=by
 induction m with
 | zero=>rfl
 | succ m ih=>rw[last,if_neg (fun x=>h m V6 x.2 x.1)];exact ih fun k hk=>h k V6
def Zav{m:Nat}(g:Nat->α)(h0:g 0=base)(h1:∀k,k<m->tc k->g (k+1)=val k)(h2:∀k,k<m->¬ tc k->g (k+1)=g k){i:Nat}(hi:i<=m)(h:∀k,k<m->tc k->(S k↔k<i)):
 last base val S tc m=g i:=by
 induction m generalizing i with
 | zero=>
   have:i=0:=V6
   subst this;exact h0.symm
 | succ m ih=>
   rw[last];by_cases hx:S m/\tc m
   ·rw[if_pos hx];have:=(h m V6 hx.2).1 hx.1;have e:i=m+1:=V6
    rw[e,h1 m V6 hx.2]
   ·rw[if_neg hx];by_cases him:i=m+1
    ·subst him;have hn:¬ tc m:=fun x=>hx ⟨(h m V6 x).2 V6,x⟩
     rw[h2 m V6 hn];exact ih (fun k hk=>h1 k V6) (fun k hk=>h2 k V6) (K1 m) fun k hk ht=>⟨fun _=>hk,fun _=>(h k V6 ht).2 V6⟩
    ·exact ih (fun k hk=>h1 k V6) (fun k hk=>h2 k V6) V6 fun k hk ht=>h k V6 ht
variable{base val S tc} in
theorem Qr {m i:Nat} {S':Nat->Prop} (hS:∀k,S' k↔S k\/k=i) (hi:¬ tc i):last base val S' tc m=last base val S tc m:=by
 induction m with
 | zero=>rfl
 | succ m ih=>
   rw[last,last,ih];by_cases hm:m=i
   ·subst hm;rw[if_neg (fun x=>hi x.2),if_neg (fun x=>hi x.2)]
   ·by_cases hx:S m/\tc m
    ·rw[if_pos hx,if_pos ⟨(hS m).2 (.inl hx.1),hx.2⟩]
    ·rw[if_neg hx,if_neg fun x=>hx ⟨((hS m).1 x.1).resolve_right hm,x.2⟩]
variable{base val S tc} in
theorem Zau {m i:Nat} {S':Nat->Prop} (hS:∀k,S' k↔S k\/k=i) (him:i<m) (hi:tc i) (hl:∀k,i<k->k<m->tc k->¬ S k):last base val S' tc m=val i:=by
 induction m with
 | zero=>omega
 | succ m ih=>
   rw[last];by_cases hm:m=i
   ·subst hm;rw[if_pos ⟨(hS m).2 (.inr rfl),hi⟩]
   ·rw[if_neg,ih V6 fun k h1 h2=>hl k h1 V6];rintro⟨h1,h2⟩;exact hl m V6 V6 h2 (((hS m).1 h1).resolve_right hm)
theorem Zs1{m:Nat}(n:Nat->Nat)(hn:∀j k,j<=k->k<=m->n j<=n k){i:Nat}(hi:i<=m)(h:∀k,k<m->S k->tc k->k<i):last (n 0) (fun k=>n (k+1)) S tc m<=n i:=by
 have:∀j,j<=m->last (n 0) (fun k=>n (k+1)) S tc j<=n i:=by
  intro j
  induction j with
  | zero=>intro _;exact hn 0 i V6 hi
  | succ j ih=>
    intro hj;rw[last];by_cases hx:S j/\tc j
    ·rw[if_pos hx];have:=h j V6 hx.1 hx.2;exact hn (j+1) i V6 hi
    ·rw[if_neg hx];exact ih V6
 exact this m (K1 m)
end
def Ren.cut(ρ:Ren)(c:Nat):Ren:=⟨fun x=>if x<c then ρ x else none,ρ.lim⟩
def Ren.YP{ρ:Ren}{c x:Nat}{p:Nat×Nat}:(ρ.cut c) x=some p↔x<c/\ρ x=some p:=by
 unfold Ren.cut;by_cases h:x<c
 ·simp[h]
 ·simp[h]
def Ren.Zfh{ρ:Ren}{c c':Nat}(h:c<=c'):(ρ.cut c).le (ρ.cut c'):=fun x p e=>by
 rw[Ren.YP]at e;exact⟨Ren.YP.2 ⟨by omega,e.2⟩,rfl⟩
def Ren.ZrV{ρ ρ':Ren}(h:ρ.le ρ')(c:Nat):(ρ.cut c).le (ρ'.cut c):=fun x p e=>by
 rw[Ren.YP]at e;obtain⟨h1,h2⟩:=h _ _ e.2;exact⟨Ren.YP.2 ⟨e.1,h1⟩,h2⟩
def Ren.ZFO{ρ:Ren}{c:Nat}(h:∀x p,ρ x=some p->x<c):ρ.le (ρ.cut c):=fun _ _ e=>⟨Ren.YP.2 ⟨h _ _ e,e⟩,rfl⟩
def Ren.ZjO{ρ:Ren}{c:Nat}:(ρ.cut c).le ρ:=fun _ _ e=>⟨(Ren.YP.1 e).2,rfl⟩
def mask(X:U Nat)(h:H):H:=X.foldl (fun g x=>g.put x .dead) h
def X7(X:U Nat)(h h':H):H:=X.foldl (fun g x=>bif Nat.blt x h.size then g.put x (h.at x) else g) h'
def Zo(X:U Nat)(h:H):(mask X h).size=h.size:=by
 unfold mask
 induction X generalizing h with
 | nil=>rfl
 | cons y X ih=>rw[Gn,ih,H.size_put]
def Xo(X:U Nat)(h:H)(x:Nat):(mask X h).at x=if x∈X then .dead else h.at x:=by
 unfold mask
 induction X generalizing h with
 | nil=>simp
 | cons y X ih=>
   rw[Gn,ih];by_cases hx:x∈X
   ·simp[hx]
   ·rw[if_neg hx,H.XP];by_cases hy:x=y
    ·subst hy;by_cases hl:x<h.size
     ·simp[hl]
     ·simp[hl,H.ZaF (Nat.le_of_not_lt hl)]
    ·simp[hx,hy]
def YO(X:U Nat)(h h':H):(X7 X h h').size=h'.size:=by
 unfold X7
 induction X generalizing h' with
 | nil=>rfl
 | cons y X ih=>rw[Gn,ih];cases Nat.blt y h.size<;>rfl
def X3(X:U Nat)(h h':H)(hs:h.size<=h'.size)(x:Nat):(X7 X h h').at x=if x∈X/\x<h.size then h.at x else h'.at x:=by
 unfold X7
 induction X generalizing h' with
 | nil=>simp
 | cons y X ih=>
   rw[Gn];cases hb:Nat.blt y h.size with
   | true=>
     rw[G0]at hb;rw[Cq1,ih _ (by rw[H.size_put];exact hs)];by_cases hx:x∈X/\x<h.size
     ·rw[if_pos hx,if_pos ⟨Kf _ hx.1,hx.2⟩]
     ·rw[if_neg hx,H.XP];by_cases hy:x=y
      ·subst hy;rw[if_pos ⟨rfl,by omega⟩,if_pos ⟨by simp,hb⟩]
      ·rw[if_neg fun z=>hy z.1,if_neg];rintro⟨z1,z2⟩;rcases Kx.1 z1 with z|z
       ·exact hy z
       ·exact hx ⟨z,z2⟩
   | false=>
     rw[Cq0,ih _ hs];have hy:¬ y<h.size:=fun z=>by rw[<-G0]at z;rw[z]at hb;cases hb
     by_cases hx:x∈X/\x<h.size
     ·rw[if_pos hx,if_pos ⟨Kf _ hx.1,hx.2⟩]
     ·rw[if_neg hx,if_neg];rintro⟨z1,z2⟩;rcases Kx.1 z1 with z|z
      ·subst z;exact hy z2
      ·exact hx ⟨z,z2⟩
def ZaP(fr:Fr)(d:O Tmp)(v:N)(t:Nat):(Jb fr d v).at t=if d=some t then v else fr.at t:=by
 cases d with
 | none=>simp[Jb]
 | some d=>
   by_cases h:t=d
   ·subst h;simp[Jb,Fr.at,Tr.XE]
   ·have h':¬ d=t:=fun e=>h e.symm
    simp[Jb,Fr.at,Tr.XE,h,h']
structure Data(P:Program)(nn wm:Nat)(rd:Option Nat)(ops:Array Oper) where
 hs:Nat->H
 fs:Nat->Fr
 vs:Nat->Value
 mo:Nat->Nat->Prop
 Xs:Nat->List Nat
 soft:Nat->Option (Nat×Nat)
 hl:Nat->Bool
 Pb:Nat->Nat->Prop
 ZkT:wm<=(hs 0).size
 step:∀(k:Nat)(o:Oper),ops[k]? =some o->∃h1,Qj P wm rd ops o (mo k) (fs k) (mask (Xs k) (hs k)) (vs k) h1/\J2 (mo k) (mask (Xs k) (hs k)) h1/\
  hs (k+1)=X7 (Xs k) (hs k) h1/\fs (k+1)=Jb (fs k) o.dst (vs k)
 wmM:∀k x,k<ops.size->mo k x->wm<=x
 dst:∀(k:Nat)(o:Oper)(d:Tmp),ops[k]? =some o->o.dst=some d->d<nn
 ZcC:∀(j k:Nat),Pb j k->∃(o:Oper) (e:Edge),ops[j]? =some o/\e∈o.after/\Region.binds .any e=true/\(k=e.on\/Pb e.on k)
 ZlD:∀(j:Nat)(o:Oper)(e:Edge),ops[j]? =some o->e∈o.after->Region.binds .any e=true->e.on<j
 inc:∀i j,i<ops.size->j<ops.size->i≠j->¬ Pb i j->¬ Pb j i->hl i=false->∀x,mo j x->x<(hs j).size->(x<(hs i).size/\(x∈Xs i\/soft i=some (x,j)))\/(hs (i+1)).size<=x
 ZBZ:∀(i:Nat)(o:Oper),ops[i]? =some o->hl i=true->(∀y,¬ mo i y)/\(hs (i+1)).size=(hs i).size/\∀g:H,Qj P wm rd ops o (fun _=>False) (fs i) g (vs i) g
 Zl5:∀(i:Nat)(o:Oper)(x j:Nat),ops[i]? =some o->soft i=some (x,j)->i<j/\j<ops.size/\x<(hs i).size/\(∀y,¬ mo i y)/\(hs (i+1)).size=(hs i).size/\
  (∀(ρ ρ':Ren)(w:World)(b d:Nat)(l:Nat×Nat),Qz ρ w b d l ((hs i).at x)->Qz ρ' w b d l ((hs i).at x))/\
  (∀(ρ ρ':Ren)(w:World)(b d:Nat)(l:Nat×Nat),Qz ρ w b d l ((hs (j+1)).at x)->Qz ρ' w b d l ((hs (j+1)).at x))/\
  Qj P wm rd ops o (fun _=>False) (fs i) (mask (Xs i) (hs i)) (vs i) (mask (Xs i) (hs i))/\
  Qj P wm rd ops o (fun _=>False) (fs i) ((mask (Xs i) (hs i)).put x ((hs (j+1)).at x)) (vs i) ((mask (Xs i) (hs i)).put x ((hs (j+1)).at x))
 MX:∀i x,i<ops.size->mo i x->x<(hs i).size->x∉Xs i
 looks:∀(i:Nat)(o:Oper)(t:Tmp),ops[i]? =some o->t∈ZK.looks ops.toList o->∀(k:Nat)(o':Oper),ops[k]? =some o'->o'.dst=some t->k=i\/Pb i k\/Pb k i
 Zzm:∀(i j:Nat)(o o':Oper)(t:Tmp),ops[i]? =some o->ops[j]? =some o'->o.dst=some t->o'.dst=some t->i=j
namespace Data
variable{P:GW}{nn wm:Nat}{rd:O Nat}{ops:GZ Oper}(D:Data P nn wm rd ops)
def n(k:Nat):Nat:=(D.hs k).size
def M(k x:Nat):Prop:=D.mo k x/\x<D.n k
def tch(k x:Nat):Prop:=D.M k x\/(D.n k<=x/\x<D.n (k+1))
def UI(k:Nat):O Tmp:=(ops[k]?).bind (·.dst)
def hv(S:Nat->Prop)(x:Nat):YR:=last ((D.hs 0).at x) (fun k=>(D.hs (k+1)).at x) S (fun k=>D.tch k x) ops.size
def cv(S:Nat->Prop)(x:Nat):Nat:=last (D.n 0) (fun k=>D.n (k+1)) S (fun k=>D.tch k x) ops.size
def tv(S:Nat->Prop)(t:Nat):N:=last ((D.fs 0).at t) D.vs S (fun k=>UI (ops:=ops) k=some t) ops.size
def tt(S:Nat->Prop)(t:Nat):Nat:=last (D.n 0) (fun k=>D.n (k+1)) S (fun k=>UI (ops:=ops) k=some t) ops.size
def get{k:Nat}(h:k<ops.size):∃o,ops[k]? =some o:=⟨ops[k],by simp[h]⟩
def Zmq{k:Nat}(h:k<ops.size):D.n k<=D.n (k+1):=by
 obtain⟨o,ho⟩:=get h;obtain⟨h1,_,km,e,_⟩:=D.step k o ho;unfold n;rw[e,YO];have:=km.size
 rwa[Zo]at this
def Qm:∀j k,j<=k->k<=ops.size->D.n j<=D.n k:=by
 intro j k hjk
 induction hjk with
 | refl=>intro _;exact K1 _
 | step h ih=>intro hk;exact KB (ih V6) (D.Zmq V6)
def keep{k x:Nat}(hk:k<ops.size)(h:¬ D.tch k x):(D.hs (k+1)).at x=(D.hs k).at x:=by
 obtain⟨o,ho⟩:=get hk;obtain⟨h1,_,km,e,_⟩:=D.step k o ho;have hsz:=km.size;rw[Zo]at hsz;have hn:D.n (k+1)=h1.size:=by unfold n;rw[e,YO]
 by_cases hx:x<(D.hs k).size
 ·rw[e,X3 _ _ _ hsz];by_cases hX:x∈D.Xs k
  ·rw[if_pos ⟨hX,hx⟩]
  ·rw[if_neg fun z=>hX z.1,km.keep x (by rw[Zo];exact hx) (fun z=>h (.inl ⟨z,hx⟩)),Xo,if_neg hX]
 ·have:¬ x<D.n (k+1):=fun z=>h (.inr ⟨Nat.le_of_not_lt hx,z⟩)
  rw[H.ZaF (Nat.le_of_not_lt hx),H.ZaF (Nat.le_of_not_lt this)]
def own{k x:Nat}(hk:k<ops.size)(hx:x<D.n k)(h:((D.hs (k+1)).at x).own=true):((D.hs k).at x).own=true:=by
 obtain⟨o,ho⟩:=get hk;obtain⟨h1,_,km,e,_⟩:=D.step k o ho;have hsz:=km.size;rw[Zo]at hsz;rw[e,X3 _ _ _ hsz]at h;by_cases hX:x∈D.Xs k/\x<(D.hs k).size
 ·rwa[if_pos hX]at h
 ·rw[if_neg hX]at h;have:=km.own x (by rw[Zo];exact hx) h;rw[Xo]at this;split at this
  ·cases this
  ·exact this
def live{k x:Nat}(hk:k<ops.size)(hx:x<D.n k)(h:((D.hs (k+1)).at x).live=true):((D.hs k).at x).live=true:=by
 obtain⟨o,ho⟩:=get hk;obtain⟨h1,_,km,e,_⟩:=D.step k o ho;have hsz:=km.size;rw[Zo]at hsz;rw[e,X3 _ _ _ hsz]at h;by_cases hX:x∈D.Xs k/\x<(D.hs k).size
 ·rwa[if_pos hX]at h
 ·rw[if_neg hX]at h;have:=km.live x (by rw[Zo];exact hx) h;rw[Xo]at this;split at this
  ·cases this
  ·exact this
def ZJo{x:Nat}(hx:x<D.n 0):∀k,k<=ops.size->((D.hs k).at x).own=true->((D.hs 0).at x).own=true:=by
 intro k
 induction k with
 | zero=>intro _ h;exact h
 | succ k ih=>intro hk h;exact ih V6 (D.own V6 (Jx hx (D.Qm 0 k V6 V6)) h)
def ZJt{x:Nat}(hx:x<D.n 0):∀k,k<=ops.size->((D.hs k).at x).live=true->((D.hs 0).at x).live=true:=by
 intro k
 induction k with
 | zero=>intro _ h;exact h
 | succ k ih=>intro hk h;exact ih V6 (D.live V6 (Jx hx (D.Qm 0 k V6 V6)) h)
def ZJQ(S:Nat->Prop)(x:Nat):∃k,k<=ops.size/\D.hv S x=(D.hs k).at x:=by
 unfold hv
 have:∀m,m<=ops.size->∃k,k<=ops.size/\last ((D.hs 0).at x) (fun k=>(D.hs (k+1)).at x) S (fun k=>D.tch k x) m=(D.hs k).at x:=by
  intro m
  induction m with
  | zero=>intro _;exact⟨0,by omega,rfl⟩
  | succ m ih=>
    intro hm;rw[last];by_cases h:S m/\D.tch m x
    ·rw[if_pos h];exact⟨m+1,hm,rfl⟩
    ·rw[if_neg h];exact ih V6
 exact this _ V7
def ZBG{S:Nat->Prop}{x:Nat}(hx:x<D.n 0)(h:(D.hv S x).own=true):((D.hs 0).at x).own=true:=by
 obtain⟨k,hk,e⟩:=D.ZJQ S x;rw[e]at h;exact D.ZJo hx k hk h
def Closed(ops:GZ Oper)(S:Nat->Prop):Prop:=∀j o e,S j->ops[j]? =some o->e∈o.after->Region.binds .any e=true->S e.on
def ZDP:∀j k,D.Pb j k->k<j:=by
 intro j
 induction j using Nat.strongRecOn with
 | ind j ih=>
   intro k h;obtain⟨o,e,ho,he,hb,hk⟩:=D.ZcC j k h;have:=D.ZlD j o e ho he hb;rcases hk with rfl|hk
   ·exact this
   ·have:=ih e.on this k hk;omega
def ZlE{S:Nat->Prop}(hc:Closed ops S):∀j k,S j->D.Pb j k->S k:=by
 intro j
 induction j using Nat.strongRecOn with
 | ind j ih=>
   intro k hj h;obtain⟨o,e,ho,he,hb,hk⟩:=D.ZcC j k h;have h1:=hc j o e hj ho he hb;rcases hk with rfl|hk
   ·exact h1
   ·exact ih e.on (D.ZlD j o e ho he hb) k h1 hk
def Zfi{S:Nat->Prop}(hc:Closed ops S){i:Nat}{o:Oper}(ho:ops[i]? =some o)(hi:¬ S i)(hr:∀e∈o.after,Region.binds .any e=true->S e.on){k:Nat}(h:D.Pb i k\/D.Pb k i):S k↔k<i:=by
 rcases h with h|h
 ·refine⟨fun _=>D.ZDP _ _ h,fun _=>?_⟩;obtain⟨o',e,ho',he,hb,hk⟩:=D.ZcC i k h;rw[ho]at ho';cases ho';rcases hk with rfl|hk
  ·exact hr e he hb
  ·exact D.ZlE hc e.on k (hr e he hb) hk
 ·refine⟨fun hs=>absurd (D.ZlE hc k i hs h) hi,fun hl=>?_⟩;have:=D.ZDP _ _ h;omega
structure J'(S:Nat->Prop)(ds:List Deferred)(ρ0:Ren)(w0:World)(ρ:Ren)(a:Act)(w:World):Prop where
 dom:∀x b d,ρ x=some (b,d)->b<w.heap.size/\(x<D.n 0\/∃k,k<ops.size/\S k/\D.n k<=x/\x<D.n (k+1))
 obj:∀x b d,ρ x=some (b,d)->Qz (ρ.cut (D.cv S x)) w b d (ρ.lim x) (D.hv S x)
 tsz:a.tmps.size=nn
 tmp:∀t,XG (D.tv S t)=false->VR (ρ.cut (D.tt S t)) (D.tv S t) (a.tmps.getD t undef)
 ds:DsR (ρ.cut (D.n 0)) ds a.defers
 inj:∀x y b d d',ρ x=some (b,d)->ρ y=some (b,d')->(D.hv S x).own=true->(D.hv S y).live=true->x=y
 ext:ρ0.le ρ
 ZpJ:∀x p,ρ0 x=some p->x<D.n 0
 os:w.os=w0.os
 tape:w.tape=w0.tape
 output:w.output=w0.output
 Xc:w0.heap.size<=w.heap.size
 frame:∀b,b<w0.heap.size->(∀i d,wm<=i->ρ0 i=some (b,d)->((D.hs 0).at i).own=true->False)->w.heap[b]? =w0.heap[b]?
 JH:∀i b d,ρ0 i=none->ρ i=some (b,d)->D.n 0<=i/\(w0.heap.size<=b\/∃j d',wm<=j/\ρ0 j=some (b,d')/\((D.hs 0).at j).own=true)
variable{D}
def J'.Zbc{S:Nat->Prop}{ds:List Deferred}{ρ0 ρ:Ren}{w0 w:World}{a:Act}(j:D.J' S ds ρ0 w0 ρ a w)(hc:Closed ops S){i:Nat}{o:Oper}(ho:ops[i]? =some o)(hi:¬ S i)
 (hr:∀e∈o.after,Region.binds .any e=true->S e.on) {x b d:Nat} (hx:ρ x=some (b,d)) (hxn:x<D.n i) (hX:x∉D.Xs i) (hhl:D.hl i=false) (hsf:∀j,D.soft i≠some (x,j)):D.hv S x=(D.hs i).at x/\D.cv S x<=D.n i:=by
 have him:i<ops.size:=(Array.getElem?_eq_some_iff.1 ho).1
 have key:∀k,k<ops.size->D.tch k x->(S k↔k<i):=by
  intro k hk ht;rcases ht with ht|⟨h1,h2⟩
  ·by_cases hki:k=i
   ·subst hki;exact⟨fun z=>absurd z hi,fun z=>by omega⟩
   ·by_cases hcmp:D.Pb i k\/D.Pb k i
    ·exact D.Zfi hc ho hi hr hcmp
    ·rcases D.inc i k him hk (Ne.symm hki) (fun z=>hcmp (.inl z)) (fun z=>hcmp (.inr z)) hhl x ht.1 ht.2 with z|z
     ·rcases z.2 with z|z
      ·exact absurd z hX
      ·exact absurd z (hsf k)
     ·have:=D.Zmq him;unfold n at this hxn;omega
  ·have hki:k<i:=by
    rcases Nat.lt_or_ge k i with z|z
    ·exact z
    ·have:=D.Qm i k z (by omega);omega
   refine⟨fun _=>hki,fun _=>?_⟩;rcases(j.dom x b d hx).2 with z|⟨k',q1,q2,q3,q4⟩
   ·have:=D.Qm 0 k (by omega) (by omega);omega
   ·have:k'=k:=by
     rcases Nat.lt_trichotomy k' k with z|z|z
     ·have:=D.Qm (k'+1) k (by omega) (by omega);omega
     ·exact z
     ·have:=D.Qm (k+1) k' (by omega) (by omega);omega
    subst this;exact q2
 refine⟨?_,?_⟩
 ·unfold hv;exact Zav _ _ _ _ (fun k=>(D.hs k).at x) rfl (fun k _ _=>rfl) (fun k hk ht=>D.keep hk ht) (Nat.le_of_lt him) key
 ·unfold cv;exact Zs1 _ _ _ D.Qm (Nat.le_of_lt him) fun k hk hs ht=>(key k hk ht).1 hs
def J'.ZnY{S:Nat->Prop}(hc:Closed ops S){i:Nat}{o:Oper}(ho:ops[i]? =some o)(hi:¬ S i)
 (hr:∀e∈o.after,Region.binds .any e=true->S e.on) {t:Nat} (ht:t∈ZK.looks ops.toList o):D.tv S t=(D.fs i).at t/\D.tt S t<=D.n i:=by
 have him:i<ops.size:=(Array.getElem?_eq_some_iff.1 ho).1
 have key:∀k,k<ops.size->UI (ops:=ops) k=some t->(S k↔k<i):=by
  intro k hk hd;obtain⟨o',ho'⟩:=get hk;have hd':o'.dst=some t:=by unfold UI at hd;rw[ho']at hd;exact hd
  rcases D.looks i o t ho ht k o' ho' hd' with h|h
  ·subst h;exact⟨fun z=>absurd z hi,fun z=>by omega⟩
  ·exact D.Zfi hc ho hi hr h
 have hfs:∀k,k<ops.size->(D.fs (k+1)).at t=if UI (ops:=ops) k=some t then D.vs k else(D.fs k).at t:=by
  intro k hk;obtain⟨o',ho'⟩:=get hk;obtain⟨h1,_,_,_,e⟩:=D.step k o' ho';rw[e,ZaP];unfold UI;rw[ho']
  rfl
 refine⟨?_,?_⟩
 ·unfold tv;exact Zav _ _ _ _ (fun k=>(D.fs k).at t) rfl (fun k hk hd=>by rw[hfs k hk,if_pos hd]) (fun k hk hd=>by rw[hfs k hk,if_neg hd]) (Nat.le_of_lt him) key
 ·unfold tt;exact Zs1 _ _ _ D.Qm (Nat.le_of_lt him) fun k hk hs hd=>(key k hk hd).1 hs
end Data
end
section
namespace Data
variable{P:GW}{nn wm:Nat}{rd:O Nat}{ops:GZ Oper}{D:Data P nn wm rd ops}
def J'.step{S:Nat->Prop}{ds:List Deferred}{ρ0 ρ:Ren}{w0 w:World}{a:Act}(j:D.J' S ds ρ0 w0 ρ a w)(hc:Closed ops S){i:Nat}{o:Oper}(ho:ops[i]? =some o)(hi:¬ S i)(hhl:D.hl i=false)(Zs8:D.soft i=none)
 (hr:∀e∈o.after,Region.binds .any e=true->S e.on) {F:Fence} (hF:K7 ρ0 rd F) {S':Nat->Prop} (hS:∀k,S' k↔S k\/k=i) {K:Act->World->Prop} {Q:Exit->Act->World->Prop}
 (hK:∀ρ' a' w',D.J' S' ds ρ0 w0 ρ' a' w'->K a' w'):
 if Region.wanted o (yielded ops a.tmps) then o.wpIn F 0 P a w K Q else(∀f,o.about P w a.eval=some f->F.fn f)/\K (a.put o.dst undef) w:=by
 have him:i<ops.size:=(Array.getElem?_eq_some_iff.1 ho).1;have hsf:∀{x:Nat}(j:Nat),D.soft i≠some (x,j):=fun j z=>by rw[Zs8]at z;cases z
 obtain⟨h1,hstep,km,eh,ef⟩:=D.step i o ho;have hsz:=km.size;rw[Zo]at hsz;have hn1:D.n (i+1)=h1.size:=by unfold n;rw[eh,YO]
 have hni:D.n i=(D.hs i).size:=rfl;have h0i:=D.Qm 0 i (by omega) (by omega);have hii:=D.Zmq him
 have r1:Rel (ρ.cut (D.n i)) (mask (D.Xs i) (D.hs i)) w:=by
  refine⟨fun x b d e=>?_,fun x b d e=>?_,fun x y b d d' e e' ho hl=>?_⟩
  ·rw[Ren.YP]at e;rw[Zo];exact⟨e.1,(j.dom x b d e.2).1⟩
  ·rw[Ren.YP]at e;rw[Xo];by_cases hX:x∈D.Xs i
   ·rw[if_pos hX];trivial
   ·rw[if_neg hX];obtain⟨q1,q2⟩:=j.Zbc hc ho hi hr e.2 e.1 hX hhl hsf;rw[<-q1];exact(j.obj x b d e.2).mono (Ren.Zfh q2)
  ·rw[Ren.YP]at e e';rw[Xo]at ho hl;by_cases hX:x∈D.Xs i
   ·rw[if_pos hX]at ho;cases ho
   ·by_cases hY:y∈D.Xs i
    ·rw[if_pos hY]at hl;cases hl
    ·rw[if_neg hX]at ho;rw[if_neg hY]at hl;rw[<-(j.Zbc hc ‹_› hi hr e.2 e.1 hX hhl hsf).1]at ho;rw[<-(j.Zbc hc ‹_› hi hr e'.2 e'.1 hY hhl hsf).1]at hl;exact j.inj x y b d d' e.2 e'.2 ho hl
 have hF1:K7 (ρ.cut (D.n i)) rd F:=by
  refine hF.mono fun x p e=>?_
  obtain⟨e1,e2⟩:=j.ext x p e;exact⟨Ren.YP.2 ⟨by have:=j.ZpJ x p e;omega,e1⟩,e2⟩
 refine hstep (ρ.cut (D.n i)) a w F K Q r1 (by rw[Zo];have:=D.ZkT;have e:D.n 0=(D.hs 0).size:=rfl;omega) (fun t ht hany=>?_) hF1 ?_
 ·obtain⟨q1,q2⟩:=J'.ZnY (D:=D) hc ho hi hr ht;rw[<-q1]at hany ⊢;exact(j.tmp t hany).mono (Ren.Zfh q2)
 intro ρ2 v' w' hv r2 st0;have st:Kh (D.M i) (ρ.cut (D.n i)) (mask (D.Xs i) (D.hs i)) w ρ2 w':=st0.weaken (fun x hx hm=>⟨hm,by rw[Zo]at hx;exact hx⟩) r1.lt
 have hfree:∀x,D.n i<=x->x<D.n (i+1)->ρ x=none:=by
  intro x h1 h2;cases e:ρ x with
  | none=>rfl
  | some p=>
    rcases(j.dom x p.1 p.2 e).2 with z|⟨k,q1,q2,q3,q4⟩
    ·omega
    ·exfalso;rcases Nat.lt_trichotomy k i with z|z|z
     ·have:=D.Qm (k+1) i (by omega) (by omega);omega
     ·subst z;exact hi q2
     ·have:=D.Qm (i+1) k (by omega) (by omega);omega
 have Zo0:(mask (D.Xs i) (D.hs i)).size=D.n i:=Zo _ _
 have ZJp:∀x b d,x<D.n i->ρ2 x=some (b,d)->ρ x=some (b,d):=by
  intro x b d hx e;cases e1:(ρ.cut (D.n i)) x with
  | none=>have:=(st.JH x b d e1 e).1;omega
  | some p=>
    have:=(st.ext x p e1).1;rw[e]at this;cases this;exact(Ren.YP.1 e1).2
 let ρ':Ren:=⟨fun x=>if D.n i<=x/\x<D.n (i+1) then ρ2 x else ρ x,fun x=>if D.n i<=x/\x<D.n (i+1) then ρ2.lim x else ρ.lim x⟩
 have new':∀x,D.n i<=x->x<D.n (i+1)->ρ' x=ρ2 x/\ρ'.lim x=ρ2.lim x:=fun x a b=>⟨if_pos ⟨a,b⟩,if_pos ⟨a,b⟩⟩
 have old':∀x,¬ (D.n i<=x/\x<D.n (i+1))->ρ' x=ρ x/\ρ'.lim x=ρ.lim x:=fun x a=>⟨if_neg a,if_neg a⟩
 have hle:ρ.le ρ':=by
  intro x p e;have:¬ (D.n i<=x/\x<D.n (i+1)):=fun z=>by rw[hfree x z.1 z.2]at e;cases e
  obtain⟨q1,q2⟩:=old' x this;exact⟨by rw[q1];exact e,q2⟩
 have hle2:ρ2.le (ρ'.cut (D.n (i+1))):=by
  intro x p e;have hx:x<D.n (i+1):=by have:=(r2.dom x p.1 p.2 e).1;omega
  by_cases hxn:D.n i<=x
  ·obtain⟨q1,q2⟩:=new' x hxn hx;exact⟨Ren.YP.2 ⟨hx,by rw[q1];exact e⟩,q2⟩
  ·have e0:=ZJp x p.1 p.2 (by omega) e;obtain⟨q1,q2⟩:=old' x (fun z=>hxn z.1);refine⟨Ren.YP.2 ⟨hx,by rw[q1];exact e0⟩,?_⟩;have:=(st.ext x p (Ren.YP.2 ⟨by omega,e0⟩)).2;show ρ'.lim x=ρ2.lim x;rw[q2,this];rfl
 have ZBH:∀x,D.n i<=x->x<D.n (i+1)->D.tch i x:=fun x a b=>.inr ⟨a,b⟩
 have hval:∀x b d,ρ' x=some (b,d)->D.tch i x->D.hv S' x=h1.at x/\D.cv S' x=D.n (i+1)/\ρ2 x=some (b,d)/\ρ'.lim x=ρ2.lim x:=by
  intro x b d e ht
  have hxX:x∈D.Xs i->¬ x<(D.hs i).size:=by
   intro hX hlt;rcases ht with ht|ht
   ·exact D.MX i x him ht.1 ht.2 hX
   ·have:=ht.1;omega
  have ZbX:∀k,i<k->k<ops.size->D.tch k x->¬ S k:=by
   intro k hik hk htk hsk;have hxk:x<D.n (i+1)\/D.n (i+1)<=x:=by omega
   rcases htk with htk|htk
   ·by_cases hcmp:D.Pb i k\/D.Pb k i
    ·have:=(D.Zfi hc ho hi hr hcmp).1 hsk;omega
    ·rcases ht with ht|ht
     ·rcases D.inc i k him hk (by omega) (fun z=>hcmp (.inl z)) (fun z=>hcmp (.inr z)) hhl x htk.1 htk.2 with z|z
      ·rcases z.2 with z|z
       ·exact D.MX i x him ht.1 ht.2 z
       ·exact hsf _ z
      ·have z2:=ht.2;have z1:=hii;unfold n at z2 z1;omega
     ·rcases D.inc i k him hk (by omega) (fun z=>hcmp (.inl z)) (fun z=>hcmp (.inr z)) hhl x htk.1 htk.2 with z|z
      ·have z1:=ht.1;unfold n at z1;omega
      ·have z1:=ht.2;unfold n at z1;omega
   ·rcases ht with ht|ht
    ·have hxi:x<D.n i\/D.n i<=x:=by omega
     rcases hxi with hxi|hxi
     ·have:=D.Qm i k (by omega) (by omega);omega
     ·have:=ht.2;omega
    ·have:=D.Qm (i+1) k (by omega) (by omega);omega
  have e1:D.hv S' x=(D.hs (i+1)).at x:=Zau hS him ht ZbX;have e2:D.cv S' x=D.n (i+1):=Zau hS him ht ZbX
  have e3:(D.hs (i+1)).at x=h1.at x:=by
   rw[eh,X3 _ _ _ hsz,if_neg fun z=>hxX z.1 z.2]
  refine⟨e1.trans e3,e2,?_⟩;by_cases hx:D.n i<=x/\x<D.n (i+1)
  ·obtain⟨q1,q2⟩:=new' x hx.1 hx.2;exact⟨by rw[<-q1];exact e,q2⟩
  ·obtain⟨q1,q2⟩:=old' x hx;rw[q1]at e
   have hxi:x<D.n i:=by
    rcases Nat.lt_or_ge x (D.n i) with z|z
    ·exact z
    ·rcases ht with ht|ht
     ·have:=ht.2;omega
     ·exact absurd ht hx
   have:=st.ext x (b,d) (Ren.YP.2 ⟨hxi,e⟩);exact⟨this.1,by rw[q2,this.2];rfl⟩
 have hnot:∀x,¬ D.tch i x->D.hv S' x=D.hv S x/\D.cv S' x=D.cv S x:=fun x ht=>⟨Qr hS ht,Qr hS ht⟩
 have ZJn:∀x b d,ρ x=some (b,d)->(D.hv S' x).own=true->(D.hv S x).own=true:=by
  intro x b d e h;by_cases ht:D.tch i x
  ·obtain⟨q1,_,q3,_⟩:=hval x b d (hle x (b,d) e).1 ht;rw[q1]at h
   have hxi:x<D.n i:=by
    rcases Nat.lt_or_ge x (D.n i) with z|z
    ·exact z
    ·rcases ht with ht|ht
     ·have:=ht.2;omega
     ·rw[hfree x ht.1 ht.2]at e;cases e
   have:=km.own x (by rw[Zo];exact hxi) h;rw[Xo]at this;by_cases hX:x∈D.Xs i
   ·rw[if_pos hX]at this;cases this
   ·rw[if_neg hX]at this
    rwa[(j.Zbc hc ho hi hr e hxi hX hhl hsf).1]
  ·rwa[(hnot x ht).1]at h
 have ZDV:∀x b d,ρ x=some (b,d)->(D.hv S' x).live=true->(D.hv S x).live=true:=by
  intro x b d e h;by_cases ht:D.tch i x
  ·obtain⟨q1,_,q3,_⟩:=hval x b d (hle x (b,d) e).1 ht;rw[q1]at h
   have hxi:x<D.n i:=by
    rcases Nat.lt_or_ge x (D.n i) with z|z
    ·exact z
    ·rcases ht with ht|ht
     ·have:=ht.2;omega
     ·rw[hfree x ht.1 ht.2]at e;cases e
   have:=km.live x (by rw[Zo];exact hxi) h;rw[Xo]at this;by_cases hX:x∈D.Xs i
   ·rw[if_pos hX]at this;cases this
   ·rw[if_neg hX]at this
    rwa[(j.Zbc hc ho hi hr e hxi hX hhl hsf).1]
  ·rwa[(hnot x ht).1]at h
 have Zw3:∀y b d,D.M i y->(ρ.cut (D.n i)) y=some (b,d)->((mask (D.Xs i) (D.hs i)).at y).own=true->ρ y=some (b,d)/\(D.hv S y).own=true:=by
  intro y b d hm e h;rw[Ren.YP]at e;rw[Xo]at h;by_cases hX:y∈D.Xs i
  ·rw[if_pos hX]at h;cases h
  ·rw[if_neg hX]at h;exact⟨e.2,by rwa[(j.Zbc hc ho hi hr e.2 e.1 hX hhl hsf).1]⟩
 have ZJq:∀y b d,ρ y=some (b,d)->(D.hv S y).own=true->wm<=y->(∃d',ρ0 y=some (b,d')/\((D.hs 0).at y).own=true)\/(w0.heap.size<=b\/∃j d',wm<=j/\ρ0 j=some (b,d')/\((D.hs 0).at j).own=true):=by
  intro y b d e h hwy;cases e0:ρ0 y with
  | some p=>
    have:=(j.ext y p e0).1;rw[e]at this;cases this;exact .inl ⟨d,rfl,D.ZBG (j.ZpJ y _ e0) h⟩
  | none=>exact .inr (j.JH y b d e0 e).2
 refine hK ρ' (a.put o.dst v') w' ?_
 refine{dom:= ?_,obj:= ?_,tsz:= ?_,tmp:= ?_,ds:= ?_,inj:= ?_,ext:=Ren.le_trans j.ext hle,ZpJ:=j.ZpJ,os:=st.os.trans j.os,tape:=st.tape.trans j.tape,output:=st.output.trans j.output,
        Xc:=Nat.le_trans j.Xc st.Xc,frame:= ?_,JH:= ?_}
 ·intro x b d e;by_cases hx:D.n i<=x/\x<D.n (i+1)
  ·rw[(new' x hx.1 hx.2).1]at e;exact⟨(r2.dom x b d e).2,.inr ⟨i,him,(hS i).2 (.inr rfl),hx.1,hx.2⟩⟩
  ·rw[(old' x hx).1]at e;obtain⟨q1,q2⟩:=j.dom x b d e;exact⟨Nat.lt_of_lt_of_le q1 st.Xc,q2.imp id fun⟨k,z1,z2,z3⟩=>⟨k,z1,(hS k).2 (.inl z2),z3⟩⟩
 ·intro x b d e;by_cases ht:D.tch i x
  ·obtain⟨q1,q2,q3,q4⟩:=hval x b d e ht;rw[q1,q2,q4];exact(r2.obj x b d q3).mono hle2
  ·obtain⟨q1,q2⟩:=hnot x ht;have hx:¬ (D.n i<=x/\x<D.n (i+1)):=fun z=>ht (ZBH x z.1 z.2)
   obtain⟨q3,q4⟩:=old' x hx;rw[q3]at e;rw[q1,q2,q4];by_cases hl:(D.hv S x).live=true
   ·refine((j.obj x b d e).mono (Ren.ZrV hle _)).world (st.frame b (j.dom x b d e).1 ?_);intro y d' hm hy hown;obtain⟨z1,z2⟩:=Zw3 y b d' hm hy hown;have:=j.inj y x b d' d z1 e z2 hl;subst this;exact ht (.inl hm)
   ·rw[Ug hl];trivial
 ·have:(a.put o.dst v').tmps.size=a.tmps.size:=by cases o.dst<;>simp[Act.put]
  rw[this];exact j.tsz
 ·intro t;by_cases hd:UI (ops:=ops) i=some t
  ·have hod:o.dst=some t:=by unfold UI at hd;rw[ho]at hd;exact hd
   have ZbX:∀k,i<k->k<ops.size->UI (ops:=ops) k=some t->¬ S k:=by
    intro k hik hk hdk _;obtain⟨o',ho'⟩:=get hk;have ZF9:o'.dst=some t:=by unfold UI at hdk;rw[ho']at hdk;exact hdk
    have:=D.Zzm i k o o' t ho ho' hod ZF9;omega
   have e1:D.tv S' t=D.vs i:=Zau hS him hd ZbX;have e2:D.tt S' t=D.n (i+1):=Zau hS him hd ZbX;rw[e1,e2,hod];intro _;have htn:t<a.tmps.size:=by rw[j.tsz];exact D.dst i o t ho hod
   have:(a.put (some t) v').tmps.getD t undef=v':=by
    simp[Act.put,Array.getD_eq_getD_getElem?,htn]
   rw[this];exact hv.mono hle2
  ·have e1:D.tv S' t=D.tv S t:=Qr hS hd;have e2:D.tt S' t=D.tt S t:=Qr hS hd;rw[e1,e2];intro hany
   have:(a.put o.dst v').tmps.getD t undef=a.tmps.getD t undef:=by
    cases hod:o.dst with
    | none=>rfl
    | some d=>
      have hne:d≠t:=fun z=>hd (by unfold UI;rw[ho,<-z];exact hod)
      simp[Act.put,Array.getD_eq_getD_getElem?,Array.getElem?_setIfInBounds_ne hne]
   rw[this];exact(j.tmp t hany).mono (Ren.ZrV hle _)
 ·have:(a.put o.dst v').defers=a.defers:=by cases o.dst<;>rfl
  rw[this];exact j.ds.mono (Ren.ZrV hle _)
 ·intro x y b d d' ex ey hox hly;by_cases hx:D.n i<=x/\x<D.n (i+1)
  ·have htx:=ZBH x hx.1 hx.2;obtain⟨x1,_,x3,_⟩:=hval x b d ex htx;by_cases hy:D.n i<=y/\y<D.n (i+1)
   ·obtain⟨y1,_,y3,_⟩:=hval y b d' ey (ZBH y hy.1 hy.2);rw[x1]at hox;rw[y1]at hly;exact r2.inj x y b d d' x3 y3 hox hly
   ·rw[(old' y hy).1]at ey
    have Zri:(ρ.cut (D.n i)) x=none:=by
     cases e:(ρ.cut (D.n i)) x with
     | none=>rfl
     | some p=>have:=(Ren.YP.1 e).1;omega
    rcases(st.JH x b d Zri x3).2 with z|⟨q,dq,z1,z2,z3⟩
    ·have:=(j.dom y b d' ey).1;omega
    ·obtain⟨u1,u2⟩:=Zw3 q b dq z1 z2 z3;have hqy:=j.inj q y b dq d' u1 ey u2 (ZDV y b d' ey hly);subst hqy;obtain⟨y1,_,y3,_⟩:=hval q b d' (hle q (b,d') ey).1 (.inl z1);rw[x1]at hox;rw[y1]at hly;exact r2.inj x q b d d' x3 y3 hox hly
  ·rw[(old' x hx).1]at ex;by_cases hy:D.n i<=y/\y<D.n (i+1)
   ·obtain⟨y1,_,y3,_⟩:=hval y b d' ey (ZBH y hy.1 hy.2)
    have ZFW:(ρ.cut (D.n i)) y=none:=by
     cases e:(ρ.cut (D.n i)) y with
     | none=>rfl
     | some p=>have:=(Ren.YP.1 e).1;omega
    rcases(st.JH y b d' ZFW y3).2 with z|⟨q,dq,z1,z2,z3⟩
    ·have:=(j.dom x b d ex).1;omega
    ·obtain⟨u1,u2⟩:=Zw3 q b dq z1 z2 z3;have hqx:=j.inj x q b d dq ex u1 (ZJn x b d ex hox) (Ur u2);subst hqx;obtain⟨x1,_,x3,_⟩:=hval x b d (hle x (b,d) ex).1 (.inl z1);rw[x1]at hox;rw[y1]at hly;exact r2.inj x y b d d' x3 y3 hox hly
   ·rw[(old' y hy).1]at ey;exact j.inj x y b d d' ex ey (ZJn x b d ex hox) (ZDV y b d' ey hly)
 ·intro b hb hno;rw[<-j.frame b hb hno];refine st.frame b (Nat.lt_of_lt_of_le hb j.Xc) ?_;intro y d hm hy hown;obtain⟨z1,z2⟩:=Zw3 y b d hm hy hown;have hwy:=D.wmM i y him hm.1;rcases ZJq y b d z1 z2 hwy with⟨d',u1,u2⟩|u|⟨q,dq,u1,u2,u3⟩
  ·exact hno y d' hwy u1 u2
  ·omega
  ·exact hno q dq u1 u2 u3
 ·intro x b d e0 e;by_cases hx:D.n i<=x/\x<D.n (i+1)
  ·rw[(new' x hx.1 hx.2).1]at e
   have Zri:(ρ.cut (D.n i)) x=none:=by
    cases e:(ρ.cut (D.n i)) x with
    | none=>rfl
    | some p=>have:=(Ren.YP.1 e).1;omega
   refine⟨by omega,?_⟩;rcases(st.JH x b d Zri e).2 with z|⟨q,dq,z1,z2,z3⟩
   ·exact .inl (Nat.le_trans j.Xc z)
   ·obtain⟨u1,u2⟩:=Zw3 q b dq z1 z2 z3;have hwq:=D.wmM i q him z1.1;rcases ZJq q b dq u1 u2 hwq with⟨d',v1,v2⟩|v
    ·exact .inr ⟨q,d',hwq,v1,v2⟩
    ·exact v
  ·rw[(old' x hx).1]at e;exact j.JH x b d e0 e
def J'.pure{S:Nat->Prop}{ds:List Deferred}{ρ0 ρ:Ren}{w0 w:World}{a:Act}(j:D.J' S ds ρ0 w0 ρ a w)(hc:Closed ops S){i:Nat}{o:Oper}(ho:ops[i]? =some o)(hi:¬ S i)
 (hr:∀e∈o.after,Region.binds .any e=true->S e.on) {F:Fence} (hF:K7 ρ0 rd F) {S':Nat->Prop} (hS:∀k,S' k↔S k\/k=i) {hv:H} (hsz:hv.size=D.n i) (hn:D.n (i+1)=D.n i)
 (hM:∀y,¬ D.mo i y) (hstep:Qj P wm rd ops o (fun _=>False) (D.fs i) hv (D.vs i) hv) (r1:Rel (ρ.cut (D.n i)) hv w) {K:Act->World->Prop} {Q:Exit->Act->World->Prop}
 (hK:∀ρ' a' w',D.J' S' ds ρ0 w0 ρ' a' w'->K a' w'):
 if Region.wanted o (yielded ops a.tmps) then o.wpIn F 0 P a w K Q else(∀f,o.about P w a.eval=some f->F.fn f)/\K (a.put o.dst undef) w:=by
 have him:i<ops.size:=(Array.getElem?_eq_some_iff.1 ho).1;have h0i:=D.Qm 0 i (by omega) (by omega)
 have hF1:K7 (ρ.cut (D.n i)) rd F:=by
  refine hF.mono fun x p e=>?_
  obtain⟨e1,e2⟩:=j.ext x p e;exact⟨Ren.YP.2 ⟨by have:=j.ZpJ x p e;omega,e1⟩,e2⟩
 refine hstep (ρ.cut (D.n i)) a w F K Q r1 (by have:=D.ZkT;have e:D.n 0=(D.hs 0).size:=rfl;omega) (fun t ht hany=>?_) hF1 ?_
 ·obtain⟨q1,q2⟩:=J'.ZnY (D:=D) hc ho hi hr ht;rw[<-q1]at hany ⊢;exact(j.tmp t hany).mono (Ren.Zfh q2)
 intro ρ2 v' w' hvv r2 st
 have hle2:ρ2.le (ρ.cut (D.n (i+1))):=by
  intro x p e;have hx:x<D.n i:=by have:=(r2.dom x p.1 p.2 e).1;omega
  cases e1:(ρ.cut (D.n i)) x with
  | none=>have:=(st.JH x p.1 p.2 e1 e).1;omega
  | some q=>
    obtain⟨q1,q2⟩:=st.ext x q e1;rw[e]at q1;cases q1;exact⟨Ren.YP.2 ⟨by omega,(Ren.YP.1 e1).2⟩,q2.symm⟩
 have hbl:∀b,b<w.heap.size->w'.heap[b]? =w.heap[b]?:=fun b hb=>st.frame b hb fun _ _ h=>h.elim
 have hnt:∀x,¬ D.tch i x:=by
  rintro x (h|h)
  ·exact hM x h.1
  ·omega
 have hnot:∀x,D.hv S' x=D.hv S x/\D.cv S' x=D.cv S x:=fun x=>⟨Qr hS (hnt x),Qr hS (hnt x)⟩
 refine hK ρ (a.put o.dst v') w' ?_
 refine{dom:= ?_,obj:= ?_,tsz:= ?_,tmp:= ?_,ds:= ?_,inj:= ?_,ext:=j.ext,ZpJ:=j.ZpJ,os:=st.os.trans j.os,tape:=st.tape.trans j.tape,output:=st.output.trans j.output,
        Xc:=Nat.le_trans j.Xc st.Xc,frame:= ?_,JH:=j.JH}
 ·intro x b d e;obtain⟨q1,q2⟩:=j.dom x b d e;exact⟨Nat.lt_of_lt_of_le q1 st.Xc,q2.imp id fun⟨k,z1,z2,z3⟩=>⟨k,z1,(hS k).2 (.inl z2),z3⟩⟩
 ·intro x b d e;rw[(hnot x).1,(hnot x).2];exact(j.obj x b d e).world (hbl b (j.dom x b d e).1)
 ·have:(a.put o.dst v').tmps.size=a.tmps.size:=by cases o.dst<;>simp[Act.put]
  rw[this];exact j.tsz
 ·intro t;by_cases hd:UI (ops:=ops) i=some t
  ·have hod:o.dst=some t:=by unfold UI at hd;rw[ho]at hd;exact hd
   have ZbX:∀k,i<k->k<ops.size->UI (ops:=ops) k=some t->¬ S k:=by
    intro k hik hk hdk _;obtain⟨o',ho'⟩:=get hk;have ZF9:o'.dst=some t:=by unfold UI at hdk;rw[ho']at hdk;exact hdk
    have:=D.Zzm i k o o' t ho ho' hod ZF9;omega
   have e1:D.tv S' t=D.vs i:=Zau hS him hd ZbX;have e2:D.tt S' t=D.n (i+1):=Zau hS him hd ZbX;rw[e1,e2,hod];intro _;have htn:t<a.tmps.size:=by rw[j.tsz];exact D.dst i o t ho hod
   have:(a.put (some t) v').tmps.getD t undef=v':=by
    simp[Act.put,Array.getD_eq_getD_getElem?,htn]
   rw[this];exact hvv.mono hle2
  ·have e1:D.tv S' t=D.tv S t:=Qr hS hd;have e2:D.tt S' t=D.tt S t:=Qr hS hd;rw[e1,e2];intro hany
   have:(a.put o.dst v').tmps.getD t undef=a.tmps.getD t undef:=by
    cases hod:o.dst with
    | none=>rfl
    | some d=>
      have hne:d≠t:=fun z=>hd (by unfold UI;rw[ho,<-z];exact hod)
      simp[Act.put,Array.getD_eq_getD_getElem?,Array.getElem?_setIfInBounds_ne hne]
   rw[this];exact j.tmp t hany
 ·have:(a.put o.dst v').defers=a.defers:=by cases o.dst<;>rfl
  rw[this];exact j.ds
 ·intro x y b d d' ex ey h1 h2;rw[(hnot x).1]at h1;rw[(hnot y).1]at h2;exact j.inj x y b d d' ex ey h1 h2
 ·intro b hb hno;rw[hbl b (Nat.lt_of_lt_of_le hb j.Xc)];exact j.frame b hb hno
def J'.next{S:Nat->Prop}{ds:List Deferred}{ρ0 ρ:Ren}{w0 w:World}{a:Act}(j:D.J' S ds ρ0 w0 ρ a w)(hc:Closed ops S){i:Nat}{o:Oper}(ho:ops[i]? =some o)(hi:¬ S i)
 (hr:∀e∈o.after,Region.binds .any e=true->S e.on) {F:Fence} (hF:K7 ρ0 rd F) {S':Nat->Prop} (hS:∀k,S' k↔S k\/k=i) {K:Act->World->Prop} {Q:Exit->Act->World->Prop}
 (hK:∀ρ' a' w',D.J' S' ds ρ0 w0 ρ' a' w'->K a' w'):
 if Region.wanted o (yielded ops a.tmps) then o.wpIn F 0 P a w K Q else(∀f,o.about P w a.eval=some f->F.fn f)/\K (a.put o.dst undef) w:=by
 cases hhl:D.hl i with
 | true=>
   obtain⟨hM,hn,hst⟩:=D.ZBZ i o ho hhl;refine j.pure (hv:=⟨.nil,D.n i⟩) hc ho hi hr hF hS rfl hn hM (hst _) ⟨fun y b d e=>?_,fun y b d e=>?_,fun y z b d d' e e' h1 h2=>?_⟩ hK
   ·rw[Ren.YP]at e;exact⟨e.1,(j.dom y b d e.2).1⟩
   ·have:(⟨.nil,D.n i⟩:H).at y=.dead:=by unfold H.at;cases Nat.blt y (D.n i)<;>rfl
    rw[this];trivial
   ·have:(⟨.nil,D.n i⟩:H).at y=.dead:=by unfold H.at;cases Nat.blt y (D.n i)<;>rfl
    rw[this]at h1;cases h1
 | false=>
 cases hsf:D.soft i with
 | none=>exact j.step hc ho hi hhl hsf hr hF hS hK
 | some p=>
   obtain⟨x,jj⟩:=p;obtain⟨hij,hjm,hxn,hM,hn,hp1,hp2,hs1,hs2⟩:=D.Zl5 i o x jj ho hsf;have him:i<ops.size:=(Array.getElem?_eq_some_iff.1 ho).1;have hxn:x<D.n i:=hxn
   have hother:∀y b d,ρ y=some (b,d)->y<D.n i->y∉D.Xs i->y≠x->D.hv S y=(D.hs i).at y/\D.cv S y<=D.n i:=fun y b d e1 e2 e3 e4=>
    j.Zbc hc ho hi hr e1 e2 e3 hhl fun j' z=>by rw[hsf]at z;cases z;exact e4 rfl
   have view:∀(A:YR),(∀b d,ρ x=some (b,d)->x∉D.Xs i->D.hv S x=A)->(∀(ρ ρ':Ren)(w:World)(b d:Nat)(l:Nat×Nat),Qz ρ w b d l A->Qz ρ' w b d l A)->∀(hv:H),hv.size=D.n i ->
    (∀y,hv.at y=if y∈D.Xs i/\y≠x then .dead else if y=x then(if x∈D.Xs i then .dead else A) else(D.hs i).at y)->Rel (ρ.cut (D.n i)) hv w:=by
    intro A hA hpl hv hvs hva
    have hval:∀y b d,ρ y=some (b,d)->y<D.n i->hv.at y=.dead\/(hv.at y=D.hv S y/\(y=x\/D.cv S y<=D.n i)/\(y=x->D.hv S y=A)):=by
     intro y b d e1 e2;rw[hva];by_cases hyx:y=x
     ·subst hyx;rw[if_neg (fun z=>z.2 rfl),if_pos rfl];by_cases hX:y∈D.Xs i
      ·rw[if_pos hX];exact .inl rfl
      ·rw[if_neg hX];right;have:=hA b d e1 hX;exact⟨this.symm,.inl rfl,fun _=>this⟩
     ·by_cases hX:y∈D.Xs i
      ·rw[if_pos ⟨hX,hyx⟩];exact .inl rfl
      ·rw[if_neg fun z=>hX z.1,if_neg hyx];obtain⟨q1,q2⟩:=hother y b d e1 e2 hX hyx;exact .inr ⟨q1.symm,.inr q2,fun z=>absurd z hyx⟩
    refine⟨fun y b d e=>?_,fun y b d e=>?_,fun y z b d d' e e' h1 h2=>?_⟩
    ·rw[Ren.YP]at e;rw[hvs];exact⟨e.1,(j.dom y b d e.2).1⟩
    ·rw[Ren.YP]at e;rcases hval y b d e.2 e.1 with q|⟨q1,q2,q3⟩
     ·rw[q];trivial
     ·have:=j.obj y b d e.2;rw[q1];rcases q2 with q2|q2
      ·rw[q3 q2]at this ⊢;exact hpl _ _ _ _ _ _ this
      ·exact this.mono (Ren.Zfh q2)
    ·rw[Ren.YP]at e e';rcases hval y b d e.2 e.1 with q|⟨q1,_,_⟩
     ·rw[q]at h1;cases h1
     ·rcases hval z b d' e'.2 e'.1 with q|⟨p1,_,_⟩
      ·rw[q]at h2;cases h2
      ·rw[q1]at h1;rw[p1]at h2;exact j.inj y z b d d' e.2 e'.2 h1 h2
   have hcases:(∀b d,ρ x=some (b,d)->x∉D.Xs i->D.hv S x=(D.hs i).at x)\/(∀b d,ρ x=some (b,d)->x∉D.Xs i->D.hv S x=(D.hs (jj+1)).at x):=by
    by_cases hX:x∈D.Xs i
    ·exact .inl fun _ _ _ z=>absurd hX z
    cases hρ:ρ x with
    | none=>exact .inl fun _ _ z=>by cases z
    | some p=>
      have hcr:∀k,k<ops.size->D.n k<=x->x<D.n (k+1)->(S k↔k<i):=by
       intro k hk h1 h2
       have hki:k<i:=by
        rcases Nat.lt_or_ge k i with z|z
        ·exact z
        ·have:=D.Qm i k z (by omega);omega
       refine⟨fun _=>hki,fun _=>?_⟩;rcases(j.dom x p.1 p.2 hρ).2 with z|⟨k',q1,q2,q3,q4⟩
       ·have:=D.Qm 0 k (by omega) (by omega);omega
       ·have:k'=k:=by
         rcases Nat.lt_trichotomy k' k with z|z|z
         ·have:=D.Qm (k'+1) k (by omega) (by omega);omega
         ·exact z
         ·have:=D.Qm (k+1) k' (by omega) (by omega);omega
        subst this;exact q2
      have key:∀k,k<ops.size->D.tch k x->k≠jj->(S k↔k<i):=by
       intro k hk ht hkj;rcases ht with ht|⟨h1,h2⟩
       ·by_cases hki:k=i
        ·subst hki;exact absurd ht.1 (hM x)
        ·by_cases hcmp:D.Pb i k\/D.Pb k i
         ·exact D.Zfi hc ho hi hr hcmp
         ·rcases D.inc i k him hk (Ne.symm hki) (fun z=>hcmp (.inl z)) (fun z=>hcmp (.inr z)) hhl x ht.1 ht.2 with z|z
          ·rcases z.2 with z|z
           ·exact absurd z hX
           ·rw[hsf]at z;cases z;exact absurd rfl hkj
          ·have:=D.Zmq him;unfold n at this hxn;omega
       ·exact hcr k hk h1 h2
      by_cases hj:S jj/\D.tch jj x
      ·right;intro _ _ _ _
       have:∀m,jj<m->m<=ops.size->last ((D.hs 0).at x) (fun k=>(D.hs (k+1)).at x) S (fun k=>D.tch k x) m=(D.hs (jj+1)).at x:=by
        intro m
        induction m with
        | zero=>intro h;omega
        | succ m ihm=>
          intro h1 h2;rw[last];by_cases hmj:m=jj
          ·subst hmj;rw[if_pos hj]
          ·rw[if_neg]
           ·exact ihm (by omega) (by omega)
           ·rintro⟨z1,z2⟩;have:=(key m (by omega) z2 hmj).1 z1;omega
       exact this ops.size hjm (Nat.le_refl _)
      ·left;intro _ _ _ _;unfold hv;refine Zav _ _ _ _ (fun k=>(D.hs k).at x) rfl (fun k _ _=>rfl) (fun k hk ht=>D.keep hk ht) (Nat.le_of_lt him) fun k hk ht=>?_
       by_cases hkj:k=jj
       ·subst hkj;exact⟨fun z=>absurd ⟨z,ht⟩ hj,fun z=>by omega⟩
       ·exact key k hk ht hkj
   have Zo0:(mask (D.Xs i) (D.hs i)).size=D.n i:=Zo _ _;rcases hcases with hA|hA
   ·refine j.pure hc ho hi hr hF hS Zo0 hn hM hs1 (view _ hA hp1 _ Zo0 fun y=>?_) hK;rw[Xo];by_cases hX:y∈D.Xs i
    ·rw[if_pos hX];by_cases hyx:y=x
     ·subst hyx;rw[if_neg fun z=>z.2 rfl,if_pos rfl,if_pos hX]
     ·rw[if_pos ⟨hX,hyx⟩]
    ·rw[if_neg hX,if_neg fun z=>hX z.1];by_cases hyx:y=x
     ·subst hyx;rw[if_pos rfl,if_neg hX]
     ·rw[if_neg hyx]
   ·by_cases hX:x∈D.Xs i
    ·refine j.pure hc ho hi hr hF hS Zo0 hn hM hs1 (view ((D.hs i).at x) (fun _ _ _ z=>absurd hX z) hp1 _ Zo0 fun y=>?_) hK;rw[Xo];by_cases hY:y∈D.Xs i
     ·rw[if_pos hY];by_cases hyx:y=x
      ·subst hyx;rw[if_neg fun z=>z.2 rfl,if_pos rfl,if_pos hY]
      ·rw[if_pos ⟨hY,hyx⟩]
     ·rw[if_neg hY,if_neg fun z=>hY z.1];by_cases hyx:y=x
      ·subst hyx;exact absurd hX hY
      ·rw[if_neg hyx]
    ·refine j.pure (hv:=(mask (D.Xs i) (D.hs i)).put x ((D.hs (jj+1)).at x)) hc ho hi hr hF hS (by rw[H.size_put];exact Zo0) hn hM hs2 (view _ hA hp2 _ (by rw[H.size_put];exact Zo0) fun y=>?_) hK;rw[H.XP,Xo];by_cases hyx:y=x
     ·subst hyx;rw[if_pos ⟨rfl,by rw[Zo0];exact hxn⟩,if_neg fun z=>z.2 rfl,if_pos rfl,if_neg hX]
     ·rw[if_neg fun z=>hyx z.1];by_cases hY:y∈D.Xs i
      ·rw[if_pos hY,if_pos ⟨hY,hyx⟩]
      ·rw[if_neg hY,if_neg fun z=>hY z.1,if_neg hyx]
def SL(listed:GZ Z)(k:Nat):Prop:=listed.getD k false=true
def ZbD{listed:GZ Z}(hs:listed.size=ops.size){k:Nat}(hk:k<ops.size):listed.getD k true=false↔¬ SL listed k:=by
 unfold SL;simp[Q2,show k<listed.size by omega]
def J'.any{ds:List Deferred}{ρ0:Ren}{w0:World}{F:Fence}(hF:K7 ρ0 rd F){Q:Exit->Act->World->Prop}
 (hQ:∀(S:Nat->Prop) ρ a w,(∀k,k<ops.size->S k)->D.J' S ds ρ0 w0 ρ a w->Q .normal a w):
 ∀(fuel:Nat)(listed:Array Bool),listed.size=ops.size->((List.range ops.size).filter (fun k=>!listed.getD k true)).length<=fuel->Closed ops (SL listed) ->
   ∀ρ a w,D.J' (SL listed) ds ρ0 w0 ρ a w->wpAnyIn F 0 P .any ops Q fuel listed a w:=by
 have done:∀(listed:Array Bool),listed.size=ops.size->Region.ready .any ops listed=[]->∀k,k<ops.size->SL listed k:=by
  intro listed hsz hr k
  induction k using Nat.strongRecOn with
  | ind k ih=>
    intro hk;apply Classical.byContradiction;intro hno;obtain⟨o,ho⟩:=get hk
    have:k∈Region.ready .any ops listed:=mem_ready.2 ⟨(ZbD hsz hk).2 hno,o,ho,fun e he hb=>by
     have hlt:=D.ZlD k o e ho he hb;exact ih e.on hlt (by omega)⟩
    rw[hr]at this;cases this
 intro fuel
 induction fuel with
 | zero=>
   intro listed hsz hn hc ρ a w j
   have hnil:Region.ready .any ops listed=[]:=by
    rw[List.eq_nil_iff_forall_not_mem];intro k hk;obtain⟨h1,o,ho,_⟩:=mem_ready.1 hk;have hlt:k<ops.size:=(Array.getElem?_eq_some_iff.1 ho).1
    have hmem:k∈(List.range ops.size).filter (fun k=>!listed.getD k true):=by
     rw[List.mem_filter];exact⟨List.mem_range.2 hlt,by rw[h1];rfl⟩
    have:=List.length_pos_of_mem hmem;omega
   exact⟨hnil,hQ _ ρ a w (done listed hsz hnil) j⟩
 | succ fuel ih=>
   intro listed hsz hn hc ρ a w j;refine⟨fun hnil=>hQ _ ρ a w (done listed hsz hnil) j,fun i hi=>?_⟩;obtain⟨h1,o,ho,hr⟩:=mem_ready.1 hi;have him:i<ops.size:=(Array.getElem?_eq_some_iff.1 ho).1;unfold wpOpIn;rw[ho]
   have hS:∀k,SL (listed.setIfInBounds i true) k↔SL listed k\/k=i:=by
    intro k;unfold SL;by_cases hk:k=i
    ·subst hk;simp[Array.getD_eq_getD_getElem?,show k<listed.size by omega]
    ·rw[getD_set_ne false (Ne.symm hk)];simp[hk]
   have hc':Closed ops (SL (listed.setIfInBounds i true)):=by
    intro j' o' e hj ho' he hb;rcases(hS j').1 hj with h|h
    ·exact(hS _).2 (.inl (hc j' o' e h ho' he hb))
    ·subst h;rw[ho]at ho';cases ho';exact(hS _).2 (.inl (hr e he hb))
   refine j.next hc ho ((ZbD hsz him).1 h1) hr hF hS fun ρ' a' w' j'=>ih _ (by simpa using hsz) ?_ hc' ρ' a' w' j'
   have heq:(List.range ops.size).filter (fun k=>!(listed.setIfInBounds i true).getD k true)=((List.range ops.size).filter (fun k=>!listed.getD k true)).filter (fun k=>k≠i):=by
    rw[List.filter_filter];apply List.filter_congr;intro k hk;rw[List.mem_range]at hk;by_cases hki:k=i
    ·subst hki;simp[Array.getD_eq_getD_getElem?,show k<listed.size by omega]
    ·rw[getD_set_ne true (Ne.symm hki)];simp[hki]
   rw[heq]
   have hmem:i∈(List.range ops.size).filter (fun k=>!listed.getD k true):=by
    rw[List.mem_filter];exact⟨List.mem_range.2 him,by rw[h1];rfl⟩
   have:(((List.range ops.size).filter (fun k=>!listed.getD k true)).filter (fun k=>k≠i)).length<((List.range ops.size).filter (fun k=>!listed.getD k true)).length:=
    List.length_filter_lt_length_iff_exists.2 ⟨i,hmem,by simp⟩
   omega
def ZFQ(D:Data P nn wm rd ops){x:Nat}(hx:x<wm):∀k,k<=ops.size->(D.hs k).at x=(D.hs 0).at x:=by
 intro k
 induction k with
 | zero=>intro _;rfl
 | succ k ih=>
   intro hk;rw[D.keep V6 ?_]
   ·exact ih V6
   ·rintro(h|h)
    ·have:=D.wmM k x V6 h.1;omega
    ·have h1:=D.Qm 0 k V6 V6;have h2:=D.ZkT;have h3:D.n 0=(D.hs 0).size:=rfl;omega
def J'.start{ds:List Deferred}{ρ:Ren}{a:Act}{w:World}(hi:Inv ρ nn {fr:=D.fs 0,ds:=ds,h:=D.hs 0} a w):D.J' (SL (Array.replicate ops.size false)) ds ρ w ρ a w:=by
 have hno:∀k,¬ SL (Array.replicate ops.size false) k:=by
  intro k;unfold SL;rw[Array.getD_eq_getD_getElem?,Array.getElem?_replicate];split<;>simp
 have e1:∀x,D.hv (SL (Array.replicate ops.size false)) x=(D.hs 0).at x:=fun x=>ZcO _ _ _ _ fun k _ _=>hno k
 have e2:∀x,D.cv (SL (Array.replicate ops.size false)) x=D.n 0:=fun x=>ZcO _ _ _ _ fun k _ _=>hno k
 have e3:∀x,D.tv (SL (Array.replicate ops.size false)) x=(D.fs 0).at x:=fun x=>ZcO _ _ _ _ fun k _ _=>hno k
 have e4:∀x,D.tt (SL (Array.replicate ops.size false)) x=D.n 0:=fun x=>ZcO _ _ _ _ fun k _ _=>hno k
 have hlt:∀x p,ρ x=some p->x<D.n 0:=hi.rel.lt;have hle:=Ren.ZFO hlt;refine{dom:= ?_,obj:= ?_,tsz:=hi.fr.size,tmp:= ?_,ds:=hi.ds.mono hle,inj:= ?_,ext:=Ren.le_refl _,ZpJ:=hlt,os:=rfl,tape:=rfl,output:=rfl,Xc:=Nat.le_refl _,frame:=fun _ _ _=>rfl,JH:= ?_}
 ·intro x b d e;exact⟨(hi.rel.dom x b d e).2,.inl (hlt _ _ e)⟩
 ·intro x b d e;rw[e1,e2];exact(hi.rel.obj x b d e).mono hle
 ·intro t;rw[e3,e4];intro hany;exact(hi.fr.val t hany).mono hle
 ·intro x y b d d' e e' h1 h2;rw[e1]at h1 h2;exact hi.rel.inj x y b d d' e e' h1 h2
 ·intro i b d e e';rw[e]at e';cases e'
def J'.finish{S:Nat->Prop}(hS:∀k,k<ops.size->S k){ds:List Deferred}{ρ0 ρ:Ren}{w0 w:World}{a:Act}(j:D.J' S ds ρ0 w0 ρ a w):
 XJ wm nn ρ0 (D.hs 0) w0 .normal {fr:=D.fs ops.size,ds:=ds,h:=D.hs ops.size} .normal a w:=by
 have key:∀(tc:Nat->Prop) k,k<ops.size->tc k->(S k↔k<ops.size):=fun tc k hk _=>⟨fun _=>hk,fun _=>hS k hk⟩
 have e1:∀x,D.hv S x=(D.hs ops.size).at x:=fun x=>by
  unfold hv;exact Zav _ _ _ _ (fun k=>(D.hs k).at x) rfl (fun k _ _=>rfl) (fun k hk ht=>D.keep hk ht) (Nat.le_refl _) (key _)
 have e3:∀t,D.tv S t=(D.fs ops.size).at t:=fun t=>by
  have hfs:∀k,k<ops.size->(D.fs (k+1)).at t=if UI (ops:=ops) k=some t then D.vs k else(D.fs k).at t:=by
   intro k hk;obtain⟨o',ho'⟩:=get hk;obtain⟨h1,_,_,_,e⟩:=D.step k o' ho';rw[e,ZaP];unfold UI;rw[ho']
   rfl
  unfold tv;exact Zav _ _ _ _ (fun k=>(D.fs k).at t) rfl (fun k hk hd=>by rw[hfs k hk,if_pos hd]) (fun k hk hd=>by rw[hfs k hk,if_neg hd]) (Nat.le_refl _) (key _)
 refine⟨ρ,.normal,⟨⟨?_,?_,?_⟩,⟨j.tsz,?_⟩,j.ds.mono Ren.ZjO⟩,⟨j.ext,D.Qm 0 _ (by omega) (by omega),fun i hi=>D.ZFQ hi _ (by omega),fun i hi h=>D.ZJo hi _ (by omega) h,fun i hi h=>D.ZJt hi _ (by omega) h,
  j.os,j.tape,j.output,j.Xc,j.frame,j.JH⟩⟩
 ·intro x b d e;obtain⟨q1,q2⟩:=j.dom x b d e;refine⟨?_,q1⟩;rcases q2 with z|⟨k,z1,z2,z3,z4⟩
  ·exact Nat.lt_of_lt_of_le z (D.Qm 0 _ (by omega) (by omega))
  ·exact Nat.lt_of_lt_of_le z4 (D.Qm (k+1) _ (by omega) (by omega))
 ·intro x b d e;have:=(j.obj x b d e).mono Ren.ZjO
  rwa[e1]at this
 ·intro x y b d d' e e' h1 h2;exact j.inj x y b d d' e e' (by rw[e1];exact h1) (by rw[e1];exact h2)
 ·intro t;intro hany;have:=(j.tmp t (by rw[e3];exact hany)).mono Ren.ZjO
  rwa[e3]at this
def region(D:Data P nn wm rd ops)(hm:P.follows .mixedOrders=true){ds:U V2}{ρ:Ren}{a:Act}{w:GY}{F:Fence}(hi:Inv ρ nn {fr:=D.fs 0,ds:=ds,h:=D.hs 0} a w)(hF:K7 ρ rd F)(id:Nat):
 (Code.region id ops true).wpIn F 0 P (XJ wm nn ρ (D.hs 0) w .normal {fr:=D.fs ops.size,ds:=ds,h:=D.hs ops.size}) a w:=by
 refine wpIn_region_any hm ?_;have hi':Inv ρ nn {fr:=D.fs 0,ds:=ds,h:=D.hs 0} a {w with drawn:=w.drawn+1}:=⟨⟨hi.rel.dom,fun i b d e=>(hi.rel.obj i b d e).world rfl,hi.rel.inj⟩,hi.fr,hi.ds⟩
 refine J'.any (D:=D) (ds:=ds) (ρ0:=ρ) (w0:= {w with drawn:=w.drawn+1}) hF (fun S ρ' a' w' hS j=>?_) ops.size _ (by simp) (KB (List.length_filter_le _ _) (by simp)) ?_ ρ a _ (J'.start hi')
 ·obtain⟨ρ2,q1,q2,q3⟩:=j.finish hS;exact⟨ρ2,q1,q2,⟨q3.ext,q3.size,q3.keep,q3.own,q3.live,q3.os,q3.tape,q3.output,q3.Xc,q3.frame,q3.JH⟩⟩
 ·intro k o e hk;exfalso;unfold SL at hk;rw[Q2,Array.getElem?_replicate]at hk;split at hk<;>simp at hk
end Data
end
section
def Znk(a b n:Nat):bit (Nat.lor a b) n=(bit a n||bit b n):=by
 rw[ZjV,ZjV,ZjV];exact Nat.testBit_or a b n
def ZtY(a n:Nat):bit (Nat.pow 2 a) n=true↔a=n:=by
 rw[ZjV];have:Nat.pow 2 a=2 ^ a:=rfl;rw[this,Nat.testBit_two_pow];simp
def ZjU(n:Nat):bit 0 n=false:=by rw[ZjV];simp
def ZbM(ps:U Nat)(i:Nat):U Edge->Nat
 | []=>0
 | e::es=>bif Region.binds .any e&&Nat.blt e.on i then Nat.lor (Nat.lor (Nat.pow 2 e.on) (ps.getD e.on 0)) (ZbM ps i es) else ZbM ps i es
def XM:U Oper->Nat->U Nat->U Nat
 | [],_,ps=>ps
 | o::l,i,ps=>XM l (i+1) (ps++[ZbM ps i o.after.toList])
def Zom{ps:U Nat}{i k:Nat}:∀(es:U Edge),bit (ZbM ps i es) k=true->∃e∈es,Region.binds .any e=true/\e.on<i/\(k=e.on\/bit (ps.getD e.on 0) k=true):=by
 intro es
 induction es with
 | nil=>intro h;simp[ZbM,ZjU]at h
 | cons e es ih=>
   intro h;simp only[ZbM]at h;cases hb:(Region.binds .any e&&Nat.blt e.on i)<;>rw[hb]at h<;>simp only[Cq1,Cq0]at h
   ·obtain⟨e',h1,h2⟩:=ih h;exact⟨e',Kf _ h1,h2⟩
   ·rw[Ba0,G0]at hb;rw[Znk,Znk,GB,GB]at h;rcases h with(h|h) | h
    ·exact⟨e,by simp,hb.1,hb.2,.inl ((ZtY _ _).1 h).symm⟩
    ·exact⟨e,by simp,hb.1,hb.2,.inr h⟩
    ·obtain⟨e',h1,h2⟩:=ih h;exact⟨e',Kf _ h1,h2⟩
def ZbL:∀(l:U Oper)(i:Nat)(ps:U Nat),ps.length=i->(∀k,k<i->(XM l i ps).getD k 0=ps.getD k 0)/\
 ∀(j:Nat)(k:Nat),i<=j->bit ((XM l i ps).getD j 0) k=true->∃o,l[j-i]? =some o/\∃e∈o.after.toList,Region.binds .any e=true/\(k=e.on\/bit ((XM l i ps).getD e.on 0) k=true):=by
 intro l
 induction l with
 | nil=>
   intro i ps hl;refine⟨fun _ _=>rfl,fun j k hj h=>?_⟩;simp only[XM]at h;rw[Gh,Jn V6]at h;simp[ZjU]at h
 | cons o l ih=>
   intro i ps hl;obtain⟨h1,h2⟩:=ih (i+1) (ps++[ZbM ps i o.after.toList]) (by simp[hl])
   have hlow:∀k,k<i->(XM (o::l) i ps).getD k 0=ps.getD k 0:=by
    intro k hk;simp only[XM];rw[h1 k V6,Gh,List.getElem?_append_left V6,<-Gh]
   refine⟨hlow,fun j k hj h=>?_⟩;by_cases hji:j=i
   ·subst hji;refine⟨o,by simp,?_⟩
    have e:(XM (o::l) j ps).getD j 0=ZbM ps j o.after.toList:=by
     simp only[XM];rw[h1 j V6,Gh,List.getElem?_append_right V6];simp[hl]
    rw[e]at h;obtain⟨e,he,hb,hlt,hk⟩:=Zom _ h;refine⟨e,he,hb,hk.imp id fun hk=>?_⟩;rw[hlow e.on hlt];exact hk
   ·simp only[XM]at h ⊢;obtain⟨o',ho',e,he⟩:=h2 j k V6 h;exact⟨o',by rw[show j-i=(j-(i+1))+1 by omega];exact ho',e,he⟩
def Qy(p:Nat->Oper->Z):U Oper->Nat->Z
 | [],_=>true
 | o::l,i=>p i o&&Qy p l (i+1)
def Yx{p:Nat->Oper->Z}:∀(l:U Oper)(i:Nat),Qy p l i=true->∀k o,l[k]? =some o->p (i+k) o=true:=by
 intro l
 induction l with
 | nil=>intro i _ k o h;simp at h
 | cons o l ih=>
   intro i h k o' hk;simp only[Qy,Ba0]at h;cases k with
   | zero=>simp at hk;subst hk;exact h.1
   | succ k=>
     have:=ih (i+1) h.2 k o' (by simpa using hk)
     rwa[show i+1+k=i+(k+1) by omega]at this
def isT(d:O Tmp)(t:Tmp):Z:=
 match d with
 | some d=>Nat.beq d t
 | none=>false
def KU{d:O Tmp}{t:Tmp}:isT d t=true↔d=some t:=by
 cases d with
 | none=>simp[isT]
 | some d=>simp[isT,Nat.beq_eq]
def comp(ps:U Nat)(i j:Nat):Z:=bif Nat.blt i j then bit (ps.getD j 0) i else bit (ps.getD i 0) j
def Zad(i:Nat)(o:Oper):Z:=o.after.toList.all fun e=>bif Region.binds .any e then Nat.blt e.on i else true
def ZdM(ops:U Oper)(ps:U Nat)(i:Nat)(o:Oper):Z:=
 (looks ops o).all fun t=>Qy (fun k o'=>bif isT o'.dst t then Nat.beq k i||comp ps i k else true) ops 0
def Zfg(ops:U Oper)(i:Nat)(o:Oper):Z:=
 match o.dst with
 | none=>true
 | some t=>Qy (fun k o'=>bif isT o'.dst t then Nat.beq k i else true) ops 0
def ZiQ(ps:U Nat)(m i:Nat):U Nat:=(List.range m).filter fun j=>bif Nat.beq i j then false else !comp ps i j
def ZsP(ops:U Oper)(ps:U Nat):O (U (U Nat)):=
 bif Qy Zad ops 0&&Qy (ZdM ops ps) ops 0&&Qy (Zfg ops) ops 0 then some ((List.range ops.length).map (ZiQ ps ops.length)) else none
def plan(ops:U Oper):O (U (U Nat)):=ZsP ops (XM ops 0 [])
def ZQ(o:Oper):Z:=
 match o.op with
 | .move _ | .assign _ | .pick .. | .build .. | .nilCheck _ | .binOp .. | .unOp .. | .makeInterface .. | .makeFunc .. | .fieldAddr .. | .field .. | .indexAddr .. | .typeAssert .. | .extract .. =>true
 | _=>false
def hlAt(ops:U Oper)(j:Nat):Z:=
 match ops[j]? with
 | some o=>ZQ o
 | none=>false
def Qs(ops:U Oper)(o:Oper)(inc:U Nat):Z:= !ZQ o&&inc.all (hlAt ops)
def ZBb:AN->Z
 | .val _ | .panic _=>true
 | _=>false
def Quiet(nx:AN)(E:Eff):Prop:=E=.none/\ZBb nx=true
def ZnU{v:O N}{nx:AN}{E:Eff}(h:vN v=some (nx,E)):Quiet nx E:=by
 unfold vN at h;split at h
 ·cases h;exact⟨rfl,rfl⟩
 ·cases h
def Zig{P:GW}{s:Sem N}{nx:AN}{E:Eff}(h:pN (Wo P s)=some (nx,E)):Quiet nx E:=by
 unfold pN at h;split at h
 ·rename_i nx' e;cases h;unfold Wo at e;split at e
  ·rename_i v _;cases hp:plain v<;>rw[hp]at e<;>simp only[Cq1,Cq0]at e
   ·cases e
   ·cases e;exact⟨rfl,rfl⟩
  ·rename_i v _;cases hp:plain v<;>rw[hp]at e<;>simp only[Cq1,Cq0]at e
   ·cases e
   ·cases e;exact⟨rfl,rfl⟩
  ·cases e
 ·cases h
def Zsk{P:GW}{op:BinOp}{t:J}{x y:GV}{a b:N}{nx:AN}{E:Eff}(h:Qk P op t x y a b=some (nx,E)):Quiet nx E:=by
 unfold Qk at h;cases hp:(plain a&&plain b)<;>rw[hp]at h<;>simp only[Cq1,Cq0]at h
 ·split at h
  ·split at h
   ·cases h;exact⟨rfl,rfl⟩
   ·cases h
  ·split at h
   ·cases h;exact⟨rfl,rfl⟩
   ·cases h
  ·cases h
 ·exact Zig h
def Zfs{X:Ctx}(h g:H){ev:GV->O N}{o:Oper}(ho:ZQ o=true):Xx X g ev o=Xx X h ev o:=by
 unfold ZQ at ho;unfold Xx;split at ho<;>first | (cases ho;done) | (rename_i e;rw[e])
set_option maxHeartbeats 1000000 in
theorem ZvB {X:Ctx} {h:H} {ev:Operand ->Option Value} {o:Oper} {nx:AN} {E:Eff} (ho:ZQ o=true) (ha:Xx X h ev o=some (nx,E)):Quiet nx E:=by
 unfold ZQ at ho;unfold Xx at ha;split at ho
 case h_15=>cases ho
 all_goals
  rename_i e;rw [e] at ha;dsimp only at ha
  repeat' split at ha
  all_goals first
   | exact ZnU ha
   | exact Zsk ha
   | (cases ha;done)
   | (cases ha;exact⟨rfl,rfl⟩)
   | (rw [Bool.cond_eq_ite] at ha;split at ha <;> first | exact Zig ha | exact ZnU ha | (cases ha;done) | (cases ha;exact⟨rfl,rfl⟩) | (split at ha <;> first | (cases ha;done) | (cases ha;exact⟨rfl,rfl⟩)))
def Zzn(X:Ctx)(YS:GX->Z)(ih:Ql->O YL)(wm:Nat)(free:Z)(ops:U Oper)(o:Oper)(fr:Fr)(h:H):O (O Nat×N×H):=
 bif !okG ops o fr then none else bif YZ ops o fr then
  match Xx X h (YI fr) o with
  | some (nx,E)=>match E.apply wm h with
    | some h1=>match nx with
      | .val v=>some (E.tgt,v,h1)
      | .skip=>some (E.tgt,undef,h1)
      | .enter f args=>match ZkZ (free||YS f||E.tgt.isSome) wm args h1 with
        | some x=>match ih (.call f args x h1) with
          | some (.fin (.ret v) h2)=>some (some x,v,h2)
          | _=>none
        | none=>match ih (.call f args (bif free && !YS f then wm else h1.size) h1) with
          | some (.fin (.ret v) h2)=>bif YS f&&plain v then some (E.tgt,v,h1) else some (E.tgt,v,h2)
          | _=>none
      | .round l args=>bif free then match ih (.round l args wm h1) with
          | some (.fin (.ret v) h2)=>some (E.tgt,v,h2)
          | _=>none
        else none
      | _=>none
    | none=>none
  | none=>none
 else some (none,undef,h)
def ZpG{X:Ctx}{YS:GX->Z}{ih:Ql->O YL}{n wm:Nat}{wr:O Nat}{free:Z}{ops:U Oper}{o:Oper}{fr:Fr}{h:H}{r:O Nat×N×H}
 (hs:Jj X YS ih n wm wr free ops o fr h=some r) (g:H):Jj X YS ih n wm wr free ops o fr g=Zzn X YS ih wm free ops o fr g:=by
 unfold Jj at hs ⊢;cases e:o.dst with
 | none=>rfl
 | some d=>
   rw[e]at hs;dsimp only at hs ⊢;cases hb:(Nat.blt d n&&allowed wr d)<;>rw[hb]at hs
   ·cases hs
   ·rfl
def QH{X:Ctx}{YS:GX->Z}{ih:Ql->O YL}{n wm:Nat}{wr:O Nat}{free:Z}{ops:U Oper}{o:Oper}{fr:Fr}{h h1:H}{t:O Nat}{v:N}(ho:ZQ o=true)
 (hs:Jj X YS ih n wm wr free ops o fr h=some (t,v,h1)):t=none/\h1=h/\∀g,Jj X YS ih n wm wr free ops o fr g=some (none,v,g):=by
 have hin:=ZpG hs;simp only[hin]at hs ⊢;clear hin;unfold Zzn at hs ⊢;cases hok:okG ops o fr<;>rw[hok]at hs<;>simp only[Gz,QP,Cq1,Cq0]at hs ⊢
 ·cases hs
 cases hwt:YZ ops o fr<;>rw[hwt]at hs<;>simp only[Cq1,Cq0]at hs ⊢
 ·cases hs;exact⟨rfl,rfl,fun g=>rfl⟩
 ·have hap:∀g,Eff.apply wm g .none=some g:=fun _=>rfl
  split at hs
  ·rename_i nx E ha;obtain⟨rfl,hq⟩:=ZvB ho ha;rw[hap]at hs;dsimp only at hs;cases nx with
   | val v'=>
     cases hs;refine⟨rfl,rfl,fun g=>?_⟩;rw[Zfs h g ho,ha];dsimp only;rw[hap];rfl
   | panic v'=>cases hs
   | skip=>cases hq
   | enter f Yg=>cases hq
   | round l Yg=>cases hq
   | dfr d=>cases hq
   | ZkW=>cases hq
  ·cases hs
def Zcc(X:Ctx)(YS:GX->Z)(ih:Ql->O YL)(n wm:Nat)(wr:O Nat)(ops:U Oper):U Oper->U (U Nat)->U (U Nat)->Fr->H->O (U (O Nat×Nat)×U (Fr×H×N)×Fr×H)
 | [],_,_,fr,h=>some ([],[],fr,h)
 | o::l,inc::ZI,X'::Xs,fr,h=>
   match Jj X YS ih n wm wr (Qs ops o inc) ops o fr (mask X' h) with
   | some (t,v,h1)=>match Zcc X YS ih n wm wr ops l ZI Xs (Jb fr o.dst v) (X7 X' h h1) with
     | some (tl,st,Xm,h2)=>some ((t,h.size)::tl,(fr,h,v)::st,Xm,h2)
     | none=>none
   | none=>none
 | _::_,_,_,_,_=>none
def ZFl(t:O Nat)(X:U Nat):Z:=
 match t with
 | none=>true
 | some x=>!X.contains x
def tIn(soft:Z)(tl:U (O Nat×Nat))(n n1:Nat)(X:U Nat)(j:Nat):Z:=
 match(tl.getD j (none,0)).1 with
 | none=>true
 | some x=>(Nat.blt x n&&(soft||X.contains x))||Nat.ble n1 x
def ZwR(rest:U (O Nat×Nat))(nm:Nat):Nat:=
 match rest with
 | (_,n)::_=>n
 | []=>nm
def ckF(soft:Z)(ops:U Oper)(tl:U (O Nat×Nat))(nm:Nat):U Oper->U (O Nat×Nat)->U (U Nat)->U (U Nat)->Z
 | o::os,(t,n)::rest,inc::ZI,X::Xs=>(bif ZQ o then true else bif inc.all (hlAt ops) then X.isEmpty else ZFl t X&&inc.all (tIn soft tl n (ZwR rest nm) X))&&ckF soft ops tl nm os rest ZI Xs
 | [],_,_,_=>true
 | _,_,_,_=>false
def ZsK(a b:Value):Bool:=
 match a,b with
 | .int k n,.int k' m=>decide (k=k')&&decide (n=m)
 | .bool x,.bool y=>x==y
 | .string s,.string s'=>decide (s.data.toList=s'.data.toList)
 | .pointer none,.pointer none=>true
 | .slice none 0 0,.slice none 0 0=>true
 | .map none,.map none=>true
 | .nilIface,.nilIface=>true
 | _,_=>false
def Zn9{a b:N}(h:ZsK a b=true):b=a:=by
 unfold ZsK at h;split at h
 ·rw[Ba0,decide_eq_true_iff,decide_eq_true_iff]at h;rw[h.1,h.2]
 ·rw[eq_of_beq h]
 ·rw[decide_eq_true_iff]at h;rename_i s s';congr 1;cases s;cases s';congr 1;exact(GO.1 h).symm
 all_goals first|rfl|cases h
def Zia:U N->U N->Z
 | [],[]=>true
 | a::Yg,b::bs=>ZsK a b&&Zia Yg bs
 | _,_=>false
def Zh9:∀{Yg bs:U N},Zia Yg bs=true->bs=Yg
 | [],[],_=>rfl
 | a::Yg,b::bs,h=>by
   simp only[Zia,Ba0]at h;rw[Zn9 h.1,Zh9 h.2]
 | [],_::_,h=>by simp[Zia]at h
 | _::_,[],h=>by simp[Zia]at h
def Zwy(a b:N):Z:=
 match a,b with
 | .agg xs,.agg ys=>Zia xs.toList ys.toList
 | .tuple xs,.tuple ys=>Zia xs.toList ys.toList
 | a,b=>ZsK a b
def Zwx{a b:N}(h:Zwy a b=true):b=a:=by
 unfold Zwy at h;split at h
 ·congr 1;exact GO.1 (Zh9 h)
 ·congr 1;exact GO.1 (Zh9 h)
 ·exact Zn9 h
def Zao:YR->Z
 | .row cs _ _=>cs.all plain
 | .map es _=>es.all fun e=>plain e.val
 | _=>false
def Qz.ZsQ{ρ ρ':Ren}{w:GY}{b d:Nat}{l:Nat×Nat}{A:YR}(hp:Zao A=true)(h:Qz ρ w b d l A):Qz ρ' w b d l A:=by
 cases A with
 | row cs own sz=>
   obtain⟨cc,el,fz,a,b,c,e⟩:=h;refine⟨cc,el,fz,a,b,c,fun k v v' x y=>?_⟩;unfold Zao at hp;rw[Ks]at hp;have hv:=hp v (List.mem_of_getElem? x);rw[VR.Y5 hv (e k v v' x y)];exact VR.ZL hv
 | map es clock=>
   obtain⟨a,es',b,c⟩:=h;refine⟨a,es',b,?_⟩;unfold Zao at hp;rw[Ks]at hp;unfold EsR at c ⊢;generalize es'.toList=l at c ⊢;clear b
   induction c with
   | nil=>exact .nil
   | cons hk hq hb hv _ ih=>
     have h1:=hp _ (Gs ..);refine .cons hk hq hb ?_ (ih fun x hx=>hp x (Kf _ hx));rw[VR.Y5 h1 hv];exact VR.ZL h1
 | _=>simp[Zao]at hp
def ZqQ(tl:U (O Nat×Nat))(n:Nat)(X:U Nat)(j:Nat):O (Nat×Nat):=
 match(tl.getD j (none,0)).1 with
 | some x=>bif Nat.blt x n && !X.contains x then some (x,j) else none
 | none=>none
def ZgN(tl:U (O Nat×Nat))(n:Nat)(X inc:U Nat):U (Nat×Nat):=inc.filterMap (ZqQ tl n X)
def hAt(st:U (Fr×H×N))(hf:H)(k:Nat):H:=
 match st[k]? with
 | some (_,h,_)=>h
 | none=>hf
def ZDC(X:Ctx)(YS:GX->Z)(ih:Ql->O YL)(n wm:Nat)(wr:O Nat)(ops:U Oper)(o:Oper)(fr:Fr)(g:H)(v:N):Z:=
 match Jj X YS ih n wm wr false ops o fr g with
 | some (none,v',h1)=>Nat.beq h1.size g.size&&Zwy v v'
 | _=>false
def Zl4(X:Ctx)(YS:GX->Z)(ih:Ql->O YL)(n wm:Nat)(wr:O Nat)(ops:U Oper)(Xs:U (U Nat))(tl:U (O Nat×Nat))(st:U (Fr×H×N))(hf:H)(i x j:Nat):Z:=
 match ops[i]?,st[i]? with
 | some o,some (fr,h,v)=>Nat.blt i j&&(tl.getD i (none,0)).1.isNone&&Nat.beq (hAt st hf (i+1)).size h.size&&Zao (h.at x)&&Zao ((hAt st hf (j+1)).at x) &&
    ZDC X YS ih n wm wr ops o fr ((mask (Xs.getD i []) h).put x ((hAt st hf (j+1)).at x)) v
 | _,_=>false
def ZqP(tl:U (O Nat×Nat))(Xs ZI:U (U Nat))(i:Nat):O (Nat×Nat):=
 bif(ZI.getD i []).isEmpty then none else(ZgN tl (tl.getD i (none,0)).2 (Xs.getD i []) (ZI.getD i [])).head?
def Zwr(X:Ctx)(YS:GX->Z)(ih:Ql->O YL)(n wm:Nat)(wr:O Nat)(ops:U Oper)(ZI Xs:U (U Nat))(tl:U (O Nat×Nat))(st:U (Fr×H×N))(hf:H)(i:Nat):Z:=
 bif(ZI.getD i []).isEmpty then true else
 match ZgN tl (tl.getD i (none,0)).2 (Xs.getD i []) (ZI.getD i []) with
 | []=>true
 | p::q=>bif q.isEmpty then Zl4 X YS ih n wm wr ops Xs tl st hf i p.1 p.2 else false
def JD(X:Ctx)(YS:GX->Z)(ih:Ql->O YL)(n wm:Nat)(soft:Z)(ops:U Oper)(ZI Xs:U (U Nat))(s:Fs):O (U (O Nat×Nat)×Z×Fs):=
 match Zcc X YS ih n wm s.wr ops ops ZI Xs s.fr s.h with
 | some (tl,st,fr,h)=>some (tl,ckF soft ops tl h.size ops tl ZI Xs&&(bif soft then(List.range ops.length).all (Zwr X YS ih n wm s.wr ops ZI Xs tl st h) else true),{s with fr:=fr,h:=h})
 | none=>none
def Zez(tl:U (O Nat×Nat))(inc:U Nat):U Nat:=inc.filterMap fun j=>(tl.getD j (none,0)).1
def ZFR(o:Oper):Z:=
 match o.op with
 | .lookup .. =>true
 | _=>false
def Zwq(tl:U (O Nat×Nat)):U Oper->U (U Nat)->U (U Nat)
 | o::ops,inc::ZI=>(bif ZFR o then [] else Zez tl inc)::Zwq tl ops ZI
 | _,_=>[]
def ZwN(r:O (U (O Nat×Nat)×Z×Fs))(k:O Fs):O Fs:=
 match r with
 | some (_,true,s)=>some s
 | _=>k
def Zzy(fr:Fr)(o:Oper):O Nat:=
 o.op.operands.toList.findSome? fun x=>match YI fr x with
   | some (.slice (some a) _ _)=>some a.block
   | _=>none
def Zww(X:Ctx)(YS:GX->Z)(ih:Ql->O YL)(n wm:Nat)(wr:O Nat)(ops:U Oper):U Oper->U (U Nat)->Fr->H->O (U (O Nat×Nat×Z))
 | o::l,inc::ZI,fr,h=>
   match Jj X YS ih n wm wr (Qs ops o inc) ops o fr h with
   | some (t,v,h1)=>match Zww X YS ih n wm wr ops l ZI (Jb fr o.dst v) h1 with
     | some tl=>some ((t,h.size,false)::tl)
     | none=>none
   | none=>match Jj X YS ih n wm wr true ops o fr h with
     | some (_,v,h1)=>match Zww X YS ih n wm wr ops l ZI (Jb fr o.dst v) h1 with
       | some tl=>some ((Zzy fr o,h.size,true)::tl)
       | none=>none
     | none=>none
 | _,_,_,_=>some []
def upTo:Nat->Nat->U Nat
 | 0,_=>[]
 | k+1,y=>y::upTo k (y+1)
def Zmc(tl:U (O Nat×Nat)):U (O Nat×Nat×Z)->U (U Nat)->U (U Nat)
 | (some x,n,true)::l,inc::ZI=>(Zez tl (inc.filter fun j=>match(tl.getD j (none,0)).1 with|some y=>Nat.blt y x|none=>false)++upTo (n-(x+1)) (x+1))::Zmc tl l ZI
 | _::l,inc::ZI=>Zez tl inc::Zmc tl l ZI
 | _,_=>[]
def Zt4(X:Ctx)(YS:GX->Z)(ih:Ql->O YL)(n wm:Nat)(ops:U Oper)(s:Fs):O Fs:=
 match plan ops with
 | some ZI=>match JD X YS ih n wm false ops ZI (ZI.map fun _=>[]) s with
   | some (tl,ok,s')=>bif ok then some s' else ZwN (JD X YS ih n wm false ops ZI (ZI.map (Zez tl)) s) (ZwN (JD X YS ih n wm true ops ZI (Zwq tl ops ZI) s) none)
   | none=>match Zww X YS ih n wm s.wr ops ops ZI s.fr s.h with
     | some tl=>ZwN (JD X YS ih n wm false ops ZI (Zmc (tl.map fun p=>(p.1,p.2.1)) tl ZI) s) none
     | none=>none
 | none=>none
def ZfU{r:O (U (O Nat×Nat)×Z×Fs)}{k:O Fs}{s:Fs}(h:ZwN r k=some s):(∃tl,r=some (tl,true,s))\/k=some s:=by
 unfold ZwN at h;split at h
 ·cases h;exact .inl ⟨_,rfl⟩
 ·exact .inr h
def Zeb{X:Ctx}{YS:GX->Z}{ih:Ql->O YL}{n wm:Nat}{ops:U Oper}{s s':Fs}(h:Zt4 X YS ih n wm ops s=some s'):
 ∃soft ZI Xs tl,plan ops=some ZI/\JD X YS ih n wm soft ops ZI Xs s=some (tl,true,s'):=by
 unfold Zt4 at h;split at h
 ·rename_i ZI hp;split at h
  ·rename_i tl ok s1 h1;cases ok with
   | true=>cases h;exact⟨_,_,_,_,hp,h1⟩
   | false=>
     rcases ZfU h with⟨tl,h⟩|h
     ·exact⟨_,_,_,_,hp,h⟩
     ·rcases ZfU h with⟨tl,h⟩|h
      ·exact⟨_,_,_,_,hp,h⟩
      ·cases h
  ·split at h
   ·rcases ZfU h with⟨tl,h⟩|h
    ·exact⟨_,_,_,_,hp,h⟩
    ·cases h
   ·cases h
 ·cases h
variable{X:Ctx}{YS:GX->Z}{ih:Ql->O YL}
def Zvk{n wm:Nat}{wr:O Nat}{ops:U Oper}:∀(l:U Oper)(ZI Xs:U (U Nat))(fr fr':Fr)(h h':H)(tl:U (O Nat×Nat))(st:U (Fr×H×N)),Zcc X YS ih n wm wr ops l ZI Xs fr h=some (tl,st,fr',h') ->
 ∃(hs:Nat->H) (fs:Nat->Fr) (vs:Nat->N),hs 0=h/\fs 0=fr/\hs l.length=h'/\fs l.length=fr'/\tl.length=l.length/\st.length=l.length/\(∀k,k<l.length->st[k]? =some (fs k,hs k,vs k))/\
   ∀k o,l[k]? =some o->∃t h1,tl[k]? =some (t,(hs k).size)/\Jj X YS ih n wm wr (Qs ops o (ZI.getD k [])) ops o (fs k) (mask (Xs.getD k []) (hs k))=some (t,vs k,h1)/\
     hs (k+1)=X7 (Xs.getD k []) (hs k) h1/\fs (k+1)=Jb (fs k) o.dst (vs k):=by
 intro l
 induction l with
 | nil=>
   intro ZI Xs fr fr' h h' tl st hr;simp only[Zcc,Q4,Prod.mk.injEq]at hr;obtain⟨rfl,rfl,rfl,rfl⟩:=hr;exact⟨fun _=>h,fun _=>fr,fun _=>undef,rfl,rfl,rfl,rfl,rfl,rfl,fun k hk=>by simp at hk,fun k o e=>by simp at e⟩
 | cons o l ih'=>
   intro ZI Xs fr fr' h h' tl st hr
   match ZI,Xs,hr with
   | inc::ZI,X'::Xs,hr=>
     simp only[Zcc]at hr;split at hr
     ·rename_i t v h1 hd;split at hr
      ·rename_i tl2 st2 Xm h2 hr2;cases hr;obtain⟨hs,fs,vs,e1,e2,e3,e4,e5,e7,e8,e6⟩:=ih' ZI Xs _ _ _ _ _ _ hr2;refine⟨fun k=>match k with|0=>h|k+1=>hs k,fun k=>match k with|0=>fr|k+1=>fs k,fun k=>match k with|0=>v|k+1=>vs k,rfl,rfl,e3,e4,by simp[e5],by simp[e7],?_,?_⟩
       ·intro k hk;cases k with
        | zero=>rfl
        | succ k=>exact e8 k (by simpa using hk)
       intro k o' ho';cases k with
       | zero=>
         simp at ho';subst ho';exact⟨t,h1,rfl,hd,e1,e2⟩
       | succ k=>
         obtain⟨t',h1',q1,q2,q3,q4⟩:=e6 k o' (by simpa using ho');exact⟨t',h1',q1,q2,q3,q4⟩
      ·cases hr
     ·cases hr
   | [],_,hr=>simp[Zcc]at hr
   | _::_,[],hr=>simp[Zcc]at hr
def ZpO{soft:Z}{ops:U Oper}{tl:U (O Nat×Nat)}{nm:Nat}:∀(os:U Oper)(rest:U (O Nat×Nat))(ZI Xs:U (U Nat)),ckF soft ops tl nm os rest ZI Xs=true->∀k t n o,rest[k]? =some (t,n)->os[k]? =some o ->
 ZQ o=true\/(Qs ops o (ZI.getD k [])=true/\(Xs.getD k [])=[])\/(ZQ o=false/\Qs ops o (ZI.getD k [])=false/\ZFl t (Xs.getD k [])=true/\∀j∈ZI.getD k [],tIn soft tl n (ZwR (rest.drop (k+1)) nm) (Xs.getD k []) j=true):=by
 intro os
 induction os with
 | nil=>intro rest ZI Xs _ k t n o _ h;simp at h
 | cons o0 os ih'=>
   intro rest ZI Xs hc k t n o hk ho
   match rest,ZI,Xs,hc with
   | (t0,n0)::rest,inc::ZI,X'::Xs,hc=>
     simp only[ckF,Ba0]at hc;cases k with
     | zero=>
       simp at hk ho;obtain⟨rfl,rfl⟩:=hk;subst ho;simp only[List.getD_cons_zero,JT,List.drop_succ_cons,List.drop_zero];cases hh:ZQ o0 with
       | true=>exact .inl rfl
       | false=>
         right;rw[hh]at hc;simp only[Cq0]at hc;unfold Qs;rw[hh];cases he:inc.all (hlAt ops) with
         | true=>left;rw[he]at hc;exact⟨rfl,by simpa using hc.1⟩
         | false=>
           right;rw[he]at hc;simp only[Cq0,Ba0,Ks]at hc;exact⟨rfl,rfl,hc.1.1,hc.1.2⟩
     | succ k=>
       simpa using ih' rest ZI Xs hc.2 k t n o (by simpa using hk) (by simpa using ho)
   | [],_,_,hc=>simp[ckF]at hc
   | _::_,[],_,hc=>simp[ckF]at hc
   | _::_,_::_,[],hc=>simp[ckF]at hc
def K4{ps:U Nat}{i k:Nat}(h:comp ps i k=true):bit (ps.getD i 0) k=true\/bit (ps.getD k 0) i=true:=by
 unfold comp at h;cases hb:Nat.blt i k<;>rw[hb]at h
 ·exact .inl h
 ·exact .inr h
def Qj.same{P:GW}{wm:Nat}{rd:O Nat}{ops:GZ Oper}{o:Oper}{fr:Fr}{h h':H}{v:N}(hst:Qj P wm rd ops o (fun _=>False) fr h v h')(hs:h'.size=h.size)(km:J2 (fun _=>False) h h'):
 Qj P wm rd ops o (fun _=>False) fr h v h:=by
 intro ρ a w F K Q r Zx hf hF hK
 have hat:∀i,h'.at i=h.at i:=by
  intro i;by_cases hi:i<h.size
  ·exact km.keep i hi fun z=>z
  ·rw[H.ZaF V6,H.ZaF V6]
 refine hst ρ a w F K Q r Zx hf hF fun ρ' v' w' hv hr st=>hK ρ' v' w' hv ⟨fun i b d e=>?_,fun i b d e=>?_,fun i j b d d' e e' h1 h2=>?_⟩ st
 ·rw[<-hs];exact hr.dom i b d e
 ·rw[<-hat];exact hr.obj i b d e
 ·rw[<-hat]at h1 h2;exact hr.inj i j b d d' e e' h1 h2
def Zsh(HI:∀j r,ih j=some r->Ym X j r)(HK:∀j r,ih j=some r->QV j r){n wm:Nat}{rd:O Nat}{soft:Z}{ops:GZ Oper}{ZI Xs:U (U Nat)}{s s':Fs}{tl:U (O Nat×Nat)}
 (hp:plan ops.toList=some ZI) (hr:JD X YS ih n wm soft ops.toList ZI Xs s=some (tl,true,s')) (Zx:wm<=s.h.size):
 ∃D:Data X.P n wm rd ops,D.hs 0=s.h/\D.fs 0=s.fr/\D.hs ops.size=s'.h/\D.fs ops.size=s'.fr/\s'.ds=s.ds:=by
 unfold JD at hr;split at hr
 ·rename_i tl' st' fr' h' hd;simp only[Q4,Prod.mk.injEq]at hr;obtain⟨rfl,hck,rfl⟩:=hr;rw[Ba0]at hck;obtain⟨hck,ZF4⟩:=hck;obtain⟨hs,fs,vs,e1,e2,e3,e4,e5,e7,e8,e6⟩:=Zvk _ _ _ _ _ _ _ _ _ hd;unfold plan ZsP at hp;cases hall:(Qy Zad ops.toList 0&&Qy (ZdM ops.toList (XM ops.toList 0 [])) ops.toList 0&&Qy (Zfg ops.toList) ops.toList 0)<;>rw[hall]at hp<;>simp only[Cq1,Cq0]at hp
  ·cases hp
  simp only[Q4]at hp;rw[Ba0,Ba0]at hall;obtain⟨⟨Zay,ZbW⟩,hdst⟩:=hall;have Zay:=Yx _ _ Zay;have ZbW:=Yx _ _ ZbW;have hdst:=Yx _ _ hdst;have hget:∀{k:Nat}{o:Oper},ops[k]? =some o->ops.toList[k]? =some o:=fun h=>by rwa[G7]
  have hlt:∀{k:Nat}{o:Oper},ops[k]? =some o->k<ops.size:=fun h=>(J0.1 h).1
  have hpos:∀{k:Nat},k<ops.size->∃o,ops[k]? =some o:=fun{k} h=>⟨ops[k],by simp[h]⟩
  have hinc:∀i,i<ops.size->ZI.getD i []=ZiQ (XM ops.toList 0 []) ops.toList.length i:=by
   intro i hi;rw[<-hp,Gh];simp[hi]
  have hspec:=(ZbL ops.toList 0 [] rfl).2
  have hsz:∀k,k<=ops.size->wm<=(hs k).size/\s.h.size<=(hs k).size:=by
   intro k
   induction k with
   | zero=>intro _;rw[e1];exact⟨Zx,K1 _⟩
   | succ k ihk=>
     intro hk;obtain⟨o,ho⟩:=hpos (show k<ops.size by omega);obtain⟨t,h1,q1,q2,q3,q4⟩:=e6 k o (hget ho);obtain⟨km,_,_⟩:=Xu HK q2 (by rw[Zo];exact(ihk V6).1);have:=km.size;rw[Zo]at this;rw[q3,YO];have:=ihk V6;omega
  have htl:∀{k:Nat}{t:O Nat}{m:Nat},tl'[k]? =some (t,m)->(tl'.getD k (none,0)).1=t:=by
   intro k t m h;rw[Gh,h];rfl
  have htn:∀{k:Nat}{t:O Nat}{m:Nat},tl'[k]? =some (t,m)->(tl'.getD k (none,0)).2=m:=by
   intro k t m h;rw[Gh,h];rfl
  have ZKr:∀k,k<=ops.size->hAt st' h' k=hs k:=by
   intro k hk;unfold hAt;by_cases hk':k<ops.size
   ·rw[e8 k (by simpa using hk')]
   ·have:k=ops.toList.length:=by simp;omega
    rw[Jn (by rw[e7];omega),this,e3]
  have Zs8:soft=true->∀i,i<ops.size->(ZI.getD i []).isEmpty=false->ZgN tl' (tl'.getD i (none,0)).2 (Xs.getD i []) (ZI.getD i [])=[]\/
   ∃p,ZgN tl' (tl'.getD i (none,0)).2 (Xs.getD i []) (ZI.getD i [])=[p]/\Zl4 X YS ih n wm s.wr ops.toList Xs tl' st' h' i p.1 p.2=true:=by
   intro hs1 i hi hne;rw[hs1]at ZF4;simp only[Cq1,Ks]at ZF4;have:=ZF4 i (by simpa using hi);unfold Zwr at this;rw[hne]at this;simp only[Cq0]at this;split at this
   ·rename_i e;exact .inl e
   ·rename_i p q e;cases q with
    | nil=>exact .inr ⟨p,e,this⟩
    | cons _ _=>cases this
  refine⟨{hs:=hs,fs:=fs,vs:=vs,mo:=fun k=>MOf (match ops[k]? with|some o=>Qs ops.toList o (ZI.getD k []) | none=>true) wm (tl'.getD k (none,0)).1,Xs:=fun k=>Xs.getD k [],hl:=hlAt ops.toList,soft:=fun k=>bif soft then ZqP tl' Xs ZI k else none,Pb:=fun j k=>bit ((XM ops.toList 0 []).getD j 0) k=true,
          ZkT:=by rw[e1];exact Zx,step:= ?_,wmM:= ?_,dst:= ?_,ZcC:= ?_,ZlD:= ?_,inc:= ?_,ZBZ:= ?_,Zl5:= ?_,MX:= ?_,looks:= ?_,Zzm:= ?_},e1,e2,by rw[<-e3];simp,by rw[<-e4];simp,rfl⟩
  ·intro k o ho;obtain⟨t,h1,q1,q2,q3,q4⟩:=e6 k o (hget ho);have hw:=(hsz k (GP (hlt ho))).1;obtain⟨km,_,_⟩:=Xu HK q2 (by rw[Zo];exact hw);rw[htl q1,ho];exact⟨h1,JC HI HK q2,km,q3,q4⟩
  ·intro k x hk hx;obtain⟨o,ho⟩:=hpos hk;obtain⟨t,h1,q1,q2,q3,q4⟩:=e6 k o (hget ho);have hw:=(hsz k (GP hk)).1;obtain⟨_,hm,_⟩:=Xu HK q2 (by rw[Zo];exact hw);rw[htl q1,ho]at hx;exact hm x hx
  ·intro k o d ho hd;obtain⟨t,h1,q1,q2,q3,q4⟩:=e6 k o (hget ho);have hw:=(hsz k (GP (hlt ho))).1;obtain⟨_,_,h3⟩:=Xu HK q2 (by rw[Zo];exact hw);exact(h3 d hd).1
  ·intro j k h;obtain⟨o,ho,e,he,hb,hk⟩:=hspec j k (GE _) h;exact⟨o,e,by rw[<-G7];simpa using ho,by simpa using he,hb,hk⟩
  ·intro j o e ho he hb;have:=Zay j o (hget ho);unfold Zad at this;rw[Ks]at this;have:=this e (by simpa using he);rw[hb]at this
   simpa[G0]using this
  ·intro i j hi hj hne h1 h2 hhl x hx hxj;obtain⟨o,ho⟩:=hpos hi;obtain⟨t,h3,q1,q2,q3,q4⟩:=e6 i o (hget ho)
   have hnc:comp (XM ops.toList 0 []) i j=false:=by
    rw[Gg];intro hc;rcases K4 hc with z|z
    ·exact h1 z
    ·exact h2 z
   have hnc':comp (XM ops.toList 0 []) j i=false:=by
    rw[Gg];intro hc;rcases K4 hc with z|z
    ·exact h2 z
    ·exact h1 z
   have hmem:j∈ZI.getD i []:=by
    rw[hinc i hi];unfold ZiQ;rw[GR];have hb:Nat.beq i j=false:=by rw[Qx];simpa using hne
    exact⟨by simpa using hj,by rw[hb,hnc];rfl⟩
   have hmem':i∈ZI.getD j []:=by
    rw[hinc j hj];unfold ZiQ;rw[GR];have hb:Nat.beq j i=false:=by rw[Qx];simpa using Ne.symm hne
    exact⟨by simpa using hi,by rw[hb,hnc'];rfl⟩
   have hhi:ZQ o=false:=by
    unfold hlAt at hhl
    rwa[hget ho]at hhl
   obtain⟨oj,hoj⟩:=hpos hj
   have hjf:Qs ops.toList oj (ZI.getD j [])=false:=by
    unfold Qs;rw[Bool.and_eq_false_iff];right;rw[Gg];intro hall;rw[Ks]at hall;rw[hall i hmem']at hhl;cases hhl
   rw[hoj]at hx;dsimp only at hx;unfold MOf at hx;rw[if_neg (by rw[hjf];simp)]at hx;rcases ZpO _ _ _ _ hck i t _ o q1 (hget ho) with z|⟨z,_⟩|⟨_,_,_,z⟩
   ·rw[hhi]at z;cases z
   ·unfold Qs at z;rw[Ba0,Ks]at z;have zj:=z.2 j hmem;unfold hlAt at zj;rw[hget hoj]at zj;obtain⟨tj,hj1,r1,r2,r3,r4⟩:=e6 j oj (hget hoj);have:=(QH zj r2).1;rw[htl r1,this]at hx;cases hx
   ·have:=z j hmem;unfold tIn at this;rw[hx]at this;simp only[GB,Ba0,G0,Gv]at this;refine this.imp (fun h4=>⟨h4.1,?_⟩) fun h4=>?_
    ·by_cases hXx:x∈Xs.getD i []
     ·exact .inl hXx
     refine .inr ?_;have hs1:soft=true:=h4.2.resolve_right hXx
     have hif:(ZI.getD i []).isEmpty=false:=by
      cases hh:ZI.getD i [] with
      | nil=>rw[hh]at hmem;cases hmem
      | cons _ _=>rfl
     have hin:(x,j)∈ZgN tl' (tl'.getD i (none,0)).2 (Xs.getD i []) (ZI.getD i []):=by
      unfold ZgN;rw[List.mem_filterMap];refine⟨j,hmem,?_⟩;unfold ZqQ;rw[hx,htn q1]
      have:(Nat.blt x (hs i).size && !(Xs.getD i []).contains x)=true:=by
       rw[Ba0,G0,Bool.not_eq_true'];exact⟨h4.1,by rw[Gg];intro z;rw[Gv]at z;exact hXx z⟩
      simp only[this,Cq1]
     simp only[hs1,Cq1];unfold ZqP;rw[hif];simp only[Cq0];rcases Zs8 hs1 i hi hif with z|⟨p,z,_⟩
     ·rw[z]at hin;cases hin
     ·rw[z]at hin ⊢;rw[G6]at hin;rw[<-hin];rfl
    have h5:=Nl0 h4
    have hn:ZwR (tl'.drop (i+1)) h'.size=(hs (i+1)).size:=by
     by_cases hi1:i+1<ops.size
     ·obtain⟨o',ho'⟩:=hpos hi1;obtain⟨t',_,r1,_⟩:=e6 (i+1) o' (hget ho')
      have:tl'.drop (i+1)=(t',(hs (i+1)).size)::tl'.drop (i+2):=by
       obtain⟨hl,he⟩:=Li0 r1;rw[List.drop_eq_getElem_cons hl,he]
      rw[this];rfl
     ·have hlen:i+1=ops.toList.length:=by simp;omega
      have:tl'.drop (i+1)=[]:=by rw[List.drop_eq_nil_iff,e5];omega
      rw[this,hlen,e3];rfl
    rw[hn]at h5;exact h5
  ·intro i o ho hh;have hi:=hlt ho;obtain⟨t,h3,q1,q2,q3,q4⟩:=e6 i o (hget ho);have hho:ZQ o=true:=by unfold hlAt at hh;rwa[hget ho]at hh
   obtain⟨rfl,rfl,hg⟩:=QH hho q2;have hfr:Qs ops.toList o (ZI.getD i [])=false:=by unfold Qs;rw[hho];rfl
   have hM:MOf false wm none=fun _=>False:=by
    funext x;unfold MOf;rw[if_neg (by simp)];simp
   refine⟨fun y hy=>?_,?_,fun g=>?_⟩
   ·rw[htl q1,ho]at hy;dsimp only at hy;rw[hfr,hM]at hy;exact hy
   ·rw[q3,YO,Zo]
   ·have hst:=JC (rd:=rd) HI HK (hg g);rw[hfr,hM]at hst;exact hst
  ·intro i o x j ho hso;have hi:=hlt ho;obtain⟨t,h3,q1,q2,q3,q4⟩:=e6 i o (hget ho);have hs1:soft=true:=by cases soft with|true=>rfl|false=>cases hso
   simp only[hs1,Cq1]at hso;unfold ZqP at hso;cases hif:(ZI.getD i []).isEmpty<;>rw[hif]at hso<;>simp only[Cq1,Cq0]at hso
   case true=>cases hso
   rcases Zs8 hs1 i hi hif with z|⟨p,z,hone⟩
   ·rw[z]at hso;cases hso
   rw[z]at hso;cases hso;have hmem:(x,j)∈ZgN tl' (tl'.getD i (none,0)).2 (Xs.getD i []) (ZI.getD i []):=by rw[z];simp
   unfold ZgN at hmem;rw[List.mem_filterMap]at hmem;obtain⟨j',hj',hm⟩:=hmem;unfold ZqQ at hm;split at hm
   case h_2=>cases hm
   rename_i x' hx';cases hbb:(Nat.blt x' (tl'.getD i (none,0)).2 && !(Xs.getD i []).contains x')<;>rw[hbb]at hm<;>simp only[Cq1,Cq0]at hm
   ·cases hm
   cases hm;rw[Ba0,G0,htn q1]at hbb
   have hjm:j<ops.size:=by
    rcases Gl j ops.size with z|z
    ·exact z
    ·rw[Gh,Jn (by rw[e5];simpa using z)]at hx';cases hx'
   unfold Zl4 at hone;rw[hget ho,e8 i (by simpa using hi)]at hone;simp only[Ba0,G0,ZKr (i+1) V6,ZKr (j+1) V6]at hone;obtain⟨⟨⟨⟨⟨o1,o2⟩,o3⟩,o4⟩,o5⟩,o6⟩:=hone;have ht:t=none:=by rw[htl q1]at o2;simpa using o2
   subst ht
   have hff:Qs ops.toList o (ZI.getD i [])=false:=by
    rw[Gg];intro hf;unfold Qs at hf;rw[Ba0,Ks]at hf;have zj:=hf.2 j hj';obtain⟨oj,hoj⟩:=hpos hjm;unfold hlAt at zj;rw[hget hoj]at zj;obtain⟨tj,hj1,r1,r2,r3,r4⟩:=e6 j oj (hget hoj);rw[htl r1,(QH zj r2).1]at hx';cases hx'
   rw[hff]at q2
   have hM:MOf false wm none=fun _=>False:=by
    funext x;unfold MOf;rw[if_neg (by simp)];simp
   have hw:=(hsz i (GP hi)).1;refine⟨o1,hjm,hbb.1,fun y hy=>?_,Nb0 o3,fun _ _ _ _ _ _ h=>h.ZsQ o4,fun _ _ _ _ _ _ h=>h.ZsQ o5,?_,?_⟩
   ·rw[htl q1,ho]at hy;dsimp only at hy;rw[hff,hM]at hy;exact hy
   ·have km:=(Xu HK q2 (by rw[Zo];exact hw)).1;have hst:=JC (rd:=rd) HI HK q2;rw[hM]at km hst
    have hsz1:h3.size=(mask (Xs.getD i []) (hs i)).size:=by
     have:=Nb0 o3;rw[q3,YO]at this;rw[Zo];exact this
    exact hst.same hsz1 km
   ·unfold ZDC at o6;split at o6
    case h_2=>cases o6
    rename_i v' h4 hd4;rw[Ba0]at o6;obtain⟨p1,p2⟩:=o6;rw[Zwx p2]at hd4;have km:=(Xu HK hd4 (by rw[H.size_put,Zo];exact hw)).1;have hst:=JC (rd:=rd) HI HK hd4;rw[hM]at km hst;exact hst.same (Nb0 p1) km
  ·intro i x hi hx hxi;obtain⟨o,ho⟩:=hpos hi;obtain⟨t,h3,q1,q2,q3,q4⟩:=e6 i o (hget ho);rw[ho]at hx;dsimp only at hx;rcases ZpO _ _ _ _ hck i t _ o q1 (hget ho) with z|⟨z1,z2⟩|⟨_,z1,z2,_⟩
   ·have hfr:Qs ops.toList o (ZI.getD i [])=false:=by unfold Qs;rw[z];rfl
    rw[hfr]at hx;unfold MOf at hx;rw[if_neg (by simp),htl q1,(QH z q2).1]at hx;cases hx
   ·rw[z2];simp
   ·unfold MOf at hx;rw[if_neg (by rw[z1];simp),htl q1]at hx;subst hx;unfold ZFl at z2
    simpa using z2
  ·intro i o t ho ht k o' ho' hd;have:=ZbW i o (hget ho);unfold ZdM at this;rw[Ks]at this;have:=Yx _ _ (this t ht) k o' (hget ho');rw[KU.2 hd]at this;simp only[Cq1,GB,JT]at this;rcases this with z|z
   ·exact .inl (Nb0 z)
   ·exact .inr (K4 z)
  ·intro i j o o' t ho ho' hd hd';have:=hdst i o (hget ho);unfold Zfg at this;rw[hd]at this;have:=Yx _ _ this j o' (hget ho');rw[KU.2 hd']at this;simp only[Cq1,JT]at this;exact(Nb0 this).symm
 ·cases hr
def ZkD(HK:∀j r,ih j=some r->QV j r){n wm:Nat}{soft:Z}{ops:U Oper}{ZI Xs:U (U Nat)}{s s':Fs}{tl:U (O Nat×Nat)}{ok:Z}
 (hr:JD X YS ih n wm soft ops ZI Xs s=some (tl,ok,s')) (Zx:wm<=s.h.size):Yl wm s.h s'.h:=by
 have main:∀(wr:O Nat)(l:U Oper)(ZI Xs:U (U Nat))(fr fr':Fr)(h h':H)(tl:U (O Nat×Nat))(st:U (Fr×H×N)),Zcc X YS ih n wm wr ops l ZI Xs fr h=some (tl,st,fr',h')->wm<=h.size->Yl wm h h':=by
  intro wr l
  induction l with
  | nil=>intro ZI Xs fr fr' h h' tl st hr _;simp only[Zcc,Q4,Prod.mk.injEq]at hr;obtain⟨_,_,_,rfl⟩:=hr;exact Yl.refl _ _
  | cons o l ihl=>
    intro ZI Xs fr fr' h h' tl st hr hw
    match ZI,Xs,hr with
    | inc::ZI,X'::Xs,hr=>
      simp only[Zcc]at hr;split at hr
      ·rename_i t v h1 hd;split at hr
       ·rename_i tl2 st2 Xm h2 hr2;cases hr;obtain⟨km,hm,_⟩:=Xu HK hd (by rw[Zo];exact hw);have hsz:=km.size;rw[Zo]at hsz
        have k1:Yl wm h (X7 X' h h1):=by
         refine⟨by rw[YO];exact hsz,fun i hi=>?_,fun i hi ho=>?_,fun i hi ho=>?_⟩
         ·rw[X3 _ _ _ hsz];by_cases hX:i∈X'/\i<h.size
          ·rw[if_pos hX]
          ·rw[if_neg hX,km.keep i (by rw[Zo];omega) (fun z=>by have:=hm i z;omega),Xo,if_neg fun z=>hX ⟨z,by omega⟩]
         ·rw[X3 _ _ _ hsz]at ho;by_cases hX:i∈X'/\i<h.size
          ·rwa[if_pos hX]at ho
          ·rw[if_neg hX]at ho;have:=km.own i (by rw[Zo];exact hi) ho;rw[Xo,if_neg fun z=>hX ⟨z,hi⟩]at this;exact this
         ·rw[X3 _ _ _ hsz]at ho;by_cases hX:i∈X'/\i<h.size
          ·rwa[if_pos hX]at ho
          ·rw[if_neg hX]at ho;have:=km.live i (by rw[Zo];exact hi) ho;rw[Xo,if_neg fun z=>hX ⟨z,hi⟩]at this;exact this
        exact k1.next hw (ihl _ _ _ _ _ _ _ _ hr2)
       ·cases hr
      ·cases hr
    | [],_,hr=>simp[Zcc]at hr
    | _::_,[],hr=>simp[Zcc]at hr
 unfold JD at hr;split at hr
 ·rename_i tl' st' fr' h' hd;simp only[Q4,Prod.mk.injEq]at hr;obtain⟨_,_,rfl⟩:=hr;exact main _ _ _ _ _ _ _ _ _ _ hd Zx
 ·cases hr
inductive UA where
 | lst (l:List Nat)
 | all (n:Nat) (R:List Nat)
def UA.get(wm:Nat):UA->U Nat
 | .lst l=>l
 | .all n R=>(upTo (n-wm) wm).filter fun x=>!R.contains x
def Zw5:∀(k y x:Nat),x∈upTo k y↔y<=x/\x<y+k:=by
 intro k
 induction k with
 | zero=>
   intro y x
   constructor
   ·intro h;cases h
   ·intro h;omega
 | succ k ih=>intro y x;rw[upTo,Kx,ih];omega
def UA.ZBu{wm n x:Nat}{R:U Nat}:x∈(UA.all n R).get wm↔(wm<=x/\x<n)/\x∉R:=by
 show x∈(upTo (n-wm) wm).filter _↔_;rw[GR,Zw5]
 constructor
 ·rintro⟨h1,h2⟩;refine⟨by omega,fun z=>?_⟩;rw[Gv.2 z]at h2;cases h2
 ·rintro⟨h1,h2⟩;refine⟨by omega,?_⟩;rw[Bool.not_eq_true',Gg];exact fun z=>h2 (Gv.1 z)
def Ko(w:Z)(o:Oper):Z:=w && !ZQ o
def U6(X:Ctx)(YS:GX->Z)(ih:Ql->O YL)(n wm:Nat)(wr:O Nat)(ops:U Oper):U Oper->U (U Nat)->U (UA×Z)->Fr->H->O (U (O Nat×Nat)×Fr×H)
 | [],_,_,fr,h=>some ([],fr,h)
 | o::l,inc::ZI,sp::Ue,fr,h=>
   match Jj X YS ih n wm wr (Qs ops o inc||Ko sp.2 o) ops o fr (mask (sp.1.get wm) h) with
   | some (t,v,h1)=>match U6 X YS ih n wm wr ops l ZI Ue (Jb fr o.dst v) (X7 (sp.1.get wm) h h1) with
     | some (tl,Xm,h2)=>some ((t,h.size)::tl,Xm,h2)
     | none=>none
   | none=>none
 | _::_,_,_,_,_=>none
def xAt(Ue:U (UA×Z))(j:Nat):UA:=(Ue.getD j (.lst [],false)).1
def wAt(ops:U Oper)(Ue:U (UA×Z))(j:Nat):Z:=
 match ops[j]? with
 | some o=>Ko (Ue.getD j (.lst [],false)).2 o
 | none=>false
def eqL:U Nat->U Nat->Z
 | [],[]=>true
 | a::l,b::m=>Nat.beq a b&&eqL l m
 | _,_=>false
def Zzl:∀{l m:U Nat},eqL l m=true->l=m
 | [],[],_=>rfl
 | a::l,b::m,h=>by
   unfold eqL at h;rw[Ba0]at h;rw[Nb0 h.1,Zzl h.2]
 | [],_::_,h=>by cases h
 | _::_,[],h=>by cases h
def nAt(tl:U (O Nat×Nat))(nm k:Nat):Nat:=
 match tl[k]? with
 | some p=>p.2
 | none=>nm
def ckJ(wm:Nat)(ops:U Oper)(Ue:U (UA×Z))(tl:U (O Nat×Nat))(nm i j:Nat):Z:=
 bif wAt ops Ue j then(match xAt Ue i,xAt Ue j with
  | .all n R,.lst R'=>Nat.beq n (nAt tl nm j)&&eqL R R'&&Nat.beq (nAt tl nm (i+1)) (nAt tl nm i)
  | _,_=>false)
 else match(tl.getD j (none,0)).1 with
  | none=>true
  | some x=>(Nat.blt x (nAt tl nm i)&&((xAt Ue i).get wm).contains x)||Nat.ble (nAt tl nm (i+1)) x
def ckI(wm:Nat)(ops:U Oper)(ZI:U (U Nat))(Ue:U (UA×Z))(tl:U (O Nat×Nat))(nm i:Nat):Z:=
 match ops[i]? with
 | some o=>ZQ o||Qs ops o (ZI.getD i [])||(bif wAt ops Ue i then(ZI.getD i []).all (fun j=>hlAt ops j||(!wAt ops Ue j&&(tl.getD j (none,0)).1.isNone)) else(ZI.getD i []).all (ckJ wm ops Ue tl nm i))
 | none=>false
def ZqV(X:Ctx)(YS:GX->Z)(ih:Ql->O YL)(n wm:Nat)(wr:O Nat)(ops:U Oper):U Oper->U (U Nat)->Fr->H->O (U (O Nat×Nat×Z)×Fr)
 | o::l,inc::ZI,fr,h=>
   match Jj X YS ih n wm wr (Qs ops o inc) ops o fr h with
   | some (t,v,h1)=>match ZqV X YS ih n wm wr ops l ZI (Jb fr o.dst v) h1 with
     | some (tl,Xm)=>some ((t,h.size,false)::tl,Xm)
     | none=>none
   | none=>match Jj X YS ih n wm wr true ops o fr h with
     | some (_,v,h1)=>match ZqV X YS ih n wm wr ops l ZI (Jb fr o.dst v) h1 with
       | some (tl,Xm)=>some ((none,h.size,true)::tl,Xm)
       | none=>none
     | none=>none
 | _,_,fr,_=>some ([],fr)
def ZC5(fr:Fr)(x:GV):O Nat:=
 match YI fr x with
 | some (.pointer (some a))=>some a.block
 | some (.slice (some a) _ _)=>some a.block
 | some (.map (some b))=>some b
 | _=>none
def ZDU(ops:U Oper)(fr:Fr)(inc:U Nat):U Nat:=
 inc.flatMap fun j=>match ops[j]? with
  | some o=>bif ZQ o then [] else o.op.operands.toList.filterMap (ZC5 fr)
  | none=>[]
def specs(ops:U Oper)(tl:U (O Nat×Nat×Z))(fr:Fr)(ZI:U (U Nat)):U Oper->U (U Nat)->U (O Nat×Nat×Z)->U (UA×Z)
 | o::l,inc::is,(_,_,w)::tr=>(bif w then(.lst (ZDU ops fr inc),true) else match inc.find? fun j=>(tl.getD j (none,0,false)).2.2 with
    | some j=>bif ZQ o then(.lst [],false) else(.all (tl.getD j (none,0,false)).2.1 (ZDU ops fr (ZI.getD j [])),false)
    | none=>(.lst (Zez (tl.map fun p=>(p.1,p.2.1)) inc),false))::specs ops tl fr ZI l is tr
 | _,_,_=>[]
def Zg7(X:Ctx)(YS:GX->Z)(ih:Ql->O YL)(n wm:Nat)(ops:U Oper)(ZI:U (U Nat))(Ue:U (UA×Z))(s:Fs):O Fs:=
 match U6 X YS ih n wm s.wr ops ops ZI Ue s.fr s.h with
 | some (tl,fr,h)=>bif(List.range ops.length).all (ckI wm ops ZI Ue tl h.size) then some {s with fr:=fr,h:=h} else none
 | none=>none
def Znx(X:Ctx)(YS:GX->Z)(ih:Ql->O YL)(n wm:Nat)(ops:U Oper)(s:Fs):O Fs:=
 match plan ops with
 | some ZI=>match ZqV X YS ih n wm s.wr ops ops ZI s.fr s.h with
   | some (tl,fr)=>Zg7 X YS ih n wm ops ZI (specs ops tl fr ZI ops ZI tl) s
   | none=>none
 | none=>none
def ZgC(X:Ctx)(YS:GX->Z)(ih:Ql->O YL)(n wm:Nat)(ops:U Oper)(s:Fs):O Fs:=
 match Zt4 X YS ih n wm ops s with
 | some s'=>some s'
 | none=>Znx X YS ih n wm ops s
def Zco{n wm:Nat}{ops:U Oper}{s s':Fs}(h:Znx X YS ih n wm ops s=some s'):∃ZI Ue,plan ops=some ZI/\Zg7 X YS ih n wm ops ZI Ue s=some s':=by
 unfold Znx at h;split at h
 ·rename_i ZI hp;split at h
  ·exact⟨ZI,_,hp,h⟩
  ·cases h
 ·cases h
def ZrN{n wm:Nat}{wr:O Nat}{ops:U Oper}:∀(l:U Oper)(ZI:U (U Nat))(Ue:U (UA×Z))(fr fr':Fr)(h h':H)(tl:U (O Nat×Nat)),U6 X YS ih n wm wr ops l ZI Ue fr h=some (tl,fr',h') ->
 ∃(hs:Nat->H) (fs:Nat->Fr) (vs:Nat->N),hs 0=h/\fs 0=fr/\hs l.length=h'/\fs l.length=fr'/\tl.length=l.length/\
   ∀k o,l[k]? =some o->∃t h1,tl[k]? =some (t,(hs k).size)/\Jj X YS ih n wm wr (Qs ops o (ZI.getD k [])||Ko (Ue.getD k (.lst [],false)).2 o) ops o (fs k) (mask ((xAt Ue k).get wm) (hs k))=some (t,vs k,h1)/\
     hs (k+1)=X7 ((xAt Ue k).get wm) (hs k) h1/\fs (k+1)=Jb (fs k) o.dst (vs k):=by
 intro l
 induction l with
 | nil=>
   intro ZI Ue fr fr' h h' tl hr;simp only[U6,Q4,Prod.mk.injEq]at hr;obtain⟨rfl,rfl,rfl⟩:=hr;exact⟨fun _=>h,fun _=>fr,fun _=>undef,rfl,rfl,rfl,rfl,rfl,fun k o e=>by simp at e⟩
 | cons o l ih'=>
   intro ZI Ue fr fr' h h' tl hr
   match ZI,Ue,hr with
   | inc::ZI,sp::Ue,hr=>
     simp only[U6]at hr;split at hr
     ·rename_i t v h1 hd;split at hr
      ·rename_i tl2 Xm h2 hr2;cases hr;obtain⟨hs,fs,vs,e1,e2,e3,e4,e5,e6⟩:=ih' ZI Ue _ _ _ _ _ hr2;refine⟨fun k=>match k with|0=>h|k+1=>hs k,fun k=>match k with|0=>fr|k+1=>fs k,fun k=>match k with|0=>v|k+1=>vs k,rfl,rfl,e3,e4,by simp[e5],?_⟩;intro k o' ho';cases k with
       | zero=>
         simp at ho';subst ho';exact⟨t,h1,rfl,hd,e1,e2⟩
       | succ k=>
         obtain⟨t',h1',q1,q2,q3,q4⟩:=e6 k o' (by simpa using ho');exact⟨t',h1',q1,q2,q3,q4⟩
      ·cases hr
     ·cases hr
   | [],_,hr=>simp[U6]at hr
   | _::_,[],hr=>simp[U6]at hr
def ZuQ{a:YR}(h:¬ a.live=true):a=.dead:=by cases a<;>first|rfl|exact absurd rfl h
def Qj.hide{P:GW}{wm:Nat}{rd:O Nat}{ops:GZ Oper}{o:Oper}{M:Nat->Prop}{fr:Fr}{X':U Nat}{h h':H}{v:N}(hst:Qj P wm rd ops o M fr (mask X' h) v h'):
 Qj P wm rd ops o (fun x=>M x/\x∉X') fr (mask X' h) v h':=by
 intro ρ a w F K Q r Zx hf hF hK
 have hown:∀i,((mask X' h).at i).own=true->i∉X':=fun i ho hX=>by
  rw[Xo,if_pos hX]at ho;cases ho
 exact hst ρ a w F K Q r Zx hf hF fun ρ' v' w' hv hr st=>hK ρ' v' w' hv hr
  ⟨st.ext,st.os,st.tape,st.output,st.Xc,fun b hb hno=>st.frame b hb fun i d hi hr' ho=>hno i d ⟨hi,hown i ho⟩ hr' ho,
   fun i b d e e'=>let⟨x,y⟩:=st.JH i b d e e';⟨x,y.imp id fun⟨j,d',p,q,r'⟩=>⟨j,d',⟨p,hown j r'⟩,q,r'⟩⟩⟩
def J2.hide{M:Nat->Prop}{X':U Nat}{h h':H}(km:J2 M (mask X' h) h'):J2 (fun x=>M x/\x∉X') (mask X' h) h':=
 ⟨km.size,fun i hi hn=>by
   by_cases hX:i∈X'
   ·have hd:(mask X' h).at i=.dead:=by rw[Xo,if_pos hX]
    rw[hd];refine ZuQ fun hl=>?_
    have:=km.live i hi hl;rw[hd]at this;cases this
   ·exact km.keep i hi fun hm=>hn ⟨hm,hX⟩,km.own,km.live⟩
def Zqb(HI:∀j r,ih j=some r->Ym X j r)(HK:∀j r,ih j=some r->QV j r){n wm:Nat}{rd:O Nat}{ops:GZ Oper}{ZI:U (U Nat)}{Ue:U (UA×Z)}{s s':Fs}
 (hp:plan ops.toList=some ZI) (hr:Zg7 X YS ih n wm ops.toList ZI Ue s=some s') (Zx:wm<=s.h.size):
 ∃D:Data X.P n wm rd ops,D.hs 0=s.h/\D.fs 0=s.fr/\D.hs ops.size=s'.h/\D.fs ops.size=s'.fr/\s'.ds=s.ds:=by
 unfold Zg7 at hr;split at hr
 ·rename_i tl' fr' h' hd;cases hck:(List.range ops.toList.length).all (ckI wm ops.toList ZI Ue tl' h'.size)<;>rw[hck]at hr<;>simp only[Cq1,Cq0]at hr
  ·cases hr
  cases hr;rw[Ks]at hck;obtain⟨hs,fs,vs,e1,e2,e3,e4,e5,e6⟩:=ZrN _ _ _ _ _ _ _ _ hd;unfold plan ZsP at hp;cases hall:(Qy Zad ops.toList 0&&Qy (ZdM ops.toList (XM ops.toList 0 [])) ops.toList 0&&Qy (Zfg ops.toList) ops.toList 0)<;>rw[hall]at hp<;>simp only[Cq1,Cq0]at hp
  ·cases hp
  simp only[Q4]at hp;rw[Ba0,Ba0]at hall;obtain⟨⟨Zay,ZbW⟩,hdst⟩:=hall;have Zay:=Yx _ _ Zay;have ZbW:=Yx _ _ ZbW;have hdst:=Yx _ _ hdst;have hget:∀{k:Nat}{o:Oper},ops[k]? =some o->ops.toList[k]? =some o:=fun h=>by rwa[G7]
  have hlt:∀{k:Nat}{o:Oper},ops[k]? =some o->k<ops.size:=fun h=>(J0.1 h).1
  have hpos:∀{k:Nat},k<ops.size->∃o,ops[k]? =some o:=fun{k} h=>⟨ops[k],by simp[h]⟩
  have hinc:∀i,i<ops.size->ZI.getD i []=ZiQ (XM ops.toList 0 []) ops.toList.length i:=by
   intro i hi;rw[<-hp,Gh];simp[hi]
  have hspec:=(ZbL ops.toList 0 [] rfl).2
  have hsz:∀k,k<=ops.size->wm<=(hs k).size/\s.h.size<=(hs k).size:=by
   intro k
   induction k with
   | zero=>intro _;rw[e1];exact⟨Zx,K1 _⟩
   | succ k ihk=>
     intro hk;obtain⟨o,ho⟩:=hpos (show k<ops.size by omega);obtain⟨t,h1,q1,q2,q3,q4⟩:=e6 k o (hget ho);obtain⟨km,_,_⟩:=Xu HK q2 (by rw[Zo];exact(ihk V6).1);have:=km.size;rw[Zo]at this;rw[q3,YO];have:=ihk V6;omega
  have htl:∀{k:Nat}{t:O Nat}{m:Nat},tl'[k]? =some (t,m)->(tl'.getD k (none,0)).1=t:=by
   intro k t m h;rw[Gh,h];rfl
  have ZxJ:∀k,k<=ops.size->nAt tl' h'.size k=(hs k).size:=by
   intro k hk;unfold nAt;by_cases hk':k<ops.size
   ·obtain⟨o,ho⟩:=hpos hk';obtain⟨t,_,q1,_⟩:=e6 k o (hget ho);rw[q1]
   ·have:k=ops.toList.length:=by simp;omega
    rw[Jn (by rw[e5];omega),this,e3]
  have hwA:∀{k:Nat}{o:Oper},ops[k]? =some o->wAt ops.toList Ue k=Ko (Ue.getD k (.lst [],false)).2 o:=fun{k o} ho=>by
   unfold wAt;rw[hget ho]
  have hless:∀{k:Nat}{o:Oper}{x:Nat},ops[k]? =some o->ZQ o=true->¬ MOf (Qs ops.toList o (ZI.getD k [])||Ko (Ue.getD k (.lst [],false)).2 o) wm (tl'.getD k (none,0)).1 x:=by
   intro k o x ho hh hx;obtain⟨t,h1,q1,q2,q3,q4⟩:=e6 k o (hget ho)
   have hf:(Qs ops.toList o (ZI.getD k [])||Ko (Ue.getD k (.lst [],false)).2 o)=false:=by
    unfold Qs Ko;rw[hh];simp
   rw[hf]at hx;unfold MOf at hx;rw[if_neg (by simp),htl q1,(QH hh q2).1]at hx;cases hx
  refine⟨{hs:=hs,fs:=fs,vs:=vs,mo:=fun k x=>MOf (match ops[k]? with|some o=>(Qs ops.toList o (ZI.getD k [])||Ko (Ue.getD k (.lst [],false)).2 o) | none=>true) wm (tl'.getD k (none,0)).1 x/\x∉(xAt Ue k).get wm,Xs:=fun k=>(xAt Ue k).get wm,hl:=hlAt ops.toList,soft:=fun k=>none,Pb:=fun j k=>bit ((XM ops.toList 0 []).getD j 0) k=true,
          ZkT:=by rw[e1];exact Zx,step:= ?_,wmM:= ?_,dst:= ?_,ZcC:= ?_,ZlD:= ?_,inc:= ?_,ZBZ:= ?_,Zl5:= ?_,MX:= ?_,looks:= ?_,Zzm:= ?_},e1,e2,by rw[<-e3];simp,by rw[<-e4];simp,rfl⟩
  ·intro k o ho;obtain⟨t,h1,q1,q2,q3,q4⟩:=e6 k o (hget ho);have hw:=(hsz k (GP (hlt ho))).1;obtain⟨km,_,_⟩:=Xu HK q2 (by rw[Zo];exact hw);rw[htl q1,ho];exact⟨h1,(JC HI HK q2).hide,km.hide,q3,q4⟩
  ·intro k x hk hx;obtain⟨o,ho⟩:=hpos hk;obtain⟨t,h1,q1,q2,q3,q4⟩:=e6 k o (hget ho);have hw:=(hsz k (GP hk)).1;obtain⟨_,hm,_⟩:=Xu HK q2 (by rw[Zo];exact hw);rw[htl q1,ho]at hx;exact hm x hx.1
  ·intro k o d ho hd;obtain⟨t,h1,q1,q2,q3,q4⟩:=e6 k o (hget ho);have hw:=(hsz k (GP (hlt ho))).1;obtain⟨_,_,h3⟩:=Xu HK q2 (by rw[Zo];exact hw);exact(h3 d hd).1
  ·intro j k h;obtain⟨o,ho,e,he,hb,hk⟩:=hspec j k (GE _) h;exact⟨o,e,by rw[<-G7];simpa using ho,by simpa using he,hb,hk⟩
  ·intro j o e ho he hb;have:=Zay j o (hget ho);unfold Zad at this;rw[Ks]at this;have:=this e (by simpa using he);rw[hb]at this
   simpa[G0]using this
  ·intro i j hi hj hne h1 h2 hhl x hx hxj;obtain⟨o,ho⟩:=hpos hi;obtain⟨t,h3,q1,q2,q3,q4⟩:=e6 i o (hget ho)
   have hnc:comp (XM ops.toList 0 []) i j=false:=by
    rw[Gg];intro hc;rcases K4 hc with z|z
    ·exact h1 z
    ·exact h2 z
   have hnc':comp (XM ops.toList 0 []) j i=false:=by
    rw[Gg];intro hc;rcases K4 hc with z|z
    ·exact h2 z
    ·exact h1 z
   have hmem:j∈ZI.getD i []:=by
    rw[hinc i hi];unfold ZiQ;rw[GR];have hb:Nat.beq i j=false:=by rw[Qx];simpa using hne
    exact⟨by simpa using hj,by rw[hb,hnc];rfl⟩
   have hmem':i∈ZI.getD j []:=by
    rw[hinc j hj];unfold ZiQ;rw[GR];have hb:Nat.beq j i=false:=by rw[Qx];simpa using Ne.symm hne
    exact⟨by simpa using hi,by rw[hb,hnc'];rfl⟩
   have hhi:ZQ o=false:=by
    unfold hlAt at hhl
    rwa[hget ho]at hhl
   obtain⟨oj,hoj⟩:=hpos hj
   have hjf:Qs ops.toList oj (ZI.getD j [])=false:=by
    unfold Qs;rw[Bool.and_eq_false_iff];right;rw[Gg];intro hall;rw[Ks]at hall;rw[hall i hmem']at hhl;cases hhl
   rw[hoj]at hx;dsimp only at hx;obtain⟨hx,hxX⟩:=hx;have hck:=hck i (by simpa using hi);unfold ckI at hck;rw[hget ho]at hck;simp only[hhi,Bool.false_or,GB]at hck;rcases hck with hck|hck
   ·-- nothing beside it looks at the heap
    unfold Qs at hck;rw[Ba0,Ks]at hck;have zj:=hck.2 j hmem;unfold hlAt at zj;rw[hget hoj]at zj;exact absurd hx (hless hoj zj)
   ·cases hwi:wAt ops.toList Ue i<;>rw[hwi]at hck<;>simp only[Cq1,Cq0,Ks]at hck
    ·have zj:=hck j hmem;unfold ckJ at zj;rw[hwA hoj]at zj;cases hwj:Ko (Ue.getD j (.lst [],false)).2 oj<;>rw[hwj]at zj hx<;>simp only[Cq1,Cq0]at zj
     ·rw[hjf]at hx;unfold MOf at hx;rw[if_neg (by simp)]at hx;rw[hx]at zj;simp only[GB,Ba0,G0,Gv,ZxJ i V6,ZxJ (i+1) V6]at zj;exact zj.imp (fun z=>⟨z.1,.inl z.2⟩) Nl0
     ·split at zj
      ·rename_i m R R' hxi ZN4;rw[Ba0,Ba0]at zj;obtain⟨⟨z1,z2⟩,z3⟩:=zj;have z1:=Nb0 z1;have z2:=Zzl z2;have z3:=Nb0 z3;rw[ZxJ j V6]at z1;rw[ZxJ i V6,ZxJ (i+1) V6]at z3
       have hwx:wm<=x:=by
        rw[hjf]at hx;unfold MOf at hx
        rwa[if_pos (by simp)]at hx
       rw[ZN4]at hxX;have hxR:x∉R:=by rw[z2];exact hxX
       rcases Gl x (hs i).size with q|q
       ·left;refine⟨q,.inl ?_⟩;show x∈(xAt Ue i).get wm;rw[hxi,UA.ZBu];exact⟨⟨hwx,by rw[z1];exact hxj⟩,hxR⟩
       ·right;rw[z3];exact q
      ·cases zj
    ·have zj:=hck j hmem;rw[GB]at zj;rcases zj with zj|zj
     ·unfold hlAt at zj;rw[hget hoj]at zj;exact absurd hx (hless hoj zj)
     ·rw[Ba0,hwA hoj,Bool.not_eq_true']at zj;rw[hjf,zj.1]at hx;unfold MOf at hx;rw[if_neg (by simp)]at hx;rw[hx]at zj;cases zj.2
  ·intro i o ho hh;have hi:=hlt ho;obtain⟨t,h3,q1,q2,q3,q4⟩:=e6 i o (hget ho);have hho:ZQ o=true:=by unfold hlAt at hh;rwa[hget ho]at hh
   obtain⟨rfl,rfl,hg⟩:=QH hho q2;have hfr:(Qs ops.toList o (ZI.getD i [])||Ko (Ue.getD i (.lst [],false)).2 o)=false:=by unfold Qs Ko;rw[hho];simp
   have hM:MOf false wm none=fun _=>False:=by
    funext x;unfold MOf;rw[if_neg (by simp)];simp
   refine⟨fun y hy=>?_,?_,fun g=>?_⟩
   ·rw[htl q1,ho]at hy;dsimp only at hy;rw[hfr,hM]at hy;exact hy.1
   ·rw[q3,YO,Zo]
   ·have hst:=JC (rd:=rd) HI HK (hg g);rw[hfr,hM]at hst;exact hst
  ·intro i o x j ho hso;cases hso
  ·intro i x hi hx hxi;exact hx.2
  ·intro i o t ho ht k o' ho' hd;have:=ZbW i o (hget ho);unfold ZdM at this;rw[Ks]at this;have:=Yx _ _ (this t ht) k o' (hget ho');rw[KU.2 hd]at this;simp only[Cq1,GB,JT]at this;rcases this with z|z
   ·exact .inl (Nb0 z)
   ·exact .inr (K4 z)
  ·intro i j o o' t ho ho' hd hd';have:=hdst i o (hget ho);unfold Zfg at this;rw[hd]at this;have:=Yx _ _ this j o' (hget ho');rw[KU.2 hd']at this;simp only[Cq1,JT]at this;exact(Nb0 this).symm
 ·cases hr
def ZrO(HK:∀j r,ih j=some r->QV j r){n wm:Nat}{ops:U Oper}{ZI:U (U Nat)}{Ue:U (UA×Z)}{s s':Fs}
 (hr:Zg7 X YS ih n wm ops ZI Ue s=some s') (Zx:wm<=s.h.size):Yl wm s.h s'.h:=by
 have main:∀(wr:O Nat)(l:U Oper)(ZI:U (U Nat))(Ue:U (UA×Z))(fr fr':Fr)(h h':H)(tl:U (O Nat×Nat)),U6 X YS ih n wm wr ops l ZI Ue fr h=some (tl,fr',h')->wm<=h.size->Yl wm h h':=by
  intro wr l
  induction l with
  | nil=>intro ZI Ue fr fr' h h' tl hr _;simp only[U6,Q4,Prod.mk.injEq]at hr;obtain⟨_,_,rfl⟩:=hr;exact Yl.refl _ _
  | cons o l ihl=>
    intro ZI Ue fr fr' h h' tl hr hw
    match ZI,Ue,hr with
    | inc::ZI,sp::Ue,hr=>
      simp only[U6]at hr;split at hr
      ·rename_i t v h1 hd;split at hr
       ·rename_i tl2 Xm h2 hr2;cases hr;obtain⟨km,hm,_⟩:=Xu HK hd (by rw[Zo];exact hw);generalize sp.1.get wm=X' at *;have hsz:=km.size;rw[Zo]at hsz
        have k1:Yl wm h (X7 X' h h1):=by
         refine⟨by rw[YO];exact hsz,fun i hi=>?_,fun i hi ho=>?_,fun i hi ho=>?_⟩
         ·rw[X3 _ _ _ hsz];by_cases hX:i∈X'/\i<h.size
          ·rw[if_pos hX]
          ·rw[if_neg hX,km.keep i (by rw[Zo];omega) (fun z=>by have:=hm i z;omega),Xo,if_neg fun z=>hX ⟨z,by omega⟩]
         ·rw[X3 _ _ _ hsz]at ho;by_cases hX:i∈X'/\i<h.size
          ·rwa[if_pos hX]at ho
          ·rw[if_neg hX]at ho;have:=km.own i (by rw[Zo];exact hi) ho;rw[Xo,if_neg fun z=>hX ⟨z,hi⟩]at this;exact this
         ·rw[X3 _ _ _ hsz]at ho;by_cases hX:i∈X'/\i<h.size
          ·rwa[if_pos hX]at ho
          ·rw[if_neg hX]at ho;have:=km.live i (by rw[Zo];exact hi) ho;rw[Xo,if_neg fun z=>hX ⟨z,hi⟩]at this;exact this
        exact k1.next hw (ihl _ _ _ _ _ _ _ hr2)
       ·cases hr
      ·cases hr
    | [],_,hr=>simp[U6]at hr
    | _::_,[],hr=>simp[U6]at hr
 unfold Zg7 at hr;split at hr
 ·rename_i tl' fr' h' hd;cases hck:(List.range ops.length).all (ckI wm ops ZI Ue tl' h'.size)<;>rw[hck]at hr<;>simp only[Cq1,Cq0]at hr
  ·cases hr
  cases hr;exact main _ _ _ _ _ _ _ _ _ hd Zx
 ·cases hr
def Zcp{n wm:Nat}{ops:U Oper}{s s':Fs}(h:ZgC X YS ih n wm ops s=some s'):Zt4 X YS ih n wm ops s=some s'\/Znx X YS ih n wm ops s=some s':=by
 unfold ZgC at h;split at h
 ·rename_i s1 e;cases h;exact .inl e
 ·exact .inr h
def Zqc(HI:∀j r,ih j=some r->Ym X j r)(HK:∀j r,ih j=some r->QV j r){n wm:Nat}{rd:O Nat}{ops:GZ Oper}{s s':Fs}
 (hr:ZgC X YS ih n wm ops.toList s=some s') (Zx:wm<=s.h.size):
 ∃D:Data X.P n wm rd ops,D.hs 0=s.h/\D.fs 0=s.fr/\D.hs ops.size=s'.h/\D.fs ops.size=s'.fr/\s'.ds=s.ds:=by
 rcases Zcp hr with h|h
 ·obtain⟨soft,ZI,Xs,tl,hp,h1⟩:=Zeb h;exact Zsh HI HK hp h1 Zx
 ·obtain⟨ZI,Ue,hp,h1⟩:=Zco h;exact Zqb HI HK hp h1 Zx
def cfg(X:Ctx)(YS:GX->Z):Cfg:=⟨X,YS,fun ih n wm _ ops s=>ZgC X YS ih n wm ops s⟩
def Zzx:Zkb (cfg X YS):=by
 intro ih HK n wm rd ops s s' hr Zx;rcases Zcp (X:=X) (YS:=YS) hr with h|h
 ·obtain⟨_,_,_,_,_,h1⟩:=Zeb (X:=X) (YS:=YS) h;exact ZkD HK h1 Zx
 ·obtain⟨_,_,_,h1⟩:=Zco (X:=X) (YS:=YS) h;exact ZrO HK h1 Zx
end
section
variable{X:Ctx}{ih:Ql->O YL}
structure FsW(s s':Fs):Prop where
 wr:s'.wr=s.wr
 fr:∀t,allowed s.wr t=false->s'.fr.at t=s.fr.at t
 ds:∃l,s'.ds=l++s.ds
def FsW.refl(s:Fs):FsW s s:=⟨rfl,fun _ _=>rfl,[],rfl⟩
def FsW.trans{a b c:Fs}(h:FsW a b)(k:FsW b c):FsW a c:=by
 refine⟨k.wr.trans h.wr,fun t ht=>(k.fr t (by rw[h.wr];exact ht)).trans (h.fr t ht),?_⟩;obtain⟨l,e⟩:=h.ds;obtain⟨l',e'⟩:=k.ds;exact⟨l'++l,by rw[e',e,Gk]⟩
def FsW.heap(s:Fs)(h:H):FsW s {s with h:=h}:=⟨rfl,fun _ _=>rfl,[],rfl⟩
def ZzL{n:Nat}{s s':Fs}{dst:O Tmp}{v:N}(h:Zgy n s dst v=some s'):FsW s s':=by
 rw[ZhM]at h;split at h
 ·cases h;exact FsW.refl _
 ·rename_i d;cases hd:(Nat.blt d n&&allowed s.wr d)<;>rw[hd]at h<;>simp only[Cq1,Cq0]at h
  ·cases h
  ·cases h;rw[Ba0]at hd;refine⟨rfl,fun t ht=>?_,[],rfl⟩;have:t≠d:=fun e=>by rw[e,hd.2]at ht;cases ht
   simp[Fr.at,Tr.XE,this]
def ZAj:Ql->YL->Prop
 | .code _ _ _ _ s,r=>∀e s',r=.code e s'->FsW s s'
 | .loop _ _ _ _ s,r=>∀e s',r=.code e s'->FsW s s'
 | _,_=>True
def ZC8{YS:GX->Z}{n wm:Nat}{rd:O Nat}{dst:O Tmp}{s s':Fs}{nx:AN}{h':H}{e:XX}(h:WI YS ih n wm rd dst s nx h'=some (e,s')):FsW s s':=by
 have go:∀{s1:Fs}{v:N},FsW s s1->(match Zgy n s1 dst v with|some s=>some (XX.normal,s) | none=>none)=some (e,s')->FsW s s':=by
  intro s1 v hw hh;split at hh
  ·rename_i s2 hp;cases hh;exact hw.trans (ZzL hp)
  ·cases hh
 unfold WI at h;dsimp only[Jp]at h;split at h
 ·exact go (FsW.heap _ _) h
 ·exact go (FsW.heap _ _) h
 ·rename_i f args;cases hp:YS f<;>rw[hp]at h<;>simp only[Cq1,Cq0]at h
  ·split at h
   ·exact go (FsW.heap _ _) h
   ·cases h;exact FsW.heap _ _
   ·cases h
  ·split at h
   ·rename_i v h2 hc;cases hpl:plain v<;>rw[hpl]at h<;>simp only[Cq1,Cq0]at h
    ·cases h
    ·exact go (FsW.heap _ _) h
   ·cases h
 ·split at h
  ·exact go (FsW.heap _ _) h
  ·cases h;exact FsW.heap _ _
  ·cases h
 ·split at h
  ·refine go ?_ h;exact⟨rfl,fun _ _=>rfl,[_],rfl⟩
  ·cases h
 ·cases h
 ·cases h;exact FsW.heap _ _
def Zsc{YS:GX->Z}{n wm:Nat}{rd:O Nat}{ops:U Oper}:∀(l:U Oper)(s s':Fs)(e:XX),ZkJ X YS ih n wm rd ops l s=some (e,s')->FsW s s':=by
 have step:∀(o:Oper)(s s':Fs)(e:XX),JO X YS ih n wm rd ops o s=some (e,s')->FsW s s':=by
  intro o s s' e h;unfold JO at h;cases hok:okG ops o s.fr<;>rw[hok]at h<;>simp only[Gz,QP,Cq1,Cq0]at h
  ·cases h
  cases hwt:YZ ops o s.fr<;>rw[hwt]at h<;>simp only[Cq1,Cq0]at h
  ·split at h
   ·rename_i s2 hp;cases h;exact ZzL hp
   ·cases h
  ·split at h
   ·split at h
    ·exact ZC8 h
    ·cases h
   ·cases h
 intro l
 induction l with
 | nil=>intro s s' e h;cases h;exact FsW.refl _
 | cons o l ihl=>
   intro s s' e h;simp only[ZkJ]at h;split at h
   ·rename_i s1 h1;exact(step o s s1 _ h1).trans (ihl s1 s' e h)
   ·rename_i v s1 h1;cases h;exact step o s s' _ h1
   ·cases h
def ZrP{YS:GX->Z}{n wm:Nat}{soft:Z}{ops:U Oper}{ZI Xs:U (U Nat)}{s s':Fs}{tl:U (O Nat×Nat)}{ok:Z}(hr:JD X YS ih n wm soft ops ZI Xs s=some (tl,ok,s')):FsW s s':=by
 have main:∀(wr:O Nat)(l:U Oper)(ZI Xs:U (U Nat))(fr fr':Fr)(h h':H)(tl:U (O Nat×Nat))(st:U (Fr×H×N)),Zcc X YS ih n wm wr ops l ZI Xs fr h=some (tl,st,fr',h')->∀t,allowed wr t=false->fr'.at t=fr.at t:=by
  intro wr l
  induction l with
  | nil=>intro ZI Xs fr fr' h h' tl st hr t _;simp only[Zcc,Q4,Prod.mk.injEq]at hr;obtain⟨_,_,rfl,_⟩:=hr;rfl
  | cons o l ihl=>
    intro ZI Xs fr fr' h h' tl st hr t ht
    match ZI,Xs,hr with
    | inc::ZI,X'::Xs,hr=>
      simp only[Zcc]at hr;split at hr
      ·rename_i tt v h1 hd;split at hr
       ·rename_i tl2 st2 Xm h2 hr2;cases hr;rw[ihl _ _ _ _ _ _ _ _ hr2 t ht,ZaP,if_neg fun e=>by rw[ZtO hd t e]at ht;cases ht]
       ·cases hr
      ·cases hr
    | [],_,hr=>simp[Zcc]at hr
    | _::_,[],hr=>simp[Zcc]at hr
 unfold JD at hr;split at hr
 ·rename_i tl' st' fr' h' hd;simp only[Q4,Prod.mk.injEq]at hr;obtain⟨_,_,rfl⟩:=hr;exact⟨rfl,main _ _ _ _ _ _ _ _ _ _ hd,[],rfl⟩
 ·cases hr
def ZCV{YS:GX->Z}{n wm:Nat}{ops:U Oper}{ZI:U (U Nat)}{Ue:U (UA×Z)}{s s':Fs}(hr:Zg7 X YS ih n wm ops ZI Ue s=some s'):FsW s s':=by
 have main:∀(wr:O Nat)(l:U Oper)(ZI:U (U Nat))(Ue:U (UA×Z))(fr fr':Fr)(h h':H)(tl:U (O Nat×Nat)),U6 X YS ih n wm wr ops l ZI Ue fr h=some (tl,fr',h')->∀t,allowed wr t=false->fr'.at t=fr.at t:=by
  intro wr l
  induction l with
  | nil=>intro ZI Ue fr fr' h h' tl hr t _;simp only[U6,Q4,Prod.mk.injEq]at hr;obtain⟨_,rfl,_⟩:=hr;rfl
  | cons o l ihl=>
    intro ZI Ue fr fr' h h' tl hr t ht
    match ZI,Ue,hr with
    | inc::ZI,sp::Ue,hr=>
      simp only[U6]at hr;split at hr
      ·rename_i tt v h1 hd;split at hr
       ·rename_i tl2 Xm h2 hr2;cases hr;rw[ihl _ _ _ _ _ _ _ hr2 t ht,ZaP,if_neg fun e=>by rw[ZtO hd t e]at ht;cases ht]
       ·cases hr
      ·cases hr
    | [],_,hr=>simp[U6]at hr
    | _::_,[],hr=>simp[U6]at hr
 unfold Zg7 at hr;split at hr
 ·rename_i tl' fr' h' hd;cases hck:(List.range ops.length).all (ckI wm ops ZI Ue tl' h'.size)<;>rw[hck]at hr<;>simp only[Cq1,Cq0]at hr
  ·cases hr
  cases hr;exact⟨rfl,main _ _ _ _ _ _ _ _ _ hd,[],rfl⟩
 ·cases hr
def ZDe{YS:GX->Z}{n wm:Nat}{ops:U Oper}{s s':Fs}(hr:ZgC X YS ih n wm ops s=some s'):FsW s s':=by
 rcases Zcp hr with h|h
 ·obtain⟨_,_,_,_,_,h1⟩:=Zeb h;exact ZrP h1
 ·obtain⟨_,_,_,h1⟩:=Zco h;exact ZCV h1
def Zvw{T:U Nat}{t:Nat}:bit (ZbS T) t=true↔t∈T:=by
 induction T with
 | nil=>simp[ZbS,ZjU]
 | cons x T ih=>simp only[ZbS,Znk,GB,ih,ZtY,Kx];exact⟨fun h=>h.imp Eq.symm id,fun h=>h.imp Eq.symm id⟩
def Xz{T:U Nat}{fr:Fr}{t:Nat}:(Yr T fr).at t=if t∈T then Znr else fr.at t:=by
 induction T generalizing fr with
 | nil=>simp[Yr]
 | cons x T ih=>
   rw[Yr,ih];by_cases h:t∈T
   ·simp[h]
   ·by_cases hx:t=x
    ·subst hx;simp[h,Fr.at,Tr.XE]
    ·simp[h,hx,Fr.at,Tr.XE]
section
variable(HI:∀j r,ih j=some r->ZAj j r)
include HI
theorem Zgq{c:Code}{n wm:Nat}{rd:O Nat}{s s':Fs}{e:XX}(hc:ih (.code c n wm rd s)=some (.code e s')):FsW s s':=HI _ _ hc e s' rfl
theorem ZpA{C:Cfg}{mi:MI}{n wm:Nat}{rd:O Nat}{s s':Fs}{e:XX}(h:KH C ih mi n wm rd s=some (.code e s')):FsW s s':=by
 unfold KH at h;split at h
 ·rename_i s1 h1;exact(Zsc _ _ _ _ h1).trans (Zgq HI h)
 ·rename_i e' s1 _ h1;cases h;exact Zsc _ _ _ _ h1
 ·cases h
theorem Znh{c:Code}{n wm:Nat}{rd:O Nat}{s:Fs}{k:XX->Fs->O YL}{r:YL}(h:Zfk k (ih (.code c n wm rd s))=some r)
 (hk:∀e s1 r,k e s1=some r->∀e' s',r=.code e' s'->FsW s1 s'):∀e' s',r=.code e' s'->FsW s s':=by
 obtain⟨e,s1,h1,h2⟩:=QR h;intro e' s' hr;exact(Zgq HI h1).trans (hk e s1 r h2 e' s' hr)
omit HI in
theorem JN{e:XX}{s:Fs}{r:YL}(h:some (.code e s)=some r):∀e' s',r=.code e' s'->FsW s s':=by
 cases h;intro e' s' h;cases h;exact FsW.refl _
theorem ZCQ{C:Cfg}{mi:MI}{c:Code}{n wm:Nat}{rd:O Nat}{s:Fs}{r:YL}(h:ZjI C ih mi c n wm rd s=some r):∀e s',r=.code e s'->FsW s s':=by
 unfold ZjI ZmZ at h;generalize hb:Zlb mi n wm ((Zgn c).filter (allowed s.wr))=b at h;cases b with
 | false=>cases h
 | true=>
   obtain⟨_,_,_,_,_,d,hd,_,hdT⟩:=ZdL hb;simp only[Cq1]at h;generalize ZaZ C ih mi n rd _ _ s mi.es=b2 at h;cases b2 with
   | false=>cases h
   | true=>
     simp only[Cq1]at h;split at h
     ·rename_i e s2 h2;have w2:=ZpA HI h2
      have w1:FsW s {s with fr:=Jb (Yr ((Zgn c).filter (allowed s.wr)) s.fr) mi.o.dst JM,h:=s.h.put mi.it .dead}:=by
       refine⟨rfl,fun t ht=>?_,[],rfl⟩;have hnt:t∉(Zgn c).filter (allowed s.wr):=fun z=>by rw[GR]at z;rw[z.2]at ht;cases ht
       show(Jb _ _ _).at t=_;rw[ZaP,if_neg,Xz,if_neg hnt];intro e;rw[e]at hd;cases hd;exact hnt hdT
      have w:=w1.trans w2;cases e with
      | normal=>cases h
      | exit _=>cases h;intro e' s' h;cases h;exact w
      | goto _=>cases h;intro e' s' h;cases h;exact w
      | ret=>cases h;intro e' s' h;cases h;exact w
      | panic _=>cases h;intro e' s' h;cases h;exact w
     ·cases h
theorem ZjH{C:Cfg}{g:GV}{n wm:Nat}{rd:O Nat}{l:Nat}{s:Fs}{r:YL}(h:Xt C ih g n wm rd l s=some r):∀e s',r=.code e s'->FsW s s':=by
 unfold Xt at h;split at h
 ·split at h
  ·unfold Q5 at h;split at h
   ·split at h
    ·rename_i st pd fr n' ps Yg bd df hat;cases hst:(st==LoopState.busy)<;>rw[hst]at h<;>simp only[Cq1,Cq0]at h
     ·split at h
      ·cases h;intro e s' h;cases h;exact FsW.heap _ _
      ·intro e s' hr;subst hr;exact(FsW.heap _ _).trans (Zgq HI h)
     ·cases h
    ·cases h
   ·cases h;intro e s' h;cases h;exact FsW.heap _ _
   ·cases h
  ·cases h
 ·cases h
theorem ZLE{X:Ctx}{YS:GX->Z}(j:Ql)(r:YL)(h:JY (cfg X YS) ih j=some r):ZAj j r:=by
 cases j with
 | code c n wm rd s=>
   simp only[JY]at h;cases c with
   | skip=>exact JN h
   | label l=>exact JN h
   | ret=>exact JN h
   | exit id=>exact JN h
   | goto l=>exact JN h
   | seq a b=>
     refine Znh HI h fun e s1 r hk=>?_
     cases e with
     | normal=>intro e' s' hr;subst hr;exact Zgq HI hk
     | exit _=>exact JN hk
     | goto _=>exact JN hk
     | ret=>exact JN hk
     | panic _=>exact JN hk
   | cond c a b=>
     simp only[Wv,ZjL]at h;split at h
     ·rename_i t _;intro e' s' hr;subst hr;cases t with
      | true=>exact Zgq HI h
      | false=>exact Zgq HI h
     ·cases h
   | block id c=>
     refine Znh HI h fun e s1 r hk=>?_
     cases e with
     | exit k=>
       dsimp only at hk;cases hb:Nat.beq k id<;>rw[hb]at hk<;>exact JN hk
     | normal=>exact JN hk
     | goto _=>exact JN hk
     | ret=>exact JN hk
     | panic _=>exact JN hk
   | scope c=>
     refine Znh HI h fun e s1 r hk=>?_
     cases e with
     | exit k=>exact JN hk
     | normal=>exact JN hk
     | goto _=>cases hk
     | ret=>exact JN hk
     | panic _=>exact JN hk
   | loop c=>intro e s' hr;subst hr;exact HI _ _ h e s' rfl
   | refuse _=>cases h
   | rangeFunc g ps Yg bd=>
     simp only[Wv,Zfa]at h;intro e s' hr;split at h
     ·have:=ZjH HI h e s' hr;refine FsW.trans ?_ this;exact⟨rfl,fun _ _=>rfl,[_],rfl⟩
     ·split at h
      ·exact(FsW.heap _ _).trans (ZjH HI h e s' hr)
      ·cases h
   | region id ops d=>
     cases d with
     | true=>
       simp only[Wv,Cq1,Zm3]at h;split at h
       ·rename_i s1 hs;cases h;intro e s' hr;cases hr;exact ZDe (X:=X) (YS:=YS) hs
       ·cases h
     | false=>
       simp only[Wv,Cq0,Ze9]at h;split at h
       ·rename_i e s1 hs;cases h;intro e s' hr;cases hr;exact Zsc _ _ _ _ hs
       ·cases h
 | loop c n wm rd s=>
   simp only[JY,Zfc]at h
   have hL:ZjJ ih c n wm rd s=some r->ZAj (.loop c n wm rd s) r:=by
    intro h;refine Znh HI h fun e s1 r hk=>?_
    cases e with
    | normal=>intro e' s' hr;subst hr;exact HI _ _ hk e' s' rfl
    | exit _=>exact JN hk
    | goto _=>exact JN hk
    | ret=>exact JN hk
    | panic _=>exact JN hk
   split at h
   ·split at h
    ·rename_i r' hr;cases h;exact ZCQ HI hr
    ·exact hL h
   ·exact hL h
 | _=>trivial
end
def ZO5{X:Ctx}{YS:GX->Z}:∀(n:Nat)(j:Ql)(r:YL),ev (cfg X YS) n j=some r->ZAj j r:=by
 intro n
 induction n with
 | zero=>intro j r h;cases h
 | succ n ihn=>intro j r h;exact ZLE ihn j r h
end
end Go.ZK
end
end
