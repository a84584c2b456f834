/- Part 5. -/
import Derived.RangeFuncRecord
import Derived.Test.YtbnepjakjmnadaaGreatFp4
set_option linter.all false
set_option maxHeartbeats 2000000
section
noncomputable section
namespace Go.ZF
section
variable{ρ:Ren}{w:V9}{X:Ctx}{ih:Qn->O YP}
def Xj.trans{wm n:Nat}{ρ ρ1:Ren}{h h1:H}{w w1:V9}(hd:∀i p,ρ i=some p->i<h.size)(st:Stp wm ρ h w ρ1 h1 w1){e:XX}{s':Fs}{e':Exit}{a':Act}{w':V9}
 (hp:Xj wm n ρ1 h1 w1 e s' e' a' w'):Xj wm n ρ h w e s' e' a' w':=by
 obtain⟨ρ',h1,h2,h3⟩:=hp;exact⟨ρ',h1,h2,st.trans hd h3⟩
def UX.trans{wm:Nat}{ρ ρ1:Ren}{h h1:H}{w w1:V9}(hd:∀i p,ρ i=some p->i<h.size)(st:Stp wm ρ h w ρ1 h1 w1){e:U4}{h':H}{e':Ending}{w':V9}
 (hp:UX wm ρ1 h1 w1 e h' e' w'):UX wm ρ h w e h' e' w':=by
 obtain⟨ρ',h1,h2,h3⟩:=hp;exact⟨ρ',h1,h2,st.trans hd h3⟩
def Q5{k:XX->Fs->O YP}{r:O YP}{x:YP}(h:Zf6 k r=some x):∃e s,r=some (.code e s)/\k e s=some x:=by
 unfold Zf6 at h;split at h
 ·exact⟨_,_,rfl,h⟩
 ·cases h
def Zix{k:XX->PM->Fs->O YP}{r:O YP}{x:YP}(h:ZA7 k r=some x):∃e pm s,r=some (.Xx e pm s)/\k e pm s=some x:=by
 unfold ZA7 at h;split at h
 ·exact⟨_,_,_,rfl,h⟩
 ·cases h
def Zc0(X:Ctx)(c:Code)(n wm:Nat)(rd:O Nat)(s:Fs)(r:YP):Prop:=
 ∃e s',r=.code e s'/\∀ρ a w F,wm<=s.h.size->Inv ρ n s a w->KO ρ rd F->c.wpIn F 0 X.P (Xj wm n ρ s.h w e s') a w
def Y5{c:Code}{n wm:Nat}{rd:O Nat}{s:Fs}{r:YP}:Yq X (.code c n wm rd s) r↔Zc0 X c n wm rd s r:=by
 cases r with
 | code e s'=>exact⟨fun h=>⟨e,s',rfl,h⟩,fun⟨_,_,e1,h⟩=>by cases e1;exact h⟩
 | fin e h=>exact⟨fun h=>h.elim,fun⟨_,_,e1,_⟩=>by cases e1⟩
 | ZdQ e h=>exact⟨fun h=>h.elim,fun⟨_,_,e1,_⟩=>by cases e1⟩
 | Xx e h s=>exact⟨fun h=>h.elim,fun⟨_,_,e1,_⟩=>by cases e1⟩
def ZtN(X:Ctx)(c:Code)(n wm:Nat)(rd:O Nat)(s:Fs)(r:YP):Prop:=
 ∃e s',r=.code e s'/\∀ρ a w F,wm<=s.h.size->Inv ρ n s a w->KO ρ rd F->LoopIn F 0 X.P c (Xj wm n ρ s.h w e s') a w
def K7{c:Code}{n wm:Nat}{rd:O Nat}{s:Fs}{r:YP}:Yq X (.loop c n wm rd s) r↔ZtN X c n wm rd s r:=by
 cases r with
 | code e s'=>exact⟨fun h=>⟨e,s',rfl,h⟩,fun⟨_,_,e1,h⟩=>by cases e1;exact h⟩
 | fin e h=>exact⟨fun h=>h.elim,fun⟨_,_,e1,_⟩=>by cases e1⟩
 | ZdQ e h=>exact⟨fun h=>h.elim,fun⟨_,_,e1,_⟩=>by cases e1⟩
 | Xx e h s=>exact⟨fun h=>h.elim,fun⟨_,_,e1,_⟩=>by cases e1⟩
def ZiG(X:Ctx)(c:Code)(n wm:Nat)(pm:PM)(s:Fs)(r:YP):Prop:=
 ∃e Ku s',r=.Xx e Ku s'/\∀ρ a c0 cs w,wm<=s.h.size->Inv ρ n s a w->PmR ρ pm c0.mode ->
     c.wpSIn base 0 X.P (fun e' a' cs' w'=>∃ρ' u',cs'= {c0 with mode:=u'}::cs/\PmR ρ' Ku u'/\ExR ρ' e e'/\Inv ρ' n s' a' w'/\Stp wm ρ s.h w ρ' s'.h w') a (c0::cs) w
def X4{c:Code}{n wm:Nat}{pm:PM}{s:Fs}{r:YP}:Yq X (.Xx c n wm pm s) r↔ZiG X c n wm pm s r:=by
 cases r with
 | Xx e Ku s'=>exact⟨fun h=>⟨e,Ku,s',rfl,h⟩,fun⟨_,_,_,e1,h⟩=>by cases e1;exact h⟩
 | fin e h=>exact⟨fun h=>h.elim,fun⟨_,_,_,e1,_⟩=>by cases e1⟩
 | ZdQ e h=>exact⟨fun h=>h.elim,fun⟨_,_,_,e1,_⟩=>by cases e1⟩
 | code e s=>exact⟨fun h=>h.elim,fun⟨_,_,_,e1,_⟩=>by cases e1⟩
section
variable(HI:∀j r,ih j=some r->Yq X j r)
include HI
theorem ZqU{a b:Code}{n wm:Nat}{rd:O Nat}{s:Fs}{r:YP}(h:ZGn ih a b n wm rd s=some r):Zc0 X (.seq a b) n wm rd s r:=by
 obtain⟨e,s1,ha,hk⟩:=Q5 h;have ka:=Y5.1 (HI _ _ ha);obtain⟨_,_,e0,ka⟩:=ka;cases e0;cases e with
 | normal=>
   obtain⟨e2,s2,rfl,kb⟩:=Y5.1 (HI _ _ hk);refine⟨e2,s2,rfl,fun ρ a w F Zt hi hF=>wpIn_seq (wpIn_mono (ka ρ a w F Zt hi hF) ?_)⟩;rintro e' a' w' ⟨ρ',he,hi',hst⟩;cases he;exact wpIn_mono (kb ρ' a' w' F (KB Zt hst.size) hi' (hF.mono hst.ext)) fun _ _ _ hp=>Xj.trans hi.rel.lt hst hp
 | exit id=>
   cases hk;refine⟨_,_,rfl,fun ρ a w F Zt hi hF=>wpIn_seq (wpIn_mono (ka ρ a w F Zt hi hF) ?_)⟩;rintro e' a' w' ⟨ρ',he,hi',hst⟩;cases he;exact⟨ρ',.exit id,hi',hst⟩
 | goto id=>
   cases hk;refine⟨_,_,rfl,fun ρ a w F Zt hi hF=>wpIn_seq (wpIn_mono (ka ρ a w F Zt hi hF) ?_)⟩;rintro e' a' w' ⟨ρ',he,hi',hst⟩;cases he;exact⟨ρ',.goto id,hi',hst⟩
 | ret=>
   cases hk;refine⟨_,_,rfl,fun ρ a w F Zt hi hF=>wpIn_seq (wpIn_mono (ka ρ a w F Zt hi hF) ?_)⟩;rintro e' a' w' ⟨ρ',he,hi',hst⟩;cases he;exact⟨ρ',.ret,hi',hst⟩
 | panic v=>
   cases hk;refine⟨_,_,rfl,fun ρ a w F Zt hi hF=>wpIn_seq (wpIn_mono (ka ρ a w F Zt hi hF) ?_)⟩;rintro e' a' w' ⟨ρ',he,hi',hst⟩;cases he with
   | panic hv=>exact⟨ρ',.panic hv,hi',hst⟩
theorem Zog{c:V6}{a b:Code}{n wm:Nat}{rd:O Nat}{s:Fs}{r:YP}(h:Zkw ih c a b n wm rd s=some r):Zc0 X (.cond c a b) n wm rd s r:=by
 unfold Zkw at h;split at h
 ·rename_i t hc
  have:∃e s',r=.code e s'/\∀ρ a' w F,wm<=s.h.size->Inv ρ n s a' w->KO ρ rd F->(if t then a else b).wpIn F 0 X.P (Xj wm n ρ s.h w e s') a' w:=by
   cases t with
   | true=>exact Y5.1 (HI _ _ h)
   | false=>exact Y5.1 (HI _ _ h)
  obtain⟨e,s',rfl,k⟩:=this;refine⟨e,s',rfl,fun ρ a' w F Zt hi hF=>?_⟩;have hv:=Wv hi.fr _ _ hc;generalize hx:a'.eval c=x at hv;cases hv;exact wpIn_cond hx (k ρ a' w F Zt hi hF)
 ·cases h
theorem Zlt{id:Nat}{c:Code}{n wm:Nat}{rd:O Nat}{s:Fs}{r:YP}(h:Zvg ih id c n wm rd s=some r):Zc0 X (.block id c) n wm rd s r:=by
 obtain⟨e,s1,ha,hk⟩:=Q5 h;obtain⟨_,_,e0,ka⟩:=Y5.1 (HI _ _ ha);cases e0;cases e with
 | exit k=>
   by_cases hkk:k=id
   ·subst hkk;simp only[show Nat.beq k k=true from V4 k,Cq1,J1]at hk;subst hk;refine⟨_,_,rfl,fun ρ a w F Zt hi hF=>wpIn_block (wpIn_mono (ka ρ a w F Zt hi hF) ?_)⟩;rintro e' a' w' ⟨ρ',he,hi',hst⟩;cases he;show if _ then _ else _
    rw[if_pos rfl];exact⟨ρ',.normal,hi',hst⟩
   ·have hb:Nat.beq k id=false:=by rw[QG];simpa using hkk
    simp only[hb,Cq0,J1]at hk;subst hk;refine⟨_,_,rfl,fun ρ a w F Zt hi hF=>wpIn_block (wpIn_mono (ka ρ a w F Zt hi hF) ?_)⟩;rintro e' a' w' ⟨ρ',he,hi',hst⟩;cases he;show if _ then _ else _
    rw[if_neg hkk];exact⟨ρ',.exit k,hi',hst⟩
 | normal=>
   cases hk;refine⟨_,_,rfl,fun ρ a w F Zt hi hF=>wpIn_block (wpIn_mono (ka ρ a w F Zt hi hF) ?_)⟩;rintro e' a' w' ⟨ρ',he,hi',hst⟩;cases he;exact⟨ρ',.normal,hi',hst⟩
 | goto k=>
   cases hk;refine⟨_,_,rfl,fun ρ a w F Zt hi hF=>wpIn_block (wpIn_mono (ka ρ a w F Zt hi hF) ?_)⟩;rintro e' a' w' ⟨ρ',he,hi',hst⟩;cases he;exact⟨ρ',.goto k,hi',hst⟩
 | ret=>
   cases hk;refine⟨_,_,rfl,fun ρ a w F Zt hi hF=>wpIn_block (wpIn_mono (ka ρ a w F Zt hi hF) ?_)⟩;rintro e' a' w' ⟨ρ',he,hi',hst⟩;cases he;exact⟨ρ',.ret,hi',hst⟩
 | panic v=>
   cases hk;refine⟨_,_,rfl,fun ρ a w F Zt hi hF=>wpIn_block (wpIn_mono (ka ρ a w F Zt hi hF) ?_)⟩;rintro e' a' w' ⟨ρ',he,hi',hst⟩;cases he with
   | panic hv=>exact⟨ρ',.panic hv,hi',hst⟩
theorem Zlq{c:Code}{n wm:Nat}{rd:O Nat}{s:Fs}{r:YP}(h:Zvd ih c n wm rd s=some r):Zc0 X (.scope c) n wm rd s r:=by
 obtain⟨e,s1,ha,hk⟩:=Q5 h;obtain⟨_,_,e0,ka⟩:=Y5.1 (HI _ _ ha);cases e0;cases e with
 | goto l=>cases hk
 | exit k=>
   cases hk;refine⟨_,_,rfl,fun ρ a w F Zt hi hF=>Zbe (wpIn_mono (ka ρ a w F Zt hi hF) ?_)⟩;rintro e' a' w' ⟨ρ',he,hi',hst⟩;cases he;exact⟨ρ',.exit k,hi',hst⟩
 | normal=>
   cases hk;refine⟨_,_,rfl,fun ρ a w F Zt hi hF=>Zbe (wpIn_mono (ka ρ a w F Zt hi hF) ?_)⟩;rintro e' a' w' ⟨ρ',he,hi',hst⟩;cases he;exact⟨ρ',.normal,hi',hst⟩
 | ret=>
   cases hk;refine⟨_,_,rfl,fun ρ a w F Zt hi hF=>Zbe (wpIn_mono (ka ρ a w F Zt hi hF) ?_)⟩;rintro e' a' w' ⟨ρ',he,hi',hst⟩;cases he;exact⟨ρ',.ret,hi',hst⟩
 | panic v=>
   cases hk;refine⟨_,_,rfl,fun ρ a w F Zt hi hF=>Zbe (wpIn_mono (ka ρ a w F Zt hi hF) ?_)⟩;rintro e' a' w' ⟨ρ',he,hi',hst⟩;cases he with
   | panic hv=>exact⟨ρ',.panic hv,hi',hst⟩
theorem ZfW{c:Code}{n wm:Nat}{rd:O Nat}{s:Fs}{r:YP}(h:Zku ih c n wm rd s=some r):ZtN X c n wm rd s r:=by
 obtain⟨e,s1,ha,hk⟩:=Q5 h;obtain⟨_,_,e0,ka⟩:=Y5.1 (HI _ _ ha);cases e0;cases e with
 | normal=>
   obtain⟨e2,s2,rfl,kb⟩:=K7.1 (HI _ _ hk);refine⟨e2,s2,rfl,fun ρ a w F Zt hi hF=>Xo (wpIn_mono (ka ρ a w F Zt hi hF) ?_)⟩;rintro e' a' w' ⟨ρ',he,hi',hst⟩;cases he;have:=kb ρ' a' w' F (KB Zt hst.size) hi' (hF.mono hst.ext);intro b k cs h1 h2 h3;obtain⟨e3,a3,w3,hp,harr⟩:=this b k cs h1 h2 h3;exact⟨e3,a3,w3,Xj.trans hi.rel.lt hst hp,harr⟩
 | exit id=>
   cases hk;refine⟨_,_,rfl,fun ρ a w F Zt hi hF=>Xo (wpIn_mono (ka ρ a w F Zt hi hF) ?_)⟩;rintro e' a' w' ⟨ρ',he,hi',hst⟩;cases he;exact⟨ρ',.exit id,hi',hst⟩
 | goto id=>
   cases hk;refine⟨_,_,rfl,fun ρ a w F Zt hi hF=>Xo (wpIn_mono (ka ρ a w F Zt hi hF) ?_)⟩;rintro e' a' w' ⟨ρ',he,hi',hst⟩;cases he;exact⟨ρ',.goto id,hi',hst⟩
 | ret=>
   cases hk;refine⟨_,_,rfl,fun ρ a w F Zt hi hF=>Xo (wpIn_mono (ka ρ a w F Zt hi hF) ?_)⟩;rintro e' a' w' ⟨ρ',he,hi',hst⟩;cases he;exact⟨ρ',.ret,hi',hst⟩
 | panic v=>
   cases hk;refine⟨_,_,rfl,fun ρ a w F Zt hi hF=>Xo (wpIn_mono (ka ρ a w F Zt hi hF) ?_)⟩;rintro e' a' w' ⟨ρ',he,hi',hst⟩;cases he with
   | panic hv=>exact⟨ρ',.panic hv,hi',hst⟩
end
end
section
variable{ρ:Ren}{w:V9}{X:Ctx}{ih:Qn->O YP}
def ZsS:∀(vs:U N)(i:Nat)(fr:Fr)(t:Nat),(X0 vs i fr).at t=if i<=t/\t<i+vs.length then vs.getD (t-i) undef else fr.at t:=by
 intro vs
 induction vs with
 | nil=>intro i fr t;rw[if_neg (by simp)];rfl
 | cons v vs ih=>
   intro i fr t;rw[X0,ih];by_cases h1:i+1<=t/\t<i+1+vs.length
   ·rw[if_pos h1,if_pos (by simp;omega)];have:t-i=(t-(i+1))+1:=Vg
    rw[this];rfl
   ·rw[if_neg h1];by_cases h2:t=i
    ·subst h2;rw[if_pos (by simp)];simp[Fr.at,Tr.XE]
    ·rw[if_neg (by simp;omega)];simp[Fr.at,Tr.XE,h2]
def Fr.at_nil(t:Nat):Fr.at .nil t=undef:=rfl
def Wy{args args':Va N}{n:Nat}(hv:Jy ρ args args')(hn:args.toList.length<=n):
 FrR ρ (X0 args.toList 0 .nil) n (args'++Array.replicate (n-args'.size) undef):=by
 have hs:args'.size=args.size:=hv.1.symm;rw[G3]at hn;refine⟨by simp;omega,fun t _=>?_⟩;rw[ZsS];by_cases h:0<=t/\t<0+args.toList.length
 ·rw[if_pos h];have h2:=h.2;simp only[G3,G4]at h2;have e1:args.toList.getD (t-0) undef=args[t]:=by simp[List.getD,h2]
  have e2:(args'++Array.replicate (n-args'.size) undef).getD t undef=args'[t]'Vg:=by
   rw[Q4,Array.getElem?_append_left Vg];simp[show t<args'.size by omega]
  rw[e1,e2];exact hv.2 t _ _ (by simp[h2]) (by simp[show t<args'.size by omega])
 ·rw[if_neg h];have h2:args.size<=t:=by simp at h;exact h
  have e2:(args'++Array.replicate (n-args'.size) undef).getD t undef=undef:=by
   rw[Q4,Array.getElem?_append_right Vg];rcases Gk (t-args'.size) (n-args'.size) with h3|h3
   ·simp[h3]
   ·rw[V5 (by simpa using h3)];rfl
  rw[e2,Fr.at_nil];exact VR.undef ρ
def Zld{P:V7}{h:H}{w:V9}(r:Rel ρ h w){t:J}{a a' v:N}(ha:VR ρ a a')(hl:Ko P h t a=some v):
 ∃v',VR ρ v v'/\(do loadVar t (<-asAddr a'):Sem N).run P w=.ok v' w:=by
 obtain⟨v',q1,q2⟩:=Zjz r ha hl;refine⟨v',q1,?_⟩;unfold Ko at hl;split at hl
 ·cases ha with
  | ptr o hi=>
    rw[Zej]at q2
    simpa[Sem.run_bind,asAddr]using q2
 ·cases hl
def Zyh(tmps:Va N):ResultVar->Sem N
 | .tmp t=>pure (tmps.getD t undef)
 | .cell a t=>do loadVar t (<-asAddr (tmps.getD a undef))
def Zts{P:V7}{h:H}{w:V9}(r:Rel ρ h w){fr:Fr}{n:Nat}{tmps:Va N}(hf:FrR ρ fr n tmps):∀(rs:U ResultVar)(vs:U N),ZcK P fr h rs=some vs ->
 ∃vs',LR ρ vs vs'/\(rs.mapM (m:=Sem) (Zyh tmps)).run P w=.ok vs' w:=by
 intro rs
 induction rs with
 | nil=>
   intro vs h1;cases h1;exact⟨[],LR.nil,by simp⟩
 | cons x rs ihr=>
   intro vs h1;simp only[ZcK]at h1;split at h1
   ·rename_i v vs1 e1 e2;cases h1;obtain⟨vs',q1,q2⟩:=ihr _ e2
    have:∃v',VR ρ v v'/\(Zyh tmps x).run P w=.ok v' w:=by
     cases x with
     | tmp t=>
       simp only[Zrr]at e1;cases hany:Xt (fr.at t)<;>rw[hany]at e1<;>simp only[Cq1,Cq0]at e1
       ·cases e1;exact⟨_,hf.val t hany,rfl⟩
       ·cases e1
     | cell a t=>
       have hany:Xt (fr.at a)=false:=by
        simp only[Zrr]at e1;unfold Ko at e1;split at e1
        ·rename_i hh;rw[hh];rfl
        ·cases e1
       exact Zld r (hf.val a hany) e1
    obtain⟨v',p1,p2⟩:=this;refine⟨v'::vs',LR.cons p1 q1,?_⟩;rw[List.mapM_cons];simp only[Sem.run_bind,p2,Gx,q2,Sem.run_pure]
   ·cases h1
def Zea{P:V7}{fn:Func}{h:H}{w:V9}(r:Rel ρ h w){fr:Fr}{n:Nat}{tmps:Va N}(hf:FrR ρ fr n tmps){v:N}(ha:QJ P fn fr h=some v):
 ∃v',VR ρ v v'/\(results fn tmps).run P w=.ok v' w:=by
 unfold QJ at ha
 have key:∀vs,ZcK P fr h fn.results.toList=some vs->∃vs',LR ρ vs vs'/\(results fn tmps).run P w=.ok (if h:vs'.toArray.size=1 then vs'.toArray[0] else .tuple vs'.toArray) w:=by
  intro vs hvs;obtain⟨vs',q1,q2⟩:=Zts (P:=P) r hf _ _ hvs;refine⟨vs',q1,?_⟩;have e:results fn tmps=(do let vs <-fn.results.mapM (Zyh tmps);pure (if h:vs.size=1 then vs[0] else .tuple vs):Sem N):=rfl;rw[e,<-Array.toArray_toList (xs:=fn.results),List.mapM_toArray];simp only[Sem.run_bind,Sem.run_map,q2,Gx,Sem.run_pure]
 split at ha
 ·rename_i x hx;cases ha;obtain⟨vs',q1,q2⟩:=key _ hx;obtain⟨y,rfl,hy⟩:=LR.one q1;exact⟨y,hy,by rw[q2];simp⟩
 ·rename_i vs hno hx;cases ha;obtain⟨vs',q1,q2⟩:=key _ hx
  have hl:vs.length≠1:=by
   intro hh
   match vs,hh with
   | [x],_=>exact hno x rfl
  refine⟨.tuple vs'.toArray,.tuple _ _ q1.arr.1 q1.arr.2,?_⟩;rw[q2,dif_neg];simp only[List.size_toArray];rw[<-q1.1];exact hl
 ·cases ha
def CallsDIn.mono'{F:Fence}{n:Nat}{P:V7}{f:V8}{args:Va N}{u:FrameMode}{w:V9}{R R':Ending->FrameMode->V9->Prop}(h:CallsDIn F n P f args u w R)
 (hr:∀e u w,R e u w->R' e u w):CallsDIn F n P f args u w R':=
 ⟨h.1,fun c cs hc hroom=>let⟨e,u',w',fr,q,r⟩:=h.2 c cs hc hroom;⟨e,u',w',fr,hr _ _ _ q,r⟩⟩
def PmR.settle{p:PM}{u:FrameMode}(h:PmR ρ p u):PmR ρ (Zic p) (settle u):=by
 cases h with
 | ret=>exact .ret
 | ZX h=>exact .ZX h
 | rcv h=>exact .ret
def DsR.nil_eq{ds:U Vc}(h:DsR ρ [] ds):ds=[]:=by cases h;rfl
def PmR.Zug{p:PM}{u:FrameMode}(h:PmR ρ p u):u≠.run:=by cases h<;>simp
section
variable{C:Cfg}(HI:∀j r,ih j=some r->Yq C.X j r)
include HI
theorem Jh{fn:Func}{wm:Nat}{pm:PM}{s:Fs}{r:YP}(h:Ua C ih fn wm pm s=some r):Yq C.X (.leave fn wm pm s) r:=by
 unfold Ua at h;split at h
 ·rename_i hds
  have hd:∀{ρ n a w},Inv ρ n s a w->a.defers=[]:=fun hi=>by
   have:=hi.ds;rw[hds]at this;exact this.nil_eq
  split at h
  ·split at h
   ·rename_i v hv;cases h;intro ρ n a u w R Zt hi hpm hR;cases hpm;obtain⟨v',q1,q2⟩:=Zea hi.rel hi.fr hv;rw[hd hi];exact⟨v',q2,hR _ _ ⟨ρ,.ret q1,hi.rel,Stp.refl _ _ _ _⟩⟩
   ·cases h
  ·rename_i v;cases h;intro ρ n a u w R Zt hi hpm hR;cases hpm with
   | ZX hv=>
     rw[hd hi];exact hR _ _ ⟨ρ,.ZX hv,hi.rel,Stp.refl _ _ _ _⟩
  ·cases h
 ·rename_i d ds hds;split at h
  ·rename_i r0 htar;split at h
   ·rename_i hat;cases hb:Nat.ble wm r0<;>rw[hb]at h<;>simp only[Cq1,Cq0]at h
    ·cases h
    ·have hr0:=Nl0 hb;have hj:=HI _ _ h;cases r with
     | fin e h'=>
       intro ρ n a u w R Zt hi hpm hR;have hdd:=hi.ds;rw[hds]at hdd;generalize hx:a.defers=x at hdd;cases hdd with
       | cons hdf _=>obtain⟨⟨f,c,c',e1,_⟩,_⟩:=hdf;rw[htar]at e1;cases e1
       | @mark rr r' _ ds' hm ht=>
         simp only at htar;cases htar;have ho:=hi.rel.obj _ _ _ hm;rw[hat]at ho;obtain⟨_,ho⟩:=ho;have hlt:=(hi.rel.dom _ _ _ hm).2;obtain⟨q1,q2⟩:=Znm (wm:=wm) (A:=.dead) (w':=w.putObj r' (.deferred none)) hi.rel hr0 (by rw[hat];rfl) ⟨rfl,rfl,rfl⟩ hm World.putObj_size (fun k hk=>World.putObj_heap_other hk) trivial;refine⟨hpm.Zug,.inl ⟨r',_,rfl,run_takeDeferred ho,?_⟩⟩;have hi2:Inv ρ n {s with ds:=ds,h:=s.h.put r0 .dead} {a with defers:=ds'} (w.putObj r' (.deferred none)):=⟨q1,hi.fr,ht⟩
         exact hj ρ n _ u _ R Zt hi2 hpm (fun e' w' hp=>hR _ _ (UX.trans hi.rel.lt q2 hp))
     | code e h'=>exact hj.elim
     | ZdQ e h'=>exact hj.elim
     | Xx e h' _=>exact hj.elim
   ·cases h
  ·rename_i f cap htar;split at h
   ·rename_i fnn hfn;split at h
    ·rename_i Ku h' hc;have hj:=HI _ _ h;have hcj:=HI _ _ hc;cases r with
     | fin e h2=>
       intro ρ n a u w R Zt hi hpm hR;have hdd:=hi.ds;rw[hds]at hdd;generalize hx:a.defers=x at hdd;cases hdd with
       | @cons _ d' _ ds' hdf ht=>
         obtain⟨⟨f1,c1,c1',e1,e2,hv⟩,hargs⟩:=hdf;rw[htar]at e1;cases e1
         have hargs':Jy ρ (d.args.toList++cap.toList).toArray (d'.args++c1'):=by
          have:=((Jy.list hargs).append (Jy.list hv)).arr;have e:(d'.args.toList++c1'.toList).toArray=d'.args++c1':=by apply GX.1;simp
          rwa[e]at this
         refine⟨hpm.Zug,.inr ⟨fun hh=>(by cases hh),.func f,c1',f,d'.args++c1',e2,?_,fun g hg=>(by rw[e2]at hg;simp only[Target.leads]at hg;cases hg;exact ZgS hfn),?_⟩⟩
         ·rw[e2,<-Kt (w:=w) (args:=d'.args++c1') hfn];simp[invoke]
         ·refine CallsDIn.mono' (hcj ρ _ u w Zt hi.rel hargs' hpm) ?_;rintro e3 u3 w3 ⟨v,rfl,ρ3,p1,p2,p3⟩;have hi2:Inv ρ3 n {s with ds:=ds,h:=h'} {a with defers:=ds'} w3:=⟨p2,hi.fr.mono p3.ext,ht.mono p3.ext⟩
          exact hj ρ3 n _ _ _ R (KB Zt p3.size) hi2 p1.settle (fun e' w' hp=>hR _ _ (UX.trans hi.rel.lt p3 hp))
       | mark hm ht=>cases htar
     | code e h'=>exact hj.elim
     | ZdQ e h'=>exact hj.elim
     | Xx e h' _=>exact hj.elim
    ·cases h
   ·cases h
  ·cases h
theorem Zoi{f:V8}{args:Va N}{wm:Nat}{h:H}{r:YP}(hc:Zoj C ih f args wm h=some r):Yq C.X (.call f args wm h) r:=by
 unfold Zoj at hc;split at hc
 ·rename_i fn hfn;split at hc
  ·rename_i c hb;cases hn:Nat.ble args.toList.length fn.ntmps<;>rw[hn]at hc<;>simp only[Cq1,Cq0]at hc
   ·cases hc
   ·obtain⟨e,s1,ha,hk⟩:=Q5 hc;obtain⟨_,_,e0,ka⟩:=Y5.1 (HI _ _ ha);cases e0;split at hk
    ·rename_i pm hpm;have hj:=HI _ _ hk;cases r with
     | fin e2 h2=>
       intro ρ args' w Zt hr hv
       have hi:Inv ρ fn.ntmps {fr:=X0 args.toList 0 .nil,ds:=[],h:=h} {tmps:=args'++Array.replicate (fn.ntmps-args'.size) undef,defers:=[]} w:=
        ⟨hr,Wy hv (Nl0 hn),.nil⟩
       refine callsIn_of_wp_marks (C.X.ok f fn hfn).1 hb (ZgS hfn) (wpIn_mono (ka ρ _ w base Zt hi rfl) ?_);rintro e' a' w' ⟨ρ',he,hi',hst⟩;cases he with
       | normal=>cases hpm;exact hj ρ' _ a' .returning w' _ (KB Zt hst.size) hi' .ret (fun _ _ hp=>UX.trans hr.lt hst hp)
       | ret=>cases hpm;exact hj ρ' _ a' .returning w' _ (KB Zt hst.size) hi' .ret (fun _ _ hp=>UX.trans hr.lt hst hp)
       | panic hv'=>cases hpm;exact hj ρ' _ a' _ w' _ (KB Zt hst.size) hi' (.ZX hv') (fun _ _ hp=>UX.trans hr.lt hst hp)
       | exit id=>cases hpm
       | goto id=>cases hpm
     | code e h'=>exact hj.elim
     | ZdQ e h'=>exact hj.elim
     | Xx e h' _=>exact hj.elim
    ·cases hk
  ·cases hc
 ·cases hc
omit HI in
theorem Zsl{wm:Nat}{ρ:Ren}{h:H}{w w':V9}{A:YD}{l:Nat×Nat}{p:Nat}(r:Rel ρ h w)(Zt:wm<=h.size)(hb:RowKit.Below w.heap.size w w')(hp:w.heap.size<=p)(hp2:p<w'.heap.size)
 (hA:Qd (ρ.add h.size (p,0) l) w' p 0 l A):
 Rel (ρ.add h.size (p,0) l) (h.push A) w'/\Stp wm ρ h w (ρ.add h.size (p,0) l) (h.push A) w':=by
 have hle:=Ren.ZaH (p:=(p,0)) (l:=l) r.fresh
 have hold:∀i b d,i≠h.size->(ρ.add h.size (p,0) l) i=some (b,d)->ρ i=some (b,d):=fun i b d hi e=>by
  rwa[(Ren.Uc hi).1]at e
 have hnew:∀b d,(ρ.add h.size (p,0) l) h.size=some (b,d)->b=p/\d=0:=fun b d e=>by
  rw[Ren.add_same]at e;cases e;exact⟨rfl,rfl⟩
 have hat:∀i,i≠h.size->(h.push A).at i=h.at i:=fun i hi=>by rw[H.Qc,if_neg hi]
 have ZzE:(h.push A).at h.size=A:=by rw[H.Qc,if_pos rfl]
 have hsz:=hb.size;refine⟨⟨?_,?_,?_⟩,⟨hle,by simp,?_,?_,?_,hb.os,hb.tape,hb.output,hb.size,?_,?_⟩⟩
 ·intro i b d e;rw[H.size_push];by_cases hi:i=h.size
  ·subst hi;have:=hnew b d e;omega
  ·have:=r.dom i b d (hold i b d hi e);omega
 ·intro i b d e;by_cases hi:i=h.size
  ·subst hi;obtain⟨rfl,rfl⟩:=hnew b d e;rw[ZzE,Ren.ZaF];exact hA
  ·have e0:=hold i b d hi e;rw[hat i hi,(Ren.Uc hi).2];exact((r.obj i b d e0).mono hle).world (hb.block b (r.dom i b d e0).2)
 ·intro i j b d d' e e' ho hl;by_cases hi:i=h.size
  ·subst hi;obtain⟨rfl,rfl⟩:=hnew b d e;by_cases hj:j=h.size
   ·exact hj.symm
   ·have:=(r.dom _ _ _ (hold j _ _ hj e')).2;omega
  ·have e0:=hold i b d hi e;by_cases hj:j=h.size
   ·subst hj;obtain⟨rfl,rfl⟩:=hnew b d' e';have:=(r.dom _ _ _ e0).2;omega
   ·rw[hat i hi]at ho;rw[hat j hj]at hl;exact r.inj i j b d d' e0 (hold j _ _ hj e') ho hl
 ·intro i hi;exact hat i Vg
 ·intro i hi x;rwa[hat i Vg]at x
 ·intro i hi x;rwa[hat i Vg]at x
 ·intro b hb' _;exact hb.block b hb'
 ·intro i b d e e';by_cases hi:i=h.size
  ·subst hi;obtain⟨rfl,rfl⟩:=hnew b d e';exact⟨K1 _,.inl hp⟩
  ·rw[hold i b d hi e']at e;cases e
theorem Zls{f:V8}{args:Va N}{wm:Nat}{h:H}{r:YP}(hc:Ziv C ih f args wm h=some r):Yq C.X (.call f args wm h) r:=by
 unfold Ziv at hc;split at hc
 ·rename_i v hv;obtain⟨hp,ZHZ⟩:=C.X.Zys f v hv;split at hc
  ·rename_i ha;cases hc;intro ρ args' w Zt hr hvs
   have hargs:args'=#[]:=by
    have h1:args.size=0:=by rw[<-G3,ha];rfl
    have h2:=hvs.1;exact GT Vg
   subst hargs;refine(ZHZ w).mono fun e w' ⟨he,hb⟩=>?_
   subst he;refine⟨ρ,.ret (VR.ZC hp),⟨fun i b d e=>?_,fun i b d e=>?_,hr.inj⟩,⟨Ren.le_refl ρ,K1 _,fun _ _=>rfl,fun _ _ x=>x,fun _ _ x=>x,hb.os,hb.tape,hb.output,hb.size,fun b hb' _=>hb.block b hb',fun i b d e e'=>by rw[e]at e';cases e'⟩⟩
   ·obtain⟨q1,q2⟩:=hr.dom i b d e;exact⟨q1,G0 q2 hb.size⟩
   ·exact(hr.obj i b d e).world (hb.block b (hr.dom i b d e).2)
  ·cases hc
 ·split at hc
  ·rename_i v A hv;cases hc;intro ρ args' w Zt hr hvs;refine(C.X.Zyt f args h v A hv ρ args' w hr hvs).mono fun e w' ⟨v',p,l,he,hb,hp,hp2,hvr,ho⟩=>?_
   subst he;obtain⟨q1,q2⟩:=Zsl hr Zt hb hp hp2 ho;exact⟨_,.ret hvr,q1,q2⟩
  ·exact Zoi HI hc
end
def QX{F:Fence}{n:Nat}{P:V7}{c:Code}{Q Q':Exit->Act->U Frame->V9->Prop}{a:Act}{cs:U Frame}{w:V9}(h:c.wpSIn F n P Q a cs w)
 (hq:∀e a cs w,Q e a cs w->Q' e a cs w):c.wpSIn F n P Q' a cs w:=
 fun b k h1 h2 h3 h4=>let⟨e,a',cs',w',l,q,r⟩:=h b k h1 h2 h3 h4;⟨e,a',cs',w',l,hq _ _ _ _ q,r⟩
def Ztb{n wm:Nat}{ops:Va Oper}:∀(l:U Oper)(k:Nat),(∀j,l[j]? =ops[k+j]?)->∀(pm Ku:PM)(s s':Fs),Zq5 X n wm ops.toList l pm s=some (Ku,s') ->
 ∀{ρ:Ren}{c0:Frame}{cs:U Frame}{a:Act}{w:V9},Inv ρ n s a w->wm<=s.h.size->PmR ρ pm c0.mode->∀(Q:Exit->Act->U Frame->V9->Prop),
   (∀ρ' u' a' w',PmR ρ' Ku u'->Inv ρ' n s' a' w'->Stp wm ρ s.h w ρ' s'.h w'->Q .normal a' ({c0 with mode:=u'}::cs) w') ->
   wpOpsSIn base 0 X.P ops Q (List.range' k l.length) a (c0::cs) w:=by
 intro l
 induction l with
 | nil=>
   intro k hl pm Ku s s' hs ρ c0 cs a w hi Zt hpm Q hQ;cases hs;exact hQ ρ c0.mode a w hpm hi (Stp.refl _ _ _ _)
 | cons o l ihl=>
   intro k hl pm Ku s s' hs ρ c0 cs a w hi Zt hpm Q hQ;have h0:ops[k]? =some o:=by simpa using (hl 0).symm
   have hl':∀j,l[j]? =ops[k+1+j]?:=fun j=>by have:=hl (j+1);simpa[GU,Nat.add_comm 1 j]using this
   simp only[KK,List.range'_succ,wpOpsSIn,h0];simp only[Zq5]at hs;split at hs
   ·rename_i pm1 s1 hd
    have ZRu:∀f,o.about X.P w a.eval=some f->f<nfs:=by
     intro f hab;unfold dop at hd;dsimp only at hd;cases hok:okG ops.toList o s.fr<;>rw[hok]at hd<;>simp only[GA,QP,Cq1,Cq0]at hd
     ·cases hd
     cases hwt:Y0 ops.toList o s.fr<;>rw[hwt]at hd<;>simp only[Cq1,Cq0]at hd
     ·exact ZeN (ρ:=ρ) (fun t _ hx=>hi.fr.val t hx) hok hwt hab
     ·split at hd
      ·rename_i nx E ha;obtain⟨ρ1,w1,p1,p2,p3⟩:=Za9 hi.rel (Wv hi.fr) ha;exact ZbE ha p3 hab
      ·cases hd
    refine⟨fun f hab=>ZRu f hab,?_⟩
    have go:∀{ρ1:Ren}{u1:FrameMode}{a1:Act}{w1:V9},Inv ρ1 n s1 a1 w1->PmR ρ1 pm1 u1->Stp wm ρ s.h w ρ1 s1.h w1 ->
     wpOpsSIn base 0 X.P ops Q (List.range' (k+1) l.length) a1 ({c0 with mode:=u1}::cs) w1:=by
     intro ρ1 u1 a1 w1 h1 h2 h3;refine ihl (k+1) hl' pm1 Ku s1 s' hs (c0:= {c0 with mode:=u1}) h1 (KB Zt h3.size) h2 Q (fun ρ' u' a' w' q1 q2 q3=>?_);exact hQ ρ' u' a' w' q1 q2 (h3.trans hi.rel.lt q3)
    unfold dop at hd;dsimp only at hd;cases hok:okG ops.toList o s.fr<;>rw[hok]at hd<;>simp only[GA,QP,Cq1,Cq0]at hd
    ·cases hd
    rw[Zd9 hi.fr ops o hok];cases hwt:Y0 ops.toList o s.fr<;>rw[hwt]at hd<;>simp only[Cq1,Cq0]at hd
    ·rw[if_neg (by simp)];split at hd
     ·rename_i s2 hp2;cases hd;obtain⟨q1,q2⟩:=Q7 hi (VR.undef ρ) hp2;have:=go (u1:=c0.mode) q1 hpm (by rw[q2];exact Stp.refl _ _ _ _);exact this
     ·cases hd
    ·rw[if_pos rfl];split at hd
     ·rename_i nx E ha;split at hd
      ·rename_i h1 hE;obtain⟨ρ1,w1,p1,p2,p3⟩:=Za9 hi.rel (Wv hi.fr) ha;obtain⟨r1,st1⟩:=Eff.sound hi.rel Zt p1 hE p2;have hi1:=hi.step r1 st1;split at hd
       ·rename_i v;obtain⟨v',hv,hrun⟩:=p3;rw[hrun];split at hd
        ·rename_i s2 hp2;cases hd;obtain⟨q1,q2⟩:=Q7 hi1 hv hp2;exact go (u1:=c0.mode) q1 (hpm.mono st1.ext) (by rw[q2];exact st1)
        ·cases hd
       ·have hrun:(execOp a.eval o).run X.P w=.ok .skip w1:=p3;rw[hrun];split at hd
        ·rename_i s2 hp2;cases hd;obtain⟨q1,q2⟩:=Q7 hi1 (VR.undef _) hp2;exact go (u1:=c0.mode) q1 (hpm.mono st1.ext) (by rw[q2];exact st1)
        ·cases hd
       ·have hrun:(execOp a.eval o).run X.P w=.ok .recover w1:=p3;rw[hrun];have Zwr:=hpm.mono st1.ext;cases pm with
        | ZX v=>
          simp only at hd;generalize hm:c0.mode=m at Zwr;cases Zwr with
          | @ZX _ v' hv=>
            have hrec:recoverD (c0::cs)=some (v',{c0 with mode:=.panicking [{v:=v',recovered:=true}]}::cs):=by
             simp[recoverD,hm,chainOf]
            simp only[hrec];split at hd
            ·rename_i s2 hp2;cases hd;obtain⟨q1,q2⟩:=Q7 hi1 hv hp2;exact go q1 (.rcv hv) (by rw[q2];exact st1)
            ·cases hd
        | ret=>
          simp only at hd;generalize hm:c0.mode=m at Zwr;cases Zwr;have hrec:recoverD (c0::cs)=none:=by simp[recoverD,hm]
          simp only[hrec];split at hd
          ·rename_i s2 hp2;cases hd;obtain⟨q1,q2⟩:=Q7 hi1 (v:=.nilIface) (v':=.nilIface) (VR.ZC rfl) hp2;exact go (u1:=c0.mode) q1 (by rw[hm];exact .ret) (by rw[q2];exact st1)
          ·cases hd
        | rcv v=>
          simp only at hd;generalize hm:c0.mode=m at Zwr;cases Zwr with
          | @rcv _ v' hv=>
            have hrec:recoverD (c0::cs)=none:=by simp[recoverD,hm]
            simp only[hrec];split at hd
            ·rename_i s2 hp2;cases hd;obtain⟨q1,q2⟩:=Q7 hi1 (v:=.nilIface) (v':=.nilIface) (VR.ZC rfl) hp2;exact go (u1:=c0.mode) q1 (by rw[hm];exact .rcv hv) (by rw[q2];exact st1)
            ·cases hd
       ·cases hd
      ·cases hd
     ·cases hd
   ·cases hs
section
variable{C:Cfg}(HI:∀j r,ih j=some r->Yq C.X j r)
include HI
theorem ZcB{c:Code}{n wm:Nat}{pm:PM}{s:Fs}{r:YP}(h:Za5 ih c n wm pm s=some r):ZiG C.X c n wm pm s r:=by
 obtain⟨e,s1,ha,hk⟩:=Q5 h;obtain⟨_,_,e0,ka⟩:=Y5.1 (HI _ _ ha);cases e0;cases hk;refine⟨e,pm,s1,rfl,fun ρ a c0 cs w Zt hi hpm=>wpSIn_of_wpIn rfl (wpIn_mono (ka ρ a w base Zt hi rfl) ?_)⟩;rintro e' a' w' ⟨ρ',he,hi',hst⟩;exact⟨ρ',c0.mode,rfl,hpm.mono hst.ext,he,hi',hst⟩
theorem Ji{c:Code}{n wm:Nat}{pm:PM}{s:Fs}{r:YP}(h:Kz C ih c n wm pm s=some r):ZiG C.X c n wm pm s r:=by
 unfold Kz at h;split at h
 ·rename_i a b;obtain⟨e,pm1,s1,ha,hk⟩:=Zix h;obtain⟨_,_,_,e0,ka⟩:=X4.1 (HI _ _ ha);cases e0;have simple:∀{x:Exit},(∀ρ,ExR ρ e x->True)->True:=fun _=>trivial
  cases e with
  | normal=>
    obtain⟨e2,pm2,s2,rfl,kb⟩:=X4.1 (HI _ _ hk);refine⟨e2,pm2,s2,rfl,fun ρ a c0 cs w Zt hi hpm=>wpSIn_seq (QX (ka ρ a c0 cs w Zt hi hpm) ?_)⟩;rintro e' a' cs' w' ⟨ρ',u',rfl,hp',he,hi',hst⟩;cases he;refine QX (kb ρ' a' {c0 with mode:=u'} cs w' (KB Zt hst.size) hi' hp') ?_;rintro e3 a3 cs3 w3 ⟨ρ3,u3,rfl,q1,q2,q3,q4⟩;exact⟨ρ3,u3,rfl,q1,q2,q3,hst.trans hi.rel.lt q4⟩
  | exit id=>
    cases hk;refine⟨_,_,_,rfl,fun ρ a c0 cs w Zt hi hpm=>wpSIn_seq (QX (ka ρ a c0 cs w Zt hi hpm) ?_)⟩;rintro e' a' cs' w' ⟨ρ',u',rfl,hp',he,hi',hst⟩;cases he;exact⟨ρ',u',rfl,hp',.exit id,hi',hst⟩
  | goto id=>
    cases hk;refine⟨_,_,_,rfl,fun ρ a c0 cs w Zt hi hpm=>wpSIn_seq (QX (ka ρ a c0 cs w Zt hi hpm) ?_)⟩;rintro e' a' cs' w' ⟨ρ',u',rfl,hp',he,hi',hst⟩;cases he;exact⟨ρ',u',rfl,hp',.goto id,hi',hst⟩
  | ret=>
    cases hk;refine⟨_,_,_,rfl,fun ρ a c0 cs w Zt hi hpm=>wpSIn_seq (QX (ka ρ a c0 cs w Zt hi hpm) ?_)⟩;rintro e' a' cs' w' ⟨ρ',u',rfl,hp',he,hi',hst⟩;cases he;exact⟨ρ',u',rfl,hp',.ret,hi',hst⟩
  | panic v=>
    cases hk;refine⟨_,_,_,rfl,fun ρ a c0 cs w Zt hi hpm=>wpSIn_seq (QX (ka ρ a c0 cs w Zt hi hpm) ?_)⟩;rintro e' a' cs' w' ⟨ρ',u',rfl,hp',he,hi',hst⟩;cases he with
    | panic hv=>exact⟨ρ',u',rfl,hp',.panic hv,hi',hst⟩
 ·rename_i c a b;split at h
  ·rename_i t hc
   have:ZiG C.X (if t then a else b) n wm pm s r:=by
    cases t with
    | true=>exact X4.1 (HI _ _ h)
    | false=>exact X4.1 (HI _ _ h)
   obtain⟨e,Ku,s',rfl,k⟩:=this;refine⟨e,Ku,s',rfl,fun ρ a' c0 cs w Zt hi hpm=>?_⟩;have hv:=Wv hi.fr _ _ hc;generalize hx:a'.eval c=x at hv;cases hv;exact wpSIn_cond hx (k ρ a' c0 cs w Zt hi hpm)
  ·cases h
 ·rename_i id ops d;cases hd:(!d&&ops.toList.any isRecover)<;>rw[hd]at h<;>simp only[Cq1,Cq0]at h
  ·exact ZcB HI h
  ·split at h
   ·rename_i Ku s' hs;cases h;have:d=false:=by simp at hd;exact hd.1
    subst this;refine⟨.normal,Ku,s',rfl,fun ρ a c0 cs w Zt hi hpm=>wpSIn_region ?_⟩;rw[List.range_eq_range',<-G3];exact Ztb ops.toList 0 (by simp) pm Ku s s' hs hi Zt hpm _ (fun ρ' u' a' w' q1 q2 q3=>⟨ρ',u',rfl,q1,.normal,q2,q3⟩)
   ·cases h
 ·exact ZcB HI h
theorem Zd7{f:V8}{args:Va N}{pm:PM}{wm:Nat}{h:H}{r:YP}(hc:ZfY C ih f args pm wm h=some r):Yq C.X (.dcall f args pm wm h) r:=by
 unfold ZfY at hc;split at hc
 ·rename_i fn hfn;split at hc
  ·rename_i c hb;cases hn:Nat.ble args.toList.length fn.ntmps<;>rw[hn]at hc<;>simp only[Cq1,Cq0]at hc
   ·cases hc
   ·obtain⟨e,pm1,s1,ha,hk⟩:=Zix hc;obtain⟨_,_,_,e0,ka⟩:=X4.1 (HI _ _ ha);cases e0
    have key:∀v,s1.ds=[]->(e=.normal\/e=.ret)->QJ C.X.P fn s1.fr s1.h=some v->Yq C.X (.dcall f args pm wm h) (.ZdQ pm1 s1.h):=by
     intro v hds he hv ρ args' u w Zt hr hva hpm
     have hi:Inv ρ fn.ntmps {fr:=X0 args.toList 0 .nil,ds:=[],h:=h} {tmps:=args'++Array.replicate (fn.ntmps-args'.size) undef,defers:=[]} w:=
      ⟨hr,Wy hva (Nl0 hn),.nil⟩
     refine callsDIn_of_wpSIn (C.X.ok f fn hfn).1 hb (ZgS hfn) fun c0 cs hm=>QX (ka ρ _ c0 cs w Zt hi (by rw[hm];exact hpm)) ?_
     rintro e' a' cs' w' ⟨ρ',u',rfl,hp',he',hi',hst⟩
     have hd:a'.defers=[]:=by
      have:=hi'.ds;rw[hds]at this;exact this.nil_eq
     obtain⟨v',q1,q2⟩:=Zea hi'.rel hi'.fr hv;rcases he with rfl|rfl
     ·cases he';exact⟨hd,u',rfl,v',q2,v',rfl,ρ',hp',hi'.rel,hst⟩
     ·cases he';exact⟨hd,u',rfl,v',q2,v',rfl,ρ',hp',hi'.rel,hst⟩
    split at hk
    ·rename_i hds hv;cases hk;exact key _ hds (.inl rfl) hv
    ·rename_i hds hv;cases hk;exact key _ hds (.inr rfl) hv
    ·cases hk
  ·cases hc
 ·cases hc
end
end
section
variable{ρ:Ren}{w:V9}{X:Ctx}{ih:Qn->O YP}
def run_enterLoop_inner{P:V7}(fn:V8)(tmps:Va N)(ps:Va Tmp)(assign body:Code){l:Nat}{r:Loop}(h:w.heap[l]? =some (.loop r)):
 (Instr.enterLoop fn tmps ps assign body (some l)).run P w=
   .ok (w.heap.size,[]) (w.alloc (.loop {state:=.ready,pending:=none,fn,tmps,params:=ps,assign,body,defers:=r.defers})):=by
 unfold Instr.enterLoop;simp only[Sem.run_bind,run_getLoop h,run_newObj_alloc,Result.andThen,Sem.run_pure]
def ZbC(w:V9)(o:Obj):(w.alloc o).heap=w.heap.push o:=rfl
def ZeJ(w:V9)(o:Obj):Same w (w.alloc o):=⟨rfl,rfl,rfl⟩
def Zpy(w:V9)(r:Nat)(o:Obj):Same w (w.putObj r o):=⟨rfl,rfl,rfl⟩
def ZbF{n:Nat}:∀(ps:U Tmp)(vs vs':U N)(fr WY:Fr)(tmps:Va N),LR ρ vs vs'->FrR ρ fr n tmps->XJ (ps.zip vs) n fr=some WY ->
 FrR ρ WY n ((ps.zip vs').foldl (fun tmps (t,a)=>tmps.setIfInBounds t a) tmps):=by
 intro ps
 induction ps with
 | nil=>intro vs vs' fr WY tmps hv hf h;simp[XJ]at h;subst h;simpa using hf
 | cons p ps ih=>
   intro vs vs' fr WY tmps hv hf h
   match vs,vs',hv with
   | [],[],_=>simp[XJ]at h;subst h;simpa using hf
   | [],_::_,hv=>exact absurd hv.1 (by simp)
   | _::_,[],hv=>exact absurd hv.1 (by simp)
   | v::vs,v'::vs',hv=>
     simp only[GY,XJ]at h;cases hb:Nat.blt p n<;>rw[hb]at h<;>simp only[Cq1,Cq0]at h
     ·cases h
     ·rw[G6]at hb;simp only[GY,Gq];have h1:VR ρ v v':=hv.2 0 v v' rfl rfl;have h2:LR ρ vs vs':=⟨by simpa using hv.1,fun i x x' a b=>hv.2 (i+1) x x' (by simpa using a) (by simpa using b)⟩
      exact ih vs vs' _ WY _ h2 (hf.set hb h1) h
def ZAB{ρ:Ren}{rd:O Nat}{F:Fence}(h:KO ρ rd F){f:V8}(hf:F.fn f):f<nfs:=(Zab h f).1 hf
def Zc8{wm:Nat}{h:H}{w:V9}{l l':Nat}{st st2:LoopState}{pd pd2:O Code}{fr:Fr}{n:Nat}{ps:Va Tmp}{Yf bd:Code}{df:Nat}(r:Rel ρ h w)(hl:ρ l=some (l',0))(Zt:wm<=l)
 (hat:h.at l=.loop st pd fr n ps Yf bd df):∃k:Loop,w.heap[l']? =some (.loop k)/\k.state=st/\k.pending=pd/\k.params=ps/\k.assign=Yf/\k.body=bd/\FrR ρ fr n k.tmps/\
   Rel ρ (h.put l (.loop st2 pd2 fr n ps Yf bd df)) (w.putObj l' (.loop {k with state:=st2,pending:=pd2}))/\
   Stp wm ρ h w ρ (h.put l (.loop st2 pd2 fr n ps Yf bd df)) (w.putObj l' (.loop {k with state:=st2,pending:=pd2})):=by
 have ho:=r.obj _ _ _ hl;rw[hat]at ho;obtain⟨_,fn,tmps,df',hw,hfr,hdf,hnf⟩:=ho;have hlt:=(r.dom _ _ _ hl).2;refine⟨_,hw,rfl,rfl,rfl,rfl,rfl,hfr,?_⟩;refine Znm r Zt (by rw[hat];rfl) (Zpy _ _ _) hl World.putObj_size (fun k hk=>World.putObj_heap_other hk) ?_;exact⟨rfl,fn,tmps,df',World.putObj_heap_same hlt,hfr,hdf,hnf⟩
def Zi6{F:Fence}{n:Nat}{P:V7}{l:Nat}{f:V8}{tmps:Va N}{assign body:Code}{w:V9}{R:Ending->V9->Prop}(hF:F.fn f)(hfn:∃fn,P.funcs[f]? =some fn)
 (h:assign.wpIn (F.inRound l) n P (fun e a1 w1=>e=.normal/\∃w2,(Instr.beginRound l).run P w1=.ok () w2/\body.wpIn (F.inRound l) n P (fun e a w=>∃ch,e=.panic ch/\a.defers=[]/\R (.panicked ch) w) a1 w2) {tmps:=tmps,defers:=[]} w):
 RoundIn F n P l f tmps assign body w R:=by
 refine⟨hF,fun c cs hroom=>?_⟩
 have e0:Frame.round l f tmps assign body .normal=({(default:Frame) with fn:=f,kind:=.normal,roundOf:=some l}:Frame).atR {tmps:=tmps,defers:=[]} [.code assign,.beginRound,.code body]:=by
  simp[Frame.round,Frame.atR]
 generalize hb:({(default:Frame) with fn:=f,kind:=.normal,roundOf:=some l}:Frame)=b at e0;have hk:b.fn=f/\b.kind=.normal/\b.roundOf=some l:=by subst hb;exact⟨rfl,rfl,rfl⟩
 have g1:(F.inRound l).fn b.fn:=by rw[hk.1];exact hF
 have g2:(F.inRound l).room ((c::cs).length+1+n):=hroom;obtain⟨e1,a1,w1,⟨rfl,w2,r1,k2⟩,s1⟩:=h b [.beginRound,.code body] (c::cs) (by rw[hk.2.2];rfl) g1 g2;obtain⟨e2,a2,w3,⟨ch,rfl,hd,hR⟩,todo,s3⟩:=k2 b [] (c::cs) (by rw[hk.2.2];rfl) g1 g2;refine⟨.panicked ch,w3,hR,?_⟩;rw[e0];refine StepsIn.trans s1 (StepsIn.trans (.one (fenced_calm (fr:=b.atR a1 [.beginRound,.code body]) g1 g2 rfl) (stepR_beginRound hk.2.2 r1)) (StepsIn.trans s3 (.one ?_ (step_leave_panicked (fr:= {b.atR a2 todo with mode:=.panicking ch}) ⟨rfl,hd,?_⟩))))
 ·refine fenced_lone (.inl g1) (fun f hf=>?_) (Fence.room_le g2 Vg);exfalso;unfold Frame.about at hf;simp[Frame.atR,hd]at hf
 ·have:({b.atR a2 todo with mode:=.panicking ch}:Frame).fn=f:=hk.1;rw[this];exact hfn
section
variable{C:Cfg}(HI:∀j r,ih j=some r->Yq C.X j r)
include HI
theorem ZcA{g:V6}{n wm:Nat}{rd:O Nat}{l:Nat}{s0 s:Fs}{ps:Va Tmp}{Yf bd:Code}{r:YP}(ZRk:s.fr=s0.fr)(h:Xv C ih g n wm rd l s=some r)(ZnK:∀ρ w,Rel ρ s0.h w->wm<=s0.h.size->wm<=l)
 (henter:∀ρ a w F,Inv ρ n s0 a w->wm<=s0.h.size->KO ρ rd F->∀fn,fn<nfs->∃l' mark w₁ ρ1,(Instr.enterLoop fn a.tmps ps Yf bd F.round).run C.X.P w=.ok (l',mark) w₁/\ρ1 l=some (l',0)/\
   Inv ρ1 n s {a with defers:=mark++a.defers} w₁/\Stp wm ρ s0.h w ρ1 s.h w₁):
 Zc0 C.X (.rangeFunc g ps Yf bd) n wm rd s0 r:=by
 unfold Xv at h;split at h
 ·rename_i gv hg;split at h
  ·rename_i f args hcall
   have hfn:∃g1 first cap fn,gv=.func (.func g1) first cap/\C.X.fns.get g1=some fn/\f=g1/\args=(first.toList++[Value.func (.yield l) #[] #[]]++cap.toList).toArray:=by
    unfold Uz at hcall;split at hcall
    ·split at hcall
     ·rename_i fnn ZDG;cases hcall;exact⟨_,_,_,_,rfl,ZDG,rfl,rfl⟩
     ·cases hcall
    ·split at hcall
     ·exfalso
      revert hcall
      generalize Nat.beq _ _=b;cases b<;>simp
     ·cases hcall
    ·cases hcall
   obtain⟨g1,first,cap,fnn,rfl,ZDG,rfl,rfl⟩:=hfn
   have hres:∃e s',r=.code e s':=by
    unfold Je at h;split at h
    ·split at h
     ·rename_i st pd fr n' ps' as' bd' df hat;cases hst:(st==.busy)<;>rw[hst]at h<;>simp only[Cq1,Cq0]at h
      ·split at h
       ·cases h;exact⟨_,_,rfl⟩
       ·obtain⟨e,s',e1,_⟩:=Y5.1 (HI _ _ h);exact⟨e,s',e1⟩
      ·cases h
     ·cases h
    ·cases h;exact⟨_,_,rfl⟩
    ·cases h
   obtain⟨e,s',rfl⟩:=hres;refine⟨e,s',rfl,fun ρ a w F Zt hi hF=>wpIn_rangeFunc fun fn ZMK=>?_⟩;obtain⟨l',mark,w₁,ρ1,he,hl1,hi1,st1⟩:=henter ρ a w F hi Zt hF fn (ZAB hF ZMK)
   have hgv:VR ρ1 (.func (.func f) first cap) (a.eval g):=by
    have:=Wv hi.fr _ _ (by rw[ZRk]at hg;exact hg);exact this.mono st1.ext
   generalize hgx:a.eval g=gx at hgv;cases hgv with
   | func _ _ _ first' cap' hy hx1 hx2 h1 h2=>
     have hv:Jy ρ1 (first.toList++[Value.func (.yield l) #[] #[]]++cap.toList).toArray (first'++#[Value.func (.yield l') #[] #[]]++cap'):=by
      have e1:LR ρ1 first.toList first'.toList:=Jy.list ⟨hx1,h1⟩;have e2:LR ρ1 cap.toList cap'.toList:=Jy.list ⟨hx2,h2⟩;have e3:LR ρ1 [.func (.yield l) #[] #[]] [.func (.yield l') #[] #[]]:=LR.cons (.yield hl1) LR.nil;have:=((e1.append e3).append e2).arr;have e:(first'.toList++[Value.func (.yield l') #[] #[]]++cap'.toList).toArray=first'++#[Value.func (.yield l') #[] #[]]++cap':=by apply GX.1;simp
      rwa[e]at this
     refine⟨l',mark,w₁,{target:=.fn (.func f) cap',args:=first'++#[Value.func (.yield l') #[] #[]]},w₁,f,first'++#[Value.func (.yield l') #[] #[]]++cap',w₁,he,?_,fun f' hab=>(Zab hF f').2 (by simp only[Target.leads]at hab;cases hab;exact ZgS ZDG),?_,fun hh=>?_,?_⟩
     ·have e:∀v,a.eval (.const v)=v:=fun _=>rfl
      simp only[resolve,hgx,Deferred.ofValue];simp[e]
     ·rw[<-Kt (w:=w₁) (args:=first'++#[Value.func (.yield l') #[] #[]]++cap') ZDG];simp[invoke]
     ·rw[ZaA hF]at hh;cases hh
     ·unfold Je at h;split at h
      ·rename_i rv h2 hc;have hcj:=HI _ _ hc;have Zlh:=KB Zt st1.size;refine(QU hF (hcj ρ1 _ w₁ Zlh hi1.rel hv)).mono ?_;rintro e2 w2 ⟨ρ2,he2,hr2,ZdO⟩;cases he2 with
       | ret hv2=>
         split at h
         ·rename_i st pd fr n' ps' as' bd' df hat;cases hst:(st==.busy)<;>rw[hst]at h<;>simp only[Cq1,Cq0]at h
          ·have hl2:=(ZdO.ext _ _ hl1).1;obtain⟨k,k1,k2,k3,k4,k5,k6,k7,k8,k9⟩:=Zc8 (st2:=.exhausted) (pd2:=pd) (wm:=wm) hr2 hl2 (ZnK ρ w hi.rel Zt) hat
           have hend:(Instr.endLoop l').run C.X.P w2=.ok pd (w2.putObj l' (.loop {k with state:=.exhausted,pending:=pd})):=by
            rw[run_endLoop k1 (by rw[k2];intro hb;rw[hb]at hst;cases hst),<-k3]
           have hi2:Inv ρ2 n {s with h:=h2.put l (.loop .exhausted pd fr n' ps' as' bd' df)} {a with defers:=mark++a.defers} (w2.putObj l' (.loop {k with state:=.exhausted,pending:=pd})):=
            ⟨k8,hi1.fr.mono ZdO.ext,hi1.ds.mono ZdO.ext⟩
           have ZDm:=(st1.trans hi.rel.lt ZdO).trans hi.rel.lt k9;refine⟨pd,_,hend,?_⟩;cases pd with
           | none=>
             cases h;exact⟨ρ2,.normal,hi2,ZDm⟩
           | some c=>
             obtain⟨_,_,e1,kc⟩:=Y5.1 (HI _ _ h);cases e1;exact wpIn_mono (kc ρ2 _ _ F (KB Zt ZDm.size) hi2 (hF.mono ZDm.ext)) fun _ _ _ hp=>Xj.trans hi.rel.lt ZDm hp
          ·cases h
         ·cases h
      ·rename_i v h2 hc;cases h;have hcj:=HI _ _ hc;have Zlh:=KB Zt st1.size;refine(QU hF (hcj ρ1 _ w₁ Zlh hi1.rel hv)).mono ?_;rintro e2 w2 ⟨ρ2,he2,hr2,ZdO⟩;cases he2 with
       | ZX hv2=>exact⟨ρ2,.panic hv2,⟨hr2,hi1.fr.mono ZdO.ext,hi1.ds.mono ZdO.ext⟩,st1.trans hi.rel.lt ZdO⟩
      ·cases h
  ·cases h
 ·cases h
theorem QF{g:V6}{ps:Va Tmp}{Yf bd:Code}{n wm:Nat}{rd:O Nat}{s:Fs}{r:YP}(h:ZfV C ih g ps Yf bd n wm rd s=some r):Zc0 C.X (.rangeFunc g ps Yf bd) n wm rd s r:=by
 unfold ZfV at h;split at h
 ·refine ZcA HI (s0:=s) (by rfl) h (fun ρ w _ hw=>by omega) fun ρ a w F hi Zt hF fn hnf=>?_
  have hF0:F=base:=hF;subst hF0;obtain⟨p1,p2⟩:=Zb7 (wm:=wm) (A:=.deferred) (o:=.deferred (some [])) (l:=(0,0)) hi.rel Zt (ZeJ w _) (ZbC w _) ⟨rfl,World.alloc_heap_new w _⟩;have hdf:=Ren.add_same ρ s.h.size (w.heap.size,0) (0,0);generalize ZVN:ρ.add s.h.size (w.heap.size,0) (0,0)=ρ1 at p1 p2 hdf;have hsz:(w.alloc (.deferred (some []))).heap.size=w.heap.size+1:=by rw[ZbC];simp
  have hle:ρ1.le (ρ1.add (s.h.push .deferred).size ((w.alloc (.deferred (some []))).heap.size,0) (0,0)):=Ren.ZaH p1.fresh
  obtain⟨q1,q2⟩:=Zb7 (wm:=wm) (A:=.loop .ready none s.fr n ps Yf bd s.h.size) (l:=(0,0))
   (o:=.loop {state:=.ready,pending:=none,fn,tmps:=a.tmps,params:=ps,assign:=Yf,body:=bd,defers:=w.heap.size}) p1 (KB Zt p2.size) (ZeJ _ _) (ZbC _ _)
   ⟨rfl,fn,a.tmps,w.heap.size,World.alloc_heap_new _ _,(hi.fr.mono p2.ext).mono hle,(hle _ _ hdf).1,hnf⟩
  refine⟨w.heap.size+1,_,_,_,run_enterLoop_outer fn a.tmps ps Yf bd,?_,⟨q1,(hi.fr.mono p2.ext).mono hle,?_⟩,p2.trans hi.rel.lt q2⟩
  ·have:=Ren.add_same ρ1 (s.h.push .deferred).size ((w.alloc (.deferred (some []))).heap.size,0) (0,0);rw[hsz]at this
   simpa[hsz]using this
  ·exact .mark (hle _ _ hdf).1 ((hi.ds.mono p2.ext).mono hle)
 ·rename_i l;split at h
  ·rename_i st pd fr n' ps' as' bd' df hat;refine ZcA HI (s0:=s) (by rfl) h (fun ρ w _ hw=>hw) fun ρ a w F hi Zt hF fn hnf=>?_
   obtain⟨l',hl',rfl⟩:=hF;have ho:=hi.rel.obj _ _ _ hl';rw[hat]at ho;obtain⟨_,fn0,ZFi,df',hw,hfr,hdf,_⟩:=ho;have hle:ρ.le (ρ.add s.h.size (w.heap.size,0) (0,0)):=Ren.ZaH hi.rel.fresh
   obtain⟨q1,q2⟩:=Zb7 (wm:=wm) (A:=.loop .ready none s.fr n ps Yf bd df) (l:=(0,0))
    (o:=.loop {state:=.ready,pending:=none,fn,tmps:=a.tmps,params:=ps,assign:=Yf,body:=bd,defers:=df'}) hi.rel Zt (ZeJ _ _) (ZbC _ _)
    ⟨rfl,fn,a.tmps,df',World.alloc_heap_new _ _,hi.fr.mono hle,(hle _ _ hdf).1,hnf⟩
   refine⟨w.heap.size,[],_,_,run_enterLoop_inner fn a.tmps ps Yf bd hw,?_,⟨q1,hi.fr.mono hle,hi.ds.mono hle⟩,q2⟩;exact Ren.add_same ρ s.h.size (w.heap.size,0) (0,0)
  ·cases h
theorem WA{l:Nat}{args:Va N}{wm:Nat}{h:H}{r:YP}(hc:Zbx ih l args wm h=some r):Yq C.X (.round l args wm h) r:=by
 unfold Zbx at hc;split at hc
 ·rename_i st0 pd0 fr n ps Yf bd df0 hat;cases hb:(Nat.ble wm l&&Nat.beq args.toList.length ps.toList.length)<;>rw[hb]at hc<;>simp only[Cq1,Cq0]at hc
  ·cases hc
  rw[Ba0]at hb;have ZnK:=Nl0 hb.1;split at hc
  ·rename_i WY hset;obtain⟨e1,s1,ha,hk⟩:=Q5 hc;obtain⟨_,_,e0,ka⟩:=Y5.1 (HI _ _ ha);cases e0;unfold UQ at hk;split at hk
   ·split at hk
    ·rename_i pd Qp n2 ps2 as2 bd2 df2 Zh2;obtain⟨e2,s2,hb2,hk2⟩:=Q5 hk;obtain⟨_,_,e0,kb⟩:=Y5.1 (HI _ _ hb2);cases e0;unfold QE at hk2;split at hk2
     ·rename_i st3 pd3 fr3 n3 ps3 as3 bd3 df3 ZzG;by_cases hp:∃v0,e2=.panic v0
      ·obtain⟨v0,rfl⟩:=hp;dsimp only at hk2;split at hk2
       ·rename_i hds;cases hk2;intro ρ l' k args' w Zt hr hv hl hw
        have hkk:k.params=ps/\k.assign=Yf/\k.body=bd/\FrR ρ fr n k.tmps/\k.fn<nfs:=by
         have ho:=hr.obj _ _ _ hl;rw[hat]at ho;obtain⟨_,fn0,ZFi,df',hw',hfr,hdf,hnf⟩:=ho;rw[hw]at hw';cases hw';exact⟨rfl,rfl,rfl,hfr,hnf⟩
        obtain⟨rfl,rfl,rfl,hfr,hnf⟩:=hkk;have hfn:∃fn,C.X.P.funcs[k.fn]? =some fn:=⟨_,GH (by rw[C.X.sz];exact hnf)⟩
        refine Zi6 hnf hfn ?_
        have hi:Inv ρ n {fr:=WY,ds:=[],h:=h} {tmps:=(k.params.zip args').foldl (fun tmps (t,a)=>tmps.setIfInBounds t a) k.tmps,defers:=[]} w:=by
         refine⟨hr,?_,.nil⟩;have:=ZbF k.params.toList args.toList args'.toList fr WY k.tmps (Jy.list hv) hfr hset;rw[<-Array.foldl_toList,Array.toList_zip];exact this
        have hF:KO ρ (some l) (base.inRound l'):=⟨l',hl,rfl⟩
        refine wpIn_mono (ka ρ _ w _ Zt hi hF) ?_;rintro x1 a1 w1 ⟨ρ1,he1,hi1,st1⟩;cases he1;have hl1:=(st1.ext _ _ hl).1;obtain⟨k1,q1,q2,q3,q4,q5,q6,q7,q8,q9⟩:=Zc8 (st2:=.busy) (pd2:=pd) (wm:=wm) hi1.rel hl1 ZnK Zh2;refine⟨rfl,_,run_beginRound q1 q2,?_⟩;have Zzn:({k1 with state:=.busy}:Loop)= {k1 with state:=.busy,pending:=pd}:=by rw[<-q3]
        rw[Zzn];have ZHW:Inv ρ1 n {s1 with h:=s1.h.put l (.loop .busy pd Qp n2 ps2 as2 bd2 df2)} a1 (w1.putObj l' (.loop {k1 with state:=.busy,pending:=pd})):=⟨q8,hi1.fr,hi1.ds⟩
        have st1':=st1.trans hr.lt q9;refine wpIn_mono (kb ρ1 _ _ _ (KB Zt st1'.size) ZHW ⟨l',hl1,rfl⟩) ?_;rintro x2 a2 w2 ⟨ρ2,he2,hi2,st2⟩;cases he2 with
        | panic hv2=>
          have hd:=hi2.ds;rw[hds]at hd;refine⟨_,rfl,(by generalize a2.defers=dd at hd;cases hd;rfl),ρ2,.ZX hv2,hi2.rel,st1'.trans hr.lt st2⟩
       ·cases hk2
      have hfin:∃v h',r=.fin (.ret v) h':=by
       split at hk2<;>first|exact(hp ⟨_,rfl⟩).elim | (cases hk2;exact⟨_,_,rfl⟩) | cases hk2
      obtain⟨v,h',rfl⟩:=hfin;intro ρ l' k args' w Zt hr hv hl hw
      have hkk:k.params=ps/\k.assign=Yf/\k.body=bd/\FrR ρ fr n k.tmps/\k.fn<nfs:=by
       have ho:=hr.obj _ _ _ hl;rw[hat]at ho;obtain⟨_,fn0,ZFi,df',hw',hfr,hdf,hnf⟩:=ho;rw[hw]at hw';cases hw';exact⟨rfl,rfl,rfl,hfr,hnf⟩
      obtain⟨rfl,rfl,rfl,hfr,hnf⟩:=hkk;refine roundIn_of_wpIn hnf ?_
      have hi:Inv ρ n {fr:=WY,ds:=[],h:=h} {tmps:=(k.params.zip args').foldl (fun tmps (t,a)=>tmps.setIfInBounds t a) k.tmps,defers:=[]} w:=by
       refine⟨hr,?_,.nil⟩;have:=ZbF k.params.toList args.toList args'.toList fr WY k.tmps (Jy.list hv) hfr hset;rw[<-Array.foldl_toList,Array.toList_zip];exact this
      have hF:KO ρ (some l) (base.inRound l'):=⟨l',hl,rfl⟩
      refine wpIn_mono (ka ρ _ w _ Zt hi hF) ?_;rintro x1 a1 w1 ⟨ρ1,he1,hi1,st1⟩;cases he1;have hl1:=(st1.ext _ _ hl).1;obtain⟨k1,q1,q2,q3,q4,q5,q6,q7,q8,q9⟩:=Zc8 (st2:=.busy) (pd2:=pd) (wm:=wm) hi1.rel hl1 ZnK Zh2;refine⟨_,run_beginRound q1 q2,?_⟩;have Zzn:({k1 with state:=.busy}:Loop)= {k1 with state:=.busy,pending:=pd}:=by rw[<-q3]
      rw[Zzn];have ZHW:Inv ρ1 n {s1 with h:=s1.h.put l (.loop .busy pd Qp n2 ps2 as2 bd2 df2)} a1 (w1.putObj l' (.loop {k1 with state:=.busy,pending:=pd})):=⟨q8,hi1.fr,hi1.ds⟩
      have st1':=st1.trans hr.lt q9;refine wpIn_mono (kb ρ1 _ _ _ (KB Zt st1'.size) ZHW ⟨l',hl1,rfl⟩) ?_;rintro x2 a2 w2 ⟨ρ2,he2,hi2,st2⟩;have hl2:=(st2.ext _ _ hl1).1;have st2':=st1'.trans hr.lt st2
      have fin:∀(st4:LoopState)(pd4:O Code)(b:Z),v=.bool b->h'=s2.h.put l (.loop st4 pd4 fr3 n3 ps3 as3 bd3 df3)->b=pd4.isNone->st4=(if pd4.isNone then .ready else .done) ->
       ∃v' w',(Instr.endRound l' pd4).run C.X.P w2=.ok v' w'/\UX wm ρ h w (.ret v) h' (.returned v') w':=by
       rintro st4 pd4 b rfl rfl rfl rfl;obtain⟨k2,r1,r2,r3,r4,r5,r6,r7,r8,r9⟩:=Zc8 (st2:=if pd4.isNone then .ready else .done) (pd2:=pd4) (wm:=wm) hi2.rel hl2 ZnK ZzG;exact⟨_,_,run_endRound pd4 r1,ρ2,.ret (.bool _),r8,st2'.trans hr.lt r9⟩
      cases he2 with
      | normal=>cases hk2;exact fin .ready none true rfl rfl rfl rfl
      | ret=>cases hk2;exact fin .done (some .ret) false rfl rfl rfl rfl
      | exit id=>cases hk2;exact fin .done (some (.exit id)) false rfl rfl rfl rfl
      | goto id=>cases hk2;exact fin .done (some (.goto id)) false rfl rfl rfl rfl
      | panic hv=>exact(hp ⟨_,rfl⟩).elim
     ·cases hk2
    ·cases hk
   ·cases hk
  ·cases hc
 ·cases hc
end
def ZBZ(C:Cfg)(ih:Qn->O YP):Prop:=∀n wm rd (ops:Va Oper) s s',C.draw ih n wm rd ops.toList s=some s' ->
 ∀id ρ a w F,wm<=s.h.size->Inv ρ n s a w->KO ρ rd F->(Code.region id ops true).wpIn F 0 C.X.P (Xj wm n ρ s.h w .normal s') a w
def Zoh{C:Cfg}(Zp8:ZBZ C ih)(HI:∀j r,ih j=some r->Yq C.X j r){c:Code}{n wm:Nat}{rd:O Nat}{s:Fs}{r:YP}(h:Kh C ih c n wm rd s=some r):Zc0 C.X c n wm rd s r:=by
 cases c with
 | skip=>cases h;exact⟨_,_,rfl,fun ρ a w F Zt hi hF=>wpIn_skip ⟨ρ,.normal,hi,Stp.refl _ _ _ _⟩⟩
 | label l=>cases h;exact⟨_,_,rfl,fun ρ a w F Zt hi hF=>wpIn_label ⟨ρ,.normal,hi,Stp.refl _ _ _ _⟩⟩
 | ret=>cases h;exact⟨_,_,rfl,fun ρ a w F Zt hi hF=>wpIn_ret ⟨ρ,.ret,hi,Stp.refl _ _ _ _⟩⟩
 | exit id=>cases h;exact⟨_,_,rfl,fun ρ a w F Zt hi hF=>wpIn_exit ⟨ρ,.exit id,hi,Stp.refl _ _ _ _⟩⟩
 | goto l=>cases h;exact⟨_,_,rfl,fun ρ a w F Zt hi hF=>wpIn_goto ⟨ρ,.goto l,hi,Stp.refl _ _ _ _⟩⟩
 | seq a b=>exact ZqU HI h
 | cond c a b=>exact Zog HI h
 | block id c=>exact Zlt HI h
 | scope c=>exact Zlq HI h
 | rangeFunc g ps Yf bd=>exact QF HI h
 | refuse _=>cases h
 | loop c=>
   obtain⟨e,s',rfl,k⟩:=K7.1 (HI _ _ h);exact⟨e,s',rfl,fun ρ a w F Zt hi hF=>ZbX (k ρ a w F Zt hi hF)⟩
 | region id ops d=>
   cases d with
   | true=>
     simp only[Kh,Cq1,Zof]at h;split at h
     ·rename_i s' hs;cases h;exact⟨_,_,rfl,fun ρ a w F Zt hi hF=>Zp8 n wm rd ops s s' hs id ρ a w F Zt hi hF⟩
     ·cases h
   | false=>
     simp only[Kh,Cq0,ZfU]at h;split at h
     ·rename_i e s' hs;cases h;exact⟨_,_,rfl,fun ρ a w F Zt hi hF=>wpIn_region_list (ZkK HI _ ops.toList s s' e hs hi Zt hF (fun _ _ _ hp=>hp))⟩
     ·cases h
def ZGz(C:Cfg)(ih:Qn->O YP):Prop:=∀c n wm rd s r mi,ZpQ c s=some mi->Zkt C ih mi c n wm rd s=some r->ZtN C.X c n wm rd s r
def ZwM{C:Cfg}(hmap:ZGz C ih)(Zp8:ZBZ C ih)(HI:∀j r,ih j=some r->Yq C.X j r){j:Qn}{r:YP}(h':Jf C ih j=some r):Yq C.X j r:=by
 cases j with
 | code c n wm rd s=>exact Y5.2 (Zoh Zp8 HI h')
 | loop c n wm rd s=>
   have h':ZfX C ih c n wm rd s=some r:=h';unfold ZfX at h';split at h'
   ·rename_i mi hmi;split at h'
    ·rename_i r' hr;cases h';exact K7.2 (hmap c n wm rd s r mi hmi hr)
    ·exact K7.2 (ZfW HI h')
   ·exact K7.2 (ZfW HI h')
 | call f args wm h=>exact Zls HI h'
 | round l args wm h=>exact WA HI h'
 | dcall f args pm wm h=>exact Zd7 HI h'
 | Xx c n wm pm s=>exact X4.2 (Ji HI h')
 | leave fn wm pm s=>exact Jh HI h'
end
section
variable{X:Ctx}{ih:Qn->O YP}
structure Yr(wm:Nat)(h h':H):Prop where
 size:h.size<=h'.size
 keep:∀i,i<wm->h'.at i=h.at i
 own:∀i,i<h.size->(h'.at i).own=true->(h.at i).own=true
 live:∀i,i<h.size->(h'.at i).live=true->(h.at i).live=true
def Yr.refl(wm:Nat)(h:H):Yr wm h h:=⟨K1 _,fun _ _=>rfl,fun _ _ x=>x,fun _ _ x=>x⟩
def Yr.trans{wm:Nat}{h h1 h2:H}(a:Yr wm h h1)(b:Yr wm h1 h2):Yr wm h h2:=
 ⟨KB a.size b.size,fun i hi=>(b.keep i hi).trans (a.keep i hi),fun i hi x=>a.own i hi (b.own i (G0 hi a.size) x),
  fun i hi x=>a.live i hi (b.live i (G0 hi a.size) x)⟩
def KI{wm:Nat}{h:H}(A:YD)(hw:wm<=h.size):Yr wm h (h.push A):=by
 have e:∀i,i<h.size->(h.push A).at i=h.at i:=fun i hi=>by rw[H.Qc,if_neg Vg]
 exact⟨by simp,fun i hi=>e i Vg,fun i hi x=>by rwa[e i hi]at x,fun i hi x=>by rwa[e i hi]at x⟩
def JD{wm:Nat}{h:H}{l:Nat}{A:YD}(hw:wm<=l)(ho:(h.at l).own=true):Yr wm h (h.put l A):=by
 have e:∀i,i≠l->(h.put l A).at i=h.at i:=fun i hi=>by rw[H.XM,if_neg (by simp[hi])]
 refine⟨by simp,fun i hi=>e i Vg,fun i hi x=>?_,fun i hi x=>?_⟩
 ·by_cases hil:i=l
  ·subst hil;exact ho
  ·rwa[e i hil]at x
 ·by_cases hil:i=l
  ·subst hil;exact J4 ho
  ·rwa[e i hil]at x
def Zfk{wm:Nat}{h h':H}{E:Eff}(hw:wm<=h.size)(he:E.apply wm h=some h'):Yr wm h h':=by
 cases E with
 | none=>cases he;exact Yr.refl _ _
 | new A=>
   simp only[Eff.apply]at he;cases hA:A.own<;>rw[hA]at he<;>simp only[Cq1,Cq0]at he
   ·cases he
   ·cases he;exact KI A hw
 | upd i A=>
   simp only[Eff.apply]at he;cases hA:(Nat.ble wm i&&(h.at i).own)<;>rw[hA]at he<;>simp only[Cq1,Cq0]at he
   ·cases he
   ·cases he;rw[Ba0]at hA;exact JD (Nl0 hA.1) hA.2
 | grow i A=>
   simp only[Eff.apply]at he;cases hA:(Nat.ble wm i&&(h.at i).own&&A.own)<;>rw[hA]at he<;>simp only[Cq1,Cq0]at he
   ·cases he
   ·cases he;rw[Ba0,Ba0]at hA;exact(JD (Nl0 hA.1.1) hA.1.2).trans (KI A hw)
def Ja:Qn->YP->Prop
 | .code _ _ wm _ s,r=>∃e s',r=.code e s'/\(wm<=s.h.size->Yr wm s.h s'.h)
 | .loop _ _ wm _ s,r=>∃e s',r=.code e s'/\(wm<=s.h.size->Yr wm s.h s'.h)
 | .call _ _ wm h,r=>∃e h',r=.fin e h'/\(wm<=h.size->Yr wm h h')
 | .round _ _ wm h,r=>∃e h',r=.fin e h'/\(wm<=h.size->Yr wm h h')
 | .leave _ wm _ s,r=>∃e h',r=.fin e h'/\(wm<=s.h.size->Yr wm s.h h')
 | .dcall _ _ _ wm h,r=>∃e h',r=.ZdQ e h'/\(wm<=h.size->Yr wm h h')
 | .Xx _ _ wm _ s,r=>∃e pm s',r=.Xx e pm s'/\(wm<=s.h.size->Yr wm s.h s'.h)
def Yr.next{wm:Nat}{h h1 h2:H}(hw:wm<=h.size)(a:Yr wm h h1)(b:wm<=h1.size->Yr wm h1 h2):Yr wm h h2:=a.trans (b (KB hw a.size))
def Zhg{n:Nat}{s s':Fs}{dst:O Tmp}{v:N}(h:Zhh n s dst v=some s'):s'.h=s.h:=by
 rw[ZiA]at h;split at h
 ·cases h;rfl
 ·rename_i d;cases hd:(Nat.blt d n&&allowed s.wr d)<;>rw[hd]at h<;>simp only[Cq1,Cq0]at h
  ·cases h
  ·cases h;rfl
section
variable(HI:∀j r,ih j=some r->Ja j r)
include HI
theorem JM{f:V8}{args:Va N}{wm:Nat}{h h':H}{e:U4}(hc:ih (.call f args wm h)=some (.fin e h'))(hw:wm<=h.size):Yr wm h h':=by
 obtain⟨_,_,e1,k⟩:=HI _ _ hc;cases e1;exact k hw
theorem Zel{l:Nat}{args:Va N}{wm:Nat}{h h':H}{e:U4}(hc:ih (.round l args wm h)=some (.fin e h'))(hw:wm<=h.size):Yr wm h h':=by
 obtain⟨_,_,e1,k⟩:=HI _ _ hc;cases e1;exact k hw
theorem Wo{c:Code}{n wm:Nat}{rd:O Nat}{s s':Fs}{e:XX}(hc:ih (.code c n wm rd s)=some (.code e s'))(hw:wm<=s.h.size):Yr wm s.h s'.h:=by
 obtain⟨_,_,e1,k⟩:=HI _ _ hc;cases e1;exact k hw
theorem Uj{c:Code}{n wm:Nat}{pm Ku:PM}{s s':Fs}{e:XX}(hc:ih (.Xx c n wm pm s)=some (.Xx e Ku s'))(hw:wm<=s.h.size):Yr wm s.h s'.h:=by
 obtain⟨_,_,_,e1,k⟩:=HI _ _ hc;cases e1;exact k hw
theorem Zte{f:V8}{args:Va N}{pm Ku:PM}{wm:Nat}{h h':H}(hc:ih (.dcall f args pm wm h)=some (.ZdQ Ku h'))(hw:wm<=h.size):Yr wm h h':=by
 obtain⟨_,_,e1,k⟩:=HI _ _ hc;cases e1;exact k hw
theorem Ztq{YX:V8->Z}{n wm:Nat}{rd:O Nat}{dst:O Tmp}{s s':Fs}{nx:AN}{h':H}{e:XX}(h:Kn YX ih n wm rd dst s nx h'=some (e,s'))(hw:wm<=h'.size):Yr wm h' s'.h:=by
 have go:∀{s1:Fs}{v:N},(match Zhh n s1 dst v with|some s=>some (XX.normal,s) | none=>none)=some (e,s')->s'.h=s1.h:=by
  intro s1 v hh;split at hh
  ·rename_i s2 hp;cases hh;exact Zhg hp
  ·cases hh
 unfold Kn at h;dsimp only[Jz]at h;split at h
 ·rw[go h];exact Yr.refl _ _
 ·rw[go h];exact Yr.refl _ _
 ·rename_i f args;cases hp:YX f<;>rw[hp]at h<;>simp only[Cq1,Cq0]at h
  ·split at h
   ·rename_i v h2 hc;rw[go h];exact JM HI hc hw
   ·rename_i v h2 hc;cases h;exact JM HI hc hw
   ·cases h
  ·split at h
   ·rename_i v h2 hc;cases hpl:plain v<;>rw[hpl]at h<;>simp only[Cq1,Cq0]at h
    ·cases h
    ·rw[go h];exact Yr.refl _ _
   ·cases h
 ·split at h
  ·rename_i v h2 hc;rw[go h];exact Zel HI hc hw
  ·rename_i v h2 hc;cases h;exact Zel HI hc hw
  ·cases h
 ·split at h
  ·rw[go h];exact Yr.refl _ _
  ·cases h
 ·cases h
 ·cases h;exact Yr.refl _ _
theorem Zhi{YX:V8->Z}{n wm:Nat}{rd:O Nat}{ops:U Oper}:∀(l:U Oper)(s s':Fs)(e:XX),ZlC X YX ih n wm rd ops l s=some (e,s')->wm<=s.h.size->Yr wm s.h s'.h:=by
 have step:∀(o:Oper)(s s':Fs)(e:XX),JS X YX ih n wm rd ops o s=some (e,s')->wm<=s.h.size->Yr wm s.h s'.h:=by
  intro o s s' e h hw;unfold JS at h;cases hok:okG ops o s.fr<;>rw[hok]at h<;>simp only[GA,QP,Cq1,Cq0]at h
  ·cases h
  cases hwt:Y0 ops o s.fr<;>rw[hwt]at h<;>simp only[Cq1,Cq0]at h
  ·split at h
   ·rename_i s2 hp;cases h;rw[Zhg hp];exact Yr.refl _ _
   ·cases h
  ·split at h
   ·split at h
    ·rename_i nx E ha h1 hE;exact(Zfk hw hE).next hw (Ztq HI h)
    ·cases h
   ·cases h
 intro l
 induction l with
 | nil=>intro s s' e h hw;cases h;exact Yr.refl _ _
 | cons o l ihl=>
   intro s s' e h hw;simp only[ZlC]at h;split at h
   ·rename_i s1 h1;exact(step o s s1 _ h1 hw).next hw (ihl s1 s' e h)
   ·rename_i v s1 h1;cases h;exact step o s s' _ h1 hw
   ·cases h
theorem ZqX{C:Cfg}{mi:MI}{n wm:Nat}{rd:O Nat}{s:Fs}{r:YP}(h:Zae C ih mi n wm rd s=some r):∃e s',r=.code e s'/\(wm<=s.h.size->Yr wm s.h s'.h):=by
 unfold Zae at h;split at h
 ·rename_i s1 h1;obtain⟨e,s2,rfl,k⟩:=HI _ _ h;exact⟨e,s2,rfl,fun hw=>(Zhi HI _ _ _ _ h1 hw).next hw k⟩
 ·rename_i e s1 _ h1;cases h;exact⟨_,_,rfl,fun hw=>Zhi HI _ _ _ _ h1 hw⟩
 ·cases h
omit HI in
theorem Zju{c:Code}{s:Fs}{mi:MI}(h:ZpQ c s=some mi):c=.seq (.region mi.id mi.ops false) mi.rest/\mi.ops.toList=mi.o::mi.l/\mi.o.op=.next (.tmp mi.t) false/\mi.o.guard=none/\
 s.fr.at mi.t=(Vf mi.it)/\s.h.at mi.it=.iter mi.m mi.since mi.Y6 none/\s.h.at mi.m=.map mi.es mi.clock:=by
 unfold ZpQ at h;split at h
 ·unfold ZyU at h;split at h
  ·rename_i o l e1;split at h
   ·rename_i t e2 e3;unfold ZyT at h;split at h
    ·rename_i it e4;split at h
     ·rename_i m since Y6 e5;split at h
      ·rename_i es clock e6;cases h;exact⟨rfl,e1,e2,e3,e4,e5,e6⟩
      ·cases h
     ·cases h
    ·cases h
   ·cases h
  ·cases h
 ·cases h
theorem Zs4{C:Cfg}{mi:MI}{c:Code}{n wm:Nat}{rd:O Nat}{s:Fs}{r:YP}(hmi:ZpQ c s=some mi)(h:Zkt C ih mi c n wm rd s=some r):∃e s',r=.code e s'/\(wm<=s.h.size->Yr wm s.h s'.h):=by
 obtain⟨_,_,_,_,_,hit,_⟩:=Zju hmi;unfold Zkt Zod at h;generalize hb:Zl6 mi n wm ((Zg6 c).filter (allowed s.wr))=b at h;cases b with
 | false=>cases h
 | true=>
   obtain⟨_,_,_,ZnL,_,_⟩:=Zes hb;simp only[Cq1]at h;generalize Zbp C ih mi n rd _ _ s mi.es=b2 at h;cases b2 with
   | false=>cases h
   | true=>
     simp only[Cq1]at h;split at h
     ·rename_i e s2 h2;obtain⟨_,_,e1,k⟩:=ZqX HI h2;cases e1;have hk:wm<=s.h.size->Yr wm s.h s2.h:=fun hw=>(JD ZnL (by rw[hit];rfl)).next hw k
      cases e with
      | normal=>cases h
      | exit _=>cases h;exact⟨_,_,rfl,hk⟩
      | goto _=>cases h;exact⟨_,_,rfl,hk⟩
      | ret=>cases h;exact⟨_,_,rfl,hk⟩
      | panic _=>cases h;exact⟨_,_,rfl,hk⟩
     ·cases h
theorem Zdx{c:Code}{n wm:Nat}{rd:O Nat}{s:Fs}{k:XX->Fs->O YP}{r:YP}(h:Zf6 k (ih (.code c n wm rd s))=some r)
 (hk:∀e s1 r,k e s1=some r->∃e' s',r=.code e' s'/\(wm<=s1.h.size->Yr wm s1.h s'.h)):∃e s',r=.code e s'/\(wm<=s.h.size->Yr wm s.h s'.h):=by
 obtain⟨e,s1,h1,h2⟩:=Q5 h;obtain⟨e',s',rfl,k2⟩:=hk e s1 r h2;exact⟨e',s',rfl,fun hw=>(Wo HI h1 hw).next hw k2⟩
omit HI in
theorem here{wm:Nat}{e:XX}{s:Fs}{r:YP}(h:some (.code e s)=some r):∃e' s',r=.code e' s'/\(wm<=s.h.size->Yr wm s.h s'.h):=by
 cases h;exact⟨_,_,rfl,fun _=>Yr.refl _ _⟩
theorem Zlr{n wm:Nat}{rd:O Nat}{l:Nat}{s:Fs}{f:V8}{args:Va N}{r:YP}(h:Je ih n wm rd l s (ih (.call f args wm s.h))=some r):
 ∃e s',r=.code e s'/\(wm<=s.h.size->wm<=l->Yr wm s.h s'.h):=by
 unfold Je at h;split at h
 ·rename_i v h2 hc;split at h
  ·rename_i st pd fr n' ps Yf bd df hat;cases hst:(st==LoopState.busy)<;>rw[hst]at h<;>simp only[Cq1,Cq0]at h
   ·split at h
    ·cases h;exact⟨_,_,rfl,fun hw hl=>(JM HI hc hw).trans (JD hl (by rw[hat];rfl))⟩
    ·obtain⟨e,s',rfl,k⟩:=HI _ _ h;exact⟨_,_,rfl,fun hw hl=>((JM HI hc hw).trans (JD hl (by rw[hat];rfl))).next hw k⟩
   ·cases h
  ·cases h
 ·rename_i v h2 hc;cases h;exact⟨_,_,rfl,fun hw _=>JM HI hc hw⟩
 ·cases h
theorem Zd6{C:Cfg}{g:V6}{n wm:Nat}{rd:O Nat}{l:Nat}{s:Fs}{r:YP}(h:Xv C ih g n wm rd l s=some r):
 ∃e s',r=.code e s'/\(wm<=s.h.size->wm<=l->Yr wm s.h s'.h):=by
 unfold Xv at h;split at h
 ·split at h
  ·exact Zlr HI h
  ·cases h
 ·cases h
end
def ZkZ(C:Cfg):Prop:=∀ih,(∀j r,ih j=some r->Ja j r)->∀n wm rd ops s s',C.draw ih n wm rd ops s=some s'->wm<=s.h.size->Yr wm s.h s'.h
def ZAZ{C:Cfg}(hd:ZkZ C)(HI:∀j r,ih j=some r->Ja j r)(j:Qn)(r:YP)(h:Jf C ih j=some r):Ja j r:=by
 cases j with
 | code c n wm rd s=>
   simp only[Jf]at h;cases c with
   | skip=>exact here h
   | label l=>exact here h
   | ret=>exact here h
   | exit id=>exact here h
   | goto l=>exact here h
   | seq a b=>
     refine Zdx HI h fun e s1 r hk=>?_
     cases e with
     | normal=>exact HI _ _ hk
     | exit _=>exact here hk
     | goto _=>exact here hk
     | ret=>exact here hk
     | panic _=>exact here hk
   | cond c a b=>
     simp only[Kh,Zkw]at h;split at h
     ·rename_i t _;cases t with
      | true=>exact HI (.code a n wm rd s) _ h
      | false=>exact HI (.code b n wm rd s) _ h
     ·cases h
   | block id c=>
     refine Zdx HI h fun e s1 r hk=>?_
     cases e with
     | exit k=>
       dsimp only at hk;cases hb:Nat.beq k id<;>rw[hb]at hk<;>exact here hk
     | normal=>exact here hk
     | goto _=>exact here hk
     | ret=>exact here hk
     | panic _=>exact here hk
   | scope c=>
     refine Zdx HI h fun e s1 r hk=>?_
     cases e with
     | exit k=>exact here hk
     | normal=>exact here hk
     | goto _=>cases hk
     | ret=>exact here hk
     | panic _=>exact here hk
   | loop c=>
     obtain⟨e,s',rfl,k⟩:=HI _ _ h;exact⟨e,s',rfl,k⟩
   | refuse _=>cases h
   | rangeFunc g ps Yf bd=>
     simp only[Kh,ZfV]at h;split at h
     ·obtain⟨e,s',rfl,k⟩:=Zd6 HI h;exact⟨e,s',rfl,fun hw=>((KI _ hw).trans (KI _ (by simp;omega))).next hw (fun hw2=>k hw2 Vg)⟩
     ·split at h
      ·obtain⟨e,s',rfl,k⟩:=Zd6 HI h;exact⟨e,s',rfl,fun hw=>(KI _ hw).next hw (fun hw2=>k hw2 hw)⟩
      ·cases h
   | region id ops d=>
     cases d with
     | true=>
       simp only[Kh,Cq1,Zof]at h;split at h
       ·rename_i s' hs;cases h;exact⟨_,_,rfl,fun hw=>hd ih HI n wm rd _ s s' hs hw⟩
       ·cases h
     | false=>
       simp only[Kh,Cq0,ZfU]at h;split at h
       ·rename_i e s' hs;cases h;exact⟨_,_,rfl,fun hw=>Zhi HI _ _ _ _ hs hw⟩
       ·cases h
 | loop c n wm rd s=>
   simp only[Jf,ZfX]at h
   have hL:Zku ih c n wm rd s=some r->Ja (.loop c n wm rd s) r:=by
    intro h;refine Zdx HI h fun e s1 r hk=>?_
    cases e with
    | normal=>exact HI _ _ hk
    | exit _=>exact here hk
    | goto _=>exact here hk
    | ret=>exact here hk
    | panic _=>exact here hk
   split at h
   ·rename_i mi hmi;split at h
    ·rename_i r' hr;cases h;exact Zs4 HI hmi hr
    ·exact hL h
   ·exact hL h
 | call f args wm h0=>
   simp only[Jf,Ziv]at h;split at h
   ·split at h
    ·cases h;exact⟨_,_,rfl,fun _=>Yr.refl _ _⟩
    ·cases h
   split at h
   ·cases h;exact⟨_,_,rfl,fun hw=>KI _ hw⟩
   unfold Zoj at h;split at h
   ·rename_i fn hfn;split at h
    ·rename_i c hb;cases hn:Nat.ble args.toList.length fn.ntmps<;>rw[hn]at h<;>simp only[Cq1,Cq0]at h
     ·cases h
     ·obtain⟨e,s1,h1,h2⟩:=Q5 h;split at h2
      ·rename_i pm hpm;obtain⟨e,h',rfl,k⟩:=HI _ _ h2;exact⟨e,h',rfl,fun hw=>(Wo HI h1 hw).next hw k⟩
      ·cases h2
    ·cases h
   ·cases h
 | leave fn wm pm s=>
   simp only[Jf,Ua]at h;split at h
   ·split at h
    ·split at h
     ·cases h;exact⟨_,_,rfl,fun _=>Yr.refl _ _⟩
     ·cases h
    ·cases h;exact⟨_,_,rfl,fun _=>Yr.refl _ _⟩
    ·cases h
   ·split at h
    ·split at h
     ·rename_i r0 _ _ hat;cases hb:Nat.ble wm r0<;>rw[hb]at h<;>simp only[Cq1,Cq0]at h
      ·cases h
      ·obtain⟨e,h',rfl,k⟩:=HI _ _ h;exact⟨e,h',rfl,fun hw=>(JD (Nl0 hb) (by rw[hat];rfl)).next hw k⟩
     ·cases h
    ·split at h
     ·split at h
      ·rename_i Ku h' hc;obtain⟨e,h2,rfl,k⟩:=HI _ _ h;exact⟨e,h2,rfl,fun hw=>(Zte HI hc hw).next hw k⟩
      ·cases h
     ·cases h
    ·cases h
 | dcall f args pm wm h0=>
   simp only[Jf,ZfY]at h;split at h
   ·rename_i fn hfn;split at h
    ·rename_i c hb;cases hn:Nat.ble args.toList.length fn.ntmps<;>rw[hn]at h<;>simp only[Cq1,Cq0]at h
     ·cases h
     ·obtain⟨e,pm1,s1,h1,h2⟩:=Zix h;split at h2
      ·cases h2;exact⟨_,_,rfl,fun hw=>Uj HI h1 hw⟩
      ·cases h2;exact⟨_,_,rfl,fun hw=>Uj HI h1 hw⟩
      ·cases h2
    ·cases h
   ·cases h
 | round l args wm h0=>
   simp only[Jf,Zbx]at h;split at h
   ·rename_i st0 pd0 fr n ps Yf bd df0 hat;cases hb:(Nat.ble wm l&&Nat.beq args.toList.length ps.toList.length)<;>rw[hb]at h<;>simp only[Cq1,Cq0]at h
    ·cases h
    rw[Ba0]at hb;have ZnK:=Nl0 hb.1;split at h
    ·obtain⟨e1,s1,h1,h2⟩:=Q5 h;unfold UQ at h2;split at h2
     ·split at h2
      ·rename_i pd Qp n2 ps2 as2 bd2 df2 Zh2;obtain⟨e2,s2,h3,h4⟩:=Q5 h2;unfold QE at h4;split at h4
       ·rename_i st3 pd3 fr3 n3 ps3 as3 bd3 df3 ZzG
        have key:∀A,wm<=h0.size->Yr wm h0 (s2.h.put l A):=fun A hw=>
         (((Wo HI h1 hw).trans (JD ZnK (by rw[Zh2];rfl))).next hw (fun hw2=>Wo HI h3 hw2)).trans (JD ZnK (by rw[ZzG];rfl))
        have ZQy:wm<=h0.size->Yr wm h0 s2.h:=fun hw=>
         ((Wo HI h1 hw).trans (JD ZnK (by rw[Zh2];rfl))).next hw (fun hw2=>Wo HI h3 hw2)
        split at h4<;>first | (cases h4;exact⟨_,_,rfl,key _⟩) | cases h4 | (split at h4<;>first | (cases h4;exact⟨_,_,rfl,ZQy⟩) | cases h4)
       ·cases h4
      ·cases h2
     ·cases h2
    ·cases h
   ·cases h
 | Xx c n wm pm s=>
   have Zyo:∀(c:Code),Za5 ih c n wm pm s=some r->Ja (.Xx c n wm pm s) r:=by
    intro c h;obtain⟨e1,s1,h1,h2⟩:=Q5 h;cases h2;exact⟨_,_,_,rfl,fun hw=>Wo HI h1 hw⟩
   simp only[Jf,Kz]at h;split at h
   ·obtain⟨e,pm1,s1,h1,h2⟩:=Zix h;cases e with
    | normal=>
      obtain⟨e,pm2,s2,rfl,k⟩:=HI _ _ h2;exact⟨_,_,_,rfl,fun hw=>(Uj HI h1 hw).next hw k⟩
    | exit _=>cases h2;exact⟨_,_,_,rfl,fun hw=>Uj HI h1 hw⟩
    | goto _=>cases h2;exact⟨_,_,_,rfl,fun hw=>Uj HI h1 hw⟩
    | ret=>cases h2;exact⟨_,_,_,rfl,fun hw=>Uj HI h1 hw⟩
    | panic _=>cases h2;exact⟨_,_,_,rfl,fun hw=>Uj HI h1 hw⟩
   ·rename_i c a b;split at h
    ·rename_i t hc;cases t with
     | true=>exact HI (.Xx a n wm pm s) _ h
     | false=>exact HI (.Xx b n wm pm s) _ h
    ·cases h
   ·rename_i id ops d;cases hd:(!d&&ops.toList.any isRecover)<;>rw[hd]at h<;>simp only[Cq1,Cq0]at h
    ·exact Zyo _ h
    ·split at h
     ·rename_i Ku s' hs;cases h;refine⟨_,_,_,rfl,fun hw=>?_⟩
      have fin:∀{o:Oper}{p p':PM}{t t':Fs}{v:N},(match Zhh n t o.dst v with|some s=>some (p,s) | none=>none)=some (p',t')->t'.h=t.h:=by
       intro o p p' t t' v hh;split at hh
       ·rename_i hp;cases hh;exact Zhg hp
       ·cases hh
      have one:∀(o:Oper)(p p':PM)(t t':Fs),dop C.X n wm ops.toList o p t=some (p',t')->wm<=t.h.size->Yr wm t.h t'.h:=by
       intro o p p' t t' h1 hw;unfold dop at h1;dsimp only at h1;cases hok:okG ops.toList o t.fr<;>rw[hok]at h1<;>simp only[GA,QP,Cq1,Cq0]at h1
       ·cases h1
       cases hwt:Y0 ops.toList o t.fr<;>rw[hwt]at h1<;>simp only[Cq1,Cq0]at h1
       ·rw[fin h1];exact Yr.refl _ _
       ·split at h1
        ·split at h1
         ·rename_i nx E ha h2 hE;have k:=Zfk hw hE;split at h1
          ·rw[fin h1];exact k
          ·rw[fin h1];exact k
          ·split at h1
           ·rw[fin h1];exact k
           ·rw[fin h1];exact k
          ·cases h1
         ·cases h1
        ·cases h1
      have all:∀(l:U Oper)(p p':PM)(t t':Fs),Zq5 C.X n wm ops.toList l p t=some (p',t')->wm<=t.h.size->Yr wm t.h t'.h:=by
       intro l
       induction l with
       | nil=>intro p p' t t' h1 hw;cases h1;exact Yr.refl _ _
       | cons o l ihl=>
         intro p p' t t' h1 hw;simp only[Zq5]at h1;split at h1
         ·rename_i p1 t1 h2;exact(one o p p1 t t1 h2 hw).next hw (ihl p1 p' t1 t' h1)
         ·cases h1
      exact all _ _ _ _ _ hs hw
     ·cases h
   ·exact Zyo _ h
def ZEx{C:Cfg}(hd:ZkZ C):∀(n:Nat)(j:Qn)(r:YP),ev C n j=some r->Ja j r:=by
 intro n
 induction n with
 | zero=>intro j r h;cases h
 | succ n ihn=>intro j r h;exact ZAZ hd ihn j r h
end
section
variable{X:Ctx}{ih:Qn->O YP}
structure KE(M:Nat->Prop)(ρ:Ren)(h:H)(w:World)(ρ':Ren)(w':World):Prop where
 ext:ρ.le ρ'
 os:w'.os=w.os
 tape:w'.tape=w.tape
 output:w'.output=w.output
 Y8:w.heap.size<=w'.heap.size
 frame:∀b,b<w.heap.size->(∀i d,M i->ρ i=some (b,d)->(h.at i).own=true->False)->w'.heap[b]? =w.heap[b]?
 Jv:∀i b d,ρ i=none->ρ' i=some (b,d)->h.size<=i/\(w.heap.size<=b\/∃j d',M j/\ρ j=some (b,d')/\(h.at j).own=true)
structure J8(M:Nat->Prop)(h h':H):Prop where
 size:h.size<=h'.size
 keep:∀i,i<h.size->¬ M i->h'.at i=h.at i
 own:∀i,i<h.size->(h'.at i).own=true->(h.at i).own=true
 live:∀i,i<h.size->(h'.at i).live=true->(h.at i).live=true
def Stp.toM{wm:Nat}{ρ ρ':Ren}{h h':H}{w w':V9}(a:Stp wm ρ h w ρ' h' w'):KE (fun i=>wm<=i) ρ h w ρ' w':=
 ⟨a.ext,a.os,a.tape,a.output,a.Y8,a.frame,a.Jv⟩
def KE.weaken{M M':Nat->Prop}{ρ ρ':Ren}{h:H}{w w':V9}(hM:∀i,i<h.size->M i->M' i)(hd:∀i p,ρ i=some p->i<h.size)(a:KE M ρ h w ρ' w'):KE M' ρ h w ρ' w':=
 ⟨a.ext,a.os,a.tape,a.output,a.Y8,fun b hb hno=>a.frame b hb fun i d hi hr=>hno i d (hM i (hd _ _ hr) hi) hr,
  fun i b d e e'=>let⟨x,y⟩:=a.Jv i b d e e';⟨x,y.imp id fun⟨j,d',p,q,r⟩=>⟨j,d',hM j (hd _ _ q) p,q,r⟩⟩⟩
def KE.trans{M:Nat->Prop}{ρ ρ' ZxC:Ren}{h h':H}{w w' w'':V9}(hd:∀i p,ρ i=some p->i<h.size)(hs:h.size<=h'.size)(ho:∀i,i<h.size->(h'.at i).own=true->(h.at i).own=true)
 (a:KE M ρ h w ρ' w') (b:KE M ρ' h' w' ZxC w''):KE M ρ h w ZxC w'' where
 ext:=Ren.le_trans a.ext b.ext
 os:=b.os.trans a.os
 tape:=b.tape.trans a.tape
 output:=b.output.trans a.output
 Y8:=KB a.Y8 b.Y8
 frame k hk hno:=by
  rw[b.frame k (G0 hk a.Y8) ?_,a.frame k hk hno];intro i d hi hr hown;cases e:ρ i with
  | some p=>
    have e':=(a.ext _ _ e).1;rw[hr]at e';cases e';exact hno i d hi e (ho i (hd _ _ e) hown)
  | none=>
    rcases(a.Jv i k d e hr).2 with h1|⟨j,d',h1,h2,h3⟩
    ·omega
    ·exact hno j d' h1 h2 h3
 Jv i k d e e'':=by
  cases e':ρ' i with
  | some p=>
    have e2:=(b.ext _ _ e').1;rw[e'']at e2;cases e2;exact a.Jv i k d e e'
  | none=>
    obtain⟨h1,h2⟩:=b.Jv i k d e' e'';refine⟨KB hs h1,?_⟩;rcases h2 with h2|⟨j,d',j1,j2,j3⟩
    ·exact .inl (KB a.Y8 h2)
    ·cases ej:ρ j with
     | some p=>
       have e2:=(a.ext _ _ ej).1;rw[j2]at e2;cases e2;exact .inr ⟨j,d',j1,ej,ho j (hd _ _ ej) j3⟩
     | none=>exact(a.Jv j k d' ej j2).2
def J8.trans{M:Nat->Prop}{h h1 h2:H}(a:J8 M h h1)(b:J8 M h1 h2):J8 M h h2:=
 ⟨KB a.size b.size,fun i hi hm=>(b.keep i (G0 hi a.size) hm).trans (a.keep i hi hm),
  fun i hi x=>a.own i hi (b.own i (G0 hi a.size) x),fun i hi x=>a.live i hi (b.live i (G0 hi a.size) x)⟩
def Yr.toM{wm:Nat}{h h':H}(a:Yr wm h h'):J8 (fun i=>wm<=i) h h':=⟨a.size,fun i _ hm=>a.keep i Vg,a.own,a.live⟩
def J8.weaken{M M':Nat->Prop}{h h':H}(hM:∀i,i<h.size->M i->M' i)(a:J8 M h h'):J8 M' h h':=⟨a.size,fun i hi hm=>a.keep i hi fun x=>hm (hM i hi x),a.own,a.live⟩
def Eff.tgt:Eff->O Nat
 | .upd i _=>some i
 | .grow i _=>some i
 | _=>Option.none
def Eff.ZK4{wm:Nat}{ρ ρ':Ren}{h h':H}{w w':V9}{E:Eff}(r:Rel ρ h w)(Zt:wm<=h.size)(s:Same w w')(ha:E.apply wm h=some h')(hr:E.real ρ h w ρ' w'):
 KE (fun x=>E.tgt=some x) ρ h w ρ' w'/\J8 (fun x=>E.tgt=some x) h h'/\∀x,E.tgt=some x->wm<=x:=by
 obtain⟨_,st⟩:=Eff.sound r Zt s ha hr;have kh:=Zfk Zt ha;refine⟨⟨st.ext,s.os,s.tape,s.output,st.Y8,fun b hb hno=>?_,fun i b d e e'=>?_⟩,⟨kh.size,fun i hi hm=>?_,kh.own,kh.live⟩,fun x hx=>?_⟩
 ·cases E with
  | none=>obtain⟨rfl,hw⟩:=hr;rw[hw]
  | new A=>obtain⟨l,rfl,⟨o,hw⟩,hA⟩:=hr;exact Zca hw hb
  | upd i A=>
    obtain⟨rfl,b',d,hi,hsz,hk,hA⟩:=hr;refine hk b fun e=>?_
    subst e;simp only[Eff.apply]at ha;cases hc:(Nat.ble wm i&&(h.at i).own)<;>rw[hc]at ha<;>simp at ha
    rw[Ba0]at hc;exact hno i d rfl hi hc.2
  | grow i A=>
    simp only[Eff.apply]at ha;cases hc:(Nat.ble wm i&&(h.at i).own&&A.own)<;>rw[hc]at ha<;>simp at ha
    rw[Ba0,Ba0]at hc;obtain⟨b',d,hi,⟨d',l,rfl,hsz,hk,hA⟩|⟨l,rfl,⟨o,hw⟩,hA⟩⟩:=hr
    ·refine hk b fun e=>?_
     subst e;exact hno i d rfl hi hc.1.2
    ·exact Zca hw hb
 ·refine⟨(st.Jv i b d e e').1,?_⟩;cases E with
  | none=>obtain⟨rfl,hw⟩:=hr;rw[e]at e';cases e'
  | new A=>
    obtain⟨l,rfl,_⟩:=hr;by_cases hii:i=h.size
    ·subst hii;rw[Ren.add_same]at e';cases e';exact .inl Vh
    ·rw[(Ren.Uc hii).1]at e';rw[e]at e';cases e'
  | upd i A=>obtain⟨rfl,_⟩:=hr;rw[e]at e';cases e'
  | grow i0 A=>
    simp only[Eff.apply]at ha;cases hc:(Nat.ble wm i0&&(h.at i0).own&&A.own)<;>rw[hc]at ha<;>simp at ha
    rw[Ba0,Ba0]at hc;obtain⟨b',d',hi,⟨d2,l,rfl,hsz,hk,hA⟩|⟨l,rfl,⟨o,hw⟩,hA⟩⟩:=hr
    ·by_cases hii:i=h.size
     ·subst hii;rw[Ren.add_same]at e';cases e';exact .inr ⟨i0,d',rfl,hi,hc.1.2⟩
     ·rw[(Ren.Uc hii).1]at e';rw[e]at e';cases e'
    ·by_cases hii:i=h.size
     ·subst hii;rw[Ren.add_same]at e';cases e';exact .inl Vh
     ·rw[(Ren.Uc hii).1]at e';rw[e]at e';cases e'
 ·cases E with
  | none=>cases ha;rfl
  | new A=>
    simp only[Eff.apply]at ha;cases hA:A.own<;>rw[hA]at ha<;>simp at ha
    subst ha;rw[H.Qc,if_neg Vg]
  | upd i0 A=>
    simp only[Eff.apply]at ha;cases hc:(Nat.ble wm i0&&(h.at i0).own)<;>rw[hc]at ha<;>simp at ha
    subst ha;rw[H.XM,if_neg fun x=>hm (by rw[x.1];rfl)]
  | grow i0 A=>
    simp only[Eff.apply]at ha;cases hc:(Nat.ble wm i0&&(h.at i0).own&&A.own)<;>rw[hc]at ha<;>simp at ha
    subst ha;rw[H.Qc,H.size_put,if_neg Vg,H.XM,if_neg fun x=>hm (by rw[x.1];rfl)]
 ·cases E with
  | none=>cases hx
  | new A=>cases hx
  | upd i0 A=>
    cases hx;simp only[Eff.apply]at ha;cases hc:(Nat.ble wm x&&(h.at x).own)<;>rw[hc]at ha<;>simp at ha
    rw[Ba0]at hc;exact Nl0 hc.1
  | grow i0 A=>
    cases hx;simp only[Eff.apply]at ha;cases hc:(Nat.ble wm x&&(h.at x).own&&A.own)<;>rw[hc]at ha<;>simp at ha
    rw[Ba0,Ba0]at hc;exact Nl0 hc.1.1
def ZkA(h:H):Nat->Nat->Z
 | 0,_=>true
 | k+1,y=>bif(h.at y).live then false else ZkA h k (y+1)
def Zq9{h:H}:∀{k y:Nat},ZkA h k y=true->∀z,y<=z->z<y+k->(h.at z).live=false:=by
 intro k
 induction k with
 | zero=>intro y _ z h1 h2;omega
 | succ k ih=>
   intro y hd z h1 h2;unfold ZkA at hd;cases e:(h.at y).live<;>rw[e]at hd<;>simp only[Cq1,Cq0]at hd
   ·rcases Nat.eq_or_lt_of_le h1 with q|q
    ·subst q;exact e
    ·exact ih hd z q Vg
   ·cases hd
def ZlW(skip:Z)(wm:Nat)(args:Va N)(h:H):O Nat:=
 bif skip then none else match args.toList with
  | .slice (some a) _ _::_=>bif Nat.ble wm a.block&&Nat.blt a.block h.size&&ZkA h (h.size-(a.block+1)) (a.block+1) then some a.block else none
  | _=>none
def Zjg{skip:Z}{wm:Nat}{args:Va N}{h:H}{x:Nat}(e:ZlW skip wm args h=some x):skip=false/\wm<=x/\x<h.size/\∀z,x<z->z<h.size->(h.at z).live=false:=by
 unfold ZlW at e;cases skip with
 | true=>cases e
 | false=>
   simp only[Cq0]at e;split at e
   ·rename_i a _ _ _ _;cases hc:(Nat.ble wm a.block&&Nat.blt a.block h.size&&ZkA h (h.size-(a.block+1)) (a.block+1))<;>rw[hc]at e<;>simp only[Cq1,Cq0]at e
    ·cases e
    ·cases e;rw[Ba0,Ba0]at hc;exact⟨rfl,Nl0 hc.1.1,by have:=hc.1.2;rwa[G6]at this,fun z h1 h2=>Zq9 hc.2 z h1 Vg⟩
   ·cases e
def KE.ZlN{M M':Nat->Prop}{ρ ρ':Ren}{h:H}{w w':V9}(hM:∀i,i<h.size->M i->(h.at i).own=true->M' i)(hd:∀i p,ρ i=some p->i<h.size)(a:KE M ρ h w ρ' w'):KE M' ρ h w ρ' w':=
 ⟨a.ext,a.os,a.tape,a.output,a.Y8,fun b hb hno=>a.frame b hb fun i d hi hr ho=>hno i d (hM i (hd _ _ hr) hi ho) hr ho,
  fun i b d e e'=>let⟨x,y⟩:=a.Jv i b d e e';⟨x,y.imp id fun⟨j,d',p,q,r⟩=>⟨j,d',hM j (hd _ _ q) p r,q,r⟩⟩⟩
def Yr.ZK2{x:Nat}{h h':H}(a:Yr x h h')(hd:∀z,x<z->z<h.size->(h.at z).live=false):J8 (fun y=>x=y) h h':=by
 refine⟨a.size,fun i hi hm=>?_,a.own,a.live⟩;rcases Gk i x with q|q
 ·exact a.keep i q
 ·have hl:=hd i Vg hi;have h1:=Ur (A:=h.at i) (by rw[hl];simp);rw[h1];exact Ur fun z=>by rw[a.live i hi z]at hl;cases hl
def Jt(X:Ctx)(YX:V8->Z)(ih:Qn->O YP)(n wm:Nat)(wr:O Nat)(free:Z)(ops:U Oper)(o:Oper)(fr:Fr)(h:H):O (O Nat×N×H):=
 bif(match o.dst with|none=>true|some d=>Nat.blt d n&&allowed wr d) then
  bif !okG ops o fr then none else bif Y0 ops o fr then
   match Xm X h (Yo fr) o with
   | some (nx,E)=>match E.apply wm h with
     | some h1=>match nx with
       | .val v=>some (E.tgt,v,h1)
       | .skip=>some (E.tgt,undef,h1)
       | .enter f args=>match ZlW (free||YX f||E.tgt.isSome) wm args h1 with
         | some x=>match ih (.call f args x h1) with
           | some (.fin (.ret v) h2)=>some (some x,v,h2)
           | _=>none
         | none=>match ih (.call f args (bif free && !YX f then wm else h1.size) h1) with
           | some (.fin (.ret v) h2)=>bif YX f&&plain v then some (E.tgt,v,h1) else some (E.tgt,v,h2)
           | _=>none
       | .round l args=>bif free then match ih (.round l args wm h1) with
           | some (.fin (.ret v) h2)=>some (E.tgt,v,h2)
           | _=>none
         else none
       | _=>none
     | none=>none
   | none=>none
  else some (none,undef,h)
 else none
def MOf(free:Z)(wm:Nat)(t:O Nat):Nat->Prop:=fun x=>if free then wm<=x else t=some x
def looks(ops:U Oper)(o:Oper):U Tmp:=
 (match o.guard with
  | some (j,_)=>match ops[j]? with
    | some g=>g.dst.toList
    | none=>[]
  | none=>[])++o.op.operands.toList.filterMap fun | .tmp t=>some t|_=>none
def ZcG{ρ:Ren}{fr:Fr}{a:Act}(ops:Va Oper)(o:Oper)(hf:∀t∈looks ops.toList o,Xt (fr.at t)=false->VR ρ (fr.at t) (a.tmps.getD t undef))(hok:okG ops.toList o fr=true):
 Region.wanted o (yielded ops a.tmps)=Y0 ops.toList o fr:=by
 unfold Region.wanted Y0;cases hg:o.guard with
 | none=>rfl
 | some p=>
   obtain⟨j,want⟩:=p
   have key:yielded ops a.tmps j=Wp ops.toList fr j:=by
    unfold yielded Wp;rw[<-G8];cases ho:ops.toList[j]? with
    | none=>rfl
    | some o'=>
      cases hd:o'.dst with
      | none=>simp[hd]
      | some d=>
        have:=hf d (by unfold looks;rw[hg];simp[ho,hd]) (by
         unfold okG at hok;rw[hg]at hok;simp only[ho,hd,Ba0]at hok
         simpa using hok.1)
        simp only[Bq0,hd];cases ht:a.tmps[d]? with
        | none=>
          rw[Q4,ht]at this;simp only[Option.getD_none]at this;generalize fr.at d=x at this;unfold undef at this;cases this
          rfl
        | some y=>
          rw[Q4,ht]at this;simp only[Option.getD_some]at this;generalize fr.at d=x at this;cases this<;>rfl
   simp only[key];cases Wp ops.toList fr j with
   | none=>rfl
   | some b=>cases want<;>cases b<;>rfl
def ZhO{ρ:Ren}{fr:Fr}{a:Act}(ops:Va Oper)(o:Oper)(hf:∀t∈looks ops.toList o,Xt (fr.at t)=false->VR ρ (fr.at t) (a.tmps.getD t undef)){h:H}{nx:AN}{E:Eff}
 (ha:Xm X h (Yo fr) o=some (nx,E)):∃ev2,EvR ρ ev2 a.eval/\Xm X h ev2 o=some (nx,E):=by
 classical
 refine⟨fun x=>if x∈o.op.operands then Yo fr x else none,fun x v hx=>?_,?_⟩
 ·dsimp only at hx;split at hx
  ·rename_i hm;cases x with
   | tmp t=>
     simp only[Yo]at hx;cases hany:Xt (fr.at t)<;>rw[hany]at hx<;>simp only[Cq1,Cq0]at hx
     ·cases hx;exact hf t (by unfold looks;simp only[Q1,List.mem_filterMap];exact .inr ⟨.tmp t,by simpa using hm,rfl⟩) hany
     ·cases hx
   | const u=>
     simp only[Yo]at hx;cases hp:plain u<;>rw[hp]at hx<;>simp at hx
     subst hx;exact VR.ZC hp
   | func f=>
     simp only[Yo,J1]at hx;subst hx;exact .func (.func f) #[] #[] #[] #[] (fun l e=>by cases e) rfl rfl (fun i v v' e=>by simp at e) (fun i v v' e=>by simp at e)
   | global g=>cases hx
  ·cases hx
 ·rw[<-ha];exact ZmK X h o fun x hx=>by simp[hx]
def Qk(P:V7)(wm:Nat)(rd:O Nat)(ops:Va Oper)(o:Oper)(M:Nat->Prop)(fr:Fr)(h:H)(v:N)(h':H):Prop:=
 ∀(ρ:Ren)(a:Act)(w:V9)(F:Fence)(K:Act->V9->Prop)(Q:Exit->Act->V9->Prop),Rel ρ h w->wm<=h.size->(∀t∈looks ops.toList o,Xt (fr.at t)=false->VR ρ (fr.at t) (a.tmps.getD t undef))->KO ρ rd F ->
   (∀ρ' v' w',VR ρ' v v'->Rel ρ' h' w'->KE M ρ h w ρ' w'->K (a.put o.dst v') w') ->
   if Region.wanted o (yielded ops a.tmps) then o.wpIn F 0 P a w K Q else(∀f,o.about P w a.eval=some f->F.fn f)/\K (a.put o.dst undef) w
def KE.refl(M:Nat->Prop)(ρ:Ren)(h:H)(w:V9):KE M ρ h w ρ w:=
 ⟨Ren.le_refl ρ,rfl,rfl,rfl,K1 _,fun _ _ _=>rfl,fun i b d e e'=>by rw[e]at e';cases e'⟩
def JI{YX:V8->Z}(HI:∀j r,ih j=some r->Yq X j r)(HK:∀j r,ih j=some r->Ja j r){n wm:Nat}{wr rd:O Nat}{free:Z}{ops:Va Oper}{o:Oper}{fr:Fr}{h h':H}{t:O Nat}{v:N}
 (hs:Jt X YX ih n wm wr free ops.toList o fr h=some (t,v,h')):Qk X.P wm rd ops o (MOf free wm t) fr h v h':=by
 intro ρ a w F K Q r Zt hf hF hK;unfold Jt at hs;cases hd:(match o.dst with|none=>true|some d=>Nat.blt d n&&allowed wr d)<;>rw[hd]at hs<;>simp only[Cq1,Cq0]at hs
 ·cases hs
 cases hok:okG ops.toList o fr<;>rw[hok]at hs<;>simp only[GA,QP,Cq1,Cq0]at hs
 ·cases hs
 rw[ZcG ops o hf hok];cases hwt:Y0 ops.toList o fr<;>rw[hwt]at hs<;>simp only[Cq1,Cq0]at hs
 ·cases hs;rw[if_neg (by simp)];exact⟨fun f hab=>(Zab hF f).2 (ZeN (ρ:=ρ) (fun t ho hx=>hf t (Gg _ (by rw[ho];exact List.mem_filterMap.2 ⟨.tmp t,by simp[Op.operands,Call.operands],rfl⟩)) hx) hok hwt hab),hK ρ _ w (VR.undef ρ) r (KE.refl _ _ _ _)⟩
 ·rw[if_pos rfl];split at hs
  ·rename_i nx E ha;split at hs
   ·rename_i h1 hE;obtain⟨ev2,e1,e2⟩:=ZhO ops o hf ha;obtain⟨ρ1,w1,p1,p2,p3⟩:=Za9 r e1 e2;obtain⟨r1,st1⟩:=Eff.sound r Zt p1 hE p2;obtain⟨sm,km,Zzh⟩:=Eff.ZK4 r Zt p1 hE p2;refine⟨fun f hab=>(Zab hF f).2 (ZbE ha p3 hab),?_⟩
    have ZjH:o.semAt F.round a.eval=execOp a.eval o:=by
     cases hrd:rd with
     | none=>rw[hrd]at hF;unfold KO at hF;subst hF;rfl
     | some l=>
       refine Oper.semAt_eq _ _ _ fun c hc=>?_
       obtain⟨d,rfl⟩:=Zhj ha hc;simp at hs
    rw[ZjH];have ZDI:F.depth.isSome=true->1<=0:=fun hh=>by rw[ZaA hF]at hh;cases hh
    have hF1:=hF.mono st1.ext
    have toM:KE (MOf free wm E.tgt) ρ h w ρ1 w1:=by
     refine sm.weaken (fun i _ hi=>?_) r.lt;unfold MOf;split
     ·exact Zzh i hi
     ·exact hi
    generalize hrun:(execOp a.eval o).run X.P w=res at p3;split at hs
    ·rename_i v1;cases hs;obtain⟨v',hv,rfl⟩:=p3;exact hK ρ1 v' w1 hv r1 toM
    ·cases hs;have:res=.ok .skip w1:=p3;subst this;exact hK ρ1 undef w1 (VR.undef ρ1) r1 toM
    ·rename_i f args;obtain⟨args',hva,rfl⟩:=p3;refine⟨ZDI,?_⟩;cases how:ZlW (free||YX f||E.tgt.isSome) wm args h1 with
     | some x=>
       rw[how]at hs;dsimp only at hs;obtain⟨q1,q2,q3,q4⟩:=Zjg how;simp only[JT]at q1;obtain⟨⟨rfl,-⟩,hT⟩:=q1;have hT:E.tgt=none:=by cases e:E.tgt<;>rw[e]at hT<;>simp at hT
       split at hs
       ·rename_i rv h2 hc;cases hs;have hkeep:=JM HK hc (GR q3);refine(QU hF1 (HI _ _ hc ρ1 args' w1 (GR q3) r1 hva)).mono ?_;rintro e' w' ⟨ρ',he,hr,hst⟩;cases he with
        | @ret _ v' hv=>
          have st2:KE (MOf false wm (some x)) ρ1 h1 w1 ρ' w':=hst.toM.ZlN (fun i hi1 hi2 hi3=>by
           unfold MOf;rw[if_neg (by simp)];rcases Nat.eq_or_lt_of_le hi2 with z|z
           ·rw[z]
           ·have:=q4 i z hi1;rw[J4 hi3]at this;cases this) r1.lt
          have ZQa:KE (MOf false wm (some x)) ρ h w ρ1 w1:=sm.weaken (fun i _ hi=>by rw[hT]at hi;cases hi) r.lt;exact hK ρ' v' w' hv hr (ZQa.trans r.lt km.size km.own st2)
       ·cases hs
     | none=>
     rw[how]at hs;dsimp only at hs;split at hs
     ·rename_i rv h2 hc;have Zzz:=HI _ _ hc
      have Zlh:(bif free && !YX f then wm else h1.size)<=h1.size:=by
       cases free<;>cases YX f<;>simp[cond,KB Zt st1.size]
      have hkeep:=JM HK hc Zlh;refine(QU hF1 (Zzz ρ1 args' w1 Zlh r1 hva)).mono ?_;rintro e' w' ⟨ρ',he,hr,hst⟩;cases he with
      | @ret _ v' hv=>
        have tail:v=rv->h'=h2->t=E.tgt->K (a.put o.dst v') w':=by
         rintro rfl rfl rfl
         have st2:KE (MOf free wm E.tgt) ρ1 h1 w1 ρ' w':=by
          refine hst.toM.weaken (fun i hi1 hi2=>?_) r1.lt;unfold MOf;cases free with
          | true=>
            cases hpf:YX f with
            | true=>rw[hpf]at hi2;simp at hi2;omega
            | false=>rw[hpf]at hi2;simpa using hi2
          | false=>simp at hi2;omega
         exact hK ρ' v' w' hv hr (toM.trans r.lt km.size km.own st2)
        cases hpp:(YX f&&plain rv)<;>rw[hpp]at hs<;>simp only[Cq1,Cq0]at hs
        ·cases hs;exact tail rfl rfl rfl
        ·rw[Ba0]at hpp;cases hs;have hpf:=hpp.1;simp only[hpf,QP,Bool.and_false,Cq0]at hst;rw[VR.YS hpp.2 hv];obtain⟨q1,q2⟩:=Za6 r1 hst;have st2:KE (MOf free wm E.tgt) ρ1 h' w1 ρ1 w':=(q2 h'.size).toM.weaken (fun i hi1 hi2=>absurd hi1 Vg) r1.lt;exact hK ρ1 _ w' (VR.ZC hpp.2) q1 (toM.trans r.lt km.size km.own st2)
     ·cases hs
    ·rename_i l args;obtain⟨l',k,args',hl,hw,hv,rfl⟩:=p3;refine⟨ZDI,?_⟩;cases free with
     | false=>cases hs
     | true=>
       simp only[Cq1]at hs;split at hs
       ·rename_i rv h2 hc;cases hs;have Zlh:wm<=h1.size:=KB Zt st1.size;refine(Zcr hF1 (HI _ _ hc ρ1 l' k args' w1 Zlh r1 hv hl hw)).mono ?_;rintro e' w' ⟨ρ',he,hr,hst⟩;cases he with
        | @ret _ v' hv'=>exact hK ρ' v' w' hv' hr (toM.trans r.lt km.size km.own hst.toM)
       ·cases hs
    ·cases hs
   ·cases hs
  ·cases hs
def Xw{YX:V8->Z}(HK:∀j r,ih j=some r->Ja j r){n wm:Nat}{wr:O Nat}{free:Z}{ops:U Oper}{o:Oper}{fr:Fr}{h h':H}{t:O Nat}{v:N}
 (hs:Jt X YX ih n wm wr free ops o fr h=some (t,v,h')) (Zt:wm<=h.size):J8 (MOf free wm t) h h'/\(∀x,MOf free wm t x->wm<=x)/\(∀d,o.dst=some d->d<n/\allowed wr d=true):=by
 unfold Jt at hs;cases hd:(match o.dst with|none=>true|some d=>Nat.blt d n&&allowed wr d)<;>rw[hd]at hs<;>simp only[Cq1,Cq0]at hs
 ·cases hs
 have hdst:∀d,o.dst=some d->d<n/\allowed wr d=true:=fun d e=>by rw[e]at hd;simpa[G6]using hd
 cases hok:okG ops o fr<;>rw[hok]at hs<;>simp only[GA,QP,Cq1,Cq0]at hs
 ·cases hs
 cases hwt:Y0 ops o fr<;>rw[hwt]at hs<;>simp only[Cq1,Cq0]at hs
 ·cases hs;refine⟨⟨K1 _,fun _ _ _=>rfl,fun _ _ x=>x,fun _ _ x=>x⟩,fun x hx=>?_,hdst⟩;unfold MOf at hx;split at hx
  ·exact hx
  ·cases hx
 ·split at hs
  ·rename_i nx E ha;split at hs
   ·rename_i h1 hE;have kh:=Zfk Zt hE
    have Zzh:∀x,E.tgt=some x->wm<=x:=by
     intro x hx;cases E with
     | none=>cases hx
     | new A=>cases hx
     | upd i0 A=>
       cases hx;simp only[Eff.apply]at hE;cases hc:(Nat.ble wm x&&(h.at x).own)<;>rw[hc]at hE<;>simp at hE
       rw[Ba0]at hc;exact Nl0 hc.1
     | grow i0 A=>
       cases hx;simp only[Eff.apply]at hE;cases hc:(Nat.ble wm x&&(h.at x).own&&A.own)<;>rw[hc]at hE<;>simp at hE
       rw[Ba0,Ba0]at hc;exact Nl0 hc.1.1
    have km:J8 (fun x=>E.tgt=some x) h h1:=by
     refine⟨kh.size,fun i hi hm=>?_,kh.own,kh.live⟩;cases E with
     | none=>cases hE;rfl
     | new A=>
       simp only[Eff.apply]at hE;cases hA:A.own<;>rw[hA]at hE<;>simp at hE
       subst hE;rw[H.Qc,if_neg Vg]
     | upd i0 A=>
       simp only[Eff.apply]at hE;cases hc:(Nat.ble wm i0&&(h.at i0).own)<;>rw[hc]at hE<;>simp at hE
       subst hE;rw[H.XM,if_neg fun x=>hm (by rw[x.1];rfl)]
     | grow i0 A=>
       simp only[Eff.apply]at hE;cases hc:(Nat.ble wm i0&&(h.at i0).own&&A.own)<;>rw[hc]at hE<;>simp at hE
       subst hE;rw[H.Qc,H.size_put,if_neg Vg,H.XM,if_neg fun x=>hm (by rw[x.1];rfl)]
    have hM:∀x,MOf free wm E.tgt x->wm<=x:=fun x hx=>by
     unfold MOf at hx;split at hx
     ·exact hx
     ·exact Zzh x hx
    have toM:J8 (MOf free wm E.tgt) h h1:=km.weaken fun i _ hi=>by
     unfold MOf;split
     ·exact Zzh i hi
     ·exact hi
    split at hs
    ·cases hs;exact⟨toM,hM,hdst⟩
    ·cases hs;exact⟨toM,hM,hdst⟩
    ·rename_i f args;cases how:ZlW (free||YX f||E.tgt.isSome) wm args h1 with
     | some x=>
       rw[how]at hs;dsimp only at hs;obtain⟨q1,q2,q3,q4⟩:=Zjg how;simp only[JT]at q1;obtain⟨⟨rfl,-⟩,hT⟩:=q1;have hT:E.tgt=none:=by cases e:E.tgt<;>rw[e]at hT<;>simp at hT
       split at hs
       ·rename_i rv h2 hc;cases hs;have hk2:=(JM HK hc (GR q3)).ZK2 q4
        have hx:∀y,MOf false wm (some x) y->y=x:=fun y hy=>by
         unfold MOf at hy;rw[if_neg (by simp)]at hy;exact(Oi0 hy).symm
        refine⟨(km.weaken fun i _ hi=>by rw[hT]at hi;cases hi).trans (hk2.weaken fun i _ hi=>?_),fun y hy=>by rw[hx y hy];exact q2,hdst⟩;subst hi;unfold MOf;rw[if_neg (by simp)]
       ·cases hs
     | none=>
     rw[how]at hs;dsimp only at hs;split at hs
     ·rename_i rv h2 hc
      have Zlh:(bif free && !YX f then wm else h1.size)<=h1.size:=by
       cases free<;>cases YX f<;>simp[cond,KB Zt kh.size]
      have hkeep:=JM HK hc Zlh;cases hpp:(YX f&&plain rv)<;>rw[hpp]at hs<;>simp only[Cq1,Cq0]at hs
      ·cases hs;refine⟨toM.trans (hkeep.toM.weaken fun i hi1 hi2=>?_),hM,hdst⟩;unfold MOf;cases free with
       | true=>
         cases hpf:YX f with
         | true=>rw[hpf]at hi2;simp at hi2;omega
         | false=>rw[hpf]at hi2;simpa using hi2
       | false=>simp at hi2;omega
      ·cases hs;exact⟨toM,hM,hdst⟩
     ·cases hs
    ·cases free with
     | false=>cases hs
     | true=>
       simp only[Cq1]at hs;split at hs
       ·rename_i rv h2 hc;cases hs;exact⟨toM.trans (Zel HK hc (KB Zt kh.size)).toM,hM,hdst⟩
       ·cases hs
    ·cases hs
   ·cases hs
  ·cases hs
def Zvh{YX:V8->Z}{n wm:Nat}{wr:O Nat}{free:Z}{ops:U Oper}{o:Oper}{fr:Fr}{h h':H}{t:O Nat}{v:N}
 (hs:Jt X YX ih n wm wr free ops o fr h=some (t,v,h')):∀d,o.dst=some d->allowed wr d=true:=by
 intro d e;unfold Jt at hs;cases hd:(match o.dst with|none=>true|some d=>Nat.blt d n&&allowed wr d)<;>rw[hd]at hs<;>simp only[Cq1,Cq0]at hs
 ·cases hs
 ·rw[e]at hd;rw[Ba0]at hd;exact hd.2
end
section
section
variable{α:Type}(base:α)(val:Nat->α)(S:Nat->Prop)(tc:Nat->Prop)
open Classical in
def last:Nat ->α
 | 0=>base
 | k + 1=>if S k∧tc k then val k else last k
def Zdl{m:Nat}(h:∀k,k<m->tc k->¬ S k):last base val S tc m=base:=by
 induction m with
 | zero=>rfl
 | succ m ih=>rw[last,if_neg (fun x=>h m Vg x.2 x.1)];exact ih fun k hk=>h k Vg
def ZaZ{m:Nat}(g:Nat->α)(h0:g 0=base)(h1:∀k,k<m->tc k->g (k+1)=val k)(h2:∀k,k<m->¬ tc k->g (k+1)=g k){i:Nat}(hi:i<=m)(h:∀k,k<m->tc k->(S k↔k<i)):
 last base val S tc m=g i:=by
 induction m generalizing i with
 | zero=>
   have:i=0:=Vg
   subst this;exact h0.symm
 | succ m ih=>
   rw[last];by_cases hx:S m/\tc m
   ·rw[if_pos hx];have:=(h m Vg hx.2).1 hx.1;have e:i=m+1:=Vg
    rw[e,h1 m Vg hx.2]
   ·rw[if_neg hx];by_cases him:i=m+1
    ·subst him;have hn:¬ tc m:=fun x=>hx ⟨(h m Vg x).2 Vg,x⟩
     rw[h2 m Vg hn];exact ih (fun k hk=>h1 k Vg) (fun k hk=>h2 k Vg) (K1 m) fun k hk ht=>⟨fun _=>hk,fun _=>(h k Vg ht).2 Vg⟩
    ·exact ih (fun k hk=>h1 k Vg) (fun k hk=>h2 k Vg) Vg fun k hk ht=>h k Vg ht
variable{base val S tc} in
theorem QB {m i:Nat} {S':Nat->Prop} (hS:∀k,S' k↔S k\/k=i) (hi:¬ tc i):last base val S' tc m=last base val S tc m:=by
 induction m with
 | zero=>rfl
 | succ m ih=>
   rw[last,last,ih];by_cases hm:m=i
   ·subst hm;rw[if_neg (fun x=>hi x.2),if_neg (fun x=>hi x.2)]
   ·by_cases hx:S m/\tc m
    ·rw[if_pos hx,if_pos ⟨(hS m).2 (.inl hx.1),hx.2⟩]
    ·rw[if_neg hx,if_neg fun x=>hx ⟨((hS m).1 x.1).resolve_right hm,x.2⟩]
variable{base val S tc} in
theorem ZaY {m i:Nat} {S':Nat->Prop} (hS:∀k,S' k↔S k\/k=i) (him:i<m) (hi:tc i) (hl:∀k,i<k->k<m->tc k->¬ S k):last base val S' tc m=val i:=by
 induction m with
 | zero=>omega
 | succ m ih=>
   rw[last];by_cases hm:m=i
   ·subst hm;rw[if_pos ⟨(hS m).2 (.inr rfl),hi⟩]
   ·rw[if_neg,ih Vg fun k h1 h2=>hl k h1 Vg];rintro⟨h1,h2⟩;exact hl m Vg Vg h2 (((hS m).1 h1).resolve_right hm)
theorem Zuy{m:Nat}(n:Nat->Nat)(hn:∀j k,j<=k->k<=m->n j<=n k){i:Nat}(hi:i<=m)(h:∀k,k<m->S k->tc k->k<i):last (n 0) (fun k=>n (k+1)) S tc m<=n i:=by
 have:∀j,j<=m->last (n 0) (fun k=>n (k+1)) S tc j<=n i:=by
  intro j
  induction j with
  | zero=>intro _;exact hn 0 i Vg hi
  | succ j ih=>
    intro hj;rw[last];by_cases hx:S j/\tc j
    ·rw[if_pos hx];have:=h j Vg hx.1 hx.2;exact hn (j+1) i Vg hi
    ·rw[if_neg hx];exact ih Vg
 exact this m (K1 m)
end
def Ren.cut(ρ:Ren)(c:Nat):Ren:=⟨fun x=>if x<c then ρ x else none,ρ.lim⟩
def Ren.YT{ρ:Ren}{c x:Nat}{p:Nat×Nat}:(ρ.cut c) x=some p↔x<c/\ρ x=some p:=by
 unfold Ren.cut;by_cases h:x<c
 ·simp[h]
 ·simp[h]
def Ren.Zf2{ρ:Ren}{c c':Nat}(h:c<=c'):(ρ.cut c).le (ρ.cut c'):=fun x p e=>by
 rw[Ren.YT]at e;exact⟨Ren.YT.2 ⟨by omega,e.2⟩,rfl⟩
def Ren.Ztg{ρ ρ':Ren}(h:ρ.le ρ')(c:Nat):(ρ.cut c).le (ρ'.cut c):=fun x p e=>by
 rw[Ren.YT]at e;obtain⟨h1,h2⟩:=h _ _ e.2;exact⟨Ren.YT.2 ⟨e.1,h1⟩,h2⟩
def Ren.ZHz{ρ:Ren}{c:Nat}(h:∀x p,ρ x=some p->x<c):ρ.le (ρ.cut c):=fun _ _ e=>⟨Ren.YT.2 ⟨h _ _ e,e⟩,rfl⟩
def Ren.ZkB{ρ:Ren}{c:Nat}:(ρ.cut c).le ρ:=fun _ _ e=>⟨(Ren.YT.1 e).2,rfl⟩
def mask(X:U Nat)(h:H):H:=X.foldl (fun g x=>g.put x .dead) h
def X6(X:U Nat)(h h':H):H:=X.foldl (fun g x=>bif Nat.blt x h.size then g.put x (h.at x) else g) h'
def Zp(X:U Nat)(h:H):(mask X h).size=h.size:=by
 unfold mask
 induction X generalizing h with
 | nil=>rfl
 | cons y X ih=>rw[Gq,ih,H.size_put]
def Xp(X:U Nat)(h:H)(x:Nat):(mask X h).at x=if x∈X then .dead else h.at x:=by
 unfold mask
 induction X generalizing h with
 | nil=>simp
 | cons y X ih=>
   rw[Gq,ih];by_cases hx:x∈X
   ·simp[hx]
   ·rw[if_neg hx,H.XM];by_cases hy:x=y
    ·subst hy;by_cases hl:x<h.size
     ·simp[hl]
     ·simp[hl,H.Za8 (Nat.le_of_not_lt hl)]
    ·simp[hx,hy]
def YR(X:U Nat)(h h':H):(X6 X h h').size=h'.size:=by
 unfold X6
 induction X generalizing h' with
 | nil=>rfl
 | cons y X ih=>rw[Gq,ih];cases Nat.blt y h.size<;>rfl
def XZ(X:U Nat)(h h':H)(hs:h.size<=h'.size)(x:Nat):(X6 X h h').at x=if x∈X/\x<h.size then h.at x else h'.at x:=by
 unfold X6
 induction X generalizing h' with
 | nil=>simp
 | cons y X ih=>
   rw[Gq];cases hb:Nat.blt y h.size with
   | true=>
     rw[G6]at hb;rw[Cq1,ih _ (by rw[H.size_put];exact hs)];by_cases hx:x∈X/\x<h.size
     ·rw[if_pos hx,if_pos ⟨Kf _ hx.1,hx.2⟩]
     ·rw[if_neg hx,H.XM];by_cases hy:x=y
      ·subst hy;rw[if_pos ⟨rfl,by omega⟩,if_pos ⟨by simp,hb⟩]
      ·rw[if_neg fun z=>hy z.1,if_neg];rintro⟨z1,z2⟩;rcases Kd.1 z1 with z|z
       ·exact hy z
       ·exact hx ⟨z,z2⟩
   | false=>
     rw[Cq0,ih _ hs];have hy:¬ y<h.size:=fun z=>by rw[<-G6]at z;rw[z]at hb;cases hb
     by_cases hx:x∈X/\x<h.size
     ·rw[if_pos hx,if_pos ⟨Kf _ hx.1,hx.2⟩]
     ·rw[if_neg hx,if_neg];rintro⟨z1,z2⟩;rcases Kd.1 z1 with z|z
      ·subst z;exact hy z2
      ·exact hx ⟨z,z2⟩
def Zbh(fr:Fr)(d:O Tmp)(v:N)(t:Nat):(QI fr d v).at t=if d=some t then v else fr.at t:=by
 cases d with
 | none=>simp[QI]
 | some d=>
   by_cases h:t=d
   ·subst h;simp[QI,Fr.at,Tr.XE]
   ·have h':¬ d=t:=fun e=>h e.symm
    simp[QI,Fr.at,Tr.XE,h,h']
structure Data(P:Program)(nn wm:Nat)(rd:Option Nat)(ops:Array Oper) where
 hs:Nat->H
 fs:Nat->Fr
 vs:Nat->Value
 mo:Nat->Nat->Prop
 Xs:Nat->List Nat
 soft:Nat->Option (Nat×Nat)
 hl:Nat->Bool
 Pb:Nat->Nat->Prop
 ZlS:wm<=(hs 0).size
 step:∀(k:Nat)(o:Oper),ops[k]? =some o->∃h1,Qk P wm rd ops o (mo k) (fs k) (mask (Xs k) (hs k)) (vs k) h1/\J8 (mo k) (mask (Xs k) (hs k)) h1/\
  hs (k+1)=X6 (Xs k) (hs k) h1/\fs (k+1)=QI (fs k) o.dst (vs k)
 wmM:∀k x,k<ops.size->mo k x->wm<=x
 dst:∀(k:Nat)(o:Oper)(d:Tmp),ops[k]? =some o->o.dst=some d->d<nn
 Zdb:∀(j k:Nat),Pb j k->∃(o:Oper) (e:Edge),ops[j]? =some o/\e∈o.after/\Region.binds .any e=true/\(k=e.on\/Pb e.on k)
 Zmz:∀(j:Nat)(o:Oper)(e:Edge),ops[j]? =some o->e∈o.after->Region.binds .any e=true->e.on<j
 inc:∀i j,i<ops.size->j<ops.size->i≠j->¬ Pb i j->¬ Pb j i->hl i=false->∀x,mo j x->x<(hs j).size->(x<(hs i).size/\(x∈Xs i\/soft i=some (x,j)))\/(hs (i+1)).size<=x
 ZDE:∀(i:Nat)(o:Oper),ops[i]? =some o->hl i=true->(∀y,¬ mo i y)/\(hs (i+1)).size=(hs i).size/\∀g:H,Qk P wm rd ops o (fun _=>False) (fs i) g (vs i) g
 Zne:∀(i:Nat)(o:Oper)(x j:Nat),ops[i]? =some o->soft i=some (x,j)->i<j/\j<ops.size/\x<(hs i).size/\(∀y,¬ mo i y)/\(hs (i+1)).size=(hs i).size/\
  (∀(ρ ρ':Ren)(w:World)(b d:Nat)(l:Nat×Nat),Qd ρ w b d l ((hs i).at x)->Qd ρ' w b d l ((hs i).at x))/\
  (∀(ρ ρ':Ren)(w:World)(b d:Nat)(l:Nat×Nat),Qd ρ w b d l ((hs (j+1)).at x)->Qd ρ' w b d l ((hs (j+1)).at x))/\
  Qk P wm rd ops o (fun _=>False) (fs i) (mask (Xs i) (hs i)) (vs i) (mask (Xs i) (hs i))/\
  Qk P wm rd ops o (fun _=>False) (fs i) ((mask (Xs i) (hs i)).put x ((hs (j+1)).at x)) (vs i) ((mask (Xs i) (hs i)).put x ((hs (j+1)).at x))
 MX:∀i x,i<ops.size->mo i x->x<(hs i).size->x∉Xs i
 looks:∀(i:Nat)(o:Oper)(t:Tmp),ops[i]? =some o->t∈ZF.looks ops.toList o->∀(k:Nat)(o':Oper),ops[k]? =some o'->o'.dst=some t->k=i\/Pb i k\/Pb k i
 ZA2:∀(i j:Nat)(o o':Oper)(t:Tmp),ops[i]? =some o->ops[j]? =some o'->o.dst=some t->o'.dst=some t->i=j
namespace Data
variable{P:V7}{nn wm:Nat}{rd:O Nat}{ops:Va Oper}(D:Data P nn wm rd ops)
def n(k:Nat):Nat:=(D.hs k).size
def M(k x:Nat):Prop:=D.mo k x/\x<D.n k
def tch(k x:Nat):Prop:=D.M k x\/(D.n k<=x/\x<D.n (k+1))
def U7(k:Nat):O Tmp:=(ops[k]?).bind (·.dst)
def hv(S:Nat->Prop)(x:Nat):YD:=last ((D.hs 0).at x) (fun k=>(D.hs (k+1)).at x) S (fun k=>D.tch k x) ops.size
def cv(S:Nat->Prop)(x:Nat):Nat:=last (D.n 0) (fun k=>D.n (k+1)) S (fun k=>D.tch k x) ops.size
def tv(S:Nat->Prop)(t:Nat):N:=last ((D.fs 0).at t) D.vs S (fun k=>U7 (ops:=ops) k=some t) ops.size
def tt(S:Nat->Prop)(t:Nat):Nat:=last (D.n 0) (fun k=>D.n (k+1)) S (fun k=>U7 (ops:=ops) k=some t) ops.size
def get{k:Nat}(h:k<ops.size):∃o,ops[k]? =some o:=⟨ops[k],by simp[h]⟩
def ZnA{k:Nat}(h:k<ops.size):D.n k<=D.n (k+1):=by
 obtain⟨o,ho⟩:=get h;obtain⟨h1,_,km,e,_⟩:=D.step k o ho;unfold n;rw[e,YR];have:=km.size
 rwa[Zp]at this
def Qq:∀j k,j<=k->k<=ops.size->D.n j<=D.n k:=by
 intro j k hjk
 induction hjk with
 | refl=>intro _;exact K1 _
 | step h ih=>intro hk;exact KB (ih Vg) (D.ZnA Vg)
def keep{k x:Nat}(hk:k<ops.size)(h:¬ D.tch k x):(D.hs (k+1)).at x=(D.hs k).at x:=by
 obtain⟨o,ho⟩:=get hk;obtain⟨h1,_,km,e,_⟩:=D.step k o ho;have hsz:=km.size;rw[Zp]at hsz;have hn:D.n (k+1)=h1.size:=by unfold n;rw[e,YR]
 by_cases hx:x<(D.hs k).size
 ·rw[e,XZ _ _ _ hsz];by_cases hX:x∈D.Xs k
  ·rw[if_pos ⟨hX,hx⟩]
  ·rw[if_neg fun z=>hX z.1,km.keep x (by rw[Zp];exact hx) (fun z=>h (.inl ⟨z,hx⟩)),Xp,if_neg hX]
 ·have:¬ x<D.n (k+1):=fun z=>h (.inr ⟨Nat.le_of_not_lt hx,z⟩)
  rw[H.Za8 (Nat.le_of_not_lt hx),H.Za8 (Nat.le_of_not_lt this)]
def own{k x:Nat}(hk:k<ops.size)(hx:x<D.n k)(h:((D.hs (k+1)).at x).own=true):((D.hs k).at x).own=true:=by
 obtain⟨o,ho⟩:=get hk;obtain⟨h1,_,km,e,_⟩:=D.step k o ho;have hsz:=km.size;rw[Zp]at hsz;rw[e,XZ _ _ _ hsz]at h;by_cases hX:x∈D.Xs k/\x<(D.hs k).size
 ·rwa[if_pos hX]at h
 ·rw[if_neg hX]at h;have:=km.own x (by rw[Zp];exact hx) h;rw[Xp]at this;split at this
  ·cases this
  ·exact this
def live{k x:Nat}(hk:k<ops.size)(hx:x<D.n k)(h:((D.hs (k+1)).at x).live=true):((D.hs k).at x).live=true:=by
 obtain⟨o,ho⟩:=get hk;obtain⟨h1,_,km,e,_⟩:=D.step k o ho;have hsz:=km.size;rw[Zp]at hsz;rw[e,XZ _ _ _ hsz]at h;by_cases hX:x∈D.Xs k/\x<(D.hs k).size
 ·rwa[if_pos hX]at h
 ·rw[if_neg hX]at h;have:=km.live x (by rw[Zp];exact hx) h;rw[Xp]at this;split at this
  ·cases this
  ·exact this
def ZLp{x:Nat}(hx:x<D.n 0):∀k,k<=ops.size->((D.hs k).at x).own=true->((D.hs 0).at x).own=true:=by
 intro k
 induction k with
 | zero=>intro _ h;exact h
 | succ k ih=>intro hk h;exact ih Vg (D.own Vg (G0 hx (D.Qq 0 k Vg Vg)) h)
def ZLu{x:Nat}(hx:x<D.n 0):∀k,k<=ops.size->((D.hs k).at x).live=true->((D.hs 0).at x).live=true:=by
 intro k
 induction k with
 | zero=>intro _ h;exact h
 | succ k ih=>intro hk h;exact ih Vg (D.live Vg (G0 hx (D.Qq 0 k Vg Vg)) h)
def ZLX(S:Nat->Prop)(x:Nat):∃k,k<=ops.size/\D.hv S x=(D.hs k).at x:=by
 unfold hv
 have:∀m,m<=ops.size->∃k,k<=ops.size/\last ((D.hs 0).at x) (fun k=>(D.hs (k+1)).at x) S (fun k=>D.tch k x) m=(D.hs k).at x:=by
  intro m
  induction m with
  | zero=>intro _;exact⟨0,by omega,rfl⟩
  | succ m ih=>
    intro hm;rw[last];by_cases h:S m/\D.tch m x
    ·rw[if_pos h];exact⟨m+1,hm,rfl⟩
    ·rw[if_neg h];exact ih Vg
 exact this _ Vh
def ZDk{S:Nat->Prop}{x:Nat}(hx:x<D.n 0)(h:(D.hv S x).own=true):((D.hs 0).at x).own=true:=by
 obtain⟨k,hk,e⟩:=D.ZLX S x;rw[e]at h;exact D.ZLp hx k hk h
def Closed(ops:Va Oper)(S:Nat->Prop):Prop:=∀j o e,S j->ops[j]? =some o->e∈o.after->Region.binds .any e=true->S e.on
def ZFz:∀j k,D.Pb j k->k<j:=by
 intro j
 induction j using Nat.strongRecOn with
 | ind j ih=>
   intro k h;obtain⟨o,e,ho,he,hb,hk⟩:=D.Zdb j k h;have:=D.Zmz j o e ho he hb;rcases hk with rfl|hk
   ·exact this
   ·have:=ih e.on this k hk;omega
def ZmB{S:Nat->Prop}(hc:Closed ops S):∀j k,S j->D.Pb j k->S k:=by
 intro j
 induction j using Nat.strongRecOn with
 | ind j ih=>
   intro k hj h;obtain⟨o,e,ho,he,hb,hk⟩:=D.Zdb j k h;have h1:=hc j o e hj ho he hb;rcases hk with rfl|hk
   ·exact h1
   ·exact ih e.on (D.Zmz j o e ho he hb) k h1 hk
def Zf4{S:Nat->Prop}(hc:Closed ops S){i:Nat}{o:Oper}(ho:ops[i]? =some o)(hi:¬ S i)(hr:∀e∈o.after,Region.binds .any e=true->S e.on){k:Nat}(h:D.Pb i k\/D.Pb k i):S k↔k<i:=by
 rcases h with h|h
 ·refine⟨fun _=>D.ZFz _ _ h,fun _=>?_⟩;obtain⟨o',e,ho',he,hb,hk⟩:=D.Zdb i k h;rw[ho]at ho';cases ho';rcases hk with rfl|hk
  ·exact hr e he hb
  ·exact D.ZmB hc e.on k (hr e he hb) hk
 ·refine⟨fun hs=>absurd (D.ZmB hc k i hs h) hi,fun hl=>?_⟩;have:=D.ZFz _ _ h;omega
structure J'(S:Nat->Prop)(ds:List Deferred)(ρ0:Ren)(w0:World)(ρ:Ren)(a:Act)(w:World):Prop where
 dom:∀x b d,ρ x=some (b,d)->b<w.heap.size/\(x<D.n 0\/∃k,k<ops.size/\S k/\D.n k<=x/\x<D.n (k+1))
 obj:∀x b d,ρ x=some (b,d)->Qd (ρ.cut (D.cv S x)) w b d (ρ.lim x) (D.hv S x)
 tsz:a.tmps.size=nn
 tmp:∀t,Xt (D.tv S t)=false->VR (ρ.cut (D.tt S t)) (D.tv S t) (a.tmps.getD t undef)
 ds:DsR (ρ.cut (D.n 0)) ds a.defers
 inj:∀x y b d d',ρ x=some (b,d)->ρ y=some (b,d')->(D.hv S x).own=true->(D.hv S y).live=true->x=y
 ext:ρ0.le ρ
 Zq6:∀x p,ρ0 x=some p->x<D.n 0
 os:w.os=w0.os
 tape:w.tape=w0.tape
 output:w.output=w0.output
 Y8:w0.heap.size<=w.heap.size
 frame:∀b,b<w0.heap.size->(∀i d,wm<=i->ρ0 i=some (b,d)->((D.hs 0).at i).own=true->False)->w.heap[b]? =w0.heap[b]?
 Jv:∀i b d,ρ0 i=none->ρ i=some (b,d)->D.n 0<=i/\(w0.heap.size<=b\/∃j d',wm<=j/\ρ0 j=some (b,d')/\((D.hs 0).at j).own=true)
variable{D}
def J'.ZbA{S:Nat->Prop}{ds:List Deferred}{ρ0 ρ:Ren}{w0 w:World}{a:Act}(j:D.J' S ds ρ0 w0 ρ a w)(hc:Closed ops S){i:Nat}{o:Oper}(ho:ops[i]? =some o)(hi:¬ S i)
 (hr:∀e∈o.after,Region.binds .any e=true->S e.on) {x b d:Nat} (hx:ρ x=some (b,d)) (hxn:x<D.n i) (hX:x∉D.Xs i) (hhl:D.hl i=false) (hsf:∀j,D.soft i≠some (x,j)):D.hv S x=(D.hs i).at x/\D.cv S x<=D.n i:=by
 have him:i<ops.size:=(Array.getElem?_eq_some_iff.1 ho).1
 have key:∀k,k<ops.size->D.tch k x->(S k↔k<i):=by
  intro k hk ht;rcases ht with ht|⟨h1,h2⟩
  ·by_cases hki:k=i
   ·subst hki;exact⟨fun z=>absurd z hi,fun z=>by omega⟩
   ·by_cases hcmp:D.Pb i k\/D.Pb k i
    ·exact D.Zf4 hc ho hi hr hcmp
    ·rcases D.inc i k him hk (Ne.symm hki) (fun z=>hcmp (.inl z)) (fun z=>hcmp (.inr z)) hhl x ht.1 ht.2 with z|z
     ·rcases z.2 with z|z
      ·exact absurd z hX
      ·exact absurd z (hsf k)
     ·have:=D.ZnA him;unfold n at this hxn;omega
  ·have hki:k<i:=by
    rcases Nat.lt_or_ge k i with z|z
    ·exact z
    ·have:=D.Qq i k z (by omega);omega
   refine⟨fun _=>hki,fun _=>?_⟩;rcases(j.dom x b d hx).2 with z|⟨k',q1,q2,q3,q4⟩
   ·have:=D.Qq 0 k (by omega) (by omega);omega
   ·have:k'=k:=by
     rcases Nat.lt_trichotomy k' k with z|z|z
     ·have:=D.Qq (k'+1) k (by omega) (by omega);omega
     ·exact z
     ·have:=D.Qq (k+1) k' (by omega) (by omega);omega
    subst this;exact q2
 refine⟨?_,?_⟩
 ·unfold hv;exact ZaZ _ _ _ _ (fun k=>(D.hs k).at x) rfl (fun k _ _=>rfl) (fun k hk ht=>D.keep hk ht) (Nat.le_of_lt him) key
 ·unfold cv;exact Zuy _ _ _ D.Qq (Nat.le_of_lt him) fun k hk hs ht=>(key k hk ht).1 hs
def J'.Zpa{S:Nat->Prop}(hc:Closed ops S){i:Nat}{o:Oper}(ho:ops[i]? =some o)(hi:¬ S i)
 (hr:∀e∈o.after,Region.binds .any e=true->S e.on) {t:Nat} (ht:t∈ZF.looks ops.toList o):D.tv S t=(D.fs i).at t/\D.tt S t<=D.n i:=by
 have him:i<ops.size:=(Array.getElem?_eq_some_iff.1 ho).1
 have key:∀k,k<ops.size->U7 (ops:=ops) k=some t->(S k↔k<i):=by
  intro k hk hd;obtain⟨o',ho'⟩:=get hk;have hd':o'.dst=some t:=by unfold U7 at hd;rw[ho']at hd;exact hd
  rcases D.looks i o t ho ht k o' ho' hd' with h|h
  ·subst h;exact⟨fun z=>absurd z hi,fun z=>by omega⟩
  ·exact D.Zf4 hc ho hi hr h
 have hfs:∀k,k<ops.size->(D.fs (k+1)).at t=if U7 (ops:=ops) k=some t then D.vs k else(D.fs k).at t:=by
  intro k hk;obtain⟨o',ho'⟩:=get hk;obtain⟨h1,_,_,_,e⟩:=D.step k o' ho';rw[e,Zbh];unfold U7;rw[ho']
  rfl
 refine⟨?_,?_⟩
 ·unfold tv;exact ZaZ _ _ _ _ (fun k=>(D.fs k).at t) rfl (fun k hk hd=>by rw[hfs k hk,if_pos hd]) (fun k hk hd=>by rw[hfs k hk,if_neg hd]) (Nat.le_of_lt him) key
 ·unfold tt;exact Zuy _ _ _ D.Qq (Nat.le_of_lt him) fun k hk hs hd=>(key k hk hd).1 hs
end Data
end
section
namespace Data
variable{P:V7}{nn wm:Nat}{rd:O Nat}{ops:Va Oper}{D:Data P nn wm rd ops}
def J'.step{S:Nat->Prop}{ds:List Deferred}{ρ0 ρ:Ren}{w0 w:World}{a:Act}(j:D.J' S ds ρ0 w0 ρ a w)(hc:Closed ops S){i:Nat}{o:Oper}(ho:ops[i]? =some o)(hi:¬ S i)(hhl:D.hl i=false)(ZuF:D.soft i=none)
 (hr:∀e∈o.after,Region.binds .any e=true->S e.on) {F:Fence} (hF:KO ρ0 rd F) {S':Nat->Prop} (hS:∀k,S' k↔S k\/k=i) {K:Act->World->Prop} {Q:Exit->Act->World->Prop}
 (hK:∀ρ' a' w',D.J' S' ds ρ0 w0 ρ' a' w'->K a' w'):
 if Region.wanted o (yielded ops a.tmps) then o.wpIn F 0 P a w K Q else(∀f,o.about P w a.eval=some f->F.fn f)/\K (a.put o.dst undef) w:=by
 have him:i<ops.size:=(Array.getElem?_eq_some_iff.1 ho).1;have hsf:∀{x:Nat}(j:Nat),D.soft i≠some (x,j):=fun j z=>by rw[ZuF]at z;cases z
 obtain⟨h1,hstep,km,eh,ef⟩:=D.step i o ho;have hsz:=km.size;rw[Zp]at hsz;have hn1:D.n (i+1)=h1.size:=by unfold n;rw[eh,YR]
 have hni:D.n i=(D.hs i).size:=rfl;have h0i:=D.Qq 0 i (by omega) (by omega);have hii:=D.ZnA him
 have r1:Rel (ρ.cut (D.n i)) (mask (D.Xs i) (D.hs i)) w:=by
  refine⟨fun x b d e=>?_,fun x b d e=>?_,fun x y b d d' e e' ho hl=>?_⟩
  ·rw[Ren.YT]at e;rw[Zp];exact⟨e.1,(j.dom x b d e.2).1⟩
  ·rw[Ren.YT]at e;rw[Xp];by_cases hX:x∈D.Xs i
   ·rw[if_pos hX];trivial
   ·rw[if_neg hX];obtain⟨q1,q2⟩:=j.ZbA hc ho hi hr e.2 e.1 hX hhl hsf;rw[<-q1];exact(j.obj x b d e.2).mono (Ren.Zf2 q2)
  ·rw[Ren.YT]at e e';rw[Xp]at ho hl;by_cases hX:x∈D.Xs i
   ·rw[if_pos hX]at ho;cases ho
   ·by_cases hY:y∈D.Xs i
    ·rw[if_pos hY]at hl;cases hl
    ·rw[if_neg hX]at ho;rw[if_neg hY]at hl;rw[<-(j.ZbA hc ‹_› hi hr e.2 e.1 hX hhl hsf).1]at ho;rw[<-(j.ZbA hc ‹_› hi hr e'.2 e'.1 hY hhl hsf).1]at hl;exact j.inj x y b d d' e.2 e'.2 ho hl
 have hF1:KO (ρ.cut (D.n i)) rd F:=by
  refine hF.mono fun x p e=>?_
  obtain⟨e1,e2⟩:=j.ext x p e;exact⟨Ren.YT.2 ⟨by have:=j.Zq6 x p e;omega,e1⟩,e2⟩
 refine hstep (ρ.cut (D.n i)) a w F K Q r1 (by rw[Zp];have:=D.ZlS;have e:D.n 0=(D.hs 0).size:=rfl;omega) (fun t ht hany=>?_) hF1 ?_
 ·obtain⟨q1,q2⟩:=J'.Zpa (D:=D) hc ho hi hr ht;rw[<-q1]at hany ⊢;exact(j.tmp t hany).mono (Ren.Zf2 q2)
 intro ρ2 v' w' hv r2 st0;have st:KE (D.M i) (ρ.cut (D.n i)) (mask (D.Xs i) (D.hs i)) w ρ2 w':=st0.weaken (fun x hx hm=>⟨hm,by rw[Zp]at hx;exact hx⟩) r1.lt
 have hfree:∀x,D.n i<=x->x<D.n (i+1)->ρ x=none:=by
  intro x h1 h2;cases e:ρ x with
  | none=>rfl
  | some p=>
    rcases(j.dom x p.1 p.2 e).2 with z|⟨k,q1,q2,q3,q4⟩
    ·omega
    ·exfalso;rcases Nat.lt_trichotomy k i with z|z|z
     ·have:=D.Qq (k+1) i (by omega) (by omega);omega
     ·subst z;exact hi q2
     ·have:=D.Qq (i+1) k (by omega) (by omega);omega
 have Zp6:(mask (D.Xs i) (D.hs i)).size=D.n i:=Zp _ _
 have ZLq:∀x b d,x<D.n i->ρ2 x=some (b,d)->ρ x=some (b,d):=by
  intro x b d hx e;cases e1:(ρ.cut (D.n i)) x with
  | none=>have:=(st.Jv x b d e1 e).1;omega
  | some p=>
    have:=(st.ext x p e1).1;rw[e]at this;cases this;exact(Ren.YT.1 e1).2
 let ρ':Ren:=⟨fun x=>if D.n i<=x/\x<D.n (i+1) then ρ2 x else ρ x,fun x=>if D.n i<=x/\x<D.n (i+1) then ρ2.lim x else ρ.lim x⟩
 have new':∀x,D.n i<=x->x<D.n (i+1)->ρ' x=ρ2 x/\ρ'.lim x=ρ2.lim x:=fun x a b=>⟨if_pos ⟨a,b⟩,if_pos ⟨a,b⟩⟩
 have old':∀x,¬ (D.n i<=x/\x<D.n (i+1))->ρ' x=ρ x/\ρ'.lim x=ρ.lim x:=fun x a=>⟨if_neg a,if_neg a⟩
 have hle:ρ.le ρ':=by
  intro x p e;have:¬ (D.n i<=x/\x<D.n (i+1)):=fun z=>by rw[hfree x z.1 z.2]at e;cases e
  obtain⟨q1,q2⟩:=old' x this;exact⟨by rw[q1];exact e,q2⟩
 have hle2:ρ2.le (ρ'.cut (D.n (i+1))):=by
  intro x p e;have hx:x<D.n (i+1):=by have:=(r2.dom x p.1 p.2 e).1;omega
  by_cases hxn:D.n i<=x
  ·obtain⟨q1,q2⟩:=new' x hxn hx;exact⟨Ren.YT.2 ⟨hx,by rw[q1];exact e⟩,q2⟩
  ·have e0:=ZLq x p.1 p.2 (by omega) e;obtain⟨q1,q2⟩:=old' x (fun z=>hxn z.1);refine⟨Ren.YT.2 ⟨hx,by rw[q1];exact e0⟩,?_⟩;have:=(st.ext x p (Ren.YT.2 ⟨by omega,e0⟩)).2;show ρ'.lim x=ρ2.lim x;rw[q2,this];rfl
 have ZDl:∀x,D.n i<=x->x<D.n (i+1)->D.tch i x:=fun x a b=>.inr ⟨a,b⟩
 have hval:∀x b d,ρ' x=some (b,d)->D.tch i x->D.hv S' x=h1.at x/\D.cv S' x=D.n (i+1)/\ρ2 x=some (b,d)/\ρ'.lim x=ρ2.lim x:=by
  intro x b d e ht
  have hxX:x∈D.Xs i->¬ x<(D.hs i).size:=by
   intro hX hlt;rcases ht with ht|ht
   ·exact D.MX i x him ht.1 ht.2 hX
   ·have:=ht.1;omega
  have Zcm:∀k,i<k->k<ops.size->D.tch k x->¬ S k:=by
   intro k hik hk htk hsk;have hxk:x<D.n (i+1)\/D.n (i+1)<=x:=by omega
   rcases htk with htk|htk
   ·by_cases hcmp:D.Pb i k\/D.Pb k i
    ·have:=(D.Zf4 hc ho hi hr hcmp).1 hsk;omega
    ·rcases ht with ht|ht
     ·rcases D.inc i k him hk (by omega) (fun z=>hcmp (.inl z)) (fun z=>hcmp (.inr z)) hhl x htk.1 htk.2 with z|z
      ·rcases z.2 with z|z
       ·exact D.MX i x him ht.1 ht.2 z
       ·exact hsf _ z
      ·have z2:=ht.2;have z1:=hii;unfold n at z2 z1;omega
     ·rcases D.inc i k him hk (by omega) (fun z=>hcmp (.inl z)) (fun z=>hcmp (.inr z)) hhl x htk.1 htk.2 with z|z
      ·have z1:=ht.1;unfold n at z1;omega
      ·have z1:=ht.2;unfold n at z1;omega
   ·rcases ht with ht|ht
    ·have hxi:x<D.n i\/D.n i<=x:=by omega
     rcases hxi with hxi|hxi
     ·have:=D.Qq i k (by omega) (by omega);omega
     ·have:=ht.2;omega
    ·have:=D.Qq (i+1) k (by omega) (by omega);omega
  have e1:D.hv S' x=(D.hs (i+1)).at x:=ZaY hS him ht Zcm;have e2:D.cv S' x=D.n (i+1):=ZaY hS him ht Zcm
  have e3:(D.hs (i+1)).at x=h1.at x:=by
   rw[eh,XZ _ _ _ hsz,if_neg fun z=>hxX z.1 z.2]
  refine⟨e1.trans e3,e2,?_⟩;by_cases hx:D.n i<=x/\x<D.n (i+1)
  ·obtain⟨q1,q2⟩:=new' x hx.1 hx.2;exact⟨by rw[<-q1];exact e,q2⟩
  ·obtain⟨q1,q2⟩:=old' x hx;rw[q1]at e
   have hxi:x<D.n i:=by
    rcases Nat.lt_or_ge x (D.n i) with z|z
    ·exact z
    ·rcases ht with ht|ht
     ·have:=ht.2;omega
     ·exact absurd ht hx
   have:=st.ext x (b,d) (Ren.YT.2 ⟨hxi,e⟩);exact⟨this.1,by rw[q2,this.2];rfl⟩
 have hnot:∀x,¬ D.tch i x->D.hv S' x=D.hv S x/\D.cv S' x=D.cv S x:=fun x ht=>⟨QB hS ht,QB hS ht⟩
 have ZLo:∀x b d,ρ x=some (b,d)->(D.hv S' x).own=true->(D.hv S x).own=true:=by
  intro x b d e h;by_cases ht:D.tch i x
  ·obtain⟨q1,_,q3,_⟩:=hval x b d (hle x (b,d) e).1 ht;rw[q1]at h
   have hxi:x<D.n i:=by
    rcases Nat.lt_or_ge x (D.n i) with z|z
    ·exact z
    ·rcases ht with ht|ht
     ·have:=ht.2;omega
     ·rw[hfree x ht.1 ht.2]at e;cases e
   have:=km.own x (by rw[Zp];exact hxi) h;rw[Xp]at this;by_cases hX:x∈D.Xs i
   ·rw[if_pos hX]at this;cases this
   ·rw[if_neg hX]at this
    rwa[(j.ZbA hc ho hi hr e hxi hX hhl hsf).1]
  ·rwa[(hnot x ht).1]at h
 have ZFI:∀x b d,ρ x=some (b,d)->(D.hv S' x).live=true->(D.hv S x).live=true:=by
  intro x b d e h;by_cases ht:D.tch i x
  ·obtain⟨q1,_,q3,_⟩:=hval x b d (hle x (b,d) e).1 ht;rw[q1]at h
   have hxi:x<D.n i:=by
    rcases Nat.lt_or_ge x (D.n i) with z|z
    ·exact z
    ·rcases ht with ht|ht
     ·have:=ht.2;omega
     ·rw[hfree x ht.1 ht.2]at e;cases e
   have:=km.live x (by rw[Zp];exact hxi) h;rw[Xp]at this;by_cases hX:x∈D.Xs i
   ·rw[if_pos hX]at this;cases this
   ·rw[if_neg hX]at this
    rwa[(j.ZbA hc ho hi hr e hxi hX hhl hsf).1]
  ·rwa[(hnot x ht).1]at h
 have ZyN:∀y b d,D.M i y->(ρ.cut (D.n i)) y=some (b,d)->((mask (D.Xs i) (D.hs i)).at y).own=true->ρ y=some (b,d)/\(D.hv S y).own=true:=by
  intro y b d hm e h;rw[Ren.YT]at e;rw[Xp]at h;by_cases hX:y∈D.Xs i
  ·rw[if_pos hX]at h;cases h
  ·rw[if_neg hX]at h;exact⟨e.2,by rwa[(j.ZbA hc ho hi hr e.2 e.1 hX hhl hsf).1]⟩
 have ZLr:∀y b d,ρ y=some (b,d)->(D.hv S y).own=true->wm<=y->(∃d',ρ0 y=some (b,d')/\((D.hs 0).at y).own=true)\/(w0.heap.size<=b\/∃j d',wm<=j/\ρ0 j=some (b,d')/\((D.hs 0).at j).own=true):=by
  intro y b d e h hwy;cases e0:ρ0 y with
  | some p=>
    have:=(j.ext y p e0).1;rw[e]at this;cases this;exact .inl ⟨d,rfl,D.ZDk (j.Zq6 y _ e0) h⟩
  | none=>exact .inr (j.Jv y b d e0 e).2
 refine hK ρ' (a.put o.dst v') w' ?_
 refine{dom:= ?_,obj:= ?_,tsz:= ?_,tmp:= ?_,ds:= ?_,inj:= ?_,ext:=Ren.le_trans j.ext hle,Zq6:=j.Zq6,os:=st.os.trans j.os,tape:=st.tape.trans j.tape,output:=st.output.trans j.output,
        Y8:=Nat.le_trans j.Y8 st.Y8,frame:= ?_,Jv:= ?_}
 ·intro x b d e;by_cases hx:D.n i<=x/\x<D.n (i+1)
  ·rw[(new' x hx.1 hx.2).1]at e;exact⟨(r2.dom x b d e).2,.inr ⟨i,him,(hS i).2 (.inr rfl),hx.1,hx.2⟩⟩
  ·rw[(old' x hx).1]at e;obtain⟨q1,q2⟩:=j.dom x b d e;exact⟨Nat.lt_of_lt_of_le q1 st.Y8,q2.imp id fun⟨k,z1,z2,z3⟩=>⟨k,z1,(hS k).2 (.inl z2),z3⟩⟩
 ·intro x b d e;by_cases ht:D.tch i x
  ·obtain⟨q1,q2,q3,q4⟩:=hval x b d e ht;rw[q1,q2,q4];exact(r2.obj x b d q3).mono hle2
  ·obtain⟨q1,q2⟩:=hnot x ht;have hx:¬ (D.n i<=x/\x<D.n (i+1)):=fun z=>ht (ZDl x z.1 z.2)
   obtain⟨q3,q4⟩:=old' x hx;rw[q3]at e;rw[q1,q2,q4];by_cases hl:(D.hv S x).live=true
   ·refine((j.obj x b d e).mono (Ren.Ztg hle _)).world (st.frame b (j.dom x b d e).1 ?_);intro y d' hm hy hown;obtain⟨z1,z2⟩:=ZyN y b d' hm hy hown;have:=j.inj y x b d' d z1 e z2 hl;subst this;exact ht (.inl hm)
   ·rw[Ur hl];trivial
 ·have:(a.put o.dst v').tmps.size=a.tmps.size:=by cases o.dst<;>simp[Act.put]
  rw[this];exact j.tsz
 ·intro t;by_cases hd:U7 (ops:=ops) i=some t
  ·have hod:o.dst=some t:=by unfold U7 at hd;rw[ho]at hd;exact hd
   have Zcm:∀k,i<k->k<ops.size->U7 (ops:=ops) k=some t->¬ S k:=by
    intro k hik hk hdk _;obtain⟨o',ho'⟩:=get hk;have ZHQ:o'.dst=some t:=by unfold U7 at hdk;rw[ho']at hdk;exact hdk
    have:=D.ZA2 i k o o' t ho ho' hod ZHQ;omega
   have e1:D.tv S' t=D.vs i:=ZaY hS him hd Zcm;have e2:D.tt S' t=D.n (i+1):=ZaY hS him hd Zcm;rw[e1,e2,hod];intro _;have htn:t<a.tmps.size:=by rw[j.tsz];exact D.dst i o t ho hod
   have:(a.put (some t) v').tmps.getD t undef=v':=by
    simp[Act.put,Array.getD_eq_getD_getElem?,htn]
   rw[this];exact hv.mono hle2
  ·have e1:D.tv S' t=D.tv S t:=QB hS hd;have e2:D.tt S' t=D.tt S t:=QB hS hd;rw[e1,e2];intro hany
   have:(a.put o.dst v').tmps.getD t undef=a.tmps.getD t undef:=by
    cases hod:o.dst with
    | none=>rfl
    | some d=>
      have hne:d≠t:=fun z=>hd (by unfold U7;rw[ho,<-z];exact hod)
      simp[Act.put,Array.getD_eq_getD_getElem?,Array.getElem?_setIfInBounds_ne hne]
   rw[this];exact(j.tmp t hany).mono (Ren.Ztg hle _)
 ·have:(a.put o.dst v').defers=a.defers:=by cases o.dst<;>rfl
  rw[this];exact j.ds.mono (Ren.Ztg hle _)
 ·intro x y b d d' ex ey hox hly;by_cases hx:D.n i<=x/\x<D.n (i+1)
  ·have htx:=ZDl x hx.1 hx.2;obtain⟨x1,_,x3,_⟩:=hval x b d ex htx;by_cases hy:D.n i<=y/\y<D.n (i+1)
   ·obtain⟨y1,_,y3,_⟩:=hval y b d' ey (ZDl y hy.1 hy.2);rw[x1]at hox;rw[y1]at hly;exact r2.inj x y b d d' x3 y3 hox hly
   ·rw[(old' y hy).1]at ey
    have ZsG:(ρ.cut (D.n i)) x=none:=by
     cases e:(ρ.cut (D.n i)) x with
     | none=>rfl
     | some p=>have:=(Ren.YT.1 e).1;omega
    rcases(st.Jv x b d ZsG x3).2 with z|⟨q,dq,z1,z2,z3⟩
    ·have:=(j.dom y b d' ey).1;omega
    ·obtain⟨u1,u2⟩:=ZyN q b dq z1 z2 z3;have hqy:=j.inj q y b dq d' u1 ey u2 (ZFI y b d' ey hly);subst hqy;obtain⟨y1,_,y3,_⟩:=hval q b d' (hle q (b,d') ey).1 (.inl z1);rw[x1]at hox;rw[y1]at hly;exact r2.inj x q b d d' x3 y3 hox hly
  ·rw[(old' x hx).1]at ex;by_cases hy:D.n i<=y/\y<D.n (i+1)
   ·obtain⟨y1,_,y3,_⟩:=hval y b d' ey (ZDl y hy.1 hy.2)
    have ZHI:(ρ.cut (D.n i)) y=none:=by
     cases e:(ρ.cut (D.n i)) y with
     | none=>rfl
     | some p=>have:=(Ren.YT.1 e).1;omega
    rcases(st.Jv y b d' ZHI y3).2 with z|⟨q,dq,z1,z2,z3⟩
    ·have:=(j.dom x b d ex).1;omega
    ·obtain⟨u1,u2⟩:=ZyN q b dq z1 z2 z3;have hqx:=j.inj x q b d dq ex u1 (ZLo x b d ex hox) (J4 u2);subst hqx;obtain⟨x1,_,x3,_⟩:=hval x b d (hle x (b,d) ex).1 (.inl z1);rw[x1]at hox;rw[y1]at hly;exact r2.inj x y b d d' x3 y3 hox hly
   ·rw[(old' y hy).1]at ey;exact j.inj x y b d d' ex ey (ZLo x b d ex hox) (ZFI y b d' ey hly)
 ·intro b hb hno;rw[<-j.frame b hb hno];refine st.frame b (Nat.lt_of_lt_of_le hb j.Y8) ?_;intro y d hm hy hown;obtain⟨z1,z2⟩:=ZyN y b d hm hy hown;have hwy:=D.wmM i y him hm.1;rcases ZLr y b d z1 z2 hwy with⟨d',u1,u2⟩|u|⟨q,dq,u1,u2,u3⟩
  ·exact hno y d' hwy u1 u2
  ·omega
  ·exact hno q dq u1 u2 u3
 ·intro x b d e0 e;by_cases hx:D.n i<=x/\x<D.n (i+1)
  ·rw[(new' x hx.1 hx.2).1]at e
   have ZsG:(ρ.cut (D.n i)) x=none:=by
    cases e:(ρ.cut (D.n i)) x with
    | none=>rfl
    | some p=>have:=(Ren.YT.1 e).1;omega
   refine⟨by omega,?_⟩;rcases(st.Jv x b d ZsG e).2 with z|⟨q,dq,z1,z2,z3⟩
   ·exact .inl (Nat.le_trans j.Y8 z)
   ·obtain⟨u1,u2⟩:=ZyN q b dq z1 z2 z3;have hwq:=D.wmM i q him z1.1;rcases ZLr q b dq u1 u2 hwq with⟨d',v1,v2⟩|v
    ·exact .inr ⟨q,d',hwq,v1,v2⟩
    ·exact v
  ·rw[(old' x hx).1]at e;exact j.Jv x b d e0 e
def J'.pure{S:Nat->Prop}{ds:List Deferred}{ρ0 ρ:Ren}{w0 w:World}{a:Act}(j:D.J' S ds ρ0 w0 ρ a w)(hc:Closed ops S){i:Nat}{o:Oper}(ho:ops[i]? =some o)(hi:¬ S i)
 (hr:∀e∈o.after,Region.binds .any e=true->S e.on) {F:Fence} (hF:KO ρ0 rd F) {S':Nat->Prop} (hS:∀k,S' k↔S k\/k=i) {hv:H} (hsz:hv.size=D.n i) (hn:D.n (i+1)=D.n i)
 (hM:∀y,¬ D.mo i y) (hstep:Qk P wm rd ops o (fun _=>False) (D.fs i) hv (D.vs i) hv) (r1:Rel (ρ.cut (D.n i)) hv w) {K:Act->World->Prop} {Q:Exit->Act->World->Prop}
 (hK:∀ρ' a' w',D.J' S' ds ρ0 w0 ρ' a' w'->K a' w'):
 if Region.wanted o (yielded ops a.tmps) then o.wpIn F 0 P a w K Q else(∀f,o.about P w a.eval=some f->F.fn f)/\K (a.put o.dst undef) w:=by
 have him:i<ops.size:=(Array.getElem?_eq_some_iff.1 ho).1;have h0i:=D.Qq 0 i (by omega) (by omega)
 have hF1:KO (ρ.cut (D.n i)) rd F:=by
  refine hF.mono fun x p e=>?_
  obtain⟨e1,e2⟩:=j.ext x p e;exact⟨Ren.YT.2 ⟨by have:=j.Zq6 x p e;omega,e1⟩,e2⟩
 refine hstep (ρ.cut (D.n i)) a w F K Q r1 (by have:=D.ZlS;have e:D.n 0=(D.hs 0).size:=rfl;omega) (fun t ht hany=>?_) hF1 ?_
 ·obtain⟨q1,q2⟩:=J'.Zpa (D:=D) hc ho hi hr ht;rw[<-q1]at hany ⊢;exact(j.tmp t hany).mono (Ren.Zf2 q2)
 intro ρ2 v' w' hvv r2 st
 have hle2:ρ2.le (ρ.cut (D.n (i+1))):=by
  intro x p e;have hx:x<D.n i:=by have:=(r2.dom x p.1 p.2 e).1;omega
  cases e1:(ρ.cut (D.n i)) x with
  | none=>have:=(st.Jv x p.1 p.2 e1 e).1;omega
  | some q=>
    obtain⟨q1,q2⟩:=st.ext x q e1;rw[e]at q1;cases q1;exact⟨Ren.YT.2 ⟨by omega,(Ren.YT.1 e1).2⟩,q2.symm⟩
 have hbl:∀b,b<w.heap.size->w'.heap[b]? =w.heap[b]?:=fun b hb=>st.frame b hb fun _ _ h=>h.elim
 have hnt:∀x,¬ D.tch i x:=by
  rintro x (h|h)
  ·exact hM x h.1
  ·omega
 have hnot:∀x,D.hv S' x=D.hv S x/\D.cv S' x=D.cv S x:=fun x=>⟨QB hS (hnt x),QB hS (hnt x)⟩
 refine hK ρ (a.put o.dst v') w' ?_
 refine{dom:= ?_,obj:= ?_,tsz:= ?_,tmp:= ?_,ds:= ?_,inj:= ?_,ext:=j.ext,Zq6:=j.Zq6,os:=st.os.trans j.os,tape:=st.tape.trans j.tape,output:=st.output.trans j.output,
        Y8:=Nat.le_trans j.Y8 st.Y8,frame:= ?_,Jv:=j.Jv}
 ·intro x b d e;obtain⟨q1,q2⟩:=j.dom x b d e;exact⟨Nat.lt_of_lt_of_le q1 st.Y8,q2.imp id fun⟨k,z1,z2,z3⟩=>⟨k,z1,(hS k).2 (.inl z2),z3⟩⟩
 ·intro x b d e;rw[(hnot x).1,(hnot x).2];exact(j.obj x b d e).world (hbl b (j.dom x b d e).1)
 ·have:(a.put o.dst v').tmps.size=a.tmps.size:=by cases o.dst<;>simp[Act.put]
  rw[this];exact j.tsz
 ·intro t;by_cases hd:U7 (ops:=ops) i=some t
  ·have hod:o.dst=some t:=by unfold U7 at hd;rw[ho]at hd;exact hd
   have Zcm:∀k,i<k->k<ops.size->U7 (ops:=ops) k=some t->¬ S k:=by
    intro k hik hk hdk _;obtain⟨o',ho'⟩:=get hk;have ZHQ:o'.dst=some t:=by unfold U7 at hdk;rw[ho']at hdk;exact hdk
    have:=D.ZA2 i k o o' t ho ho' hod ZHQ;omega
   have e1:D.tv S' t=D.vs i:=ZaY hS him hd Zcm;have e2:D.tt S' t=D.n (i+1):=ZaY hS him hd Zcm;rw[e1,e2,hod];intro _;have htn:t<a.tmps.size:=by rw[j.tsz];exact D.dst i o t ho hod
   have:(a.put (some t) v').tmps.getD t undef=v':=by
    simp[Act.put,Array.getD_eq_getD_getElem?,htn]
   rw[this];exact hvv.mono hle2
  ·have e1:D.tv S' t=D.tv S t:=QB hS hd;have e2:D.tt S' t=D.tt S t:=QB hS hd;rw[e1,e2];intro hany
   have:(a.put o.dst v').tmps.getD t undef=a.tmps.getD t undef:=by
    cases hod:o.dst with
    | none=>rfl
    | some d=>
      have hne:d≠t:=fun z=>hd (by unfold U7;rw[ho,<-z];exact hod)
      simp[Act.put,Array.getD_eq_getD_getElem?,Array.getElem?_setIfInBounds_ne hne]
   rw[this];exact j.tmp t hany
 ·have:(a.put o.dst v').defers=a.defers:=by cases o.dst<;>rfl
  rw[this];exact j.ds
 ·intro x y b d d' ex ey h1 h2;rw[(hnot x).1]at h1;rw[(hnot y).1]at h2;exact j.inj x y b d d' ex ey h1 h2
 ·intro b hb hno;rw[hbl b (Nat.lt_of_lt_of_le hb j.Y8)];exact j.frame b hb hno
def J'.next{S:Nat->Prop}{ds:List Deferred}{ρ0 ρ:Ren}{w0 w:World}{a:Act}(j:D.J' S ds ρ0 w0 ρ a w)(hc:Closed ops S){i:Nat}{o:Oper}(ho:ops[i]? =some o)(hi:¬ S i)
 (hr:∀e∈o.after,Region.binds .any e=true->S e.on) {F:Fence} (hF:KO ρ0 rd F) {S':Nat->Prop} (hS:∀k,S' k↔S k\/k=i) {K:Act->World->Prop} {Q:Exit->Act->World->Prop}
 (hK:∀ρ' a' w',D.J' S' ds ρ0 w0 ρ' a' w'->K a' w'):
 if Region.wanted o (yielded ops a.tmps) then o.wpIn F 0 P a w K Q else(∀f,o.about P w a.eval=some f->F.fn f)/\K (a.put o.dst undef) w:=by
 cases hhl:D.hl i with
 | true=>
   obtain⟨hM,hn,hst⟩:=D.ZDE i o ho hhl;refine j.pure (hv:=⟨.nil,D.n i⟩) hc ho hi hr hF hS rfl hn hM (hst _) ⟨fun y b d e=>?_,fun y b d e=>?_,fun y z b d d' e e' h1 h2=>?_⟩ hK
   ·rw[Ren.YT]at e;exact⟨e.1,(j.dom y b d e.2).1⟩
   ·have:(⟨.nil,D.n i⟩:H).at y=.dead:=by unfold H.at;cases Nat.blt y (D.n i)<;>rfl
    rw[this];trivial
   ·have:(⟨.nil,D.n i⟩:H).at y=.dead:=by unfold H.at;cases Nat.blt y (D.n i)<;>rfl
    rw[this]at h1;cases h1
 | false=>
 cases hsf:D.soft i with
 | none=>exact j.step hc ho hi hhl hsf hr hF hS hK
 | some p=>
   obtain⟨x,jj⟩:=p;obtain⟨hij,hjm,hxn,hM,hn,hp1,hp2,hs1,hs2⟩:=D.Zne i o x jj ho hsf;have him:i<ops.size:=(Array.getElem?_eq_some_iff.1 ho).1;have hxn:x<D.n i:=hxn
   have hother:∀y b d,ρ y=some (b,d)->y<D.n i->y∉D.Xs i->y≠x->D.hv S y=(D.hs i).at y/\D.cv S y<=D.n i:=fun y b d e1 e2 e3 e4=>
    j.ZbA hc ho hi hr e1 e2 e3 hhl fun j' z=>by rw[hsf]at z;cases z;exact e4 rfl
   have view:∀(A:YD),(∀b d,ρ x=some (b,d)->x∉D.Xs i->D.hv S x=A)->(∀(ρ ρ':Ren)(w:World)(b d:Nat)(l:Nat×Nat),Qd ρ w b d l A->Qd ρ' w b d l A)->∀(hv:H),hv.size=D.n i ->
    (∀y,hv.at y=if y∈D.Xs i/\y≠x then .dead else if y=x then(if x∈D.Xs i then .dead else A) else(D.hs i).at y)->Rel (ρ.cut (D.n i)) hv w:=by
    intro A hA hpl hv hvs hva
    have hval:∀y b d,ρ y=some (b,d)->y<D.n i->hv.at y=.dead\/(hv.at y=D.hv S y/\(y=x\/D.cv S y<=D.n i)/\(y=x->D.hv S y=A)):=by
     intro y b d e1 e2;rw[hva];by_cases hyx:y=x
     ·subst hyx;rw[if_neg (fun z=>z.2 rfl),if_pos rfl];by_cases hX:y∈D.Xs i
      ·rw[if_pos hX];exact .inl rfl
      ·rw[if_neg hX];right;have:=hA b d e1 hX;exact⟨this.symm,.inl rfl,fun _=>this⟩
     ·by_cases hX:y∈D.Xs i
      ·rw[if_pos ⟨hX,hyx⟩];exact .inl rfl
      ·rw[if_neg fun z=>hX z.1,if_neg hyx];obtain⟨q1,q2⟩:=hother y b d e1 e2 hX hyx;exact .inr ⟨q1.symm,.inr q2,fun z=>absurd z hyx⟩
    refine⟨fun y b d e=>?_,fun y b d e=>?_,fun y z b d d' e e' h1 h2=>?_⟩
    ·rw[Ren.YT]at e;rw[hvs];exact⟨e.1,(j.dom y b d e.2).1⟩
    ·rw[Ren.YT]at e;rcases hval y b d e.2 e.1 with q|⟨q1,q2,q3⟩
     ·rw[q];trivial
     ·have:=j.obj y b d e.2;rw[q1];rcases q2 with q2|q2
      ·rw[q3 q2]at this ⊢;exact hpl _ _ _ _ _ _ this
      ·exact this.mono (Ren.Zf2 q2)
    ·rw[Ren.YT]at e e';rcases hval y b d e.2 e.1 with q|⟨q1,_,_⟩
     ·rw[q]at h1;cases h1
     ·rcases hval z b d' e'.2 e'.1 with q|⟨p1,_,_⟩
      ·rw[q]at h2;cases h2
      ·rw[q1]at h1;rw[p1]at h2;exact j.inj y z b d d' e.2 e'.2 h1 h2
   have hcases:(∀b d,ρ x=some (b,d)->x∉D.Xs i->D.hv S x=(D.hs i).at x)\/(∀b d,ρ x=some (b,d)->x∉D.Xs i->D.hv S x=(D.hs (jj+1)).at x):=by
    by_cases hX:x∈D.Xs i
    ·exact .inl fun _ _ _ z=>absurd hX z
    cases hρ:ρ x with
    | none=>exact .inl fun _ _ z=>by cases z
    | some p=>
      have hcr:∀k,k<ops.size->D.n k<=x->x<D.n (k+1)->(S k↔k<i):=by
       intro k hk h1 h2
       have hki:k<i:=by
        rcases Nat.lt_or_ge k i with z|z
        ·exact z
        ·have:=D.Qq i k z (by omega);omega
       refine⟨fun _=>hki,fun _=>?_⟩;rcases(j.dom x p.1 p.2 hρ).2 with z|⟨k',q1,q2,q3,q4⟩
       ·have:=D.Qq 0 k (by omega) (by omega);omega
       ·have:k'=k:=by
         rcases Nat.lt_trichotomy k' k with z|z|z
         ·have:=D.Qq (k'+1) k (by omega) (by omega);omega
         ·exact z
         ·have:=D.Qq (k+1) k' (by omega) (by omega);omega
        subst this;exact q2
      have key:∀k,k<ops.size->D.tch k x->k≠jj->(S k↔k<i):=by
       intro k hk ht hkj;rcases ht with ht|⟨h1,h2⟩
       ·by_cases hki:k=i
        ·subst hki;exact absurd ht.1 (hM x)
        ·by_cases hcmp:D.Pb i k\/D.Pb k i
         ·exact D.Zf4 hc ho hi hr hcmp
         ·rcases D.inc i k him hk (Ne.symm hki) (fun z=>hcmp (.inl z)) (fun z=>hcmp (.inr z)) hhl x ht.1 ht.2 with z|z
          ·rcases z.2 with z|z
           ·exact absurd z hX
           ·rw[hsf]at z;cases z;exact absurd rfl hkj
          ·have:=D.ZnA him;unfold n at this hxn;omega
       ·exact hcr k hk h1 h2
      by_cases hj:S jj/\D.tch jj x
      ·right;intro _ _ _ _
       have:∀m,jj<m->m<=ops.size->last ((D.hs 0).at x) (fun k=>(D.hs (k+1)).at x) S (fun k=>D.tch k x) m=(D.hs (jj+1)).at x:=by
        intro m
        induction m with
        | zero=>intro h;omega
        | succ m ihm=>
          intro h1 h2;rw[last];by_cases hmj:m=jj
          ·subst hmj;rw[if_pos hj]
          ·rw[if_neg]
           ·exact ihm (by omega) (by omega)
           ·rintro⟨z1,z2⟩;have:=(key m (by omega) z2 hmj).1 z1;omega
       exact this ops.size hjm (Nat.le_refl _)
      ·left;intro _ _ _ _;unfold hv;refine ZaZ _ _ _ _ (fun k=>(D.hs k).at x) rfl (fun k _ _=>rfl) (fun k hk ht=>D.keep hk ht) (Nat.le_of_lt him) fun k hk ht=>?_
       by_cases hkj:k=jj
       ·subst hkj;exact⟨fun z=>absurd ⟨z,ht⟩ hj,fun z=>by omega⟩
       ·exact key k hk ht hkj
   have Zp6:(mask (D.Xs i) (D.hs i)).size=D.n i:=Zp _ _;rcases hcases with hA|hA
   ·refine j.pure hc ho hi hr hF hS Zp6 hn hM hs1 (view _ hA hp1 _ Zp6 fun y=>?_) hK;rw[Xp];by_cases hX:y∈D.Xs i
    ·rw[if_pos hX];by_cases hyx:y=x
     ·subst hyx;rw[if_neg fun z=>z.2 rfl,if_pos rfl,if_pos hX]
     ·rw[if_pos ⟨hX,hyx⟩]
    ·rw[if_neg hX,if_neg fun z=>hX z.1];by_cases hyx:y=x
     ·subst hyx;rw[if_pos rfl,if_neg hX]
     ·rw[if_neg hyx]
   ·by_cases hX:x∈D.Xs i
    ·refine j.pure hc ho hi hr hF hS Zp6 hn hM hs1 (view ((D.hs i).at x) (fun _ _ _ z=>absurd hX z) hp1 _ Zp6 fun y=>?_) hK;rw[Xp];by_cases hY:y∈D.Xs i
     ·rw[if_pos hY];by_cases hyx:y=x
      ·subst hyx;rw[if_neg fun z=>z.2 rfl,if_pos rfl,if_pos hY]
      ·rw[if_pos ⟨hY,hyx⟩]
     ·rw[if_neg hY,if_neg fun z=>hY z.1];by_cases hyx:y=x
      ·subst hyx;exact absurd hX hY
      ·rw[if_neg hyx]
    ·refine j.pure (hv:=(mask (D.Xs i) (D.hs i)).put x ((D.hs (jj+1)).at x)) hc ho hi hr hF hS (by rw[H.size_put];exact Zp6) hn hM hs2 (view _ hA hp2 _ (by rw[H.size_put];exact Zp6) fun y=>?_) hK;rw[H.XM,Xp];by_cases hyx:y=x
     ·subst hyx;rw[if_pos ⟨rfl,by rw[Zp6];exact hxn⟩,if_neg fun z=>z.2 rfl,if_pos rfl,if_neg hX]
     ·rw[if_neg fun z=>hyx z.1];by_cases hY:y∈D.Xs i
      ·rw[if_pos hY,if_pos ⟨hY,hyx⟩]
      ·rw[if_neg hY,if_neg fun z=>hY z.1,if_neg hyx]
def SL(listed:Va Z)(k:Nat):Prop:=listed.getD k false=true
def Zb1{listed:Va Z}(hs:listed.size=ops.size){k:Nat}(hk:k<ops.size):listed.getD k true=false↔¬ SL listed k:=by
 unfold SL;simp[Q4,show k<listed.size by omega]
def J'.any{ds:List Deferred}{ρ0:Ren}{w0:World}{F:Fence}(hF:KO ρ0 rd F){Q:Exit->Act->World->Prop}
 (hQ:∀(S:Nat->Prop) ρ a w,(∀k,k<ops.size->S k)->D.J' S ds ρ0 w0 ρ a w->Q .normal a w):
 ∀(fuel:Nat)(listed:Array Bool),listed.size=ops.size->((List.range ops.size).filter (fun k=>!listed.getD k true)).length<=fuel->Closed ops (SL listed) ->
   ∀ρ a w,D.J' (SL listed) ds ρ0 w0 ρ a w->wpAnyIn F 0 P .any ops Q fuel listed a w:=by
 have done:∀(listed:Array Bool),listed.size=ops.size->Region.ready .any ops listed=[]->∀k,k<ops.size->SL listed k:=by
  intro listed hsz hr k
  induction k using Nat.strongRecOn with
  | ind k ih=>
    intro hk;apply Classical.byContradiction;intro hno;obtain⟨o,ho⟩:=get hk
    have:k∈Region.ready .any ops listed:=mem_ready.2 ⟨(Zb1 hsz hk).2 hno,o,ho,fun e he hb=>by
     have hlt:=D.Zmz k o e ho he hb;exact ih e.on hlt (by omega)⟩
    rw[hr]at this;cases this
 intro fuel
 induction fuel with
 | zero=>
   intro listed hsz hn hc ρ a w j
   have hnil:Region.ready .any ops listed=[]:=by
    rw[List.eq_nil_iff_forall_not_mem];intro k hk;obtain⟨h1,o,ho,_⟩:=mem_ready.1 hk;have hlt:k<ops.size:=(Array.getElem?_eq_some_iff.1 ho).1
    have hmem:k∈(List.range ops.size).filter (fun k=>!listed.getD k true):=by
     rw[List.mem_filter];exact⟨List.mem_range.2 hlt,by rw[h1];rfl⟩
    have:=List.length_pos_of_mem hmem;omega
   exact⟨hnil,hQ _ ρ a w (done listed hsz hnil) j⟩
 | succ fuel ih=>
   intro listed hsz hn hc ρ a w j;refine⟨fun hnil=>hQ _ ρ a w (done listed hsz hnil) j,fun i hi=>?_⟩;obtain⟨h1,o,ho,hr⟩:=mem_ready.1 hi;have him:i<ops.size:=(Array.getElem?_eq_some_iff.1 ho).1;unfold wpOpIn;rw[ho]
   have hS:∀k,SL (listed.setIfInBounds i true) k↔SL listed k\/k=i:=by
    intro k;unfold SL;by_cases hk:k=i
    ·subst hk;simp[Array.getD_eq_getD_getElem?,show k<listed.size by omega]
    ·rw[getD_set_ne false (Ne.symm hk)];simp[hk]
   have hc':Closed ops (SL (listed.setIfInBounds i true)):=by
    intro j' o' e hj ho' he hb;rcases(hS j').1 hj with h|h
    ·exact(hS _).2 (.inl (hc j' o' e h ho' he hb))
    ·subst h;rw[ho]at ho';cases ho';exact(hS _).2 (.inl (hr e he hb))
   refine j.next hc ho ((Zb1 hsz him).1 h1) hr hF hS fun ρ' a' w' j'=>ih _ (by simpa using hsz) ?_ hc' ρ' a' w' j'
   have heq:(List.range ops.size).filter (fun k=>!(listed.setIfInBounds i true).getD k true)=((List.range ops.size).filter (fun k=>!listed.getD k true)).filter (fun k=>k≠i):=by
    rw[List.filter_filter];apply List.filter_congr;intro k hk;rw[List.mem_range]at hk;by_cases hki:k=i
    ·subst hki;simp[Array.getD_eq_getD_getElem?,show k<listed.size by omega]
    ·rw[getD_set_ne true (Ne.symm hki)];simp[hki]
   rw[heq]
   have hmem:i∈(List.range ops.size).filter (fun k=>!listed.getD k true):=by
    rw[List.mem_filter];exact⟨List.mem_range.2 him,by rw[h1];rfl⟩
   have:(((List.range ops.size).filter (fun k=>!listed.getD k true)).filter (fun k=>k≠i)).length<((List.range ops.size).filter (fun k=>!listed.getD k true)).length:=
    List.length_filter_lt_length_iff_exists.2 ⟨i,hmem,by simp⟩
   omega
def ZHB(D:Data P nn wm rd ops){x:Nat}(hx:x<wm):∀k,k<=ops.size->(D.hs k).at x=(D.hs 0).at x:=by
 intro k
 induction k with
 | zero=>intro _;rfl
 | succ k ih=>
   intro hk;rw[D.keep Vg ?_]
   ·exact ih Vg
   ·rintro(h|h)
    ·have:=D.wmM k x Vg h.1;omega
    ·have h1:=D.Qq 0 k Vg Vg;have h2:=D.ZlS;have h3:D.n 0=(D.hs 0).size:=rfl;omega
def J'.start{ds:List Deferred}{ρ:Ren}{a:Act}{w:World}(hi:Inv ρ nn {fr:=D.fs 0,ds:=ds,h:=D.hs 0} a w):D.J' (SL (Array.replicate ops.size false)) ds ρ w ρ a w:=by
 have hno:∀k,¬ SL (Array.replicate ops.size false) k:=by
  intro k;unfold SL;rw[Array.getD_eq_getD_getElem?,Array.getElem?_replicate];split<;>simp
 have e1:∀x,D.hv (SL (Array.replicate ops.size false)) x=(D.hs 0).at x:=fun x=>Zdl _ _ _ _ fun k _ _=>hno k
 have e2:∀x,D.cv (SL (Array.replicate ops.size false)) x=D.n 0:=fun x=>Zdl _ _ _ _ fun k _ _=>hno k
 have e3:∀x,D.tv (SL (Array.replicate ops.size false)) x=(D.fs 0).at x:=fun x=>Zdl _ _ _ _ fun k _ _=>hno k
 have e4:∀x,D.tt (SL (Array.replicate ops.size false)) x=D.n 0:=fun x=>Zdl _ _ _ _ fun k _ _=>hno k
 have hlt:∀x p,ρ x=some p->x<D.n 0:=hi.rel.lt;have hle:=Ren.ZHz hlt;refine{dom:= ?_,obj:= ?_,tsz:=hi.fr.size,tmp:= ?_,ds:=hi.ds.mono hle,inj:= ?_,ext:=Ren.le_refl _,Zq6:=hlt,os:=rfl,tape:=rfl,output:=rfl,Y8:=Nat.le_refl _,frame:=fun _ _ _=>rfl,Jv:= ?_}
 ·intro x b d e;exact⟨(hi.rel.dom x b d e).2,.inl (hlt _ _ e)⟩
 ·intro x b d e;rw[e1,e2];exact(hi.rel.obj x b d e).mono hle
 ·intro t;rw[e3,e4];intro hany;exact(hi.fr.val t hany).mono hle
 ·intro x y b d d' e e' h1 h2;rw[e1]at h1 h2;exact hi.rel.inj x y b d d' e e' h1 h2
 ·intro i b d e e';rw[e]at e';cases e'
def J'.finish{S:Nat->Prop}(hS:∀k,k<ops.size->S k){ds:List Deferred}{ρ0 ρ:Ren}{w0 w:World}{a:Act}(j:D.J' S ds ρ0 w0 ρ a w):
 Xj wm nn ρ0 (D.hs 0) w0 .normal {fr:=D.fs ops.size,ds:=ds,h:=D.hs ops.size} .normal a w:=by
 have key:∀(tc:Nat->Prop) k,k<ops.size->tc k->(S k↔k<ops.size):=fun tc k hk _=>⟨fun _=>hk,fun _=>hS k hk⟩
 have e1:∀x,D.hv S x=(D.hs ops.size).at x:=fun x=>by
  unfold hv;exact ZaZ _ _ _ _ (fun k=>(D.hs k).at x) rfl (fun k _ _=>rfl) (fun k hk ht=>D.keep hk ht) (Nat.le_refl _) (key _)
 have e3:∀t,D.tv S t=(D.fs ops.size).at t:=fun t=>by
  have hfs:∀k,k<ops.size->(D.fs (k+1)).at t=if U7 (ops:=ops) k=some t then D.vs k else(D.fs k).at t:=by
   intro k hk;obtain⟨o',ho'⟩:=get hk;obtain⟨h1,_,_,_,e⟩:=D.step k o' ho';rw[e,Zbh];unfold U7;rw[ho']
   rfl
  unfold tv;exact ZaZ _ _ _ _ (fun k=>(D.fs k).at t) rfl (fun k hk hd=>by rw[hfs k hk,if_pos hd]) (fun k hk hd=>by rw[hfs k hk,if_neg hd]) (Nat.le_refl _) (key _)
 refine⟨ρ,.normal,⟨⟨?_,?_,?_⟩,⟨j.tsz,?_⟩,j.ds.mono Ren.ZkB⟩,⟨j.ext,D.Qq 0 _ (by omega) (by omega),fun i hi=>D.ZHB hi _ (by omega),fun i hi h=>D.ZLp hi _ (by omega) h,fun i hi h=>D.ZLu hi _ (by omega) h,
  j.os,j.tape,j.output,j.Y8,j.frame,j.Jv⟩⟩
 ·intro x b d e;obtain⟨q1,q2⟩:=j.dom x b d e;refine⟨?_,q1⟩;rcases q2 with z|⟨k,z1,z2,z3,z4⟩
  ·exact Nat.lt_of_lt_of_le z (D.Qq 0 _ (by omega) (by omega))
  ·exact Nat.lt_of_lt_of_le z4 (D.Qq (k+1) _ (by omega) (by omega))
 ·intro x b d e;have:=(j.obj x b d e).mono Ren.ZkB
  rwa[e1]at this
 ·intro x y b d d' e e' h1 h2;exact j.inj x y b d d' e e' (by rw[e1];exact h1) (by rw[e1];exact h2)
 ·intro t;intro hany;have:=(j.tmp t (by rw[e3];exact hany)).mono Ren.ZkB
  rwa[e3]at this
def region(D:Data P nn wm rd ops)(hm:P.follows .mixedOrders=true){ds:U Vc}{ρ:Ren}{a:Act}{w:V9}{F:Fence}(hi:Inv ρ nn {fr:=D.fs 0,ds:=ds,h:=D.hs 0} a w)(hF:KO ρ rd F)(id:Nat):
 (Code.region id ops true).wpIn F 0 P (Xj wm nn ρ (D.hs 0) w .normal {fr:=D.fs ops.size,ds:=ds,h:=D.hs ops.size}) a w:=by
 refine wpIn_region_any hm ?_;have hi':Inv ρ nn {fr:=D.fs 0,ds:=ds,h:=D.hs 0} a {w with drawn:=w.drawn+1}:=⟨⟨hi.rel.dom,fun i b d e=>(hi.rel.obj i b d e).world rfl,hi.rel.inj⟩,hi.fr,hi.ds⟩
 refine J'.any (D:=D) (ds:=ds) (ρ0:=ρ) (w0:= {w with drawn:=w.drawn+1}) hF (fun S ρ' a' w' hS j=>?_) ops.size _ (by simp) (KB (List.length_filter_le _ _) (by simp)) ?_ ρ a _ (J'.start hi')
 ·obtain⟨ρ2,q1,q2,q3⟩:=j.finish hS;exact⟨ρ2,q1,q2,⟨q3.ext,q3.size,q3.keep,q3.own,q3.live,q3.os,q3.tape,q3.output,q3.Y8,q3.frame,q3.Jv⟩⟩
 ·intro k o e hk;exfalso;unfold SL at hk;rw[Q4,Array.getElem?_replicate]at hk;split at hk<;>simp at hk
end Data
end
section
def Zox(a b n:Nat):bit (Nat.lor a b) n=(bit a n||bit b n):=by
 rw[ZkH,ZkH,ZkH];exact Nat.testBit_or a b n
def Zvl(a n:Nat):bit (Nat.pow 2 a) n=true↔a=n:=by
 rw[ZkH];have:Nat.pow 2 a=2 ^ a:=rfl;rw[this,Nat.testBit_two_pow];simp
def ZkG(n:Nat):bit 0 n=false:=by rw[ZkH];simp
def Zcd(ps:U Nat)(i:Nat):U Edge->Nat
 | []=>0
 | e::es=>bif Region.binds .any e&&Nat.blt e.on i then Nat.lor (Nat.lor (Nat.pow 2 e.on) (ps.getD e.on 0)) (Zcd ps i es) else Zcd ps i es
def XL:U Oper->Nat->U Nat->U Nat
 | [],_,ps=>ps
 | o::l,i,ps=>XL l (i+1) (ps++[Zcd ps i o.after.toList])
def ZpA{ps:U Nat}{i k:Nat}:∀(es:U Edge),bit (Zcd ps i es) k=true->∃e∈es,Region.binds .any e=true/\e.on<i/\(k=e.on\/bit (ps.getD e.on 0) k=true):=by
 intro es
 induction es with
 | nil=>intro h;simp[Zcd,ZkG]at h
 | cons e es ih=>
   intro h;simp only[Zcd]at h;cases hb:(Region.binds .any e&&Nat.blt e.on i)<;>rw[hb]at h<;>simp only[Cq1,Cq0]at h
   ·obtain⟨e',h1,h2⟩:=ih h;exact⟨e',Kf _ h1,h2⟩
   ·rw[Ba0,G6]at hb;rw[Zox,Zox,GL,GL]at h;rcases h with(h|h) | h
    ·exact⟨e,by simp,hb.1,hb.2,.inl ((Zvl _ _).1 h).symm⟩
    ·exact⟨e,by simp,hb.1,hb.2,.inr h⟩
    ·obtain⟨e',h1,h2⟩:=ih h;exact⟨e',Kf _ h1,h2⟩
def Zcc:∀(l:U Oper)(i:Nat)(ps:U Nat),ps.length=i->(∀k,k<i->(XL l i ps).getD k 0=ps.getD k 0)/\
 ∀(j:Nat)(k:Nat),i<=j->bit ((XL l i ps).getD j 0) k=true->∃o,l[j-i]? =some o/\∃e∈o.after.toList,Region.binds .any e=true/\(k=e.on\/bit ((XL l i ps).getD e.on 0) k=true):=by
 intro l
 induction l with
 | nil=>
   intro i ps hl;refine⟨fun _ _=>rfl,fun j k hj h=>?_⟩;simp only[XL]at h;rw[Gi,Jx Vg]at h;simp[ZkG]at h
 | cons o l ih=>
   intro i ps hl;obtain⟨h1,h2⟩:=ih (i+1) (ps++[Zcd ps i o.after.toList]) (by simp[hl])
   have hlow:∀k,k<i->(XL (o::l) i ps).getD k 0=ps.getD k 0:=by
    intro k hk;simp only[XL];rw[h1 k Vg,Gi,GV Vg,<-Gi]
   refine⟨hlow,fun j k hj h=>?_⟩;by_cases hji:j=i
   ·subst hji;refine⟨o,by simp,?_⟩
    have e:(XL (o::l) j ps).getD j 0=Zcd ps j o.after.toList:=by
     simp only[XL];rw[h1 j Vg,Gi,V0 Vg];simp[hl]
    rw[e]at h;obtain⟨e,he,hb,hlt,hk⟩:=ZpA _ h;refine⟨e,he,hb,hk.imp id fun hk=>?_⟩;rw[hlow e.on hlt];exact hk
   ·simp only[XL]at h ⊢;obtain⟨o',ho',e,he⟩:=h2 j k Vg h;exact⟨o',by rw[show j-i=(j-(i+1))+1 by omega];exact ho',e,he⟩
def QH(p:Nat->Oper->Z):U Oper->Nat->Z
 | [],_=>true
 | o::l,i=>p i o&&QH p l (i+1)
def Yv{p:Nat->Oper->Z}:∀(l:U Oper)(i:Nat),QH p l i=true->∀k o,l[k]? =some o->p (i+k) o=true:=by
 intro l
 induction l with
 | nil=>intro i _ k o h;simp at h
 | cons o l ih=>
   intro i h k o' hk;simp only[QH,Ba0]at h;cases k with
   | zero=>simp at hk;subst hk;exact h.1
   | succ k=>
     have:=ih (i+1) h.2 k o' (by simpa using hk)
     rwa[show i+1+k=i+(k+1) by omega]at this
def isT(d:O Tmp)(t:Tmp):Z:=
 match d with
 | some d=>Nat.beq d t
 | none=>false
def Zax{d:O Tmp}{t:Tmp}:isT d t=true↔d=some t:=by
 cases d with
 | none=>simp[isT]
 | some d=>simp[isT,Nat.beq_eq]
def comp(ps:U Nat)(i j:Nat):Z:=bif Nat.blt i j then bit (ps.getD j 0) i else bit (ps.getD i 0) j
def ZaK(i:Nat)(o:Oper):Z:=o.after.toList.all fun e=>bif Region.binds .any e then Nat.blt e.on i else true
def Zet(ops:U Oper)(ps:U Nat)(i:Nat)(o:Oper):Z:=
 (looks ops o).all fun t=>QH (fun k o'=>bif isT o'.dst t then Nat.beq k i||comp ps i k else true) ops 0
def Zf0(ops:U Oper)(i:Nat)(o:Oper):Z:=
 match o.dst with
 | none=>true
 | some t=>QH (fun k o'=>bif isT o'.dst t then Nat.beq k i else true) ops 0
def ZjG(ps:U Nat)(m i:Nat):U Nat:=(List.range m).filter fun j=>bif Nat.beq i j then false else !comp ps i j
def Zue(ops:U Oper)(ps:U Nat):O (U (U Nat)):=
 bif QH ZaK ops 0&&QH (Zet ops ps) ops 0&&QH (Zf0 ops) ops 0 then some ((List.range ops.length).map (ZjG ps ops.length)) else none
def plan(ops:U Oper):O (U (U Nat)):=Zue ops (XL ops 0 [])
def ZN(o:Oper):Z:=
 match o.op with
 | .move _ | .assign _ | .pick .. | .build .. | .nilCheck _ | .binOp .. | .unOp .. | .makeInterface .. | .makeFunc .. | .fieldAddr .. | .field .. | .indexAddr .. | .typeAssert .. | .extract .. =>true
 | _=>false
def hlAt(ops:U Oper)(j:Nat):Z:=
 match ops[j]? with
 | some o=>ZN o
 | none=>false
def QD(ops:U Oper)(o:Oper)(inc:U Nat):Z:= !ZN o&&inc.all (hlAt ops)
def ZCQ:AN->Z
 | .val _ | .panic _=>true
 | _=>false
def Quiet(nx:AN)(E:Eff):Prop:=E=.none/\ZCQ nx=true
def Zo7{v:O N}{nx:AN}{E:Eff}(h:vN v=some (nx,E)):Quiet nx E:=by
 unfold vN at h;split at h
 ·cases h;exact⟨rfl,rfl⟩
 ·cases h
def Zi8{P:V7}{s:Sem N}{nx:AN}{E:Eff}(h:pN (U0 P s)=some (nx,E)):Quiet nx E:=by
 unfold pN at h;split at h
 ·rename_i nx' e;cases h;unfold U0 at e;split at e
  ·rename_i v _;cases hp:plain v<;>rw[hp]at e<;>simp only[Cq1,Cq0]at e
   ·cases e
   ·cases e;exact⟨rfl,rfl⟩
  ·rename_i v _;cases hp:plain v<;>rw[hp]at e<;>simp only[Cq1,Cq0]at e
   ·cases e
   ·cases e;exact⟨rfl,rfl⟩
  ·cases e
 ·cases h
def ZtE{P:V7}{op:BinOp}{t:J}{x y:V6}{a b:N}{nx:AN}{E:Eff}(h:XT P op t x y a b=some (nx,E)):Quiet nx E:=by
 unfold XT at h;cases hp:(plain a&&plain b)<;>rw[hp]at h<;>simp only[Cq1,Cq0]at h
 ·split at h
  ·split at h
   ·cases h;exact⟨rfl,rfl⟩
   ·cases h
  ·split at h
   ·cases h;exact⟨rfl,rfl⟩
   ·cases h
  ·cases h
 ·exact Zi8 h
def Zgc{X:Ctx}(h g:H){ev:V6->O N}{o:Oper}(ho:ZN o=true):Xm X g ev o=Xm X h ev o:=by
 unfold ZN at ho;unfold Xm;split at ho<;>first | (cases ho;done) | (rename_i e;rw[e])
set_option maxHeartbeats 1000000 in
theorem Zw4 {X:Ctx} {h:H} {ev:Operand ->Option Value} {o:Oper} {nx:AN} {E:Eff} (ho:ZN o=true) (ha:Xm X h ev o=some (nx,E)):Quiet nx E:=by
 unfold ZN at ho;unfold Xm at ha;split at ho
 case h_15=>cases ho
 all_goals
  rename_i e;rw [e] at ha;dsimp only at ha
  repeat' split at ha
  all_goals first
   | exact Zo7 ha
   | exact ZtE ha
   | (cases ha;done)
   | (cases ha;exact⟨rfl,rfl⟩)
   | (rw [Bool.cond_eq_ite] at ha;split at ha <;> first | exact Zi8 ha | exact Zo7 ha | (cases ha;done) | (cases ha;exact⟨rfl,rfl⟩) | (split at ha <;> first | (cases ha;done) | (cases ha;exact⟨rfl,rfl⟩)))
def ZA3(X:Ctx)(YX:V8->Z)(ih:Qn->O YP)(wm:Nat)(free:Z)(ops:U Oper)(o:Oper)(fr:Fr)(h:H):O (O Nat×N×H):=
 bif !okG ops o fr then none else bif Y0 ops o fr then
  match Xm X h (Yo fr) o with
  | some (nx,E)=>match E.apply wm h with
    | some h1=>match nx with
      | .val v=>some (E.tgt,v,h1)
      | .skip=>some (E.tgt,undef,h1)
      | .enter f args=>match ZlW (free||YX f||E.tgt.isSome) wm args h1 with
        | some x=>match ih (.call f args x h1) with
          | some (.fin (.ret v) h2)=>some (some x,v,h2)
          | _=>none
        | none=>match ih (.call f args (bif free && !YX f then wm else h1.size) h1) with
          | some (.fin (.ret v) h2)=>bif YX f&&plain v then some (E.tgt,v,h1) else some (E.tgt,v,h2)
          | _=>none
      | .round l args=>bif free then match ih (.round l args wm h1) with
          | some (.fin (.ret v) h2)=>some (E.tgt,v,h2)
          | _=>none
        else none
      | _=>none
    | none=>none
  | none=>none
 else some (none,undef,h)
def Zq3{X:Ctx}{YX:V8->Z}{ih:Qn->O YP}{n wm:Nat}{wr:O Nat}{free:Z}{ops:U Oper}{o:Oper}{fr:Fr}{h:H}{r:O Nat×N×H}
 (hs:Jt X YX ih n wm wr free ops o fr h=some r) (g:H):Jt X YX ih n wm wr free ops o fr g=ZA3 X YX ih wm free ops o fr g:=by
 unfold Jt at hs ⊢;cases e:o.dst with
 | none=>rfl
 | some d=>
   rw[e]at hs;dsimp only at hs ⊢;cases hb:(Nat.blt d n&&allowed wr d)<;>rw[hb]at hs
   ·cases hs
   ·rfl
def QN{X:Ctx}{YX:V8->Z}{ih:Qn->O YP}{n wm:Nat}{wr:O Nat}{free:Z}{ops:U Oper}{o:Oper}{fr:Fr}{h h1:H}{t:O Nat}{v:N}(ho:ZN o=true)
 (hs:Jt X YX ih n wm wr free ops o fr h=some (t,v,h1)):t=none/\h1=h/\∀g,Jt X YX ih n wm wr free ops o fr g=some (none,v,g):=by
 have hin:=Zq3 hs;simp only[hin]at hs ⊢;clear hin;unfold ZA3 at hs ⊢;cases hok:okG ops o fr<;>rw[hok]at hs<;>simp only[GA,QP,Cq1,Cq0]at hs ⊢
 ·cases hs
 cases hwt:Y0 ops o fr<;>rw[hwt]at hs<;>simp only[Cq1,Cq0]at hs ⊢
 ·cases hs;exact⟨rfl,rfl,fun g=>rfl⟩
 ·have hap:∀g,Eff.apply wm g .none=some g:=fun _=>rfl
  split at hs
  ·rename_i nx E ha;obtain⟨rfl,hq⟩:=Zw4 ho ha;rw[hap]at hs;dsimp only at hs;cases nx with
   | val v'=>
     cases hs;refine⟨rfl,rfl,fun g=>?_⟩;rw[Zgc h g ho,ha];dsimp only;rw[hap];rfl
   | panic v'=>cases hs
   | skip=>cases hq
   | enter f Yf=>cases hq
   | round l Yf=>cases hq
   | dfr d=>cases hq
   | ZlT=>cases hq
  ·cases hs
def ZcD(X:Ctx)(YX:V8->Z)(ih:Qn->O YP)(n wm:Nat)(wr:O Nat)(ops:U Oper):U Oper->U (U Nat)->U (U Nat)->Fr->H->O (U (O Nat×Nat)×U (Fr×H×N)×Fr×H)
 | [],_,_,fr,h=>some ([],[],fr,h)
 | o::l,inc::ZG,X'::Xs,fr,h=>
   match Jt X YX ih n wm wr (QD ops o inc) ops o fr (mask X' h) with
   | some (t,v,h1)=>match ZcD X YX ih n wm wr ops l ZG Xs (QI fr o.dst v) (X6 X' h h1) with
     | some (tl,st,Qp,h2)=>some ((t,h.size)::tl,(fr,h,v)::st,Qp,h2)
     | none=>none
   | none=>none
 | _::_,_,_,_,_=>none
def ZG7(t:O Nat)(X:U Nat):Z:=
 match t with
 | none=>true
 | some x=>!X.contains x
def tIn(soft:Z)(tl:U (O Nat×Nat))(n n1:Nat)(X:U Nat)(j:Nat):Z:=
 match(tl.getD j (none,0)).1 with
 | none=>true
 | some x=>(Nat.blt x n&&(soft||X.contains x))||Nat.ble n1 x
def Zyz(rest:U (O Nat×Nat))(nm:Nat):Nat:=
 match rest with
 | (_,n)::_=>n
 | []=>nm
def ckF(soft:Z)(ops:U Oper)(tl:U (O Nat×Nat))(nm:Nat):U Oper->U (O Nat×Nat)->U (U Nat)->U (U Nat)->Z
 | o::os,(t,n)::rest,inc::ZG,X::Xs=>(bif ZN o then true else bif inc.all (hlAt ops) then X.isEmpty else ZG7 t X&&inc.all (tIn soft tl n (Zyz rest nm) X))&&ckF soft ops tl nm os rest ZG Xs
 | [],_,_,_=>true
 | _,_,_,_=>false
def Zt6(a b:Value):Bool:=
 match a,b with
 | .int k n,.int k' m=>decide (k=k')&&decide (n=m)
 | .bool x,.bool y=>x==y
 | .string s,.string s'=>decide (s.data.toList=s'.data.toList)
 | .pointer none,.pointer none=>true
 | .slice none 0 0,.slice none 0 0=>true
 | .map none,.map none=>true
 | .nilIface,.nilIface=>true
 | _,_=>false
def Zpn{a b:N}(h:Zt6 a b=true):b=a:=by
 unfold Zt6 at h;split at h
 ·rw[Ba0,decide_eq_true_iff,decide_eq_true_iff]at h;rw[h.1,h.2]
 ·rw[eq_of_beq h]
 ·rw[decide_eq_true_iff]at h;rename_i s s';congr 1;cases s;cases s';congr 1;exact(GX.1 h).symm
 all_goals first|rfl|cases h
def Zi3:U N->U N->Z
 | [],[]=>true
 | a::Yf,b::bs=>Zt6 a b&&Zi3 Yf bs
 | _,_=>false
def Zi2:∀{Yf bs:U N},Zi3 Yf bs=true->bs=Yf
 | [],[],_=>rfl
 | a::Yf,b::bs,h=>by
   simp only[Zi3,Ba0]at h;rw[Zpn h.1,Zi2 h.2]
 | [],_::_,h=>by simp[Zi3]at h
 | _::_,[],h=>by simp[Zi3]at h
def Zyf(a b:N):Z:=
 match a,b with
 | .agg xs,.agg ys=>Zi3 xs.toList ys.toList
 | .tuple xs,.tuple ys=>Zi3 xs.toList ys.toList
 | a,b=>Zt6 a b
def Zye{a b:N}(h:Zyf a b=true):b=a:=by
 unfold Zyf at h;split at h
 ·congr 1;exact GX.1 (Zi2 h)
 ·congr 1;exact GX.1 (Zi2 h)
 ·exact Zpn h
def ZaS:YD->Z
 | .row cs _ _=>cs.all plain
 | .map es _=>es.all fun e=>plain e.val
 | _=>false
def Qd.Zuf{ρ ρ':Ren}{w:V9}{b d:Nat}{l:Nat×Nat}{A:YD}(hp:ZaS A=true)(h:Qd ρ w b d l A):Qd ρ' w b d l A:=by
 cases A with
 | row cs own sz=>
   obtain⟨cc,el,fz,a,b,c,e⟩:=h;refine⟨cc,el,fz,a,b,c,fun k v v' x y=>?_⟩;unfold ZaS at hp;rw[Kx]at hp;have hv:=hp v (GZ x);rw[VR.YS hv (e k v v' x y)];exact VR.ZC hv
 | map es clock=>
   obtain⟨a,es',b,c⟩:=h;refine⟨a,es',b,?_⟩;unfold ZaS at hp;rw[Kx]at hp;unfold EsR at c ⊢;generalize es'.toList=l at c ⊢;clear b
   induction c with
   | nil=>exact .nil
   | cons hk hq hb hv _ ih=>
     have h1:=hp _ (Gm ..);refine .cons hk hq hb ?_ (ih fun x hx=>hp x (Kf _ hx));rw[VR.YS h1 hv];exact VR.ZC h1
 | _=>simp[ZaS]at hp
def Zsc(tl:U (O Nat×Nat))(n:Nat)(X:U Nat)(j:Nat):O (Nat×Nat):=
 match(tl.getD j (none,0)).1 with
 | some x=>bif Nat.blt x n && !X.contains x then some (x,j) else none
 | none=>none
def Zhs(tl:U (O Nat×Nat))(n:Nat)(X inc:U Nat):U (Nat×Nat):=inc.filterMap (Zsc tl n X)
def hAt(st:U (Fr×H×N))(hf:H)(k:Nat):H:=
 match st[k]? with
 | some (_,h,_)=>h
 | none=>hf
def ZFm(X:Ctx)(YX:V8->Z)(ih:Qn->O YP)(n wm:Nat)(wr:O Nat)(ops:U Oper)(o:Oper)(fr:Fr)(g:H)(v:N):Z:=
 match Jt X YX ih n wm wr false ops o fr g with
 | some (none,v',h1)=>Nat.beq h1.size g.size&&Zyf v v'
 | _=>false
def Znd(X:Ctx)(YX:V8->Z)(ih:Qn->O YP)(n wm:Nat)(wr:O Nat)(ops:U Oper)(Xs:U (U Nat))(tl:U (O Nat×Nat))(st:U (Fr×H×N))(hf:H)(i x j:Nat):Z:=
 match ops[i]?,st[i]? with
 | some o,some (fr,h,v)=>Nat.blt i j&&(tl.getD i (none,0)).1.isNone&&Nat.beq (hAt st hf (i+1)).size h.size&&ZaS (h.at x)&&ZaS ((hAt st hf (j+1)).at x) &&
    ZFm X YX ih n wm wr ops o fr ((mask (Xs.getD i []) h).put x ((hAt st hf (j+1)).at x)) v
 | _,_=>false
def Zsb(tl:U (O Nat×Nat))(Xs ZG:U (U Nat))(i:Nat):O (Nat×Nat):=
 bif(ZG.getD i []).isEmpty then none else(Zhs tl (tl.getD i (none,0)).2 (Xs.getD i []) (ZG.getD i [])).head?
def Zx5(X:Ctx)(YX:V8->Z)(ih:Qn->O YP)(n wm:Nat)(wr:O Nat)(ops:U Oper)(ZG Xs:U (U Nat))(tl:U (O Nat×Nat))(st:U (Fr×H×N))(hf:H)(i:Nat):Z:=
 bif(ZG.getD i []).isEmpty then true else
 match Zhs tl (tl.getD i (none,0)).2 (Xs.getD i []) (ZG.getD i []) with
 | []=>true
 | p::q=>bif q.isEmpty then Znd X YX ih n wm wr ops Xs tl st hf i p.1 p.2 else false
def JJ(X:Ctx)(YX:V8->Z)(ih:Qn->O YP)(n wm:Nat)(soft:Z)(ops:U Oper)(ZG Xs:U (U Nat))(s:Fs):O (U (O Nat×Nat)×Z×Fs):=
 match ZcD X YX ih n wm s.wr ops ops ZG Xs s.fr s.h with
 | some (tl,st,fr,h)=>some (tl,ckF soft ops tl h.size ops tl ZG Xs&&(bif soft then(List.range ops.length).all (Zx5 X YX ih n wm s.wr ops ZG Xs tl st h) else true),{s with fr:=fr,h:=h})
 | none=>none
def Zfg(tl:U (O Nat×Nat))(inc:U Nat):U Nat:=inc.filterMap fun j=>(tl.getD j (none,0)).1
def ZHC(o:Oper):Z:=
 match o.op with
 | .lookup .. =>true
 | _=>false
def Zx4(tl:U (O Nat×Nat)):U Oper->U (U Nat)->U (U Nat)
 | o::ops,inc::ZG=>(bif ZHC o then [] else Zfg tl inc)::Zx4 tl ops ZG
 | _,_=>[]
def Zyu(r:O (U (O Nat×Nat)×Z×Fs))(k:O Fs):O Fs:=
 match r with
 | some (_,true,s)=>some s
 | _=>k
def ZBd(fr:Fr)(o:Oper):O Nat:=
 o.op.operands.toList.findSome? fun x=>match Yo fr x with
   | some (.slice (some a) _ _)=>some a.block
   | _=>none
def Zyd(X:Ctx)(YX:V8->Z)(ih:Qn->O YP)(n wm:Nat)(wr:O Nat)(ops:U Oper):U Oper->U (U Nat)->Fr->H->O (U (O Nat×Nat×Z))
 | o::l,inc::ZG,fr,h=>
   match Jt X YX ih n wm wr (QD ops o inc) ops o fr h with
   | some (t,v,h1)=>match Zyd X YX ih n wm wr ops l ZG (QI fr o.dst v) h1 with
     | some tl=>some ((t,h.size,false)::tl)
     | none=>none
   | none=>match Jt X YX ih n wm wr true ops o fr h with
     | some (_,v,h1)=>match Zyd X YX ih n wm wr ops l ZG (QI fr o.dst v) h1 with
       | some tl=>some ((ZBd fr o,h.size,true)::tl)
       | none=>none
     | none=>none
 | _,_,_,_=>some []
def upTo:Nat->Nat->U Nat
 | 0,_=>[]
 | k+1,y=>y::upTo k (y+1)
def Znk(tl:U (O Nat×Nat)):U (O Nat×Nat×Z)->U (U Nat)->U (U Nat)
 | (some x,n,true)::l,inc::ZG=>(Zfg tl (inc.filter fun j=>match(tl.getD j (none,0)).1 with|some y=>Nat.blt y x|none=>false)++upTo (n-(x+1)) (x+1))::Znk tl l ZG
 | _::l,inc::ZG=>Zfg tl inc::Znk tl l ZG
 | _,_=>[]
def Zvv(X:Ctx)(YX:V8->Z)(ih:Qn->O YP)(n wm:Nat)(ops:U Oper)(s:Fs):O Fs:=
 match plan ops with
 | some ZG=>match JJ X YX ih n wm false ops ZG (ZG.map fun _=>[]) s with
   | some (tl,ok,s')=>bif ok then some s' else Zyu (JJ X YX ih n wm false ops ZG (ZG.map (Zfg tl)) s) (Zyu (JJ X YX ih n wm true ops ZG (Zx4 tl ops ZG) s) none)
   | none=>match Zyd X YX ih n wm s.wr ops ops ZG s.fr s.h with
     | some tl=>Zyu (JJ X YX ih n wm false ops ZG (Znk (tl.map fun p=>(p.1,p.2.1)) tl ZG) s) none
     | none=>none
 | none=>none
def ZgA{r:O (U (O Nat×Nat)×Z×Fs)}{k:O Fs}{s:Fs}(h:Zyu r k=some s):(∃tl,r=some (tl,true,s))\/k=some s:=by
 unfold Zyu at h;split at h
 ·cases h;exact .inl ⟨_,rfl⟩
 ·exact .inr h
def ZeM{X:Ctx}{YX:V8->Z}{ih:Qn->O YP}{n wm:Nat}{ops:U Oper}{s s':Fs}(h:Zvv X YX ih n wm ops s=some s'):
 ∃soft ZG Xs tl,plan ops=some ZG/\JJ X YX ih n wm soft ops ZG Xs s=some (tl,true,s'):=by
 unfold Zvv at h;split at h
 ·rename_i ZG hp;split at h
  ·rename_i tl ok s1 h1;cases ok with
   | true=>cases h;exact⟨_,_,_,_,hp,h1⟩
   | false=>
     rcases ZgA h with⟨tl,h⟩|h
     ·exact⟨_,_,_,_,hp,h⟩
     ·rcases ZgA h with⟨tl,h⟩|h
      ·exact⟨_,_,_,_,hp,h⟩
      ·cases h
  ·split at h
   ·rcases ZgA h with⟨tl,h⟩|h
    ·exact⟨_,_,_,_,hp,h⟩
    ·cases h
   ·cases h
 ·cases h
variable{X:Ctx}{YX:V8->Z}{ih:Qn->O YP}
def ZwQ{n wm:Nat}{wr:O Nat}{ops:U Oper}:∀(l:U Oper)(ZG Xs:U (U Nat))(fr fr':Fr)(h h':H)(tl:U (O Nat×Nat))(st:U (Fr×H×N)),ZcD X YX ih n wm wr ops l ZG Xs fr h=some (tl,st,fr',h') ->
 ∃(hs:Nat->H) (fs:Nat->Fr) (vs:Nat->N),hs 0=h/\fs 0=fr/\hs l.length=h'/\fs l.length=fr'/\tl.length=l.length/\st.length=l.length/\(∀k,k<l.length->st[k]? =some (fs k,hs k,vs k))/\
   ∀k o,l[k]? =some o->∃t h1,tl[k]? =some (t,(hs k).size)/\Jt X YX ih n wm wr (QD ops o (ZG.getD k [])) ops o (fs k) (mask (Xs.getD k []) (hs k))=some (t,vs k,h1)/\
     hs (k+1)=X6 (Xs.getD k []) (hs k) h1/\fs (k+1)=QI (fs k) o.dst (vs k):=by
 intro l
 induction l with
 | nil=>
   intro ZG Xs fr fr' h h' tl st hr;simp only[ZcD,J1,Prod.mk.injEq]at hr;obtain⟨rfl,rfl,rfl,rfl⟩:=hr;exact⟨fun _=>h,fun _=>fr,fun _=>undef,rfl,rfl,rfl,rfl,rfl,rfl,fun k hk=>by simp at hk,fun k o e=>by simp at e⟩
 | cons o l ih'=>
   intro ZG Xs fr fr' h h' tl st hr
   match ZG,Xs,hr with
   | inc::ZG,X'::Xs,hr=>
     simp only[ZcD]at hr;split at hr
     ·rename_i t v h1 hd;split at hr
      ·rename_i tl2 st2 Qp h2 hr2;cases hr;obtain⟨hs,fs,vs,e1,e2,e3,e4,e5,e7,e8,e6⟩:=ih' ZG Xs _ _ _ _ _ _ hr2;refine⟨fun k=>match k with|0=>h|k+1=>hs k,fun k=>match k with|0=>fr|k+1=>fs k,fun k=>match k with|0=>v|k+1=>vs k,rfl,rfl,e3,e4,by simp[e5],by simp[e7],?_,?_⟩
       ·intro k hk;cases k with
        | zero=>rfl
        | succ k=>exact e8 k (by simpa using hk)
       intro k o' ho';cases k with
       | zero=>
         simp at ho';subst ho';exact⟨t,h1,rfl,hd,e1,e2⟩
       | succ k=>
         obtain⟨t',h1',q1,q2,q3,q4⟩:=e6 k o' (by simpa using ho');exact⟨t',h1',q1,q2,q3,q4⟩
      ·cases hr
     ·cases hr
   | [],_,hr=>simp[ZcD]at hr
   | _::_,[],hr=>simp[ZcD]at hr
def Zrb{soft:Z}{ops:U Oper}{tl:U (O Nat×Nat)}{nm:Nat}:∀(os:U Oper)(rest:U (O Nat×Nat))(ZG Xs:U (U Nat)),ckF soft ops tl nm os rest ZG Xs=true->∀k t n o,rest[k]? =some (t,n)->os[k]? =some o ->
 ZN o=true\/(QD ops o (ZG.getD k [])=true/\(Xs.getD k [])=[])\/(ZN o=false/\QD ops o (ZG.getD k [])=false/\ZG7 t (Xs.getD k [])=true/\∀j∈ZG.getD k [],tIn soft tl n (Zyz (rest.drop (k+1)) nm) (Xs.getD k []) j=true):=by
 intro os
 induction os with
 | nil=>intro rest ZG Xs _ k t n o _ h;simp at h
 | cons o0 os ih'=>
   intro rest ZG Xs hc k t n o hk ho
   match rest,ZG,Xs,hc with
   | (t0,n0)::rest,inc::ZG,X'::Xs,hc=>
     simp only[ckF,Ba0]at hc;cases k with
     | zero=>
       simp at hk ho;obtain⟨rfl,rfl⟩:=hk;subst ho;simp only[List.getD_cons_zero,G4,List.drop_succ_cons,List.drop_zero];cases hh:ZN o0 with
       | true=>exact .inl rfl
       | false=>
         right;rw[hh]at hc;simp only[Cq0]at hc;unfold QD;rw[hh];cases he:inc.all (hlAt ops) with
         | true=>left;rw[he]at hc;exact⟨rfl,by simpa using hc.1⟩
         | false=>
           right;rw[he]at hc;simp only[Cq0,Ba0,Kx]at hc;exact⟨rfl,rfl,hc.1.1,hc.1.2⟩
     | succ k=>
       simpa using ih' rest ZG Xs hc.2 k t n o (by simpa using hk) (by simpa using ho)
   | [],_,_,hc=>simp[ckF]at hc
   | _::_,[],_,hc=>simp[ckF]at hc
   | _::_,_::_,[],hc=>simp[ckF]at hc
def ZaD{ps:U Nat}{i k:Nat}(h:comp ps i k=true):bit (ps.getD i 0) k=true\/bit (ps.getD k 0) i=true:=by
 unfold comp at h;cases hb:Nat.blt i k<;>rw[hb]at h
 ·exact .inl h
 ·exact .inr h
def Qk.same{P:V7}{wm:Nat}{rd:O Nat}{ops:Va Oper}{o:Oper}{fr:Fr}{h h':H}{v:N}(hst:Qk P wm rd ops o (fun _=>False) fr h v h')(hs:h'.size=h.size)(km:J8 (fun _=>False) h h'):
 Qk P wm rd ops o (fun _=>False) fr h v h:=by
 intro ρ a w F K Q r Zt hf hF hK
 have hat:∀i,h'.at i=h.at i:=by
  intro i;by_cases hi:i<h.size
  ·exact km.keep i hi fun z=>z
  ·rw[H.Za8 Vg,H.Za8 Vg]
 refine hst ρ a w F K Q r Zt hf hF fun ρ' v' w' hv hr st=>hK ρ' v' w' hv ⟨fun i b d e=>?_,fun i b d e=>?_,fun i j b d d' e e' h1 h2=>?_⟩ st
 ·rw[<-hs];exact hr.dom i b d e
 ·rw[<-hat];exact hr.obj i b d e
 ·rw[<-hat]at h1 h2;exact hr.inj i j b d d' e e' h1 h2
def ZtB(HI:∀j r,ih j=some r->Yq X j r)(HK:∀j r,ih j=some r->Ja j r){n wm:Nat}{rd:O Nat}{soft:Z}{ops:Va Oper}{ZG Xs:U (U Nat)}{s s':Fs}{tl:U (O Nat×Nat)}
 (hp:plan ops.toList=some ZG) (hr:JJ X YX ih n wm soft ops.toList ZG Xs s=some (tl,true,s')) (Zt:wm<=s.h.size):
 ∃D:Data X.P n wm rd ops,D.hs 0=s.h/\D.fs 0=s.fr/\D.hs ops.size=s'.h/\D.fs ops.size=s'.fr/\s'.ds=s.ds:=by
 unfold JJ at hr;split at hr
 ·rename_i tl' st' fr' h' hd;simp only[J1,Prod.mk.injEq]at hr;obtain⟨rfl,hck,rfl⟩:=hr;rw[Ba0]at hck;obtain⟨hck,ZHN⟩:=hck;obtain⟨hs,fs,vs,e1,e2,e3,e4,e5,e7,e8,e6⟩:=ZwQ _ _ _ _ _ _ _ _ _ hd;unfold plan Zue at hp;cases hall:(QH ZaK ops.toList 0&&QH (Zet ops.toList (XL ops.toList 0 [])) ops.toList 0&&QH (Zf0 ops.toList) ops.toList 0)<;>rw[hall]at hp<;>simp only[Cq1,Cq0]at hp
  ·cases hp
  simp only[J1]at hp;rw[Ba0,Ba0]at hall;obtain⟨⟨Za2,Zcl⟩,hdst⟩:=hall;have Za2:=Yv _ _ Za2;have Zcl:=Yv _ _ Zcl;have hdst:=Yv _ _ hdst;have hget:∀{k:Nat}{o:Oper},ops[k]? =some o->ops.toList[k]? =some o:=fun h=>by rwa[G8]
  have hlt:∀{k:Nat}{o:Oper},ops[k]? =some o->k<ops.size:=fun h=>(Jn.1 h).1
  have hpos:∀{k:Nat},k<ops.size->∃o,ops[k]? =some o:=fun{k} h=>⟨ops[k],by simp[h]⟩
  have hinc:∀i,i<ops.size->ZG.getD i []=ZjG (XL ops.toList 0 []) ops.toList.length i:=by
   intro i hi;rw[<-hp,Gi];simp[hi]
  have hspec:=(Zcc ops.toList 0 [] rfl).2
  have hsz:∀k,k<=ops.size->wm<=(hs k).size/\s.h.size<=(hs k).size:=by
   intro k
   induction k with
   | zero=>intro _;rw[e1];exact⟨Zt,K1 _⟩
   | succ k ihk=>
     intro hk;obtain⟨o,ho⟩:=hpos (show k<ops.size by omega);obtain⟨t,h1,q1,q2,q3,q4⟩:=e6 k o (hget ho);obtain⟨km,_,_⟩:=Xw HK q2 (by rw[Zp];exact(ihk Vg).1);have:=km.size;rw[Zp]at this;rw[q3,YR];have:=ihk Vg;omega
  have htl:∀{k:Nat}{t:O Nat}{m:Nat},tl'[k]? =some (t,m)->(tl'.getD k (none,0)).1=t:=by
   intro k t m h;rw[Gi,h];rfl
  have htn:∀{k:Nat}{t:O Nat}{m:Nat},tl'[k]? =some (t,m)->(tl'.getD k (none,0)).2=m:=by
   intro k t m h;rw[Gi,h];rfl
  have ZMJ:∀k,k<=ops.size->hAt st' h' k=hs k:=by
   intro k hk;unfold hAt;by_cases hk':k<ops.size
   ·rw[e8 k (by simpa using hk')]
   ·have:k=ops.toList.length:=by simp;omega
    rw[Jx (by rw[e7];omega),this,e3]
  have ZuF:soft=true->∀i,i<ops.size->(ZG.getD i []).isEmpty=false->Zhs tl' (tl'.getD i (none,0)).2 (Xs.getD i []) (ZG.getD i [])=[]\/
   ∃p,Zhs tl' (tl'.getD i (none,0)).2 (Xs.getD i []) (ZG.getD i [])=[p]/\Znd X YX ih n wm s.wr ops.toList Xs tl' st' h' i p.1 p.2=true:=by
   intro hs1 i hi hne;rw[hs1]at ZHN;simp only[Cq1,Kx]at ZHN;have:=ZHN i (by simpa using hi);unfold Zx5 at this;rw[hne]at this;simp only[Cq0]at this;split at this
   ·rename_i e;exact .inl e
   ·rename_i p q e;cases q with
    | nil=>exact .inr ⟨p,e,this⟩
    | cons _ _=>cases this
  refine⟨{hs:=hs,fs:=fs,vs:=vs,mo:=fun k=>MOf (match ops[k]? with|some o=>QD ops.toList o (ZG.getD k []) | none=>true) wm (tl'.getD k (none,0)).1,Xs:=fun k=>Xs.getD k [],hl:=hlAt ops.toList,soft:=fun k=>bif soft then Zsb tl' Xs ZG k else none,Pb:=fun j k=>bit ((XL ops.toList 0 []).getD j 0) k=true,
          ZlS:=by rw[e1];exact Zt,step:= ?_,wmM:= ?_,dst:= ?_,Zdb:= ?_,Zmz:= ?_,inc:= ?_,ZDE:= ?_,Zne:= ?_,MX:= ?_,looks:= ?_,ZA2:= ?_},e1,e2,by rw[<-e3];simp,by rw[<-e4];simp,rfl⟩
  ·intro k o ho;obtain⟨t,h1,q1,q2,q3,q4⟩:=e6 k o (hget ho);have hw:=(hsz k (GR (hlt ho))).1;obtain⟨km,_,_⟩:=Xw HK q2 (by rw[Zp];exact hw);rw[htl q1,ho];exact⟨h1,JI HI HK q2,km,q3,q4⟩
  ·intro k x hk hx;obtain⟨o,ho⟩:=hpos hk;obtain⟨t,h1,q1,q2,q3,q4⟩:=e6 k o (hget ho);have hw:=(hsz k (GR hk)).1;obtain⟨_,hm,_⟩:=Xw HK q2 (by rw[Zp];exact hw);rw[htl q1,ho]at hx;exact hm x hx
  ·intro k o d ho hd;obtain⟨t,h1,q1,q2,q3,q4⟩:=e6 k o (hget ho);have hw:=(hsz k (GR (hlt ho))).1;obtain⟨_,_,h3⟩:=Xw HK q2 (by rw[Zp];exact hw);exact(h3 d hd).1
  ·intro j k h;obtain⟨o,ho,e,he,hb,hk⟩:=hspec j k (Gv _) h;exact⟨o,e,by rw[<-G8];simpa using ho,by simpa using he,hb,hk⟩
  ·intro j o e ho he hb;have:=Za2 j o (hget ho);unfold ZaK at this;rw[Kx]at this;have:=this e (by simpa using he);rw[hb]at this
   simpa[G6]using this
  ·intro i j hi hj hne h1 h2 hhl x hx hxj;obtain⟨o,ho⟩:=hpos hi;obtain⟨t,h3,q1,q2,q3,q4⟩:=e6 i o (hget ho)
   have hnc:comp (XL ops.toList 0 []) i j=false:=by
    rw[Gh];intro hc;rcases ZaD hc with z|z
    ·exact h1 z
    ·exact h2 z
   have hnc':comp (XL ops.toList 0 []) j i=false:=by
    rw[Gh];intro hc;rcases ZaD hc with z|z
    ·exact h2 z
    ·exact h1 z
   have hmem:j∈ZG.getD i []:=by
    rw[hinc i hi];unfold ZjG;rw[GP];have hb:Nat.beq i j=false:=by rw[QG];simpa using hne
    exact⟨by simpa using hj,by rw[hb,hnc];rfl⟩
   have hmem':i∈ZG.getD j []:=by
    rw[hinc j hj];unfold ZjG;rw[GP];have hb:Nat.beq j i=false:=by rw[QG];simpa using Ne.symm hne
    exact⟨by simpa using hi,by rw[hb,hnc'];rfl⟩
   have hhi:ZN o=false:=by
    unfold hlAt at hhl
    rwa[hget ho]at hhl
   obtain⟨oj,hoj⟩:=hpos hj
   have hjf:QD ops.toList oj (ZG.getD j [])=false:=by
    unfold QD;rw[Bool.and_eq_false_iff];right;rw[Gh];intro hall;rw[Kx]at hall;rw[hall i hmem']at hhl;cases hhl
   rw[hoj]at hx;dsimp only at hx;unfold MOf at hx;rw[if_neg (by rw[hjf];simp)]at hx;rcases Zrb _ _ _ _ hck i t _ o q1 (hget ho) with z|⟨z,_⟩|⟨_,_,_,z⟩
   ·rw[hhi]at z;cases z
   ·unfold QD at z;rw[Ba0,Kx]at z;have zj:=z.2 j hmem;unfold hlAt at zj;rw[hget hoj]at zj;obtain⟨tj,hj1,r1,r2,r3,r4⟩:=e6 j oj (hget hoj);have:=(QN zj r2).1;rw[htl r1,this]at hx;cases hx
   ·have:=z j hmem;unfold tIn at this;rw[hx]at this;simp only[GL,Ba0,G6,Gs]at this;refine this.imp (fun h4=>⟨h4.1,?_⟩) fun h4=>?_
    ·by_cases hXx:x∈Xs.getD i []
     ·exact .inl hXx
     refine .inr ?_;have hs1:soft=true:=h4.2.resolve_right hXx
     have hif:(ZG.getD i []).isEmpty=false:=by
      cases hh:ZG.getD i [] with
      | nil=>rw[hh]at hmem;cases hmem
      | cons _ _=>rfl
     have hin:(x,j)∈Zhs tl' (tl'.getD i (none,0)).2 (Xs.getD i []) (ZG.getD i []):=by
      unfold Zhs;rw[List.mem_filterMap];refine⟨j,hmem,?_⟩;unfold Zsc;rw[hx,htn q1]
      have:(Nat.blt x (hs i).size && !(Xs.getD i []).contains x)=true:=by
       rw[Ba0,G6,Bool.not_eq_true'];exact⟨h4.1,by rw[Gh];intro z;rw[Gs]at z;exact hXx z⟩
      simp only[this,Cq1]
     simp only[hs1,Cq1];unfold Zsb;rw[hif];simp only[Cq0];rcases ZuF hs1 i hi hif with z|⟨p,z,_⟩
     ·rw[z]at hin;cases hin
     ·rw[z]at hin ⊢;rw[Q2]at hin;rw[<-hin];rfl
    have h5:=Nl0 h4
    have hn:Zyz (tl'.drop (i+1)) h'.size=(hs (i+1)).size:=by
     by_cases hi1:i+1<ops.size
     ·obtain⟨o',ho'⟩:=hpos hi1;obtain⟨t',_,r1,_⟩:=e6 (i+1) o' (hget ho')
      have:tl'.drop (i+1)=(t',(hs (i+1)).size)::tl'.drop (i+2):=by
       obtain⟨hl,he⟩:=Li0 r1;rw[List.drop_eq_getElem_cons hl,he]
      rw[this];rfl
     ·have hlen:i+1=ops.toList.length:=by simp;omega
      have:tl'.drop (i+1)=[]:=by rw[List.drop_eq_nil_iff,e5];omega
      rw[this,hlen,e3];rfl
    rw[hn]at h5;exact h5
  ·intro i o ho hh;have hi:=hlt ho;obtain⟨t,h3,q1,q2,q3,q4⟩:=e6 i o (hget ho);have hho:ZN o=true:=by unfold hlAt at hh;rwa[hget ho]at hh
   obtain⟨rfl,rfl,hg⟩:=QN hho q2;have hfr:QD ops.toList o (ZG.getD i [])=false:=by unfold QD;rw[hho];rfl
   have hM:MOf false wm none=fun _=>False:=by
    funext x;unfold MOf;rw[if_neg (by simp)];simp
   refine⟨fun y hy=>?_,?_,fun g=>?_⟩
   ·rw[htl q1,ho]at hy;dsimp only at hy;rw[hfr,hM]at hy;exact hy
   ·rw[q3,YR,Zp]
   ·have hst:=JI (rd:=rd) HI HK (hg g);rw[hfr,hM]at hst;exact hst
  ·intro i o x j ho hso;have hi:=hlt ho;obtain⟨t,h3,q1,q2,q3,q4⟩:=e6 i o (hget ho);have hs1:soft=true:=by cases soft with|true=>rfl|false=>cases hso
   simp only[hs1,Cq1]at hso;unfold Zsb at hso;cases hif:(ZG.getD i []).isEmpty<;>rw[hif]at hso<;>simp only[Cq1,Cq0]at hso
   case true=>cases hso
   rcases ZuF hs1 i hi hif with z|⟨p,z,hone⟩
   ·rw[z]at hso;cases hso
   rw[z]at hso;cases hso;have hmem:(x,j)∈Zhs tl' (tl'.getD i (none,0)).2 (Xs.getD i []) (ZG.getD i []):=by rw[z];simp
   unfold Zhs at hmem;rw[List.mem_filterMap]at hmem;obtain⟨j',hj',hm⟩:=hmem;unfold Zsc at hm;split at hm
   case h_2=>cases hm
   rename_i x' hx';cases hbb:(Nat.blt x' (tl'.getD i (none,0)).2 && !(Xs.getD i []).contains x')<;>rw[hbb]at hm<;>simp only[Cq1,Cq0]at hm
   ·cases hm
   cases hm;rw[Ba0,G6,htn q1]at hbb
   have hjm:j<ops.size:=by
    rcases Gk j ops.size with z|z
    ·exact z
    ·rw[Gi,Jx (by rw[e5];simpa using z)]at hx';cases hx'
   unfold Znd at hone;rw[hget ho,e8 i (by simpa using hi)]at hone;simp only[Ba0,G6,ZMJ (i+1) Vg,ZMJ (j+1) Vg]at hone;obtain⟨⟨⟨⟨⟨o1,o2⟩,o3⟩,o4⟩,o5⟩,o6⟩:=hone;have ht:t=none:=by rw[htl q1]at o2;simpa using o2
   subst ht
   have hff:QD ops.toList o (ZG.getD i [])=false:=by
    rw[Gh];intro hf;unfold QD at hf;rw[Ba0,Kx]at hf;have zj:=hf.2 j hj';obtain⟨oj,hoj⟩:=hpos hjm;unfold hlAt at zj;rw[hget hoj]at zj;obtain⟨tj,hj1,r1,r2,r3,r4⟩:=e6 j oj (hget hoj);rw[htl r1,(QN zj r2).1]at hx';cases hx'
   rw[hff]at q2
   have hM:MOf false wm none=fun _=>False:=by
    funext x;unfold MOf;rw[if_neg (by simp)];simp
   have hw:=(hsz i (GR hi)).1;refine⟨o1,hjm,hbb.1,fun y hy=>?_,Nb0 o3,fun _ _ _ _ _ _ h=>h.Zuf o4,fun _ _ _ _ _ _ h=>h.Zuf o5,?_,?_⟩
   ·rw[htl q1,ho]at hy;dsimp only at hy;rw[hff,hM]at hy;exact hy
   ·have km:=(Xw HK q2 (by rw[Zp];exact hw)).1;have hst:=JI (rd:=rd) HI HK q2;rw[hM]at km hst
    have hsz1:h3.size=(mask (Xs.getD i []) (hs i)).size:=by
     have:=Nb0 o3;rw[q3,YR]at this;rw[Zp];exact this
    exact hst.same hsz1 km
   ·unfold ZFm at o6;split at o6
    case h_2=>cases o6
    rename_i v' h4 hd4;rw[Ba0]at o6;obtain⟨p1,p2⟩:=o6;rw[Zye p2]at hd4;have km:=(Xw HK hd4 (by rw[H.size_put,Zp];exact hw)).1;have hst:=JI (rd:=rd) HI HK hd4;rw[hM]at km hst;exact hst.same (Nb0 p1) km
  ·intro i x hi hx hxi;obtain⟨o,ho⟩:=hpos hi;obtain⟨t,h3,q1,q2,q3,q4⟩:=e6 i o (hget ho);rw[ho]at hx;dsimp only at hx;rcases Zrb _ _ _ _ hck i t _ o q1 (hget ho) with z|⟨z1,z2⟩|⟨_,z1,z2,_⟩
   ·have hfr:QD ops.toList o (ZG.getD i [])=false:=by unfold QD;rw[z];rfl
    rw[hfr]at hx;unfold MOf at hx;rw[if_neg (by simp),htl q1,(QN z q2).1]at hx;cases hx
   ·rw[z2];simp
   ·unfold MOf at hx;rw[if_neg (by rw[z1];simp),htl q1]at hx;subst hx;unfold ZG7 at z2
    simpa using z2
  ·intro i o t ho ht k o' ho' hd;have:=Zcl i o (hget ho);unfold Zet at this;rw[Kx]at this;have:=Yv _ _ (this t ht) k o' (hget ho');rw[Zax.2 hd]at this;simp only[Cq1,GL,G4]at this;rcases this with z|z
   ·exact .inl (Nb0 z)
   ·exact .inr (ZaD z)
  ·intro i j o o' t ho ho' hd hd';have:=hdst i o (hget ho);unfold Zf0 at this;rw[hd]at this;have:=Yv _ _ this j o' (hget ho');rw[Zax.2 hd']at this;simp only[Cq1,G4]at this;exact(Nb0 this).symm
 ·cases hr
def Zlv(HK:∀j r,ih j=some r->Ja j r){n wm:Nat}{soft:Z}{ops:U Oper}{ZG Xs:U (U Nat)}{s s':Fs}{tl:U (O Nat×Nat)}{ok:Z}
 (hr:JJ X YX ih n wm soft ops ZG Xs s=some (tl,ok,s')) (Zt:wm<=s.h.size):Yr wm s.h s'.h:=by
 have main:∀(wr:O Nat)(l:U Oper)(ZG Xs:U (U Nat))(fr fr':Fr)(h h':H)(tl:U (O Nat×Nat))(st:U (Fr×H×N)),ZcD X YX ih n wm wr ops l ZG Xs fr h=some (tl,st,fr',h')->wm<=h.size->Yr wm h h':=by
  intro wr l
  induction l with
  | nil=>intro ZG Xs fr fr' h h' tl st hr _;simp only[ZcD,J1,Prod.mk.injEq]at hr;obtain⟨_,_,_,rfl⟩:=hr;exact Yr.refl _ _
  | cons o l ihl=>
    intro ZG Xs fr fr' h h' tl st hr hw
    match ZG,Xs,hr with
    | inc::ZG,X'::Xs,hr=>
      simp only[ZcD]at hr;split at hr
      ·rename_i t v h1 hd;split at hr
       ·rename_i tl2 st2 Qp h2 hr2;cases hr;obtain⟨km,hm,_⟩:=Xw HK hd (by rw[Zp];exact hw);have hsz:=km.size;rw[Zp]at hsz
        have k1:Yr wm h (X6 X' h h1):=by
         refine⟨by rw[YR];exact hsz,fun i hi=>?_,fun i hi ho=>?_,fun i hi ho=>?_⟩
         ·rw[XZ _ _ _ hsz];by_cases hX:i∈X'/\i<h.size
          ·rw[if_pos hX]
          ·rw[if_neg hX,km.keep i (by rw[Zp];omega) (fun z=>by have:=hm i z;omega),Xp,if_neg fun z=>hX ⟨z,by omega⟩]
         ·rw[XZ _ _ _ hsz]at ho;by_cases hX:i∈X'/\i<h.size
          ·rwa[if_pos hX]at ho
          ·rw[if_neg hX]at ho;have:=km.own i (by rw[Zp];exact hi) ho;rw[Xp,if_neg fun z=>hX ⟨z,hi⟩]at this;exact this
         ·rw[XZ _ _ _ hsz]at ho;by_cases hX:i∈X'/\i<h.size
          ·rwa[if_pos hX]at ho
          ·rw[if_neg hX]at ho;have:=km.live i (by rw[Zp];exact hi) ho;rw[Xp,if_neg fun z=>hX ⟨z,hi⟩]at this;exact this
        exact k1.next hw (ihl _ _ _ _ _ _ _ _ hr2)
       ·cases hr
      ·cases hr
    | [],_,hr=>simp[ZcD]at hr
    | _::_,[],hr=>simp[ZcD]at hr
 unfold JJ at hr;split at hr
 ·rename_i tl' st' fr' h' hd;simp only[J1,Prod.mk.injEq]at hr;obtain⟨_,_,rfl⟩:=hr;exact main _ _ _ _ _ _ _ _ _ _ hd Zt
 ·cases hr
inductive UY where
 | lst (l:List Nat)
 | all (n:Nat) (R:List Nat)
def UY.get(wm:Nat):UY->U Nat
 | .lst l=>l
 | .all n R=>(upTo (n-wm) wm).filter fun x=>!R.contains x
def ZyP:∀(k y x:Nat),x∈upTo k y↔y<=x/\x<y+k:=by
 intro k
 induction k with
 | zero=>
   intro y x
   constructor
   ·intro h;cases h
   ·intro h;omega
 | succ k ih=>intro y x;rw[upTo,Kd,ih];omega
def UY.ZC8{wm n x:Nat}{R:U Nat}:x∈(UY.all n R).get wm↔(wm<=x/\x<n)/\x∉R:=by
 show x∈(upTo (n-wm) wm).filter _↔_;rw[GP,ZyP]
 constructor
 ·rintro⟨h1,h2⟩;refine⟨by omega,fun z=>?_⟩;rw[Gs.2 z]at h2;cases h2
 ·rintro⟨h1,h2⟩;refine⟨by omega,?_⟩;rw[Bool.not_eq_true',Gh];exact fun z=>h2 (Gs.1 z)
def KQ(w:Z)(o:Oper):Z:=w && !ZN o
def WM(X:Ctx)(YX:V8->Z)(ih:Qn->O YP)(n wm:Nat)(wr:O Nat)(ops:U Oper):U Oper->U (U Nat)->U (UY×Z)->Fr->H->O (U (O Nat×Nat)×Fr×H)
 | [],_,_,fr,h=>some ([],fr,h)
 | o::l,inc::ZG,sp::Un,fr,h=>
   match Jt X YX ih n wm wr (QD ops o inc||KQ sp.2 o) ops o fr (mask (sp.1.get wm) h) with
   | some (t,v,h1)=>match WM X YX ih n wm wr ops l ZG Un (QI fr o.dst v) (X6 (sp.1.get wm) h h1) with
     | some (tl,Qp,h2)=>some ((t,h.size)::tl,Qp,h2)
     | none=>none
   | none=>none
 | _::_,_,_,_,_=>none
def xAt(Un:U (UY×Z))(j:Nat):UY:=(Un.getD j (.lst [],false)).1
def wAt(ops:U Oper)(Un:U (UY×Z))(j:Nat):Z:=
 match ops[j]? with
 | some o=>KQ (Un.getD j (.lst [],false)).2 o
 | none=>false
def eqL:U Nat->U Nat->Z
 | [],[]=>true
 | a::l,b::m=>Nat.beq a b&&eqL l m
 | _,_=>false
def ZA0:∀{l m:U Nat},eqL l m=true->l=m
 | [],[],_=>rfl
 | a::l,b::m,h=>by
   unfold eqL at h;rw[Ba0]at h;rw[Nb0 h.1,ZA0 h.2]
 | [],_::_,h=>by cases h
 | _::_,[],h=>by cases h
def nAt(tl:U (O Nat×Nat))(nm k:Nat):Nat:=
 match tl[k]? with
 | some p=>p.2
 | none=>nm
def ckJ(wm:Nat)(ops:U Oper)(Un:U (UY×Z))(tl:U (O Nat×Nat))(nm i j:Nat):Z:=
 bif wAt ops Un j then(match xAt Un i,xAt Un j with
  | .all n R,.lst R'=>Nat.beq n (nAt tl nm j)&&eqL R R'&&Nat.beq (nAt tl nm (i+1)) (nAt tl nm i)
  | _,_=>false)
 else match(tl.getD j (none,0)).1 with
  | none=>true
  | some x=>(Nat.blt x (nAt tl nm i)&&((xAt Un i).get wm).contains x)||Nat.ble (nAt tl nm (i+1)) x
def ckI(wm:Nat)(ops:U Oper)(ZG:U (U Nat))(Un:U (UY×Z))(tl:U (O Nat×Nat))(nm i:Nat):Z:=
 match ops[i]? with
 | some o=>ZN o||QD ops o (ZG.getD i [])||(bif wAt ops Un i then(ZG.getD i []).all (fun j=>hlAt ops j||(!wAt ops Un j&&(tl.getD j (none,0)).1.isNone)) else(ZG.getD i []).all (ckJ wm ops Un tl nm i))
 | none=>false
def Zsh(X:Ctx)(YX:V8->Z)(ih:Qn->O YP)(n wm:Nat)(wr:O Nat)(ops:U Oper):U Oper->U (U Nat)->Fr->H->O (U (O Nat×Nat×Z)×Fr)
 | o::l,inc::ZG,fr,h=>
   match Jt X YX ih n wm wr (QD ops o inc) ops o fr h with
   | some (t,v,h1)=>match Zsh X YX ih n wm wr ops l ZG (QI fr o.dst v) h1 with
     | some (tl,Qp)=>some ((t,h.size,false)::tl,Qp)
     | none=>none
   | none=>match Jt X YX ih n wm wr true ops o fr h with
     | some (_,v,h1)=>match Zsh X YX ih n wm wr ops l ZG (QI fr o.dst v) h1 with
       | some (tl,Qp)=>some ((none,h.size,true)::tl,Qp)
       | none=>none
     | none=>none
 | _,_,fr,_=>some ([],fr)
def ZEM(fr:Fr)(x:V6):O Nat:=
 match Yo fr x with
 | some (.pointer (some a))=>some a.block
 | some (.slice (some a) _ _)=>some a.block
 | some (.map (some b))=>some b
 | _=>none
def ZFG(ops:U Oper)(fr:Fr)(inc:U Nat):U Nat:=
 inc.flatMap fun j=>match ops[j]? with
  | some o=>bif ZN o then [] else o.op.operands.toList.filterMap (ZEM fr)
  | none=>[]
def specs(ops:U Oper)(tl:U (O Nat×Nat×Z))(fr:Fr)(ZG:U (U Nat)):U Oper->U (U Nat)->U (O Nat×Nat×Z)->U (UY×Z)
 | o::l,inc::is,(_,_,w)::tr=>(bif w then(.lst (ZFG ops fr inc),true) else match inc.find? fun j=>(tl.getD j (none,0,false)).2.2 with
    | some j=>bif ZN o then(.lst [],false) else(.all (tl.getD j (none,0,false)).2.1 (ZFG ops fr (ZG.getD j [])),false)
    | none=>(.lst (Zfg (tl.map fun p=>(p.1,p.2.1)) inc),false))::specs ops tl fr ZG l is tr
 | _,_,_=>[]
def ZhP(X:Ctx)(YX:V8->Z)(ih:Qn->O YP)(n wm:Nat)(ops:U Oper)(ZG:U (U Nat))(Un:U (UY×Z))(s:Fs):O Fs:=
 match WM X YX ih n wm s.wr ops ops ZG Un s.fr s.h with
 | some (tl,fr,h)=>bif(List.range ops.length).all (ckI wm ops ZG Un tl h.size) then some {s with fr:=fr,h:=h} else none
 | none=>none
def ZoO(X:Ctx)(YX:V8->Z)(ih:Qn->O YP)(n wm:Nat)(ops:U Oper)(s:Fs):O Fs:=
 match plan ops with
 | some ZG=>match Zsh X YX ih n wm s.wr ops ops ZG s.fr s.h with
   | some (tl,fr)=>ZhP X YX ih n wm ops ZG (specs ops tl fr ZG ops ZG tl) s
   | none=>none
 | none=>none
def Zhl(X:Ctx)(YX:V8->Z)(ih:Qn->O YP)(n wm:Nat)(ops:U Oper)(s:Fs):O Fs:=
 match Zvv X YX ih n wm ops s with
 | some s'=>some s'
 | none=>ZoO X YX ih n wm ops s
def ZcU{n wm:Nat}{ops:U Oper}{s s':Fs}(h:ZoO X YX ih n wm ops s=some s'):∃ZG Un,plan ops=some ZG/\ZhP X YX ih n wm ops ZG Un s=some s':=by
 unfold ZoO at h;split at h
 ·rename_i ZG hp;split at h
  ·exact⟨ZG,_,hp,h⟩
  ·cases h
 ·cases h
def Zs8{n wm:Nat}{wr:O Nat}{ops:U Oper}:∀(l:U Oper)(ZG:U (U Nat))(Un:U (UY×Z))(fr fr':Fr)(h h':H)(tl:U (O Nat×Nat)),WM X YX ih n wm wr ops l ZG Un fr h=some (tl,fr',h') ->
 ∃(hs:Nat->H) (fs:Nat->Fr) (vs:Nat->N),hs 0=h/\fs 0=fr/\hs l.length=h'/\fs l.length=fr'/\tl.length=l.length/\
   ∀k o,l[k]? =some o->∃t h1,tl[k]? =some (t,(hs k).size)/\Jt X YX ih n wm wr (QD ops o (ZG.getD k [])||KQ (Un.getD k (.lst [],false)).2 o) ops o (fs k) (mask ((xAt Un k).get wm) (hs k))=some (t,vs k,h1)/\
     hs (k+1)=X6 ((xAt Un k).get wm) (hs k) h1/\fs (k+1)=QI (fs k) o.dst (vs k):=by
 intro l
 induction l with
 | nil=>
   intro ZG Un fr fr' h h' tl hr;simp only[WM,J1,Prod.mk.injEq]at hr;obtain⟨rfl,rfl,rfl⟩:=hr;exact⟨fun _=>h,fun _=>fr,fun _=>undef,rfl,rfl,rfl,rfl,rfl,fun k o e=>by simp at e⟩
 | cons o l ih'=>
   intro ZG Un fr fr' h h' tl hr
   match ZG,Un,hr with
   | inc::ZG,sp::Un,hr=>
     simp only[WM]at hr;split at hr
     ·rename_i t v h1 hd;split at hr
      ·rename_i tl2 Qp h2 hr2;cases hr;obtain⟨hs,fs,vs,e1,e2,e3,e4,e5,e6⟩:=ih' ZG Un _ _ _ _ _ hr2;refine⟨fun k=>match k with|0=>h|k+1=>hs k,fun k=>match k with|0=>fr|k+1=>fs k,fun k=>match k with|0=>v|k+1=>vs k,rfl,rfl,e3,e4,by simp[e5],?_⟩;intro k o' ho';cases k with
       | zero=>
         simp at ho';subst ho';exact⟨t,h1,rfl,hd,e1,e2⟩
       | succ k=>
         obtain⟨t',h1',q1,q2,q3,q4⟩:=e6 k o' (by simpa using ho');exact⟨t',h1',q1,q2,q3,q4⟩
      ·cases hr
     ·cases hr
   | [],_,hr=>simp[WM]at hr
   | _::_,[],hr=>simp[WM]at hr
def Zwh{a:YD}(h:¬ a.live=true):a=.dead:=by cases a<;>first|rfl|exact absurd rfl h
def Qk.hide{P:V7}{wm:Nat}{rd:O Nat}{ops:Va Oper}{o:Oper}{M:Nat->Prop}{fr:Fr}{X':U Nat}{h h':H}{v:N}(hst:Qk P wm rd ops o M fr (mask X' h) v h'):
 Qk P wm rd ops o (fun x=>M x/\x∉X') fr (mask X' h) v h':=by
 intro ρ a w F K Q r Zt hf hF hK
 have hown:∀i,((mask X' h).at i).own=true->i∉X':=fun i ho hX=>by
  rw[Xp,if_pos hX]at ho;cases ho
 exact hst ρ a w F K Q r Zt hf hF fun ρ' v' w' hv hr st=>hK ρ' v' w' hv hr
  ⟨st.ext,st.os,st.tape,st.output,st.Y8,fun b hb hno=>st.frame b hb fun i d hi hr' ho=>hno i d ⟨hi,hown i ho⟩ hr' ho,
   fun i b d e e'=>let⟨x,y⟩:=st.Jv i b d e e';⟨x,y.imp id fun⟨j,d',p,q,r'⟩=>⟨j,d',⟨p,hown j r'⟩,q,r'⟩⟩⟩
def J8.hide{M:Nat->Prop}{X':U Nat}{h h':H}(km:J8 M (mask X' h) h'):J8 (fun x=>M x/\x∉X') (mask X' h) h':=
 ⟨km.size,fun i hi hn=>by
   by_cases hX:i∈X'
   ·have hd:(mask X' h).at i=.dead:=by rw[Xp,if_pos hX]
    rw[hd];refine Zwh fun hl=>?_
    have:=km.live i hi hl;rw[hd]at this;cases this
   ·exact km.keep i hi fun hm=>hn ⟨hm,hX⟩,km.own,km.live⟩
def Zry(HI:∀j r,ih j=some r->Yq X j r)(HK:∀j r,ih j=some r->Ja j r){n wm:Nat}{rd:O Nat}{ops:Va Oper}{ZG:U (U Nat)}{Un:U (UY×Z)}{s s':Fs}
 (hp:plan ops.toList=some ZG) (hr:ZhP X YX ih n wm ops.toList ZG Un s=some s') (Zt:wm<=s.h.size):
 ∃D:Data X.P n wm rd ops,D.hs 0=s.h/\D.fs 0=s.fr/\D.hs ops.size=s'.h/\D.fs ops.size=s'.fr/\s'.ds=s.ds:=by
 unfold ZhP at hr;split at hr
 ·rename_i tl' fr' h' hd;cases hck:(List.range ops.toList.length).all (ckI wm ops.toList ZG Un tl' h'.size)<;>rw[hck]at hr<;>simp only[Cq1,Cq0]at hr
  ·cases hr
  cases hr;rw[Kx]at hck;obtain⟨hs,fs,vs,e1,e2,e3,e4,e5,e6⟩:=Zs8 _ _ _ _ _ _ _ _ hd;unfold plan Zue at hp;cases hall:(QH ZaK ops.toList 0&&QH (Zet ops.toList (XL ops.toList 0 [])) ops.toList 0&&QH (Zf0 ops.toList) ops.toList 0)<;>rw[hall]at hp<;>simp only[Cq1,Cq0]at hp
  ·cases hp
  simp only[J1]at hp;rw[Ba0,Ba0]at hall;obtain⟨⟨Za2,Zcl⟩,hdst⟩:=hall;have Za2:=Yv _ _ Za2;have Zcl:=Yv _ _ Zcl;have hdst:=Yv _ _ hdst;have hget:∀{k:Nat}{o:Oper},ops[k]? =some o->ops.toList[k]? =some o:=fun h=>by rwa[G8]
  have hlt:∀{k:Nat}{o:Oper},ops[k]? =some o->k<ops.size:=fun h=>(Jn.1 h).1
  have hpos:∀{k:Nat},k<ops.size->∃o,ops[k]? =some o:=fun{k} h=>⟨ops[k],by simp[h]⟩
  have hinc:∀i,i<ops.size->ZG.getD i []=ZjG (XL ops.toList 0 []) ops.toList.length i:=by
   intro i hi;rw[<-hp,Gi];simp[hi]
  have hspec:=(Zcc ops.toList 0 [] rfl).2
  have hsz:∀k,k<=ops.size->wm<=(hs k).size/\s.h.size<=(hs k).size:=by
   intro k
   induction k with
   | zero=>intro _;rw[e1];exact⟨Zt,K1 _⟩
   | succ k ihk=>
     intro hk;obtain⟨o,ho⟩:=hpos (show k<ops.size by omega);obtain⟨t,h1,q1,q2,q3,q4⟩:=e6 k o (hget ho);obtain⟨km,_,_⟩:=Xw HK q2 (by rw[Zp];exact(ihk Vg).1);have:=km.size;rw[Zp]at this;rw[q3,YR];have:=ihk Vg;omega
  have htl:∀{k:Nat}{t:O Nat}{m:Nat},tl'[k]? =some (t,m)->(tl'.getD k (none,0)).1=t:=by
   intro k t m h;rw[Gi,h];rfl
  have Zzx:∀k,k<=ops.size->nAt tl' h'.size k=(hs k).size:=by
   intro k hk;unfold nAt;by_cases hk':k<ops.size
   ·obtain⟨o,ho⟩:=hpos hk';obtain⟨t,_,q1,_⟩:=e6 k o (hget ho);rw[q1]
   ·have:k=ops.toList.length:=by simp;omega
    rw[Jx (by rw[e5];omega),this,e3]
  have hwA:∀{k:Nat}{o:Oper},ops[k]? =some o->wAt ops.toList Un k=KQ (Un.getD k (.lst [],false)).2 o:=fun{k o} ho=>by
   unfold wAt;rw[hget ho]
  have hless:∀{k:Nat}{o:Oper}{x:Nat},ops[k]? =some o->ZN o=true->¬ MOf (QD ops.toList o (ZG.getD k [])||KQ (Un.getD k (.lst [],false)).2 o) wm (tl'.getD k (none,0)).1 x:=by
   intro k o x ho hh hx;obtain⟨t,h1,q1,q2,q3,q4⟩:=e6 k o (hget ho)
   have hf:(QD ops.toList o (ZG.getD k [])||KQ (Un.getD k (.lst [],false)).2 o)=false:=by
    unfold QD KQ;rw[hh];simp
   rw[hf]at hx;unfold MOf at hx;rw[if_neg (by simp),htl q1,(QN hh q2).1]at hx;cases hx
  refine⟨{hs:=hs,fs:=fs,vs:=vs,mo:=fun k x=>MOf (match ops[k]? with|some o=>(QD ops.toList o (ZG.getD k [])||KQ (Un.getD k (.lst [],false)).2 o) | none=>true) wm (tl'.getD k (none,0)).1 x/\x∉(xAt Un k).get wm,Xs:=fun k=>(xAt Un k).get wm,hl:=hlAt ops.toList,soft:=fun k=>none,Pb:=fun j k=>bit ((XL ops.toList 0 []).getD j 0) k=true,
          ZlS:=by rw[e1];exact Zt,step:= ?_,wmM:= ?_,dst:= ?_,Zdb:= ?_,Zmz:= ?_,inc:= ?_,ZDE:= ?_,Zne:= ?_,MX:= ?_,looks:= ?_,ZA2:= ?_},e1,e2,by rw[<-e3];simp,by rw[<-e4];simp,rfl⟩
  ·intro k o ho;obtain⟨t,h1,q1,q2,q3,q4⟩:=e6 k o (hget ho);have hw:=(hsz k (GR (hlt ho))).1;obtain⟨km,_,_⟩:=Xw HK q2 (by rw[Zp];exact hw);rw[htl q1,ho];exact⟨h1,(JI HI HK q2).hide,km.hide,q3,q4⟩
  ·intro k x hk hx;obtain⟨o,ho⟩:=hpos hk;obtain⟨t,h1,q1,q2,q3,q4⟩:=e6 k o (hget ho);have hw:=(hsz k (GR hk)).1;obtain⟨_,hm,_⟩:=Xw HK q2 (by rw[Zp];exact hw);rw[htl q1,ho]at hx;exact hm x hx.1
  ·intro k o d ho hd;obtain⟨t,h1,q1,q2,q3,q4⟩:=e6 k o (hget ho);have hw:=(hsz k (GR (hlt ho))).1;obtain⟨_,_,h3⟩:=Xw HK q2 (by rw[Zp];exact hw);exact(h3 d hd).1
  ·intro j k h;obtain⟨o,ho,e,he,hb,hk⟩:=hspec j k (Gv _) h;exact⟨o,e,by rw[<-G8];simpa using ho,by simpa using he,hb,hk⟩
  ·intro j o e ho he hb;have:=Za2 j o (hget ho);unfold ZaK at this;rw[Kx]at this;have:=this e (by simpa using he);rw[hb]at this
   simpa[G6]using this
  ·intro i j hi hj hne h1 h2 hhl x hx hxj;obtain⟨o,ho⟩:=hpos hi;obtain⟨t,h3,q1,q2,q3,q4⟩:=e6 i o (hget ho)
   have hnc:comp (XL ops.toList 0 []) i j=false:=by
    rw[Gh];intro hc;rcases ZaD hc with z|z
    ·exact h1 z
    ·exact h2 z
   have hnc':comp (XL ops.toList 0 []) j i=false:=by
    rw[Gh];intro hc;rcases ZaD hc with z|z
    ·exact h2 z
    ·exact h1 z
   have hmem:j∈ZG.getD i []:=by
    rw[hinc i hi];unfold ZjG;rw[GP];have hb:Nat.beq i j=false:=by rw[QG];simpa using hne
    exact⟨by simpa using hj,by rw[hb,hnc];rfl⟩
   have hmem':i∈ZG.getD j []:=by
    rw[hinc j hj];unfold ZjG;rw[GP];have hb:Nat.beq j i=false:=by rw[QG];simpa using Ne.symm hne
    exact⟨by simpa using hi,by rw[hb,hnc'];rfl⟩
   have hhi:ZN o=false:=by
    unfold hlAt at hhl
    rwa[hget ho]at hhl
   obtain⟨oj,hoj⟩:=hpos hj
   have hjf:QD ops.toList oj (ZG.getD j [])=false:=by
    unfold QD;rw[Bool.and_eq_false_iff];right;rw[Gh];intro hall;rw[Kx]at hall;rw[hall i hmem']at hhl;cases hhl
   rw[hoj]at hx;dsimp only at hx;obtain⟨hx,hxX⟩:=hx;have hck:=hck i (by simpa using hi);unfold ckI at hck;rw[hget ho]at hck;simp only[hhi,Bool.false_or,GL]at hck;rcases hck with hck|hck
   ·-- nothing beside it looks at the heap
    unfold QD at hck;rw[Ba0,Kx]at hck;have zj:=hck.2 j hmem;unfold hlAt at zj;rw[hget hoj]at zj;exact absurd hx (hless hoj zj)
   ·cases hwi:wAt ops.toList Un i<;>rw[hwi]at hck<;>simp only[Cq1,Cq0,Kx]at hck
    ·have zj:=hck j hmem;unfold ckJ at zj;rw[hwA hoj]at zj;cases hwj:KQ (Un.getD j (.lst [],false)).2 oj<;>rw[hwj]at zj hx<;>simp only[Cq1,Cq0]at zj
     ·rw[hjf]at hx;unfold MOf at hx;rw[if_neg (by simp)]at hx;rw[hx]at zj;simp only[GL,Ba0,G6,Gs,Zzx i Vg,Zzx (i+1) Vg]at zj;exact zj.imp (fun z=>⟨z.1,.inl z.2⟩) Nl0
     ·split at zj
      ·rename_i m R R' hxi ZQL;rw[Ba0,Ba0]at zj;obtain⟨⟨z1,z2⟩,z3⟩:=zj;have z1:=Nb0 z1;have z2:=ZA0 z2;have z3:=Nb0 z3;rw[Zzx j Vg]at z1;rw[Zzx i Vg,Zzx (i+1) Vg]at z3
       have hwx:wm<=x:=by
        rw[hjf]at hx;unfold MOf at hx
        rwa[if_pos (by simp)]at hx
       rw[ZQL]at hxX;have hxR:x∉R:=by rw[z2];exact hxX
       rcases Gk x (hs i).size with q|q
       ·left;refine⟨q,.inl ?_⟩;show x∈(xAt Un i).get wm;rw[hxi,UY.ZC8];exact⟨⟨hwx,by rw[z1];exact hxj⟩,hxR⟩
       ·right;rw[z3];exact q
      ·cases zj
    ·have zj:=hck j hmem;rw[GL]at zj;rcases zj with zj|zj
     ·unfold hlAt at zj;rw[hget hoj]at zj;exact absurd hx (hless hoj zj)
     ·rw[Ba0,hwA hoj,Bool.not_eq_true']at zj;rw[hjf,zj.1]at hx;unfold MOf at hx;rw[if_neg (by simp)]at hx;rw[hx]at zj;cases zj.2
  ·intro i o ho hh;have hi:=hlt ho;obtain⟨t,h3,q1,q2,q3,q4⟩:=e6 i o (hget ho);have hho:ZN o=true:=by unfold hlAt at hh;rwa[hget ho]at hh
   obtain⟨rfl,rfl,hg⟩:=QN hho q2;have hfr:(QD ops.toList o (ZG.getD i [])||KQ (Un.getD i (.lst [],false)).2 o)=false:=by unfold QD KQ;rw[hho];simp
   have hM:MOf false wm none=fun _=>False:=by
    funext x;unfold MOf;rw[if_neg (by simp)];simp
   refine⟨fun y hy=>?_,?_,fun g=>?_⟩
   ·rw[htl q1,ho]at hy;dsimp only at hy;rw[hfr,hM]at hy;exact hy.1
   ·rw[q3,YR,Zp]
   ·have hst:=JI (rd:=rd) HI HK (hg g);rw[hfr,hM]at hst;exact hst
  ·intro i o x j ho hso;cases hso
  ·intro i x hi hx hxi;exact hx.2
  ·intro i o t ho ht k o' ho' hd;have:=Zcl i o (hget ho);unfold Zet at this;rw[Kx]at this;have:=Yv _ _ (this t ht) k o' (hget ho');rw[Zax.2 hd]at this;simp only[Cq1,GL,G4]at this;rcases this with z|z
   ·exact .inl (Nb0 z)
   ·exact .inr (ZaD z)
  ·intro i j o o' t ho ho' hd hd';have:=hdst i o (hget ho);unfold Zf0 at this;rw[hd]at this;have:=Yv _ _ this j o' (hget ho');rw[Zax.2 hd']at this;simp only[Cq1,G4]at this;exact(Nb0 this).symm
 ·cases hr
def Zs9(HK:∀j r,ih j=some r->Ja j r){n wm:Nat}{ops:U Oper}{ZG:U (U Nat)}{Un:U (UY×Z)}{s s':Fs}
 (hr:ZhP X YX ih n wm ops ZG Un s=some s') (Zt:wm<=s.h.size):Yr wm s.h s'.h:=by
 have main:∀(wr:O Nat)(l:U Oper)(ZG:U (U Nat))(Un:U (UY×Z))(fr fr':Fr)(h h':H)(tl:U (O Nat×Nat)),WM X YX ih n wm wr ops l ZG Un fr h=some (tl,fr',h')->wm<=h.size->Yr wm h h':=by
  intro wr l
  induction l with
  | nil=>intro ZG Un fr fr' h h' tl hr _;simp only[WM,J1,Prod.mk.injEq]at hr;obtain⟨_,_,rfl⟩:=hr;exact Yr.refl _ _
  | cons o l ihl=>
    intro ZG Un fr fr' h h' tl hr hw
    match ZG,Un,hr with
    | inc::ZG,sp::Un,hr=>
      simp only[WM]at hr;split at hr
      ·rename_i t v h1 hd;split at hr
       ·rename_i tl2 Qp h2 hr2;cases hr;obtain⟨km,hm,_⟩:=Xw HK hd (by rw[Zp];exact hw);generalize sp.1.get wm=X' at *;have hsz:=km.size;rw[Zp]at hsz
        have k1:Yr wm h (X6 X' h h1):=by
         refine⟨by rw[YR];exact hsz,fun i hi=>?_,fun i hi ho=>?_,fun i hi ho=>?_⟩
         ·rw[XZ _ _ _ hsz];by_cases hX:i∈X'/\i<h.size
          ·rw[if_pos hX]
          ·rw[if_neg hX,km.keep i (by rw[Zp];omega) (fun z=>by have:=hm i z;omega),Xp,if_neg fun z=>hX ⟨z,by omega⟩]
         ·rw[XZ _ _ _ hsz]at ho;by_cases hX:i∈X'/\i<h.size
          ·rwa[if_pos hX]at ho
          ·rw[if_neg hX]at ho;have:=km.own i (by rw[Zp];exact hi) ho;rw[Xp,if_neg fun z=>hX ⟨z,hi⟩]at this;exact this
         ·rw[XZ _ _ _ hsz]at ho;by_cases hX:i∈X'/\i<h.size
          ·rwa[if_pos hX]at ho
          ·rw[if_neg hX]at ho;have:=km.live i (by rw[Zp];exact hi) ho;rw[Xp,if_neg fun z=>hX ⟨z,hi⟩]at this;exact this
        exact k1.next hw (ihl _ _ _ _ _ _ _ hr2)
       ·cases hr
      ·cases hr
    | [],_,hr=>simp[WM]at hr
    | _::_,[],hr=>simp[WM]at hr
 unfold ZhP at hr;split at hr
 ·rename_i tl' fr' h' hd;cases hck:(List.range ops.length).all (ckI wm ops ZG Un tl' h'.size)<;>rw[hck]at hr<;>simp only[Cq1,Cq0]at hr
  ·cases hr
  cases hr;exact main _ _ _ _ _ _ _ _ _ hd Zt
 ·cases hr
def ZcV{n wm:Nat}{ops:U Oper}{s s':Fs}(h:Zhl X YX ih n wm ops s=some s'):Zvv X YX ih n wm ops s=some s'\/ZoO X YX ih n wm ops s=some s':=by
 unfold Zhl at h;split at h
 ·rename_i s1 e;cases h;exact .inl e
 ·exact .inr h
def Zrz(HI:∀j r,ih j=some r->Yq X j r)(HK:∀j r,ih j=some r->Ja j r){n wm:Nat}{rd:O Nat}{ops:Va Oper}{s s':Fs}
 (hr:Zhl X YX ih n wm ops.toList s=some s') (Zt:wm<=s.h.size):
 ∃D:Data X.P n wm rd ops,D.hs 0=s.h/\D.fs 0=s.fr/\D.hs ops.size=s'.h/\D.fs ops.size=s'.fr/\s'.ds=s.ds:=by
 rcases ZcV hr with h|h
 ·obtain⟨soft,ZG,Xs,tl,hp,h1⟩:=ZeM h;exact ZtB HI HK hp h1 Zt
 ·obtain⟨ZG,Un,hp,h1⟩:=ZcU h;exact Zry HI HK hp h1 Zt
def cfg(X:Ctx)(YX:V8->Z):Cfg:=⟨X,YX,fun ih n wm _ ops s=>Zhl X YX ih n wm ops s⟩
def ZBc:ZkZ (cfg X YX):=by
 intro ih HK n wm rd ops s s' hr Zt;rcases ZcV (X:=X) (YX:=YX) hr with h|h
 ·obtain⟨_,_,_,_,_,h1⟩:=ZeM (X:=X) (YX:=YX) h;exact Zlv HK h1 Zt
 ·obtain⟨_,_,_,h1⟩:=ZcU (X:=X) (YX:=YX) h;exact Zs9 HK h1 Zt
end
section
variable{X:Ctx}{ih:Qn->O YP}
structure FsW(s s':Fs):Prop where
 wr:s'.wr=s.wr
 fr:∀t,allowed s.wr t=false->s'.fr.at t=s.fr.at t
 ds:∃l,s'.ds=l++s.ds
def FsW.refl(s:Fs):FsW s s:=⟨rfl,fun _ _=>rfl,[],rfl⟩
def FsW.trans{a b c:Fs}(h:FsW a b)(k:FsW b c):FsW a c:=by
 refine⟨k.wr.trans h.wr,fun t ht=>(k.fr t (by rw[h.wr];exact ht)).trans (h.fr t ht),?_⟩;obtain⟨l,e⟩:=h.ds;obtain⟨l',e'⟩:=k.ds;exact⟨l'++l,by rw[e',e,Gc]⟩
def FsW.heap(s:Fs)(h:H):FsW s {s with h:=h}:=⟨rfl,fun _ _=>rfl,[],rfl⟩
def ZBr{n:Nat}{s s':Fs}{dst:O Tmp}{v:N}(h:Zhh n s dst v=some s'):FsW s s':=by
 rw[ZiA]at h;split at h
 ·cases h;exact FsW.refl _
 ·rename_i d;cases hd:(Nat.blt d n&&allowed s.wr d)<;>rw[hd]at h<;>simp only[Cq1,Cq0]at h
  ·cases h
  ·cases h;rw[Ba0]at hd;refine⟨rfl,fun t ht=>?_,[],rfl⟩;have:t≠d:=fun e=>by rw[e,hd.2]at ht;cases ht
   simp[Fr.at,Tr.XE,this]
def ZBW:Qn->YP->Prop
 | .code _ _ _ _ s,r=>∀e s',r=.code e s'->FsW s s'
 | .loop _ _ _ _ s,r=>∀e s',r=.code e s'->FsW s s'
 | _,_=>True
def ZEP{YX:V8->Z}{n wm:Nat}{rd:O Nat}{dst:O Tmp}{s s':Fs}{nx:AN}{h':H}{e:XX}(h:Kn YX ih n wm rd dst s nx h'=some (e,s')):FsW s s':=by
 have go:∀{s1:Fs}{v:N},FsW s s1->(match Zhh n s1 dst v with|some s=>some (XX.normal,s) | none=>none)=some (e,s')->FsW s s':=by
  intro s1 v hw hh;split at hh
  ·rename_i s2 hp;cases hh;exact hw.trans (ZBr hp)
  ·cases hh
 unfold Kn at h;dsimp only[Jz]at h;split at h
 ·exact go (FsW.heap _ _) h
 ·exact go (FsW.heap _ _) h
 ·rename_i f args;cases hp:YX f<;>rw[hp]at h<;>simp only[Cq1,Cq0]at h
  ·split at h
   ·exact go (FsW.heap _ _) h
   ·cases h;exact FsW.heap _ _
   ·cases h
  ·split at h
   ·rename_i v h2 hc;cases hpl:plain v<;>rw[hpl]at h<;>simp only[Cq1,Cq0]at h
    ·cases h
    ·exact go (FsW.heap _ _) h
   ·cases h
 ·split at h
  ·exact go (FsW.heap _ _) h
  ·cases h;exact FsW.heap _ _
  ·cases h
 ·split at h
  ·refine go ?_ h;exact⟨rfl,fun _ _=>rfl,[_],rfl⟩
  ·cases h
 ·cases h
 ·cases h;exact FsW.heap _ _
def Ztv{YX:V8->Z}{n wm:Nat}{rd:O Nat}{ops:U Oper}:∀(l:U Oper)(s s':Fs)(e:XX),ZlC X YX ih n wm rd ops l s=some (e,s')->FsW s s':=by
 have step:∀(o:Oper)(s s':Fs)(e:XX),JS X YX ih n wm rd ops o s=some (e,s')->FsW s s':=by
  intro o s s' e h;unfold JS at h;cases hok:okG ops o s.fr<;>rw[hok]at h<;>simp only[GA,QP,Cq1,Cq0]at h
  ·cases h
  cases hwt:Y0 ops o s.fr<;>rw[hwt]at h<;>simp only[Cq1,Cq0]at h
  ·split at h
   ·rename_i s2 hp;cases h;exact ZBr hp
   ·cases h
  ·split at h
   ·split at h
    ·exact ZEP h
    ·cases h
   ·cases h
 intro l
 induction l with
 | nil=>intro s s' e h;cases h;exact FsW.refl _
 | cons o l ihl=>
   intro s s' e h;simp only[ZlC]at h;split at h
   ·rename_i s1 h1;exact(step o s s1 _ h1).trans (ihl s1 s' e h)
   ·rename_i v s1 h1;cases h;exact step o s s' _ h1
   ·cases h
def Zta{YX:V8->Z}{n wm:Nat}{soft:Z}{ops:U Oper}{ZG Xs:U (U Nat)}{s s':Fs}{tl:U (O Nat×Nat)}{ok:Z}(hr:JJ X YX ih n wm soft ops ZG Xs s=some (tl,ok,s')):FsW s s':=by
 have main:∀(wr:O Nat)(l:U Oper)(ZG Xs:U (U Nat))(fr fr':Fr)(h h':H)(tl:U (O Nat×Nat))(st:U (Fr×H×N)),ZcD X YX ih n wm wr ops l ZG Xs fr h=some (tl,st,fr',h')->∀t,allowed wr t=false->fr'.at t=fr.at t:=by
  intro wr l
  induction l with
  | nil=>intro ZG Xs fr fr' h h' tl st hr t _;simp only[ZcD,J1,Prod.mk.injEq]at hr;obtain⟨_,_,rfl,_⟩:=hr;rfl
  | cons o l ihl=>
    intro ZG Xs fr fr' h h' tl st hr t ht
    match ZG,Xs,hr with
    | inc::ZG,X'::Xs,hr=>
      simp only[ZcD]at hr;split at hr
      ·rename_i tt v h1 hd;split at hr
       ·rename_i tl2 st2 Qp h2 hr2;cases hr;rw[ihl _ _ _ _ _ _ _ _ hr2 t ht,Zbh,if_neg fun e=>by rw[Zvh hd t e]at ht;cases ht]
       ·cases hr
      ·cases hr
    | [],_,hr=>simp[ZcD]at hr
    | _::_,[],hr=>simp[ZcD]at hr
 unfold JJ at hr;split at hr
 ·rename_i tl' st' fr' h' hd;simp only[J1,Prod.mk.injEq]at hr;obtain⟨_,_,rfl⟩:=hr;exact⟨rfl,main _ _ _ _ _ _ _ _ _ _ hd,[],rfl⟩
 ·cases hr
def ZEE{YX:V8->Z}{n wm:Nat}{ops:U Oper}{ZG:U (U Nat)}{Un:U (UY×Z)}{s s':Fs}(hr:ZhP X YX ih n wm ops ZG Un s=some s'):FsW s s':=by
 have main:∀(wr:O Nat)(l:U Oper)(ZG:U (U Nat))(Un:U (UY×Z))(fr fr':Fr)(h h':H)(tl:U (O Nat×Nat)),WM X YX ih n wm wr ops l ZG Un fr h=some (tl,fr',h')->∀t,allowed wr t=false->fr'.at t=fr.at t:=by
  intro wr l
  induction l with
  | nil=>intro ZG Un fr fr' h h' tl hr t _;simp only[WM,J1,Prod.mk.injEq]at hr;obtain⟨_,rfl,_⟩:=hr;rfl
  | cons o l ihl=>
    intro ZG Un fr fr' h h' tl hr t ht
    match ZG,Un,hr with
    | inc::ZG,sp::Un,hr=>
      simp only[WM]at hr;split at hr
      ·rename_i tt v h1 hd;split at hr
       ·rename_i tl2 Qp h2 hr2;cases hr;rw[ihl _ _ _ _ _ _ _ hr2 t ht,Zbh,if_neg fun e=>by rw[Zvh hd t e]at ht;cases ht]
       ·cases hr
      ·cases hr
    | [],_,hr=>simp[WM]at hr
    | _::_,[],hr=>simp[WM]at hr
 unfold ZhP at hr;split at hr
 ·rename_i tl' fr' h' hd;cases hck:(List.range ops.length).all (ckI wm ops ZG Un tl' h'.size)<;>rw[hck]at hr<;>simp only[Cq1,Cq0]at hr
  ·cases hr
  cases hr;exact⟨rfl,main _ _ _ _ _ _ _ _ _ hd,[],rfl⟩
 ·cases hr
def ZEV{YX:V8->Z}{n wm:Nat}{ops:U Oper}{s s':Fs}(hr:Zhl X YX ih n wm ops s=some s'):FsW s s':=by
 rcases ZcV hr with h|h
 ·obtain⟨_,_,_,_,_,h1⟩:=ZeM h;exact Zta h1
 ·obtain⟨_,_,_,h1⟩:=ZcU h;exact ZEE h1
def ZwZ{T:U Nat}{t:Nat}:bit (Zch T) t=true↔t∈T:=by
 induction T with
 | nil=>simp[Zch,ZkG]
 | cons x T ih=>simp only[Zch,Zox,GL,ih,Zvl,Kd];exact⟨fun h=>h.imp Eq.symm id,fun h=>h.imp Eq.symm id⟩
def YV{T:U Nat}{fr:Fr}{t:Nat}:(ZU T fr).at t=if t∈T then ZoI else fr.at t:=by
 induction T generalizing fr with
 | nil=>simp[ZU]
 | cons x T ih=>
   rw[ZU,ih];by_cases h:t∈T
   ·simp[h]
   ·by_cases hx:t=x
    ·subst hx;simp[h,Fr.at,Tr.XE]
    ·simp[h,hx,Fr.at,Tr.XE]
section
variable(HI:∀j r,ih j=some r->ZBW j r)
include HI
theorem Zg8{c:Code}{n wm:Nat}{rd:O Nat}{s s':Fs}{e:XX}(hc:ih (.code c n wm rd s)=some (.code e s')):FsW s s':=HI _ _ hc e s' rfl
theorem ZqW{C:Cfg}{mi:MI}{n wm:Nat}{rd:O Nat}{s s':Fs}{e:XX}(h:Zae C ih mi n wm rd s=some (.code e s')):FsW s s':=by
 unfold Zae at h;split at h
 ·rename_i s1 h1;exact(Ztv _ _ _ _ h1).trans (Zg8 HI h)
 ·rename_i e' s1 _ h1;cases h;exact Ztv _ _ _ _ h1
 ·cases h
theorem Zos{c:Code}{n wm:Nat}{rd:O Nat}{s:Fs}{k:XX->Fs->O YP}{r:YP}(h:Zf6 k (ih (.code c n wm rd s))=some r)
 (hk:∀e s1 r,k e s1=some r->∀e' s',r=.code e' s'->FsW s1 s'):∀e' s',r=.code e' s'->FsW s s':=by
 obtain⟨e,s1,h1,h2⟩:=Q5 h;intro e' s' hr;exact(Zg8 HI h1).trans (hk e s1 r h2 e' s' hr)
omit HI in
theorem JQ{e:XX}{s:Fs}{r:YP}(h:some (.code e s)=some r):∀e' s',r=.code e' s'->FsW s s':=by
 cases h;intro e' s' h;cases h;exact FsW.refl _
theorem ZEy{C:Cfg}{mi:MI}{c:Code}{n wm:Nat}{rd:O Nat}{s:Fs}{r:YP}(h:Zkt C ih mi c n wm rd s=some r):∀e s',r=.code e s'->FsW s s':=by
 unfold Zkt Zod at h;generalize hb:Zl6 mi n wm ((Zg6 c).filter (allowed s.wr))=b at h;cases b with
 | false=>cases h
 | true=>
   obtain⟨_,_,_,_,_,d,hd,_,hdT⟩:=Zes hb;simp only[Cq1]at h;generalize Zbp C ih mi n rd _ _ s mi.es=b2 at h;cases b2 with
   | false=>cases h
   | true=>
     simp only[Cq1]at h;split at h
     ·rename_i e s2 h2;have w2:=ZqW HI h2
      have w1:FsW s {s with fr:=QI (ZU ((Zg6 c).filter (allowed s.wr)) s.fr) mi.o.dst QT,h:=s.h.put mi.it .dead}:=by
       refine⟨rfl,fun t ht=>?_,[],rfl⟩;have hnt:t∉(Zg6 c).filter (allowed s.wr):=fun z=>by rw[GP]at z;rw[z.2]at ht;cases ht
       show(QI _ _ _).at t=_;rw[Zbh,if_neg,YV,if_neg hnt];intro e;rw[e]at hd;cases hd;exact hnt hdT
      have w:=w1.trans w2;cases e with
      | normal=>cases h
      | exit _=>cases h;intro e' s' h;cases h;exact w
      | goto _=>cases h;intro e' s' h;cases h;exact w
      | ret=>cases h;intro e' s' h;cases h;exact w
      | panic _=>cases h;intro e' s' h;cases h;exact w
     ·cases h
theorem Zks{C:Cfg}{g:V6}{n wm:Nat}{rd:O Nat}{l:Nat}{s:Fs}{r:YP}(h:Xv C ih g n wm rd l s=some r):∀e s',r=.code e s'->FsW s s':=by
 unfold Xv at h;split at h
 ·split at h
  ·unfold Je at h;split at h
   ·split at h
    ·rename_i st pd fr n' ps Yf bd df hat;cases hst:(st==LoopState.busy)<;>rw[hst]at h<;>simp only[Cq1,Cq0]at h
     ·split at h
      ·cases h;intro e s' h;cases h;exact FsW.heap _ _
      ·intro e s' hr;subst hr;exact(FsW.heap _ _).trans (Zg8 HI h)
     ·cases h
    ·cases h
   ·cases h;intro e s' h;cases h;exact FsW.heap _ _
   ·cases h
  ·cases h
 ·cases h
theorem ZOa{X:Ctx}{YX:V8->Z}(j:Qn)(r:YP)(h:Jf (cfg X YX) ih j=some r):ZBW j r:=by
 cases j with
 | code c n wm rd s=>
   simp only[Jf]at h;cases c with
   | skip=>exact JQ h
   | label l=>exact JQ h
   | ret=>exact JQ h
   | exit id=>exact JQ h
   | goto l=>exact JQ h
   | seq a b=>
     refine Zos HI h fun e s1 r hk=>?_
     cases e with
     | normal=>intro e' s' hr;subst hr;exact Zg8 HI hk
     | exit _=>exact JQ hk
     | goto _=>exact JQ hk
     | ret=>exact JQ hk
     | panic _=>exact JQ hk
   | cond c a b=>
     simp only[Kh,Zkw]at h;split at h
     ·rename_i t _;intro e' s' hr;subst hr;cases t with
      | true=>exact Zg8 HI h
      | false=>exact Zg8 HI h
     ·cases h
   | block id c=>
     refine Zos HI h fun e s1 r hk=>?_
     cases e with
     | exit k=>
       dsimp only at hk;cases hb:Nat.beq k id<;>rw[hb]at hk<;>exact JQ hk
     | normal=>exact JQ hk
     | goto _=>exact JQ hk
     | ret=>exact JQ hk
     | panic _=>exact JQ hk
   | scope c=>
     refine Zos HI h fun e s1 r hk=>?_
     cases e with
     | exit k=>exact JQ hk
     | normal=>exact JQ hk
     | goto _=>cases hk
     | ret=>exact JQ hk
     | panic _=>exact JQ hk
   | loop c=>intro e s' hr;subst hr;exact HI _ _ h e s' rfl
   | refuse _=>cases h
   | rangeFunc g ps Yf bd=>
     simp only[Kh,ZfV]at h;intro e s' hr;split at h
     ·have:=Zks HI h e s' hr;refine FsW.trans ?_ this;exact⟨rfl,fun _ _=>rfl,[_],rfl⟩
     ·split at h
      ·exact(FsW.heap _ _).trans (Zks HI h e s' hr)
      ·cases h
   | region id ops d=>
     cases d with
     | true=>
       simp only[Kh,Cq1,Zof]at h;split at h
       ·rename_i s1 hs;cases h;intro e s' hr;cases hr;exact ZEV (X:=X) (YX:=YX) hs
       ·cases h
     | false=>
       simp only[Kh,Cq0,ZfU]at h;split at h
       ·rename_i e s1 hs;cases h;intro e s' hr;cases hr;exact Ztv _ _ _ _ hs
       ·cases h
 | loop c n wm rd s=>
   simp only[Jf,ZfX]at h
   have hL:Zku ih c n wm rd s=some r->ZBW (.loop c n wm rd s) r:=by
    intro h;refine Zos HI h fun e s1 r hk=>?_
    cases e with
    | normal=>intro e' s' hr;subst hr;exact HI _ _ hk e' s' rfl
    | exit _=>exact JQ hk
    | goto _=>exact JQ hk
    | ret=>exact JQ hk
    | panic _=>exact JQ hk
   split at h
   ·split at h
    ·rename_i r' hr;cases h;exact ZEy HI hr
    ·exact hL h
   ·exact hL h
 | _=>trivial
end
def ZR7{X:Ctx}{YX:V8->Z}:∀(n:Nat)(j:Qn)(r:YP),ev (cfg X YX) n j=some r->ZBW j r:=by
 intro n
 induction n with
 | zero=>intro j r h;cases h
 | succ n ihn=>intro j r h;exact ZOa ihn j r h
end
end Go.ZF
end
end
