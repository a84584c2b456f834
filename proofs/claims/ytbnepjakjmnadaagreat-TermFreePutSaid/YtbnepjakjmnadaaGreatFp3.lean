/- Part 3. -/
import Derived.Scope
import Derived.Test.YtbnepjakjmnadaaGreatFp2
set_option linter.all false
set_option maxHeartbeats 2000000
section
noncomputable section
namespace Go.ZF
inductive XX where
 | normal
 | exit (id:Nat)
 | goto (l:Nat)
 | ret
 | panic (v:Value)
inductive U4 where
 | ret (v:Value)
 | ZX (v:Value)
def bit(m n:Nat):Z:=Nat.beq (Nat.mod (Nat.div m (Nat.pow 2 n)) 2) 1
def ZkH(m n:Nat):bit m n=m.testBit n:=by
 unfold bit;rw[Nat.testBit_eq_decide_div_mod_eq,QG]
 rfl
def allowed(wr:O Nat)(t:Nat):Z:=
 match wr with
 | none=>true
 | some m=>bit m t
structure Fs where
 fr:Fr
 ds:List Deferred
 h:H
 wr:Option Nat:=none
inductive PM where
 | ret
 | ZX (v:Value)
 | rcv (v:Value)
inductive Qn where
 | code (c:Code) (n:Nat) (wm:Nat) (rd:Option Nat) (s:Fs)
 | loop (c:Code) (n:Nat) (wm:Nat) (rd:Option Nat) (s:Fs)
 | call (f:FuncId) (args:Array Value) (wm:Nat) (h:H)
 | round (l:Nat) (args:Array Value) (wm:Nat) (h:H)
 | dcall (f:FuncId) (args:Array Value) (pm:PM) (wm:Nat) (h:H)
 | Xx (c:Code) (n:Nat) (wm:Nat) (pm:PM) (s:Fs)
 | leave (fn:Func) (wm:Nat) (pm:PM) (s:Fs)
inductive YP where
 | code (e:XX) (s:Fs)
 | fin (e:U4) (h:H)
 | ZdQ (pm:PM) (h:H)
 | Xx (e:XX) (pm:PM) (s:Fs)
def Yo(fr:Fr):V6->O N
 | .tmp t=>bif Xt (fr.at t) then none else some (fr.at t)
 | .const v=>bif plain v then some v else none
 | .func f=>some (.func (.func f) #[] #[])
 | .global _=>none
def Zhh(n:Nat)(s:Fs)(dst:O Tmp)(v:N):O Fs:=
 match dst with
 | none=>some s
 | some d=>Fs.casesOn (motive:=fun _=>O Fs) s fun fr ds h wr=>bif Nat.blt d n&&allowed wr d then some ⟨Tr.set fr d v,ds,h,wr⟩ else none
def ZiA(n:Nat)(s:Fs)(dst:O Tmp)(v:N):Zhh n s dst v=match dst with
 | none=>some s
 | some d=>bif Nat.blt d n&&allowed s.wr d then some {s with fr:=Tr.set s.fr d v} else none:=rfl
def ZlM(s:Fs)(h:H):Fs:=Fs.casesOn (motive:=fun _=>Fs) s fun fr ds _ wr=>⟨fr,ds,h,wr⟩
def Jz(s:Fs)(h:H):ZlM s h= {s with h:=h}:=rfl
def Wp(ops:U Oper)(fr:Fr)(j:Nat):O Z:=
 match ops[j]? with
 | some o=>match o.dst with
   | some d=>match fr.at d with
     | .bool b=>some b
     | _=>none
   | none=>none
 | none=>none
def Y0(ops:U Oper)(o:Oper)(fr:Fr):Z:=
 match o.guard with
 | none=>true
 | some (j,want)=>match Wp ops fr j with
   | some b=>b==want
   | none=>false
def Ze0(v:N):Z:=match v with
 | .func (.func f) _ _=>Nat.blt f nfs
 | .tuple _=>true
 | _=>false
def ZiW(op:Op)(fr:Fr):Z:=match op with
 | .call c=>match c.callee with
   | .value x=>match x with
     | .func f=>Nat.blt f nfs
     | .tmp t=>Ze0 (fr.at t)
     | _=>false
   | .builtin _=>true
   | .invoke _ _=>false
 | _=>true
def okG(ops:U Oper)(o:Oper)(fr:Fr):Z:=
 match o.guard with
 | none=>true
 | some (j,_)=>(match ops[j]? with
   | some o=>match o.dst with
     | some d=>!Xt (fr.at d)
     | none=>true
   | none=>true)&&(Y0 ops o fr||ZiW o.op fr)
def Kn(YX:V8->Z)(ih:Qn->O YP)(n wm:Nat)(rd:O Nat)(dst:O Tmp)(s:Fs)(nx:AN)(h':H):O (XX×Fs):=
 let s':Fs:=ZlM s h'
 let go (s:Fs) (v:N):O (XX×Fs):=match Zhh n s dst v with
  | some s=>some (.normal,s)
  | none=>none
 match nx with
 | .val v=>go s' v
 | .skip=>go s' undef
 | .enter f args=>
   bif YX f then
    match ih (.call f args h'.size h') with
    | some (.fin (.ret v) _)=>bif plain v then go s' v else none
    | _=>none
   else match ih (.call f args wm h') with
    | some (.fin (.ret v) h2)=>go (ZlM s h2) v
    | some (.fin (.ZX v) h2)=>some (.panic v,ZlM s h2)
    | _=>none
 | .round l args=>match ih (.round l args wm h') with
   | some (.fin (.ret v) h2)=>go (ZlM s h2) v
   | some (.fin (.ZX v) h2)=>some (.panic v,ZlM s h2)
   | _=>none
 | .dfr d=>match rd with
   | none=>go {s' with ds:=d::s.ds} undef
   | some _=>none
 | .ZlT=>none
 | .panic v=>some (.panic v,s')
def JS(X:Ctx)(YX:V8->Z)(ih:Qn->O YP)(n wm:Nat)(rd:O Nat)(ops:U Oper)(o:Oper)(s:Fs):O (XX×Fs):=
 bif !okG ops o s.fr then none else bif Y0 ops o s.fr then
  match Xm X s.h (Yo s.fr) o with
  | some (nx,E)=>match E.apply wm s.h with
    | some h'=>Kn YX ih n wm rd o.dst s nx h'
    | none=>none
  | none=>none
 else match Zhh n s o.dst undef with
  | some s=>some (.normal,s)
  | none=>none
def ZlC(X:Ctx)(YX:V8->Z)(ih:Qn->O YP)(n wm:Nat)(rd:O Nat)(ops:U Oper):U Oper->Fs->O (XX×Fs)
 | [],s=>some (.normal,s)
 | o::rest,s=>match JS X YX ih n wm rd ops o s with
   | some (.normal,s)=>ZlC X YX ih n wm rd ops rest s
   | some (.panic v,s)=>some (.panic v,s)
   | _=>none
section
variable{P:V7}{F:Fence}{n:Nat}{Q:Exit->Act->V9->Prop}{a:Act}{w:V9}
def Um{b:Frame}{k:U Item}{cs:U Frame}{c:Code}:step P (lone (b.atR a (.code (.scope c)::k)) cs w)=.next (lone (b.atR a (.code c:: .inScope c::k)) cs w):=
 step_lone_go (by simp[stepG,stepG.exec,Frame.atR])
def Zk5{b:Frame}{k:U Item}{cs:U Frame}{c:Code}:step P (lone (b.atR a (.inScope c::k)) cs w)=.next (lone (b.atR a k) cs w):=
 step_lone_go (by simp[stepG,stepG.exec,Frame.atR])
def Zbe{c:Code}(h:c.wpIn F n P (Exit.noGoto Q) a w):(Code.scope c).wpIn F n P Q a w:=by
 intro b k cs hro hb hr;have h0:(lone (b.atR a (.code (.scope c)::k)) cs w).fenced P F:=fenced_calm hb hr rfl;obtain⟨e,a₁,w₁,hq,harr⟩:=h b (.inScope c::k) cs hro hb hr;cases e with
 | normal=>exact⟨.normal,a₁,w₁,hq,.head h0 Um (StepsIn.trans harr (.one (fenced_calm hb hr rfl) Zk5))⟩
 | exit id=>
   have hx:exitTo id (.inScope c::k)=exitTo id k:=by simp[exitTo]
   exact⟨.exit id,a₁,w₁,hq,fun k' hk=>.head h0 Um (harr.1 k' (by rw[hx];exact hk)),
    fun hr' hk=>let⟨k₁,h1,h2⟩:=harr.2 hr' (by rw[hx];exact hk);⟨k₁,h1,.head h0 Um h2⟩⟩
 | goto l=>exact hq.elim
 | ret=>exact⟨_,a₁,w₁,hq,.of_steps (.one h0 Um) harr⟩
 | panic ch=>exact⟨_,a₁,w₁,hq,.of_steps (.one h0 Um) harr⟩
 | outgrown=>exact⟨_,a₁,w₁,hq,.of_steps (.one h0 Um) harr⟩
def LoopIn(F:Fence)(n:Nat)(P:V7)(c:Code)(Q:Exit->Act->V9->Prop)(a:Act)(w:V9):Prop:=
 ∀(b:Frame)(k:U Item)(cs:U Frame),b.roundOf=F.round->F.fn b.fn->F.room (cs.length+1+n) ->
   ∃e a' w',Q e a' w'/\ArrivesIn (Machine.fenced P F) P (lone (b.atR a (.code c:: .inLoop c::k)) cs w) b k cs e a' w'
def ZbX{c:Code}(h:LoopIn F n P c Q a w):(Code.loop c).wpIn F n P Q a w:=by
 intro b k cs hro hb hr;obtain⟨e,a',w',hq,harr⟩:=h b k cs hro hb hr;exact⟨e,a',w',hq,.of_steps (.one (fenced_calm hb hr rfl) stepR_loop) harr⟩
def Xo{c:Code}(h:c.wpIn F n P (Exit.then (fun a' w'=>LoopIn F n P c Q a' w') Q) a w):LoopIn F n P c Q a w:=by
 intro b k cs hro hb hr;obtain⟨e,a₁,w₁,hq,harr⟩:=h b (.inLoop c::k) cs hro hb hr;cases e with
 | normal=>
   obtain⟨e₂,a₂,w₂,hq₂,harr₂⟩:=hq b k cs hro hb hr;exact⟨e₂,a₂,w₂,hq₂,.of_steps (StepsIn.trans harr (.one (fenced_calm hb hr rfl) stepR_inLoop)) harr₂⟩
 | exit id=>exact⟨_,a₁,w₁,hq,.pass (x:=.inLoop c) rfl (fun _ _=>.inl (by simp)) harr⟩
 | goto l=>exact⟨_,a₁,w₁,hq,.pass (x:=.inLoop c) rfl (fun _ _=>.inl (by simp)) harr⟩
 | ret=>exact⟨_,a₁,w₁,hq,.pass (x:=.inLoop c) rfl (fun _ _=>.inl (by simp)) harr⟩
 | panic ch=>exact⟨_,a₁,w₁,hq,.pass (x:=.inLoop c) rfl (fun _ _=>.inl (by simp)) harr⟩
 | outgrown=>exact⟨_,a₁,w₁,hq,.pass (x:=.inLoop c) rfl (fun _ _=>.inl (by simp)) harr⟩
end
inductive DsR(ρ:Ren):List Deferred->List Deferred->Prop
 | nil:DsR ρ [] []
 | cons {d d':Deferred} {ds ds':List Deferred} (h:ZoV ρ d d') (t:DsR ρ ds ds'):DsR ρ (d::ds) (d'::ds')
 | mark {r r':Nat} {ds ds':List Deferred} (h:ρ r=some (r',0)) (t:DsR ρ ds ds'):DsR ρ ({target:=.collected r,args:=#[]}::ds) ({target:=.collected r',args:=#[]}::ds')
def ZoV.mono{ρ ρ':Ren}(hr:ρ.le ρ'){d d':Vc}(h:ZoV ρ d d'):ZoV ρ' d d':=by
 obtain⟨⟨f,c,c',h1,h2,h3⟩,h4⟩:=h;exact⟨⟨f,c,c',h1,h2,h3.mono hr⟩,h4.mono hr⟩
def DsR.mono{ρ ρ':Ren}(hr:ρ.le ρ'){ds ds':U Vc}(h:DsR ρ ds ds'):DsR ρ' ds ds':=by
 induction h with
 | nil=>exact .nil
 | cons h _ ih=>exact .cons (h.mono hr) ih
 | mark h _ ih=>exact .mark (hr _ _ h).1 ih
structure Inv(ρ:Ren)(n:Nat)(s:Fs)(a:Act)(w:World):Prop where
 rel:Rel ρ s.h w
 fr:FrR ρ s.fr n a.tmps
 ds:DsR ρ s.ds a.defers
def chainOf(v:N):U PanicEntry:=[{v,recovered:=false}]
inductive ExR(ρ:Ren):XX->Exit->Prop
 | normal:ExR ρ .normal .normal
 | exit (id:Nat):ExR ρ (.exit id) (.exit id)
 | goto (l:Nat):ExR ρ (.goto l) (.goto l)
 | ret:ExR ρ .ret .ret
 | panic {v v':Value} (h:VR ρ v v'):ExR ρ (.panic v) (.panic (chainOf v'))
inductive PmR(ρ:Ren):PM->FrameMode->Prop
 | ret:PmR ρ .ret .returning
 | ZX {v v':Value} (h:VR ρ v v'):PmR ρ (.ZX v) (.panicking (chainOf v'))
 | rcv {v v':Value} (h:VR ρ v v'):PmR ρ (.rcv v) (.panicking [{v:=v',recovered:=true}])
def PmR.mono{ρ ρ':Ren}(hr:ρ.le ρ'){p:PM}{u:FrameMode}(h:PmR ρ p u):PmR ρ' p u:=by
 cases h with
 | ret=>exact .ret
 | ZX h=>exact .ZX (h.mono hr)
 | rcv h=>exact .rcv (h.mono hr)
inductive ZKn(ρ:Ren):U4->Ending->Prop
 | ret {v v':Value} (h:VR ρ v v'):ZKn ρ (.ret v) (.returned v')
 | ZX {v v':Value} (h:VR ρ v v'):ZKn ρ (.ZX v) (.panicked (chainOf v'))
def Xj(wm n:Nat)(ρ:Ren)(h:H)(w:V9)(e:XX)(s:Fs):Exit->Act->V9->Prop:=fun e' a' w'=>
 ∃ρ',ExR ρ' e e'/\Inv ρ' n s a' w'/\Stp wm ρ h w ρ' s.h w'
def UX(wm:Nat)(ρ:Ren)(h:H)(w:V9)(e:U4)(h':H):Ending->V9->Prop:=fun e' w'=>
 ∃ρ',ZKn ρ' e e'/\Rel ρ' h' w'/\Stp wm ρ h w ρ' h' w'
def KO(ρ:Ren)(rd:O Nat)(F:Fence):Prop:=
 match rd with
 | none=>F=base
 | some l=>∃l',ρ l=some (l',0)/\F=base.inRound l'
def Yq(X:Ctx):Qn->YP->Prop
 | .code c n wm rd s,.code e s'=>∀ρ a w F,wm<=s.h.size->Inv ρ n s a w->KO ρ rd F->c.wpIn F 0 X.P (Xj wm n ρ s.h w e s') a w
 | .loop c n wm rd s,.code e s'=>∀ρ a w F,wm<=s.h.size->Inv ρ n s a w->KO ρ rd F->LoopIn F 0 X.P c (Xj wm n ρ s.h w e s') a w
 | .call f args wm h,.fin e h'=>∀ρ args' w,wm<=h.size->Rel ρ h w->Jy ρ args args'->CallsIn base 0 X.P f args' w (UX wm ρ h w e h')
 | .round l args wm h,.fin e h'=>∀ρ l' k args' w,wm<=h.size->Rel ρ h w->Jy ρ args args'->ρ l=some (l',0)->w.heap[l']? =some (.loop k) ->
     RoundIn base 0 X.P l' k.fn ((k.params.zip args').foldl (fun tmps (t,a)=>tmps.setIfInBounds t a) k.tmps) k.assign k.body w (UX wm ρ h w e h')
 | .dcall f args pm wm h,.ZdQ Ku h'=>∀ρ args' u w,wm<=h.size->Rel ρ h w->Jy ρ args args'->PmR ρ pm u ->
     CallsDIn base 0 X.P f args' u w (fun e u' w'=>∃v,e=.returned v/\∃ρ',PmR ρ' Ku u'/\Rel ρ' h' w'/\Stp wm ρ h w ρ' h' w')
 | .Xx c n wm pm s,.Xx e Ku s'=>∀ρ a c0 cs w,wm<=s.h.size->Inv ρ n s a w->PmR ρ pm c0.mode ->
     c.wpSIn base 0 X.P (fun e' a' cs' w'=>∃ρ' u',cs'= {c0 with mode:=u'}::cs/\PmR ρ' Ku u'/\ExR ρ' e e'/\Inv ρ' n s' a' w'/\Stp wm ρ s.h w ρ' s'.h w') a (c0::cs) w
 | .leave fn wm pm s,.fin e h'=>∀ρ n a u w (R:Ending->V9->Prop),wm<=s.h.size->Inv ρ n s a w->PmR ρ pm u->(∀e' w',UX wm ρ s.h w e h' e' w'->R e' w')->LeavesInM base 0 X.P fn a.tmps R a.defers u w
 | _,_=>False
def Wv{ρ:Ren}{n:Nat}{fr:Fr}{a:Act}(hf:FrR ρ fr n a.tmps):EvR ρ (Yo fr) a.eval:=by
 intro x v hx;cases x with
 | tmp t=>
   simp only[Yo]at hx;cases hany:Xt (fr.at t)<;>rw[hany]at hx<;>simp only[Cq1,Cq0]at hx
   ·cases hx;exact hf.val t hany
   ·cases hx
 | const u=>
   simp only[Yo]at hx;cases hp:plain u<;>rw[hp]at hx<;>simp at hx
   subst hx;exact VR.ZC hp
 | func f=>
   simp only[Yo,J1]at hx;subst hx;exact .func (.func f) #[] #[] #[] #[] (fun l e=>by cases e) rfl rfl (fun i v v' e=>by simp at e) (fun i v v' e=>by simp at e)
 | global g=>cases hx
def Zoz{ρ:Ren}{n:Nat}{fr:Fr}{a:Act}(hf:FrR ρ fr n a.tmps)(ops:Va Oper)(j:Nat)(hok:∀o d,ops.toList[j]? =some o->o.dst=some d->Xt (fr.at d)=false):yielded ops a.tmps j=Wp ops.toList fr j:=by
 unfold yielded Wp;rw[<-G8];cases ho:ops.toList[j]? with
 | none=>rfl
 | some o=>
   cases hd:o.dst with
   | none=>simp[hd]
   | some d=>
     have:=hf.val d (hok o d ho hd);simp only[Bq0,hd];cases ht:a.tmps[d]? with
     | none=>
       rw[Q4,ht]at this;simp only[Option.getD_none]at this;generalize fr.at d=x at this;unfold undef at this;cases this
       rfl
     | some y=>
       rw[Q4,ht]at this;simp only[Option.getD_some]at this;generalize fr.at d=x at this;cases this<;>rfl
def Zd9{ρ:Ren}{n:Nat}{fr:Fr}{a:Act}(hf:FrR ρ fr n a.tmps)(ops:Va Oper)(o:Oper)(hok:okG ops.toList o fr=true):Region.wanted o (yielded ops a.tmps)=Y0 ops.toList o fr:=by
 unfold Region.wanted Y0;cases hg:o.guard with
 | none=>rfl
 | some p=>
   obtain⟨j,want⟩:=p
   have hy:=Zoz hf ops j (fun o' d ho hd=>by
    unfold okG at hok;rw[hg]at hok;simp only[ho,hd,Ba0]at hok
    simpa using hok.1)
   simp only[hy];cases Wp ops.toList fr j with
   | none=>rfl
   | some b=>cases want<;>cases b<;>rfl
def Q7{ρ:Ren}{n:Nat}{s s':Fs}{a:Act}{w:V9}{dst:O Tmp}{v v':N}(hi:Inv ρ n s a w)(hv:VR ρ v v')(hp:Zhh n s dst v=some s'):
 Inv ρ n s' (a.put dst v') w/\s'.h=s.h:=by
 rw[ZiA]at hp;split at hp
 ·cases hp;exact⟨hi,rfl⟩
 ·rename_i d;cases hd:(Nat.blt d n&&allowed s.wr d)<;>rw[hd]at hp<;>simp only[Cq1,Cq0]at hp
  ·cases hp
  cases hp;rw[Ba0,G6]at hd;have hd:=hd.1;exact⟨⟨hi.rel,hi.fr.set hd hv,hi.ds⟩,rfl⟩
def Inv.step{wm n:Nat}{ρ ρ':Ren}{s:Fs}{h':H}{a:Act}{w w':V9}(hi:Inv ρ n s a w)(r:Rel ρ' h' w')(st:Stp wm ρ s.h w ρ' h' w'):Inv ρ' n {s with h:=h'} a w':=
 ⟨r,hi.fr.mono st.ext,hi.ds.mono st.ext⟩
def Rel.lt{ρ:Ren}{h:H}{w:V9}(r:Rel ρ h w):∀i p,ρ i=some p->i<h.size:=fun i p e=>(r.dom i p.1 p.2 e).1
end Go.ZF
end
end
