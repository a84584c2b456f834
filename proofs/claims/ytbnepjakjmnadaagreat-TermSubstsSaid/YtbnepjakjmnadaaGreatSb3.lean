/- Part 3. -/
import Derived.Scope
import Derived.Test.YtbnepjakjmnadaaGreatSb2
set_option linter.all false
set_option maxHeartbeats 2000000
section
noncomputable section
namespace Go.ZU
inductive XX where
 | normal
 | exit (id:Nat)
 | goto (l:Nat)
 | ret
 | panic (v:Value)
inductive WJ where
 | ret (v:Value)
 | Ym (v:Value)
def bit(m n:Nat):Z:=Nat.beq (Nat.mod (Nat.div m (Nat.pow 2 n)) 2) 1
def Zma(m n:Nat):bit m n=m.testBit n:=by unfold bit;rw[Nat.testBit_eq_decide_div_mod_eq,ZaJ];rfl
def allowed(wr:O Nat)(t:Nat):Z:=
 match wr with|none=>true|some m=>bit m t
structure Fs where
 fr:Fr
 ds:List Deferred
 h:H
 wr:Option Nat:=none
inductive PM where
 | ret
 | Ym (v:Value)
 | rcv (v:Value)
inductive WI where
 | code (c:Code) (n:Nat) (V:Nat) (rd:Option Nat) (s:Fs)
 | loop (c:Code) (n:Nat) (V:Nat) (rd:Option Nat) (s:Fs)
 | call (f:FuncId) (args:Array Value) (V:Nat) (h:H)
 | round (l:Nat) (args:Array Value) (V:Nat) (h:H)
 | dcall (f:FuncId) (args:Array Value) (pm:PM) (V:Nat) (h:H)
 | QL (c:Code) (n:Nat) (V:Nat) (pm:PM) (s:Fs)
 | leave (fn:Func) (V:Nat) (pm:PM) (s:Fs)
inductive QJ where
 | code (e:XX) (s:Fs)
 | fin (e:WJ) (h:H)
 | Zg9 (pm:PM) (h:H)
 | QL (e:XX) (pm:PM) (s:Fs)
def YI(fr:Fr):V0->O N
 | .tmp t=>bif X4 (fr.at t) then none else some (fr.at t)
 | .const v=>bif plain v then some v else none
 | .func f=>some (.func (.func f) #[] #[])
 | .global _=>none
def ZsX(n:Nat)(s:Fs)(l:O Tmp)(v:N):O Fs:=
 match l with|none=>some s|some d=>Fs.casesOn (motive:=fun _=>O Fs) s fun fr ds h wr=>bif Nat.blt d n&&allowed wr d then some ⟨Tr.set fr d v,ds,h,wr⟩ else none
def ZxB(n:Nat)(s:Fs)(h:O Tmp)(v:N):ZsX n s h v=match h with|none=>some s|some d=>bif Nat.blt d n&&allowed s.wr d then some {s with fr:=Tr.set s.fr d v} else none:=rfl
def Znb(s:Fs)(h:H):Fs:=Fs.casesOn (motive:=fun _=>Fs) s fun fr ds _ wr=>⟨fr,ds,h,wr⟩
def Wd(s:Fs)(h:H):Znb s h= {s with h:=h}:=rfl
def Kb(ops:U Oper)(fr:Fr)(j:Nat):O Z:=
 match ops[j]? with
 | some o=>match o.dst with
   | some d=>match fr.at d with|.bool b=>some b|_=>none
   | none=>none
 | none=>none
def XJ(ops:U Oper)(o:Oper)(fr:Fr):Z:=
 match o.guard with
 | none=>true
 | some (j,want)=>match Kb ops fr j with|some b=>b==want|none=>false
def Zf6(v:N):Z:=match v with|.func (.func f) _ _=>Nat.blt f nfs|.tuple _=>true|_=>false
def Zkk(h:Op)(fr:Fr):Z:=match h with
 | .call c=>match c.callee with
   | .value x=>match x with|.func f=>Nat.blt f nfs|.tmp t=>Zf6 (fr.at t)|_=>false
   | .builtin _=>true
   | .invoke _ _=>false
 | _=>true
def okG(ops:U Oper)(o:Oper)(fr:Fr):Z:=
 match o.guard with
 | none=>true
 | some (j,_)=>(match ops[j]? with
   | some o=>match o.dst with|some d=>!X4 (fr.at d)|none=>true
   | none=>true)&&(XJ ops o fr||Zkk o.op fr)
def Zcs(r:V3->Z)(ih:WI->O QJ)(n V:Nat)(rd:O Nat)(p:O Tmp)(s:Fs)(q:AN)(h:H):O (XX×Fs):=
 let s':Fs:=Znb s h
 let go (s:Fs) (v:N):O (XX×Fs):=match ZsX n s p v with|some s=>some (.normal,s)|none=>none
 match q with
 | .val v=>go s' v
 | .skip=>go s' undef
 | .enter f args=>
   bif r f then
    match ih (.call f args h.size h) with|some (.fin (.ret v) _)=>bif plain v then go s' v else none|_=>none
   else match ih (.call f args V h) with|some (.fin (.ret v) h2)=>go (Znb s h2) v|some (.fin (.Ym v) h2)=>some (.panic v,Znb s h2)|_=>none
 | .round l args=>match ih (.round l args V h) with|some (.fin (.ret v) h2)=>go (Znb s h2) v|some (.fin (.Ym v) h2)=>some (.panic v,Znb s h2)|_=>none
 | .dfr d=>match rd with
   | none=>go {s' with ds:=d::s.ds} undef
   | some _=>none
 | .ZqU=>none
 | .panic v=>some (.panic v,s')
def KE(X:Ctx)(p:V3->Z)(ih:WI->O QJ)(n V:Nat)(rd:O Nat)(ops:U Oper)(o:Oper)(s:Fs):O (XX×Fs):=
 bif !okG ops o s.fr then none else bif XJ ops o s.fr then
  match XM X s.h (YI s.fr) o with
  | some (nx,E)=>match E.apply V s.h with|some l=>Zcs p ih n V rd o.dst s nx l|none=>none
  | none=>none
 else match ZsX n s o.dst undef with|some s=>some (.normal,s)|none=>none
section
variable{P:V2}{F:Fence}{n:Nat}{Q:Exit->Act->V4->Prop}{a:Act}{w:V4}
def LoopIn(F:Fence)(n:Nat)(P:V2)(c:Code)(Q:Exit->Act->V4->Prop)(a:Act)(w:V4):Prop:=
 ∀(b:Frame)(k:U Item)(cs:U Frame),b.roundOf=F.round->F.fn b.fn->F.room (cs.length+1+n) ->
   ∃e h w',Q e h w'/\ArrivesIn (Machine.fenced P F) P (lone (b.atR a (.code c:: .inLoop c::k)) cs w) b k cs e h w'
def Zj9{c:Code}(h:LoopIn F n P c Q a w):(Code.loop c).wpIn F n P Q a w:=by intro b k cs l q p;have⟨e,a',w',hq,harr⟩:=h b k cs l q p;exact⟨e,a',w',hq,.of_steps (.one (fenced_calm q p rfl) stepR_loop) harr⟩
def UY{c:Code}(h:c.wpIn F n P (Exit.then (fun t w'=>LoopIn F n P c Q t w') Q) a w):LoopIn F n P c Q a w:=by
 intro b k cs p r q;have⟨e,a₁,w₁,hq,harr⟩:=h b (.inLoop c::k) cs p r q;cases e with
 | normal=>
   have⟨e₂,a₂,w₂,hq₂,harr₂⟩:=hq b k cs p r q;exact⟨e₂,a₂,w₂,hq₂,.of_steps (StepsIn.trans harr (.one (fenced_calm r q rfl) stepR_inLoop)) harr₂⟩
 | exit id=>exact⟨_,a₁,w₁,hq,.pass (x:=.inLoop c) rfl (fun _ _=>.inl (by simp)) harr⟩
 | goto l=>exact⟨_,a₁,w₁,hq,.pass (x:=.inLoop c) rfl (fun _ _=>.inl (by simp)) harr⟩
 | ret=>exact⟨_,a₁,w₁,hq,.pass (x:=.inLoop c) rfl (fun _ _=>.inl (by simp)) harr⟩
 | panic y=>exact⟨_,a₁,w₁,hq,.pass (x:=.inLoop c) rfl (fun _ _=>.inl (by simp)) harr⟩
 | outgrown=>exact⟨_,a₁,w₁,hq,.pass (x:=.inLoop c) rfl (fun _ _=>.inl (by simp)) harr⟩
end
inductive DsR(ρ:Ren):List Deferred->List Deferred->Prop
 | nil:DsR ρ [] []
 | cons {d d':Deferred} {ds ds':List Deferred} (h:Zqi ρ d d') (t:DsR ρ ds ds'):DsR ρ (d::ds) (d'::ds')
 | mark {r r':Nat} {ds ds':List Deferred} (h:ρ r=some (r',0)) (t:DsR ρ ds ds'):DsR ρ ({target:=.collected r,args:=#[]}::ds) ({target:=.collected r',args:=#[]}::ds')
def Zqi.mono{ρ l:Ren}(p:ρ.le l){d d':V7}(h:Zqi ρ d d'):Zqi l d d':=by have⟨⟨f,c,c',h1,h2,h3⟩,h4⟩:=h;exact⟨⟨f,c,c',h1,h2,h3.mono p⟩,h4.mono p⟩
def DsR.mono{ρ l:Ren}(p:ρ.le l){ds ds':U V7}(h:DsR ρ ds ds'):DsR l ds ds':=by induction h with|nil=>exact .nil|cons h _ ih=>exact .cons (h.mono p) ih|mark h _ ih=>exact .mark (p _ _ h).1 ih
structure Inv(ρ:Ren)(n:Nat)(s:Fs)(a:Act)(w:World):Prop where
 rel:Rel ρ s.h w
 fr:FrR ρ s.fr n a.tmps
 ds:DsR ρ s.ds a.defers
def chainOf(v:N):U PanicEntry:=[{v,recovered:=false}]
inductive ExR(ρ:Ren):XX->Exit->Prop
 | normal:ExR ρ .normal .normal
 | exit (id:Nat):ExR ρ (.exit id) (.exit id)
 | goto (l:Nat):ExR ρ (.goto l) (.goto l)
 | ret:ExR ρ .ret .ret
 | panic {v v':Value} (h:VR ρ v v'):ExR ρ (.panic v) (.panic (chainOf v'))
inductive PmR(ρ:Ren):PM->FrameMode->Prop
 | ret:PmR ρ .ret .returning
 | Ym {v v':Value} (h:VR ρ v v'):PmR ρ (.Ym v) (.panicking (chainOf v'))
 | rcv {v v':Value} (h:VR ρ v v'):PmR ρ (.rcv v) (.panicking [{v:=v',recovered:=true}])
def PmR.mono{ρ l:Ren}(q:ρ.le l){p:PM}{u:FrameMode}(h:PmR ρ p u):PmR l p u:=by cases h with|ret=>exact .ret|Ym h=>exact .Ym (h.mono q)|rcv h=>exact .rcv (h.mono q)
inductive ZPR(ρ:Ren):WJ->Ending->Prop
 | ret {v v':Value} (h:VR ρ v v'):ZPR ρ (.ret v) (.returned v')
 | Ym {v v':Value} (h:VR ρ v v'):ZPR ρ (.Ym v) (.panicked (chainOf v'))
def Qz(V n:Nat)(ρ:Ren)(h:H)(w:V4)(e:XX)(s:Fs):Exit->Act->V4->Prop:=fun p q w'=>
 ∃l,ExR l e p/\Inv l n s q w'/\Stp V ρ h w l s.h w'
def ZaN(V:Nat)(ρ:Ren)(h:H)(w:V4)(e:WJ)(p:H):Ending->V4->Prop:=fun q w'=>
 ∃l,ZPR l e q/\Rel l p w'/\Stp V ρ h w l p w'
def FR'(ρ:Ren)(rd:O Nat)(F:Fence):Prop:=
 match rd with|none=>F=base|some l=>∃h,ρ l=some (h,0)/\F=base.inRound h
def Y7(X:Ctx):WI->QJ->Prop
 | .code c n V rd s,.code e s'=>∀ρ a w F,V<=s.h.size->Inv ρ n s a w->FR' ρ rd F->c.wpIn F 0 X.P (Qz V n ρ s.h w e s') a w
 | .loop c n V rd s,.code e s'=>∀ρ a w F,V<=s.h.size->Inv ρ n s a w->FR' ρ rd F->LoopIn F 0 X.P c (Qz V n ρ s.h w e s') a w
 | .call f args V h,.fin e h'=>∀ρ p w,V<=h.size->Rel ρ h w->Ub ρ args p->CallsIn base 0 X.P f p w (ZaN V ρ h w e h')
 | .round l args V h,.fin e h'=>∀ρ A k p w,V<=h.size->Rel ρ h w->Ub ρ args p->ρ l=some (A,0)->w.heap[A]? =some (.loop k) ->
     RoundIn base 0 X.P A k.fn ((k.params.zip p).foldl (fun r (t,a)=>r.setIfInBounds t a) k.tmps) k.assign k.body w (ZaN V ρ h w e h')
 | .dcall f args pm V h,.Zg9 pm' h'=>∀ρ p u w,V<=h.size->Rel ρ h w->Ub ρ args p->PmR ρ pm u ->
     CallsDIn base 0 X.P f p u w (fun e x w'=>∃v,e=.returned v/\∃q,PmR q pm' x/\Rel q h' w'/\Stp V ρ h w q h' w')
 | .QL c n V pm s,.QL e pm' s'=>∀ρ a c0 cs w,V<=s.h.size->Inv ρ n s a w->PmR ρ pm c0.mode ->
     c.wpSIn base 0 X.P (fun y B cs' w'=>∃q x,cs'= {c0 with mode:=x}::cs/\PmR q pm' x/\ExR q e y/\Inv q n s' B w'/\Stp V ρ s.h w q s'.h w') a (c0::cs) w
 | .leave fn V pm s,.fin e h'=>∀ρ n a u w (R:Ending->V4->Prop),V<=s.h.size->Inv ρ n s a w->PmR ρ pm u->(∀y w',ZaN V ρ s.h w e h' y w'->R y w')->LeavesInM base 0 X.P fn a.tmps R a.defers u w
 | _,_=>False
def Zap{ρ:Ren}{n:Nat}{fr:Fr}{a:Act}(r:FrR ρ fr n a.tmps):EvR ρ (YI fr) a.eval:=by
 intro x v h;cases x with
 | tmp t=>
   simp only[YI]at h;cases p:X4 (fr.at t)<;>rw[p]at h<;>simp only[Cq1,Cq0]at h;.cases h;exact r.val t p
   cases h
 | const u=>
   simp only[YI]at h;cases q:plain u<;>rw[q]at h<;>simp at h;subst h;exact VR.ZY q
 | func f=>
   simp only[YI,Gj]at h;subst h;exact .func (.func f) #[] #[] #[] #[] (fun l e=>by cases e) rfl rfl (fun i v v' e=>by simp at e) (fun i v v' e=>by simp at e)
 | global g=>cases h
def Zp3{ρ:Ren}{n:Nat}{fr:Fr}{a:Act}(r:FrR ρ fr n a.tmps)(ops:V5 Oper)(j:Nat)(h:∀o d,ops.toList[j]? =some o->o.dst=some d->X4 (fr.at d)=false):yielded ops a.tmps j=Kb ops.toList fr j:=by
 unfold yielded Kb;rw[<-Gi];cases q:ops.toList[j]? with|none=>rfl|some o=>
   cases l:o.dst with|none=>simp[l]|some d=>
     have:=r.val d (h o d q l);simp only[Bq0,l];cases p:a.tmps[d]? with
     | none=>
       rw[QP,p]at this;simp only[Option.getD_none]at this;generalize fr.at d=x at this;unfold undef at this;cases this;rfl
     | some y=>
       rw[QP,p]at this;simp only[Option.getD_some]at this;generalize fr.at d=x at this;cases this<;>rfl
def Zfb{ρ:Ren}{n:Nat}{fr:Fr}{a:Act}(t:FrR ρ fr n a.tmps)(ops:V5 Oper)(o:Oper)(h:okG ops.toList o fr=true):Region.wanted o (yielded ops a.tmps)=XJ ops.toList o fr:=by
 unfold Region.wanted XJ;cases r:o.guard with|none=>rfl|some p=>
   have⟨j,want⟩:=p
   have l:=Zp3 t ops j (fun y d q x=>by
    unfold okG at h;rw[r]at h;simp only[q,x,Ba0]at h;simpa using h.1)
   simp only[l];cases Kb ops.toList fr j with|none=>rfl|some b=>cases want<;>cases b<;>rfl
def Jw{ρ:Ren}{n:Nat}{s t:Fs}{a:Act}{w:V4}{q:O Tmp}{v v':N}(r:Inv ρ n s a w)(hv:VR ρ v v')(l:ZsX n s q v=some t):
 Inv ρ n t (a.put q v') w/\t.h=s.h:=by
 rw[ZxB]at l;split at l;.cases l;exact⟨r,rfl⟩
 rename_i d;cases p:(Nat.blt d n&&allowed s.wr d)<;>rw[p]at l<;>simp only[Cq1,Cq0]at l;.cases l
 cases l;rw[Ba0,Gd]at p;have p:=p.1;exact⟨⟨r.rel,r.fr.set p hv,r.ds⟩,rfl⟩
def Inv.step{V n:Nat}{ρ l:Ren}{s:Fs}{p:H}{a:Act}{w w':V4}(t:Inv ρ n s a w)(r:Rel l p w')(q:Stp V ρ s.h w l p w'):Inv l n {s with h:=p} a w':=
 ⟨r,t.fr.mono q.ext,t.ds.mono q.ext⟩
def Rel.lt{ρ:Ren}{h:H}{w:V4}(r:Rel ρ h w):∀i p,ρ i=some p->i<h.size:=fun i p e=>(r.dom i p.1 p.2 e).1
end Go.ZU
end
end
